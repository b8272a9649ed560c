import Derived.Test.YtmohijpkhmeibaaNewA
import Derived.Test.YtmohijpkhmeibaaBad
namespace Go.Proofs.Ytmohijpkhmeibaa
open Go.RowKit Go.Proofs Go.Proofs.YtmohijpkhmeibaaW.PrintWords
open PBlocksRound
set_option linter.unusedVariables false
set_option linter.unusedSimpArgs false
set_option maxRecDepth 100000
attribute [local go_sem high] PBlocksRound.eqA34

structure RS (w : World) (l : List S34) (P cursor last : Int) (p mb k : Nat) (v : Value) (D : DataW Unit) (opn : Int) (bx : Nat) (x : S34) (W : World) : Prop where
  n : NSt w l P cursor last p mb k v D opn W
  b : W.heap[bx]? = some (.cells #[.int .i64 x.f0, .int .u64 x.f1, .bool x.f2, .int .i64 x.f3] 34 (0, 0))
  g : w.heap.size ≤ bx
section
variable {w : World} {l : List S34} {P cursor last : Int} {p mb k : Nat} {v : Value} {D : DataW Unit} {opn : Int} {bx : Nat} {x : S34} {W W' : World}
theorem RS.of_below (h : RS w l P cursor last p mb k v D opn bx x W) (hb : Below W.heap.size W W') : RS w l P cursor last p mb k v D opn bx x W' :=
  ⟨h.n.of_below hb, (hb.block _ (lt_of_heap h.b)).trans h.b, h.g⟩
theorem RS.ne (h : RS w l P cursor last p mb k v D opn bx x W) : bx ≠ p := by
  rintro rfl
  have := h.b
  rw [h.n.head] at this
  injection this with this
  injection this with _ this
  cases this
theorem RS.neb (h : RS w l P cursor last p mb k v D opn bx x W) : bx ≠ mb := by
  rintro rfl
  obtain ⟨es, clock, hm, _⟩ := h.n.map
  have := h.b
  rw [hm] at this
  injection this with this
  cases this
theorem RS.cell (h : RS w l P cursor last p mb k v D opn bx x W) : W.cell? ⟨bx, 0, none⟩ = some (.int .i64 x.f0) ∧ W.cell? ⟨bx, 1, none⟩ = some (.int .u64 x.f1) ∧ W.cell? ⟨bx, 2, none⟩ = some (.bool x.f2) ∧ W.cell? ⟨bx, 3, none⟩ = some (.int .i64 x.f3) :=
  ⟨cell_of h.b rfl, cell_of h.b rfl, cell_of h.b rfl, cell_of h.b rfl⟩
theorem RS.setOpn (h : RS w l P cursor last p mb k v D opn bx x W) (y : Int) : RS w l P cursor last p mb k v D y bx x (W.setCell ⟨p, 5, none⟩ (.int .i64 y)) :=
  ⟨h.n.setOpn y, (heap_set_ne _ h.ne).trans h.b, h.g⟩
theorem NewEnd.none (hb : Below w.heap.size w W) (h : newFrom P last [] (-1) l = none) : NewEnd w l P cursor last (.returned (.tuple #[.pointer .none, .int .i64 110])) W := by
  refine ⟨hb, ?_⟩
  rw [h]
theorem newFrom_cons (P last : Int) (pre : List S34) (opn : Int) (x : S34) (r : List S34) : newFrom P last pre opn (x :: r) = if entryOk P last pre opn x then newFrom P last (pre ++ [x]) (if x.f0 = 2 then (pre.length : Int) else opn) r else none := rfl
end

structure Mid (w : World) (l : List S34) (P cursor last : Int) (p mb k : Nat) (v : Value) (D : DataW Unit) (opn : Int) (bx : Nat) (x : S34) (W : World) : Prop where
  head : W.heap[p]? = some (.cells #[.int .i64 P, v, .int .i64 cursor, .int .i64 last, .int .i64 (-1), .int .i64 opn] 69 (0, 0))
  row : Kd.R k71 71 W w.heap.size (fun _ => True) v ((l.take k).map blkOf)
  map : W.ownsMap Try.prog 32 (plainElem Try.prog 3) mb (k + 1) D
  heads : Heads D (l.take (k + 1))
  below : Below w.heap.size w W
  pb : w.heap.size ≤ p
  mbb : w.heap.size ≤ mb
  b : W.heap[bx]? = some (.cells #[.int .i64 x.f0, .int .u64 x.f1, .bool x.f2, .int .i64 x.f3] 34 (0, 0))
theorem Mid.sep {w : World} {l : List S34} {P cursor last : Int} {p mb k : Nat} {v : Value} {D : DataW Unit} {opn : Int} {bx : Nat} {x : S34} {W : World} (h : Mid w l P cursor last p mb k v D opn bx x W) : p ≠ mb ∧ some p ≠ v.ownBlock ∧ some mb ≠ v.ownBlock := by
  refine ⟨?_, Kd.R_ne h.row h.head (by decide), ?_⟩
  · rintro rfl
    obtain ⟨es, clock, hm, _⟩ := h.map
    have := h.head
    rw [hm] at this
    injection this with this
    cases this
  · intro e
    obtain ⟨es, clock, hm, _⟩ := h.map
    obtain ⟨inner, ho⟩ := Kd.R_own h.row
    obtain ⟨cells, hc⟩ := own_typed ho mb e.symm
    rw [hm] at hc
    injection hc with hc
    cases hc
theorem Mid.next {w : World} {l : List S34} {P cursor last : Int} {p mb k : Nat} {v : Value} {D : DataW Unit} {opn : Int} {bx : Nat} {x : S34} {W w5 : World} {A1 : Option Addr} {n1 k1 : Nat} (h : Mid w l P cursor last p mb k v D opn bx x W) (hx : l[k]? = some x)
    (hr : Kd.R k71 71 w5 w.heap.size (fun _ => True) (.slice A1 n1 k1) ((l.take k).map blkOf ++ [blkOf x])) (hg : W.drew.grownBy w5 v.ownBlock) (hb : Below w.heap.size w w5) :
    NSt w l P cursor last p mb (k + 1) (.slice A1 n1 k1) D opn (w5.setCell ⟨p, 1, none⟩ (.slice A1 n1 k1)) := by
  obtain ⟨s1, s2, s3⟩ := h.sep
  have hh : w5.heap[p]? = some (.cells #[.int .i64 P, v, .int .i64 cursor, .int .i64 last, .int .i64 (-1), .int .i64 opn] 69 (0, 0)) := (hg.block p (lt_of_heap h.head) s2).trans h.head
  have hm : w5.ownsMap Try.prog 32 (plainElem Try.prog 3) mb (k + 1) D := World.ownsMap.kept (w := W.drew) h.map hg s3
  refine ⟨heap_set_same hh _, ?_, World.ownsMap.setCell hm (Ne.symm s1) _, h.heads, hb.setCell (p := ⟨p, 1, none⟩) h.pb _, h.pb, h.mbb⟩
  rw [take_snoc hx, List.map_append]
  exact Kd.R_mono (Kd.R_far (Kd.R_types hr hh (by decide)) (fun k hk => hk.2) _) (fun _ _ => trivial)
theorem wf_of_sound {P last : Int} {k : Nat} {x : S34} (h : badPlace P last k x = false) (h0 : 0 ≤ x.f1) : (Lit.int .u64 x.f1).wf = true := by
  have hs : soundB P x = true := by
    unfold badPlace at h
    cases hs : soundB P x
    · rw [hs] at h; simp at h
    · rfl
  have hle : x.f1 ≤ 281474976710655 := by
    unfold soundB at hs
    split at hs
    · simp only [Bool.and_eq_true, beq_iff_eq] at hs; omega
    · split at hs
      · cases hs
      · rename_i hn
        omega
  simp only [Lit.wf]
  simp [IntKind.min, IntKind.max, IntKind.signed, IntKind.bits]
  omega
theorem wf_i64_of {k : Int} (h0 : 0 ≤ k) (h1 : k ≤ 9223372036854775807) : (Lit.int .i64 k).wf = true := by
  simp only [Lit.wf]
  simp [IntKind.min, IntKind.max, IntKind.signed, IntKind.bits]
  omega
theorem zero3 (w : World) : (zeroValue 3).run Try.prog w = .ok (.int .i64 0) w := by kernel_rfl
theorem law32 : Maps.Keyed Try.prog 32 := Maps.int_keyed Try.underlying32

set_option maxHeartbeats 4000000 in
theorem new_walk (B P S : Int) (A : Option Addr) (l : List S34) (c : Nat) (cursor last : Int) (w : World) (hf : fitsB B P S = true) (hp : placeB B l.length cursor last = true) (hl : Kd.C k34 w A l.length l) (hwf : ∀ x, x ∈ l → 0 ≤ x.f1) :
    Calls Try.prog 26 #[.agg #[.int .i64 B, .int .i64 P, .int .i64 S], .slice A l.length c, .int .i64 cursor, .int .i64 last] w (NewEnd w l P cursor last) := by
  have V := Lib.hid (fun w => fits_calls B P S w)
  have HV := Lib.hid hf
  unfold placeB at hp
  simp only [Bool.not_eq_true', Bool.or_eq_false_iff] at hp
  obtain ⟨⟨⟨⟨h0, h1⟩, h2⟩, h3⟩, h4⟩ := hp
  have hpos : 8 ≤ B ∧ B ≤ 4096 ∧ 4 ≤ P ∧ P ≤ 256 := by
    have := hf
    unfold fitsB at this
    have := of_decide_eq_true this
    omega
  have hlen : (l.length : Int) = B := by simpa using h0
  obtain ⟨g, o, rfl, rows⟩ := kd_rows hl (by omega)
  have HR := Lib.hid rows
  have HWF := Lib.hid hwf
  have HP := Lib.hid hpos
  have HLEN := Lib.hid hlen
  clear hf hl rows hwf hpos
  have hmm := @run_makeMap Try.prog
  go_enter Try.func26, Try.ntmps26
  go_wp2_with (go_at_call 46; fail)
  refine (V.out _).mono ?_
  rw [HV.out]
  rintro e w1 ⟨rfl, hb⟩
  have kb : Below w.heap.size w w1 := ((Below.refl _ _).alloc (Nat.le_refl _) _).trans (hb.mono (by rw [World.size_alloc]; omega))
  have kh := (hb.block w.heap.size (by rw [World.size_alloc]; omega)).trans (heap_alloc_new w _)
  have z0 := cell_of (o := 0) kh rfl
  have z1 := cell_of (o := 1) kh rfl
  have z2 := cell_of (o := 2) kh rfl
  have KB := Lib.hid kb
  clear kb kh hb
  go_wp2
  clear z0 z1 z2
  have hN : NSt w l P cursor last w1.heap.size (w1.heap.size + 1) 0 (.slice none 0 0) (.map []) (-1) ((w1.alloc (.cells #[.int .i64 P, .slice none 0 0, .int .i64 cursor, .int .i64 last, .int .i64 (-1), .int .i64 (-1)] 69)).alloc (.map #[] 0)) := by
    refine ⟨?_, Kd.R_nil _ _ _ _ _, ?_, Heads.nil, ((KB.out.alloc KB.out.size _).alloc (by rw [World.size_alloc]; have := KB.out.size; omega) _), KB.out.size, by have := KB.out.size; omega⟩
    · rw [Below.heap_alloc _ _ _ (by rw [World.size_alloc]; omega)]
      exact heap_alloc_new _ _
    · have := World.ownsMap_made (w1.alloc (.cells #[.int .i64 P, .slice none 0 0, .int .i64 cursor, .int .i64 last, .int .i64 (-1), .int .i64 (-1)] 69)) Try.prog 32 (plainElem (H := Unit) Try.prog 3)
      rw [World.size_alloc] at this
      exact this
  have HN := Lib.hid hN
  clear hN
  revert HN
  generalize ((w1.alloc (.cells #[.int .i64 P, .slice none 0 0, .int .i64 cursor, .int .i64 last, .int .i64 (-1), .int .i64 (-1)] 69)).alloc (.map #[] 0)) = W0
  generalize w1.heap.size + 1 = mb
  generalize w1.heap.size = p
  intro HN
  clear KB
  go_loopg [54] l.length (fun gk s wx => ∃ k : Nat, s = .int .i64 k ∧ k + gk = l.length ∧ NRel w l P cursor last p mb k wx)
  case atStart => exact ⟨0, rfl, by omega, _, _, _, HN.out, by simp⟩
  case round =>
    obtain ⟨k, rfl, hk, v, D, opn, hN, hnew⟩ := hrel
    have HK := Lib.hid hk
    have HN1 := Lib.hid hN
    have HNEW := Lib.hid hnew
    clear HN hk hN hnew
    by_cases hlt : k < l.length
    · have hki : (k : Int) < B := by rw [← HLEN.out]; omega
      have hki' : decide ((k : Int) < B) = true := decide_eq_true hki
      obtain ⟨x, hx⟩ : ∃ x, l[k]? = some x := ⟨_, List.getElem?_eq_getElem hlt⟩
      obtain ⟨r0, r1, r2, r3⟩ := HR.out k x hx
      have c0 := (HN1.out.below.cell (lt_of_cell r0)).trans r0
      have c1 := (HN1.out.below.cell (lt_of_cell r1)).trans r1
      have c2 := (HN1.out.below.cell (lt_of_cell r2)).trans r2
      have c3 := (HN1.out.below.cell (lt_of_cell r3)).trans r3
      have HX := Lib.hid hx
      clear r0 r1 r2 r3 hx
      go_upto_region 11 with (fail)
      have hRS : RS w l P cursor last p mb k v D opn wr.heap.size x (wr.alloc (.cells #[.int .i64 x.f0, .int .u64 x.f1, .bool x.f2, .int .i64 x.f3] 34)) :=
        ⟨HN1.out.of_below ((Below.refl _ _).alloc (Nat.le_refl _) _), heap_alloc_new wr _, HN1.out.below.size⟩
      have HRS := Lib.hid hRS
      clear hRS c0 c1 c2 c3 HN1
      revert HRS
      generalize (wr.alloc (.cells #[.int .i64 x.f0, .int .u64 x.f1, .bool x.f2, .int .i64 x.f3] 34)) = W1
      generalize wr.heap.size = bx
      intro HRS
      obtain ⟨x0, x1, x2, x3⟩ := HRS.out.cell
      obtain ⟨hd, hhd⟩ : ∃ hd, (x.f0 == 5) = hd := ⟨_, rfl⟩
      rw [hhd]
      go_cut [87] (fun s wz => s = .bool (badPlace P last k x) ∧ Aside0 (RS w l P cursor last p mb k v D opn bx x wz))
      case first =>
        obtain ⟨sb, hsb⟩ : ∃ sb, soundB P x = sb := ⟨_, rfl⟩
        obtain ⟨vb, hvb⟩ : ∃ vb, vacB x.f0 = vb := ⟨_, rfl⟩
        obtain ⟨kl, hkl⟩ : ∃ kl, decide ((k : Int) = last) = kl := ⟨_, rfl⟩
        have eq1 : ((k : Int) == last) = kl := hkl
        have eq2 : ((k : Int) != last) = !kl := by rw [bne, eq1]
        have SO : ∀ W, RS w l P cursor last p mb k v D opn bx x W → Calls Try.prog 47 #[.pointer (some ⟨p, 0, none⟩), .agg #[.int .i64 x.f0, .int .u64 x.f1, .bool x.f2, .int .i64 x.f3]] W (Told sb W) := fun W h => by
          rw [← hsb]
          exact sound_calls p P x W h.n.cell.1
        have VO : ∀ W, Calls Try.prog 48 #[.int .i64 x.f0] W fun e w' => e = .returned (.bool vb) ∧ ∃ n, w' = W.drewN n := fun W => by
          rw [← hvb]
          exact vac_calls _ _
        have HBP : Hid (badPlace P last k x = (!sb || (hd && !kl) || (kl && vb && !hd))) := Lib.hid (by unfold badPlace; rw [hsb, hvb, eq1, eq2, hhd])
        have HSO := Lib.hid SO
        have HVO := Lib.hid VO
        clear SO VO hsb hvb hkl
        cases sb
        · go_wp2_with (first | (go_at_call 47; refine (HSO.out _ HRS.out).mono ?_; rintro e w2 ⟨rfl, hb⟩; have R2 := Lib.hid (HRS.out.of_below hb); clear hb))
          go_meet
          case rel => exact ⟨by rw [HBP.out]; rfl, ⟨R2.out⟩⟩
        · cases hd <;> cases kl <;> cases vb
          all_goals
            go_wp2_with (first | (go_at_call 47; refine (HSO.out _ HRS.out).mono ?_; rintro e w2 ⟨rfl, hb⟩; have R2 := Lib.hid (HRS.out.of_below hb); clear hb; have y0 := R2.out.cell.1) | (go_at_call 48; refine (HVO.out _).mono ?_; rintro e w3 ⟨rfl, nn, rfl⟩))
            go_meet
            case rel => first
              | exact ⟨by rw [HBP.out]; rfl, ⟨R2.out⟩⟩
              | exact ⟨by rw [HBP.out]; rfl, ⟨R2.out.of_below (pw_below_drewN (Below.refl _ _) _)⟩⟩
      case rest =>
        obtain ⟨rfl, ⟨hz⟩⟩ := hcut
        have HZ := Lib.hid hz
        clear hz HRS x0 x1 x2 x3
        obtain ⟨x0, x1, x2, x3⟩ := HZ.out.cell
        have hxe : l[k] = x := by have := HX.out; rw [List.getElem?_eq_getElem hlt] at this; exact Option.some.inj this
        have hkl : (l.take k).length = k := by rw [List.length_take]; omega
        have hne : entryOk P last (l.take k) opn x = false → newFrom P last [] (-1) l = none := fun h => by
          rw [HNEW.out, List.drop_eq_getElem_cons hlt, newFrom_cons, hxe, h]
          rfl
        have hye : entryOk P last (l.take k) opn x = true → newFrom P last [] (-1) l = newFrom P last (l.take (k + 1)) (if x.f0 = 2 then (k : Int) else opn) (l.drop (k + 1)) := fun h => by
          rw [HNEW.out, List.drop_eq_getElem_cons hlt, newFrom_cons, hxe, h, if_pos rfl, hkl, take_snoc HX.out]
        have HNE := Lib.hid hne
        have HYE := Lib.hid hye
        have HKL := Lib.hid hkl
        clear hne hye hkl hxe
        cases hbad : badPlace P last k x
        · have HBAD := Lib.hid hbad
          clear hbad
          go_upto_if 90 with (fail)
          go_cut [] (fun wz => (x.f0 == 2 && opn != -1) = false ∧ Aside0 (RS w l P cursor last p mb k v D (if x.f0 = 2 then (k : Int) else opn) bx x wz))
          case first =>
            by_cases h2 : x.f0 = 2
            · have e2 : (x.f0 == 2) = true := by rw [h2]; rfl
              have y5 := HZ.out.n.cell.2.2.1
              have f5 := HZ.out.n.cell.2.2.2 5
              rw [e2]
              by_cases ho : opn = -1
              · subst ho
                go_wp2
                go_meet
                case rel => exact ⟨by rw [e2]; rfl, ⟨by rw [if_pos h2]; exact HZ.out.setOpn _⟩⟩
              · have eo : (opn != -1) = true := by rw [bne_iff_ne]; exact ho
                go_wp2
                refine bodyPost_ret (v := .tuple #[.pointer none, .int .i64 110]) (by simp [results, Try.results26, go_sem]) rfl ?_
                refine NewEnd.none HZ.out.n.below (HNE.out ?_)
                unfold entryOk
                rw [e2, eo]
                simp
            · have e2 : (x.f0 == 2) = false := by rw [beq_eq_false_iff_ne]; exact h2
              rw [e2]
              go_wp2
              go_meet
              case rel => exact ⟨by rw [e2]; rfl, ⟨by rw [if_neg h2]; exact HZ.out⟩⟩
          case rest =>
            obtain ⟨hq, ⟨hz⟩⟩ := hcut
            have HQ := Lib.hid hq
            have HZ1 := Lib.hid hz
            clear hz hq HZ x0 x1 x2 x3
            revert HZ1
            generalize hop : (if x.f0 = 2 then (k : Int) else opn) = opn'
            have HOP := Lib.hid hop
            clear hop
            intro HZ1
            obtain ⟨x0, x1, x2, x3⟩ := HZ1.out.cell
            go_upto_if 102 with (fail)
            have hwfx : (Lit.int .u64 x.f1).wf = true := wf_of_sound HBAD.out (HWF.out x (List.mem_of_getElem? HX.out))
            have hkey := Maps.keyOf_int_mk Try.underlying32 hwfx
            go_cut [] (fun wz => (x.f1 != 0 && headIn (l.take k) x.f1) = false ∧ ∃ D', Aside0 (Mid w l P cursor last p mb k v D' opn' bx x wz))
            case first =>
              by_cases h1 : x.f1 = 0
              · have e1 : (x.f1 != 0) = false := by rw [h1]; rfl
                rw [e1]
                go_wp2
                go_meet
                case rel => exact ⟨by rw [e1]; rfl, D, ⟨HZ1.out.n.head, HZ1.out.n.row, HZ1.out.n.map.mono (Nat.le_succ _), by rw [take_snoc HX.out]; exact HZ1.out.n.heads.skip h1, HZ1.out.n.below, HZ1.out.n.pb, HZ1.out.n.mbb, HZ1.out.b⟩⟩
              · have e1 : (x.f1 != 0) = true := by rw [bne_iff_ne]; exact h1
                rw [e1]
                obtain ⟨hh, hhh⟩ : ∃ hh, headIn (l.take k) x.f1 = hh := ⟨_, rfl⟩
                have hhas := (HZ1.out.n.heads.2 x.f1).trans hhh
                have hown := HZ1.out.n.map
                cases hh
                · go_wp2_with (first
                    | (at_lookup; refine wpList_lookup_own_ok_int _ rfl _ _ 82 rfl 32 3 .i64 law32 Try.underlying82 Try.underlying3 (zero3 _) mb k D rfl hown _ _ rfl hkey ?_; intro cL hat hwc; rw [hhas])
                    | (at_mapUpdate; refine wpList_mapUpdate_own _ rfl _ _ _ 82 rfl 32 3 law32 Try.underlying82 _ mb k _ rfl hown (by unfold maxLen; have := HP.out; have := HLEN.out; omega) _ _ _ rfl rfl hkey _ [] (plainElem_int Try.underlying3 (wf_i64_of (by omega) (by have := HP.out; have := HLEN.out; omega))) ?_; intro w4 hown1 hgrow1))
                  go_meet
                  case rel =>
                    have hput := HZ1.out.n.put hgrow1 hown1
                    exact ⟨by rw [hhh]; simp, _, ⟨hput.1, hput.2.1, hown1, by rw [take_snoc HX.out]; exact HZ1.out.n.heads.put h1, hput.2.2, HZ1.out.n.pb, HZ1.out.n.mbb, (hgrow1.block bx (lt_of_heap HZ1.out.b) (fun e => HZ1.out.neb (Option.some.inj e))).trans HZ1.out.b⟩⟩
                · go_wp2_with (first
                    | (at_lookup; refine wpList_lookup_own_ok_int _ rfl _ _ 82 rfl 32 3 .i64 law32 Try.underlying82 Try.underlying3 (zero3 _) mb k D rfl hown _ _ rfl hkey ?_; intro cL hat hwc; rw [hhas]))
                  refine bodyPost_ret (v := .tuple #[.pointer none, .int .i64 110]) (by simp [results, Try.results26, go_sem]) rfl ?_
                  refine NewEnd.none HZ1.out.n.below (HNE.out ?_)
                  unfold entryOk
                  rw [e1, hhh]
                  simp
            case rest =>
              obtain ⟨hq2, D', ⟨hm⟩⟩ := hcut
              have hent : entryOk P last (l.take k) opn x = true := by
                unfold entryOk
                rw [HKL.out, HBAD.out, HQ.out, hq2]
                rfl
              have HFIN := Lib.hid (HYE.out hent)
              have HM := Lib.hid hm
              rw [HOP.out] at HFIN
              clear hq2 hent hm HZ1 HNE HYE x0 x1 x2 x3 hkey
              have x0 := cell_of (o := 0) HM.out.b rfl
              have x1 := cell_of (o := 1) HM.out.b rfl
              have x2 := cell_of (o := 2) HM.out.b rfl
              have x3 := cell_of (o := 3) HM.out.b rfl
              have y1 := cell_of (o := 1) HM.out.head rfl
              have y1n : ∀ ob, (wc.alloc ob).cell? ⟨p, 1, none⟩ = some v := fun ob => (((Below.refl wc.heap.size wc).alloc (Nat.le_refl _) ob).cell (lt_of_cell y1)).trans y1
              go_wp2
              go_region_law (refine Kd.R_append_step k71 (w0 := w) (W := wc.drew) w.heap.size ?aW (.tmp 119) (.tmp 122) 67 71 (.agg #[(.int .i64 0), (.int .u64 0), (.bool false), (.int .i64 0), .bool false]) 40 rfl Try.underlying67 info71 rfl (by decide) (by decide) v ((l.take k).map blkOf) (blkOf x) [.int .i64 x.f0, .int .u64 x.f1, .bool x.f2, .int .i64 x.f3, .bool false] (fun _ => True) (fun _ => False) ?aX ?aY ?aP (fun _ hk => hk.elim) ?aF ?aO ?aB ?aS ?aL ?_; (case aW => rfl); (case aX => rfl); (case aY => rfl); (case aP => exact k71_mkM _ _ _ (blkOf x)); (case aB => exact HM.out.below.drew); (case aF => exact (fun _ _ => trivial)); (case aO => exact Kd.R_drew HM.out.row); (case aS => exact HM.out.below.size); (case aL => rw [List.length_map, HKL.out]; have := HP.out; have := HLEN.out; omega); intro v1 w5 ho hb hg hat; have R1 := Lib.hid ho; have B1 := Lib.hid hb; have G1 := Lib.hid hg; obtain ⟨A1, n1, k1, rfl⟩ : ∃ A n c, v1 = .slice A n c := (by obtain ⟨A, c, h⟩ := Kd.R_slice ho; exact ⟨A, _, c, h⟩); have hh5 := (hg.block p (lt_of_heap HM.out.head) HM.out.sep.2.1).trans HM.out.head; have q1 := cell_of (o := 1) hh5 rfl; have f1 := free_of (o := 1) hh5; clear ho hb hg hat)
              all_goals
                have HN2 := Lib.hid (Mid.next HM.out HX.out R1.out G1.out B1.out)
                clear R1 G1 B1 hh5 q1 f1
                revert HN2
                generalize w5.setCell ⟨p, 1, none⟩ (.slice A1 n1 k1) = W6
                intro HN2
                go_wp2
                go_roundg (gk - 1)
                case measure => have := HK.out; omega
                case rel => exact ⟨k + 1, by (have e64 : wrap64 ((k : Int) + 1) = ((k + 1 : Nat) : Int) := (by have := HP.out; have := HLEN.out; unfold wrap64; omega)); first | rfl | (rw [e64]; done) | (simp [e64]; done), by have := HK.out; omega, _, _, _, HN2.out, HFIN.out⟩
        · go_wp2
          refine bodyPost_ret (v := .tuple #[.pointer none, .int .i64 110]) (by simp [results, Try.results26, go_sem]) rfl ?_
          refine NewEnd.none HZ.out.n.below (HNE.out ?_)
          unfold entryOk
          rw [HKL.out, hbad]
          rfl
    · have hki : ¬ (k : Int) < B := by rw [← HLEN.out]; omega
      have hki' : decide ((k : Int) < B) = false := decide_eq_false hki
      go_wp2
      refine bodyPost_ret (v := .tuple #[.pointer (some ⟨p, 0, none⟩), .int .i64 0]) (by simp [results, Try.results26, go_sem]) rfl ?_
      refine ⟨HN1.out.below, ?_⟩
      have hkl : l.take k = l := List.take_of_length_le (by omega)
      rw [HNEW.out, List.drop_eq_nil_of_le (by omega)]
      refine ⟨p, v, rfl, HN1.out.pb, HN1.out.head, ?_⟩
      have := HN1.out.row
      rw [hkl] at this
      exact this

def newRes (B P S : Int) (l : List S34) (cursor last : Int) : Option Int := if fitsB B P S && placeB B l.length cursor last then newFrom P last [] (-1) l else none
theorem new_calls (B P S : Int) (A : Option Addr) (l : List S34) (c : Nat) (cursor last : Int) (w : World) (hl : Kd.C k34 w A l.length l) (hwf : ∀ x, x ∈ l → 0 ≤ x.f1) :
    Calls Try.prog 26 #[.agg #[.int .i64 B, .int .i64 P, .int .i64 S], .slice A l.length c, .int .i64 cursor, .int .i64 last] w fun e W => Below w.heap.size w W ∧ match newRes B P S l cursor last with
      | none => ∃ er : Int, er ≠ 0 ∧ e = .returned (.tuple #[.pointer none, .int .i64 er])
      | some opn => ∃ p v, e = .returned (.tuple #[.pointer (some ⟨p, 0, none⟩), .int .i64 0]) ∧ w.heap.size ≤ p ∧ W.heap[p]? = some (.cells #[.int .i64 P, v, .int .i64 cursor, .int .i64 last, .int .i64 (-1), .int .i64 opn] 69 (0, 0)) ∧ Kd.R k71 71 W w.heap.size (fun _ => True) v (l.map blkOf) := by
  cases hf : fitsB B P S
  · have hn : newRes B P S l cursor last = none := by unfold newRes; rw [hf]; rfl
    refine (new_shape B P S A l.length c cursor last w hf).mono fun e W h => ⟨h.2, ?_⟩
    rw [hn]
    exact ⟨40, by decide, h.1⟩
  cases hp : placeB B l.length cursor last
  · have hn : newRes B P S l cursor last = none := by unfold newRes; rw [hf, hp]; rfl
    refine (new_place B P S A l.length c cursor last w hf hp).mono fun e W h => ⟨h.2, ?_⟩
    rw [hn]
    exact ⟨41, by decide, h.1⟩
  · have hn : newRes B P S l cursor last = newFrom P last [] (-1) l := by unfold newRes; rw [hf, hp]; rfl
    refine (new_walk B P S A l c cursor last w hf hp hl hwf).mono fun e W h => ⟨h.1, ?_⟩
    rw [hn]
    have h2 := h.2
    cases hv : newFrom P last [] (-1) l with
    | none => rw [hv] at h2; exact ⟨110, by decide, h2⟩
    | some opn => rw [hv] at h2; exact h2
end Go.Proofs.Ytmohijpkhmeibaa
