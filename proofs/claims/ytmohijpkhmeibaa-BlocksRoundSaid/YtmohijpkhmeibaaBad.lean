/- done, Bad, count, Good of the program's book. -/
import Derived.Test.YtmohijpkhmeibaaPick
import Derived.Test.YtmohijpkhmeibaaShelf
import Derived.Lib.QuietBelow
namespace Go.Proofs.Ytmohijpkhmeibaa
open Go.RowKit Go.Proofs
set_option linter.unusedVariables false
set_option linter.unusedSimpArgs false

def doneB (x : Blk) (n : Nat) (last : Int) : Bool := x.state == 4 && (n : Int) != last && (x.left || (!x.real && x.live == 0))

set_option maxHeartbeats 1000000 in
theorem done_calls (p q cap : Nat) (b : Bks) (k : Nat) (x : Blk) (w : World) (hI : IsB w p q cap b) (hx : b.all[k]? = some x) :
    Calls Try.prog 37 #[.pointer (some ⟨p, 0, none⟩), .int .i64 k] w fun e w' => e = .returned (.bool (doneB x k b.last)) ∧ Below w.heap.size w w' := by
  have hk : k < b.all.length := (List.getElem?_eq_some_iff.1 hx).1
  have c1 := hI.c1
  have c3 := hI.c3
  have hle := hI.le
  have e0 := hI.e0 hx
  have e1 := hI.e1 hx
  have e2 := hI.e2 hx
  have e3 := hI.e3 hx
  have e4 := hI.e4 hx
  have hp := hI.plt
  have hq := hI.qlt
  have HI := Lib.hid hI
  clear hI hx
  cases hs : (x.state == 4)
  · have hd : Hid (doneB x k b.last = false) := Lib.hid (by unfold doneB; rw [hs]; rfl)
    go_enter Try.func37, Try.ntmps37
    go_wp2
    go_ret
    exact ⟨by rw [hd.out]; rfl, (Below.refl _ _).alloc (Nat.le_refl _) _⟩
  cases hl : ((k : Int) != b.last)
  · have hd : Hid (doneB x k b.last = false) := Lib.hid (by unfold doneB; rw [hs, hl]; rfl)
    go_enter Try.func37, Try.ntmps37
    go_wp2
    go_ret
    exact ⟨by rw [hd.out]; rfl, (Below.refl _ _).alloc (Nat.le_refl _) _⟩
  cases hlf : x.left
  · cases hr : x.real
    · have hd : Hid (doneB x k b.last = (x.live == 0)) := Lib.hid (by unfold doneB; rw [hs, hl, hlf, hr]; rfl)
      rw [hlf] at e4; rw [hr] at e2
      go_enter Try.func37, Try.ntmps37
      go_wp2
      go_ret
      exact ⟨by rw [hd.out]; rfl, (Below.refl _ _).alloc (Nat.le_refl _) _⟩
    · have hd : Hid (doneB x k b.last = false) := Lib.hid (by unfold doneB; rw [hs, hl, hlf, hr]; rfl)
      rw [hlf] at e4; rw [hr] at e2
      go_enter Try.func37, Try.ntmps37
      go_wp2
      go_ret
      exact ⟨by rw [hd.out]; rfl, (Below.refl _ _).alloc (Nat.le_refl _) _⟩
  · have hd : Hid (doneB x k b.last = true) := Lib.hid (by unfold doneB; rw [hs, hl, hlf]; rfl)
    rw [hlf] at e4
    go_enter Try.func37, Try.ntmps37
    go_wp2
    go_ret
    exact ⟨by rw [hd.out]; rfl, (Below.refl _ _).alloc (Nat.le_refl _) _⟩

def badBlk : Blk := ⟨6, 0, false, 0, false⟩
theorem IsB.setAll {w : World} {p q cap : Nat} {b : Bks} (h : IsB w p q cap b) {i : Nat} {x : Blk} (y : Blk) (hx : b.all[i]? = some x) :
    IsB (((((w.setCell ⟨q, i * 5, none⟩ (.int .i64 y.state)).setCell ⟨q, i * 5 + 1, none⟩ (.int .u64 y.head)).setCell ⟨q, i * 5 + 2, none⟩ (.bool y.real)).setCell ⟨q, i * 5 + 3, none⟩ (.int .i64 y.live)).setCell ⟨q, i * 5 + 4, none⟩ (.bool y.left)) p q cap { b with all := b.all.set i y } := by
  have hi : i < b.all.length := (List.getElem?_eq_some_iff.1 hx).1
  have g : ∀ (l : List Blk) (z : Blk), i < l.length → (l.set i z)[i]? = some z := fun l z hl => List.getElem?_set_self hl
  have h0 := h.setRow (y := ⟨y.state, x.head, x.real, x.live, x.left⟩) hx (j := 0) (by decide) rfl
  have h1 := h0.setRow (y := ⟨y.state, y.head, x.real, x.live, x.left⟩) (g _ _ hi) (j := 1) (by decide) rfl
  have h2 := h1.setRow (y := ⟨y.state, y.head, y.real, x.live, x.left⟩) (g _ _ (by simpa using hi)) (j := 2) (by decide) rfl
  have h3 := h2.setRow (y := ⟨y.state, y.head, y.real, y.live, x.left⟩) (g _ _ (by simpa using hi)) (j := 3) (by decide) rfl
  have h4 := h3.setRow (y := y) (g _ _ (by simpa using hi)) (j := 4) (by decide) rfl
  simpa using h4

set_option maxHeartbeats 1000000 in
theorem bad_yes (p q cap : Nat) (b : Bks) (k : Nat) (x : Blk) (w : World) (hI : IsB w p q cap b) (hx : b.all[k]? = some x) (hok : x.state = 0 ∨ doneB x k b.last = true) :
    Calls Try.prog 12 #[.pointer (some ⟨p, 0, none⟩), .int .i64 k] w fun e w' => e = .returned (.int .i64 0) ∧ IsB w' p q cap { b with all := b.all.set k badBlk } ∧ Off (· = q) w w' := by
  have hk : k < b.all.length := (List.getElem?_eq_some_iff.1 hx).1
  have ca := at_yes p q cap b k w hI (by omega) (by omega)
  have cd := done_calls p q cap b k x w hI hx
  have e0 := hI.e0 hx
  have CA := Lib.hid ca
  have CD := Lib.hid cd
  have HX := Lib.hid hx
  have HI := Lib.hid hI
  clear ca cd hI hx
  by_cases h0 : x.state = 0
  · have hz : (x.state != 0) = false := by rw [bne, h0]; rfl
    clear hok h0
    have e1 := HI.out.e1 HX.out
    have e2 := HI.out.e2 HX.out
    have e3 := HI.out.e3 HX.out
    have e4 := HI.out.e4 HX.out
    have f0 := HI.out.rf (k * 5)
    have f1 := HI.out.rf (k * 5 + 1)
    have f2 := HI.out.rf (k * 5 + 2)
    have f3 := HI.out.rf (k * 5 + 3)
    have f4 := HI.out.rf (k * 5 + 4)
    go_enter Try.func12, Try.ntmps12
    go_wp2_with (go_at_call 36; refine CA.out.mono ?_; rintro e w' ⟨rfl, rfl⟩)
    go_ret
    exact ⟨rfl, HI.out.setAll badBlk HX.out, (((((Off.refl (· = q) w).setCell (p := ⟨q, _, none⟩) (.inl rfl) _).setCell (p := ⟨q, _, none⟩) (.inl rfl) _).setCell (p := ⟨q, _, none⟩) (.inl rfl) _).setCell (p := ⟨q, _, none⟩) (.inl rfl) _).setCell (p := ⟨q, _, none⟩) (.inl rfl) _⟩
  · have hz : (x.state != 0) = true := by rw [bne_iff_ne]; exact h0
    have hd : doneB x k b.last = true := by rcases hok with h | h; exact absurd h h0; exact h
    clear hok h0
    go_enter Try.func12, Try.ntmps12
    go_wp2_with (first | (go_at_call 36; refine CA.out.mono ?_; rintro e w' ⟨rfl, rfl⟩) | (go_at_call 37; refine CD.out.mono ?_; rintro e w1 ⟨rfl, hb⟩; rw [hd]; have HB := Lib.hid hb; clear hb; have e0' := (HI.out.below HB.out).e0 HX.out; have e1 := (HI.out.below HB.out).e1 HX.out; have e2 := (HI.out.below HB.out).e2 HX.out; have e3 := (HI.out.below HB.out).e3 HX.out; have e4 := (HI.out.below HB.out).e4 HX.out; have f0 := (HI.out.below HB.out).rf (k * 5); have f1 := (HI.out.below HB.out).rf (k * 5 + 1); have f2 := (HI.out.below HB.out).rf (k * 5 + 2); have f3 := (HI.out.below HB.out).rf (k * 5 + 3); have f4 := (HI.out.below HB.out).rf (k * 5 + 4)))
    go_ret
    exact ⟨rfl, (HI.out.below HB.out).setAll badBlk HX.out, (((((Off.of_below (S := (· = q)) HB.out).setCell (p := ⟨q, _, none⟩) (.inl rfl) _).setCell (p := ⟨q, _, none⟩) (.inl rfl) _).setCell (p := ⟨q, _, none⟩) (.inl rfl) _).setCell (p := ⟨q, _, none⟩) (.inl rfl) _).setCell (p := ⟨q, _, none⟩) (.inl rfl) _⟩

def inL (zs : List Int) (s : Int) : Bool := zs.contains s
def cnt (f : Int → Bool) (l : List Blk) : Nat := (l.filter fun x => f x.state).length
theorem cnt_le (f : Int → Bool) (l : List Blk) : cnt f l ≤ l.length := List.length_filter_le _ _
theorem cnt_snoc (f : Int → Bool) (l : List Blk) (x : Blk) : cnt f (l ++ [x]) = cnt f l + if f x.state then 1 else 0 := by
  unfold cnt
  rw [List.filter_append, List.length_append]
  cases h : f x.state <;> simp [List.filter_cons, h]
theorem take_snoc {α : Type} {l : List α} {k : Nat} {x : α} (h : l[k]? = some x) : l.take (k + 1) = l.take k ++ [x] := by
  rw [List.take_add_one, h]; rfl

set_option maxHeartbeats 1000000 in
theorem count_calls (p q cap : Nat) (b : Bks) (g n c : Nat) (zs : List Int) (w : World) (hI : IsB w p q cap b) (hz : zs.length = n) (hn : n ≤ 10) (hg : ∀ j, j < zs.length → w.cell? ⟨g, j, none⟩ = some (.int .i64 (zs.getD j 0))) (hgl : g < w.heap.size) :
    Calls Try.prog 35 #[.pointer (some ⟨p, 0, none⟩), .slice (some ⟨g, 0, none⟩) n c] w fun e w' => e = .returned (.int .i64 (cnt (inL zs) b.all)) ∧ Below w.heap.size w w' := by
  have c1 := hI.c1
  have hle := hI.le
  have HI := Lib.hid hI
  have HG := Lib.hid hg
  have HZ := Lib.hid hz
  clear hI hg hz
  have hcl := cnt_le (inL zs) b.all
  go_enter Try.func35, Try.ntmps35
  go_wp2
  go_loopw [5, 7, 13] (fun s _ i wr => ∃ j : Nat, j ≤ b.all.length ∧ i = .int .i64 j ∧ s = .int .i64 (cnt (inL zs) (b.all.take j)) ∧ Below w.heap.size w wr) (fun _ _ i _ => b.all.length - (intOf i).toNat)
  case atStart => exact ⟨0, by omega, rfl, rfl, Below.refl _ _⟩
  case round =>
    obtain ⟨j, hj, rfl, rfl, hb⟩ := hrel
    by_cases hlt : j < b.all.length
    · obtain ⟨x, hx⟩ : ∃ x, b.all[j]? = some x := ⟨_, List.getElem?_eq_getElem hlt⟩
      have e0 := (HI.out.below hb).e0 hx
      have e1 := (HI.out.below hb).e1 hx
      have e2 := (HI.out.below hb).e2 hx
      have e3 := (HI.out.below hb).e3 hx
      have e4 := (HI.out.below hb).e4 hx
      have hcs := cnt_le (inL zs) (b.all.take j)
      have hts := take_snoc hx
      have hlen : (b.all.take j).length ≤ j := List.length_take_le _ _
      have HS : Hid (cnt (inL zs) (b.all.take (j + 1)) = cnt (inL zs) (b.all.take j) + if inL zs x.state then 1 else 0) := Lib.hid (by rw [hts]; exact cnt_snoc _ _ _)
      clear hts hx
      have HB := Lib.hid hb
      have hsz := hb.size
      clear hb
      have hcon : ∀ o, Calls Try.prog 67 #[.slice (some ⟨g, 0, none⟩) n c, .int .i64 x.state] (wr.alloc o) fun e w' => e = .returned (.bool (inL zs x.state)) ∧ w' = (wr.alloc o) := fun o =>
        (Try.slices_Contains_int g 0 n c zs x.state (wr.alloc o) (by rw [HZ.out]; omega) (by omega) (fun j hj => by rw [Nat.zero_add]; rw [((Below.refl wr.heap.size wr).alloc (Nat.le_refl _) o).cell (p := ⟨g, j, none⟩) (by show g < _; omega), HB.out.cell (p := ⟨g, j, none⟩) hgl]; exact HG.out j hj)).mono fun e w' h => by rw [List.take_of_length_le (by rw [HZ.out]; omega)] at h; exact h
      have HC := Lib.hid hcon
      clear hcon
      cases hc : inL zs x.state
      all_goals
        go_wp2_with (go_at_call 67; refine (HC.out _).mono ?_; rintro e w' ⟨rfl, hw⟩; rw [hw, hc])
        go_roundw
        case rel => exact ⟨j + 1, by omega, by go_num, by rw [HS.out, hc]; first | rfl | go_num, HB.out.alloc hsz _⟩
        case measure => simp [intOf]; omega
    · obtain rfl : j = b.all.length := by omega
      go_wp2
      go_ret
      exact ⟨by rw [List.take_length]; rfl, hb⟩
end Go.Proofs.Ytmohijpkhmeibaa
