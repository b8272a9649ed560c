/- BlocksPlays: the walk of the law. -/
import Derived.Test.YtmohijpkhmeibaaMDo
namespace Go.Proofs.Ytmohijpkhmeibaa
open Go.RowKit Go.Proofs Go.Proofs.YtmohijpkhmeibaaW.PrintWords
open PBlocksRound
set_option linter.unusedVariables false
set_option linter.unusedSimpArgs false
set_option maxRecDepth 100000
def LawEnd (w : World) (e : Ending) (W : World) : Prop := e = .returned (.bool true) ∧ Below w.heap.size w W
set_option maxHeartbeats 4000000 in
theorem plays_walk (B P S : Int) (A : Option Addr) (l : List S34) (c : Nat) (cursor last : Int) (A2 : Option Addr) (os : List Op4) (c2 : Nat) (w : World) (hl : Kd.C k34 w A l.length l) (hc : l.length ≤ c) (hreach : l.length * 32 ≤ 140737488351232) (hwf : ∀ x, x ∈ l → 0 ≤ x.f1) (hos : OpsAt w A2 os) (hok : OpsOk os) :
    Calls Try.prog 6 #[.agg #[.int .i64 B, .int .i64 P, .int .i64 S], .slice A l.length c, .int .i64 cursor, .int .i64 last, .slice A2 os.length c2] w (LawEnd w) := by
  have BC := Lib.hid (fun W (hB : Below w.heap.size w W) => start_all B P S A l c cursor last W (Kd.C_below hl hB) hc hreach hwf)
  have HOS := Lib.hid hos
  have HOK := Lib.hid hok
  have hlen := hok.len
  clear hl hreach hwf hos hok
  go_enter Try.func6, Try.ntmps6
  go_wp2_with (go_at_call 8; fail)
  refine (BC.out _ ((Below.refl _ _).alloc (Nat.le_refl _) _)).mono ?_
  rintro e w1 h
  rcases h with ⟨hb1, rfl⟩ | ⟨opn, p, q, cap, p', q', t', cap', _, rfl, hD, hw, _, hcap⟩
  · have KB := Lib.hid (show Below w.heap.size w w1 from ((Below.refl _ _).alloc (Nat.le_refl _) _).trans (hb1.mono (by rw [World.size_alloc]; omega)))
    clear hb1
    go_wp2
    go_ret
    exact ⟨rfl, KB.out⟩
  have HW0 := Lib.hid (show Below w.heap.size w (w.alloc (.cells #[.int .i64 B, .int .i64 P, .int .i64 S] 23)) from (Below.refl _ _).alloc (Nat.le_refl _) _)
  have HS0 := Lib.hid (World.size_alloc w (.cells #[.int .i64 B, .int .i64 P, .int .i64 S] 23))
  have HD := Lib.hid hD
  have HW := Lib.hid (And.intro hw (show (⟨P, l.map blkS, cursor, last, -1, opn⟩ : Bks).all.length = l.length from List.length_map ..))
  have HCAP := Lib.hid hcap
  clear hD hw hcap
  revert HW0 HS0 HD HW
  generalize (w.alloc (.cells #[.int .i64 B, .int .i64 P, .int .i64 S] 23)) = w0
  generalize (⟨P, l.map blkS, cursor, last, -1, opn⟩ : Bks) = b0
  intro HW0 HS0 HD HW
  have AC := Lib.hid (alike_calls w0 p q cap p' q' t' cap' b0 w1 HD.out HW.out.1 (by rw [HW.out.2]; exact HCAP.out))
  go_wp2_with (go_at_call 29; refine AC.out.mono ?_; rintro e w2 ⟨rfl, hD2, _⟩; have HD2 := Lib.hid hD2; clear hD2)
  clear AC HD
  go_loopw [14] (fun s14 wr => ∃ (i : Nat) (b : Bks), s14 = .int .i64 (i : Int) ∧ i ≤ os.length ∧ Hid (WFB b ∧ b.all.length = l.length) ∧ Hid (Duo w0 p q cap p' q' t' cap' b b wr)) (fun s14 _ => os.length - (intOf s14).toNat)
  case atStart => exact ⟨0, b0, rfl, by omega, HW, HD2⟩
  case round =>
    obtain ⟨i, b, rfl, hi, HWb, HDb⟩ := hrel
    clear HD2 HW
    by_cases hlt : i < os.length
    · obtain ⟨x, hx⟩ : ∃ x, os[i]? = some x := ⟨_, List.getElem?_eq_getElem hlt⟩
      have hb := HW0.out.trans (HDb.out.below.mono (by rw [HS0.out]; omega))
      obtain ⟨g, o, rfl, d0, d1, d2, d3⟩ := (HOS.out.below hb).get hx
      obtain ⟨hm, hh⟩ := HOK.out.ok x (List.mem_of_getElem? hx)
      have hil : (i : Int) < (os.length : Int) := by omega
      have DC := Lib.hid (do_calls w0 p q cap p' q' t' cap' b x.kind x.block x.more x.head wr HDb.out HWb.out.1 hm hh)
      clear hb hx hm hh
      go_wp2_with fail
      refine DC.out.mono ?_
      rintro e w3 ⟨rfl, b', hwf', hlen', _, hD'⟩
      have HWb' := Lib.hid (And.intro hwf' (hlen'.trans HWb.out.2))
      have HDb' := Lib.hid hD'
      clear hwf' hlen' hD' DC d0 d1 d2 d3
      go_wp2_with (go_at_call 29; refine (alike_calls w0 p q cap p' q' t' cap' b' w3 HDb'.out HWb'.out.1 (by rw [HWb'.out.2]; exact HCAP.out)).mono ?_; rintro e w4 ⟨rfl, hD4, _⟩; have HD4 := Lib.hid hD4; clear hD4)
      go_roundw
      case rel => exact ⟨i + 1, b', by go_num, by omega, HWb', HD4⟩
      case measure => simp [intOf]; omega
    · obtain rfl : i = os.length := by omega
      have KB := Lib.hid (HW0.out.trans (HDb.out.below.mono (by rw [HS0.out]; omega)))
      go_wp2
      go_ret
      exact ⟨rfl, KB.out⟩
end Go.Proofs.Ytmohijpkhmeibaa
