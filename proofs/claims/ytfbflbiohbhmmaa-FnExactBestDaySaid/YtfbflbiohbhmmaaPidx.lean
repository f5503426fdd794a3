/-
  slices.IndexFunc, slices.ContainsFunc at numbers: at whatever test, answered without turning what was there.
-/
import Derived.Test.YtfbflbiohbhmmaaRows
import Derived.Test.YtfbflbiohbhmmaaBase
namespace Go.Proofs.Ytfbflbiohbhmmaa
open Go.RowKit

set_option maxHeartbeats 400000 in
theorem indexFuncF_calls (g : Nat) (cp : Array Value) (p : Nat → Bool) (b o cap : Nat) (xs : List Nat) (w : World)
    (hs : HoldsF w b o xs) (hb : b < w.heap.size) (hl : xs.length ≤ maxLen) (hp : TestsF Try.prog g cp p w) :
    Calls Try.prog 94 #[.slice (some ⟨b, o, none⟩) xs.length cap, .func (.func g) #[] cp] w (RetInt (idxBy p xs) w) := by
  unfold maxLen at hl
  go_enter Try.func94, Try.ntmps94
  go_wp2
  go_loopw [8] (fun i wr => ∃ k : Nat, k ≤ xs.length ∧ i = .int .i64 k ∧ (∀ j, j < k → p (xs.getD j 0) = false) ∧ Below w.heap.size w wr) (fun i _ => xs.length - (intOf i).toNat)
  case atStart => exact ⟨0, Nat.zero_le _, rfl, fun j hj => by omega, Below.refl _ _⟩
  case round =>
    obtain ⟨k, hk, rfl, hno, hbl⟩ := hrel
    have HN := Lib.hid hno
    clear hno
    by_cases hlt : k < xs.length
    · have hcell : wr.cell? ⟨b, o + k, none⟩ = some (.float .f32 (xs.getD k 0)) := (hs.below hbl hb) k hlt
      have hsz := hbl.size
      have hcf := hp.1
      have HP := Lib.hid hp.2
      have HS := Lib.hid hs
      clear hp hs
      go_wp2_with fail
      refine (HP.out _ _ (by first | exact hbl | exact hbl.drew)).mono ?_
      clear hcf
      rintro e w1 ⟨rfl, hb1⟩
      have hb2 := hbl.trans (hb1.mono hsz)
      clear hcell
      cases hpx : p xs[k] with
      | true =>
        have hres : idxBy p xs = k := idxBy_hit 0 p xs k hlt HN.out (by simpa [hlt] using hpx)
        have HR := Lib.hid hres
        clear hres hpx
        go_wp2
        go_ret
        exact ⟨by rw [HR.out]; rfl, hb2⟩
      | false =>
        have HX := Lib.hid hpx
        clear hpx
        go_wp2
        go_roundw
        case rel => exact ⟨k + 1, by omega, by go_num, fun j hj => by rcases Nat.lt_succ_iff_lt_or_eq.1 hj with h | h; exact HN.out j h; subst h; simpa [hlt] using HX.out, hb2⟩
        case measure => simp [intOf]; omega
    · have hres : idxBy p xs = -1 := idxBy_none 0 p xs (fun j hj => HN.out j (by omega))
      have HR := Lib.hid hres
      clear hres
      go_wp2
      go_ret
      exact ⟨by rw [HR.out]; rfl, hbl⟩

set_option maxHeartbeats 400000 in
theorem containsFuncF_calls (g : Nat) (cp : Array Value) (p : Nat → Bool) (b o cap : Nat) (xs : List Nat) (w : World)
    (hs : HoldsF w b o xs) (hb : b < w.heap.size) (hl : xs.length ≤ maxLen) (hp : TestsF Try.prog g cp p w) :
    Calls Try.prog 73 #[.slice (some ⟨b, o, none⟩) xs.length cap, .func (.func g) #[] cp] w (RetBool (xs.any p) w) := by
  have HC := Lib.hid (indexFuncF_calls g cp p b o cap xs w hs hb hl hp)
  have HI := Lib.hid (idxBy_ge p xs)
  clear hs hp
  go_enter Try.func73, Try.ntmps73
  go_wp2_with fail
  refine HC.out.mono ?_
  rintro e w1 ⟨rfl, hb1⟩
  go_wp2_with fail
  go_ret
  exact ⟨congrArg (fun b => Ending.returned (.bool b)) HI.out, hb1⟩
end Go.Proofs.Ytfbflbiohbhmmaa
