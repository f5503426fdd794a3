/-
  Valid crates: what both programs answer.
-/
import Derived.Test.YtfbflbiohbhmmaaPpart
import Derived.Test.YtfbflbiohbhmmaaPsn
import Derived.Test.YtfbflbiohbhmmaaRegT
import Derived.Test.YtfbflbiohbhmmaaPsameCr
import Derived.Test.YtfbflbiohbhmmaaMemS
import Derived.Deep.Cut
namespace Go.Proofs.Ytfbflbiohbhmmaa
open Go.RowKit

/-- What a valid crate's number at a place must be. -/
def fruitOk (c : Int) (i a : Nat) : Bool := if (i : Int) < c then vPart a else sameN a 0
def vCrate (c : Int) (rs : List Nat) : Bool := (decide (0 ≤ c) && decide (c ≤ 16)) && (List.range 16).all fun i => fruitOk c i (rs.getD i 0)

theorem vCrate_out {c : Int} {rs : List Nat} (h : (decide (0 ≤ c) && decide (c ≤ 16)) = false) : vCrate c rs = false := by unfold vCrate; rw [h]; rfl
theorem vCrate_at {c : Int} {rs : List Nat} {k : Nat} (hk : k < 16) (h : fruitOk c k (rs.getD k 0) = false) : vCrate c rs = false := by
  unfold vCrate
  rw [show ((List.range 16).all fun i => fruitOk c i (rs.getD i 0)) = false from by
    rw [List.all_eq_false]; exact ⟨k, List.mem_range.2 hk, by simpa using h⟩, Bool.and_false]
theorem vCrate_yes {c : Int} {rs : List Nat} (h0 : (decide (0 ≤ c) && decide (c ≤ 16)) = true) (h : ∀ j, j < 16 → fruitOk c j (rs.getD j 0) = true) : vCrate c rs = true := by
  unfold vCrate
  rw [h0, Bool.true_and, List.all_eq_true]
  exact fun j hj => h j (List.mem_range.1 hj)

set_option maxHeartbeats 400000 in
theorem l00In_calls (n lo hi : Int) (w : World) :
    Calls Try.prog 79 #[.int .i64 n, .int .i64 lo, .int .i64 hi] w fun e w' => e = .returned (.bool (decide (lo ≤ n) && decide (n ≤ hi))) ∧ w' = w := by
  go_enter Try.func79, Try.ntmps79
  go_wp2
  all_goals go_ret
  all_goals (refine ⟨?_, rfl⟩; simp_all; try omega)

set_option maxHeartbeats 400000 in
theorem within_calls (n lo hi : Int) (w : World) :
    Calls Try.prog 80 #[.int .i64 n, .int .i64 lo, .int .i64 hi] w fun e w' => e = .returned (.bool (decide (lo ≤ n) && decide (n ≤ hi))) ∧ w' = w := by
  go_enter Try.func80, Try.ntmps80
  go_wp2
  all_goals go_ret
  all_goals (refine ⟨?_, rfl⟩; simp_all; try omega)

set_option maxHeartbeats 1000000 in
theorem l01Crate_calls (b o : Nat) (c : Int) (rs : List Nat) (hr : rs.length = 16) (hlo : -128 ≤ c) (hhi : c ≤ 127) (w : World) (h0 : w.cell? ⟨b, o, none⟩ = some (.int .i8 c)) (hf : HoldsF w b (o + 1) rs) :
    Calls Try.prog 47 #[.pointer (some ⟨b, o, none⟩)] w fun e w' => e = .returned (.bool (vCrate c rs)) ∧ w' = w := by
  have HR := Lib.hid hr
  have HF := Lib.hid hf
  clear hr hf
  go_enter Try.func47, Try.ntmps47
  go_wp2_with fail
  refine (l00In_calls _ _ _ _).mono ?_
  rintro e w1 ⟨rfl, rfl⟩
  cases hin : (decide (0 ≤ c) && decide (c ≤ 16))
  · have HX := Lib.hid (vCrate_out (rs := rs) hin)
    clear hin
    go_wp2_with fail
    go_ret
    exact ⟨by rw [HX.out]; rfl, rfl⟩
  · have HI := Lib.hid hin
    clear hin
    go_upto_region 4 with (fail)
    go_loopw [3] (fun i wr => ∃ k : Nat, k ≤ 16 ∧ i = .int .i64 k ∧ (∀ j, j < k → fruitOk c j (rs.getD j 0) = true) ∧ wr = w1) (fun i _ => 16 - (intOf i).toNat)
    case atStart => exact ⟨0, Nat.zero_le _, rfl, fun j hj => by omega, rfl⟩
    case round =>
      obtain ⟨k, hk, rfl, hno, rfl⟩ := hrel
      have HN := Lib.hid hno
      clear hno
      by_cases hlt : k < 16
      · have c0 := HF.out k (by rw [HR.out]; exact hlt)
        obtain ⟨p, hp⟩ : ∃ p, p = rs.getD k 0 := ⟨_, rfl⟩
        rw [← hp] at c0
        have HP := Lib.hid hp
        clear hp
        by_cases hkc : (k : Int) < c
        · have hok : fruitOk c k p = vPart p := by unfold fruitOk; rw [if_pos hkc]
          have HO := Lib.hid hok
          clear hok
          go_wp2_with fail
          refine (l01Part_calls p _).mono ?_
          rintro e w2 ⟨rfl, rfl⟩
          cases hv : vPart p
          · have HX := Lib.hid (vCrate_at (c := c) (rs := rs) hlt (by rw [← HP.out, HO.out, hv]))
            clear hv
            go_wp2_with fail
            go_ret
            exact ⟨by rw [HX.out]; rfl, rfl⟩
          · have HV := Lib.hid hv
            clear hv
            go_wp2_with fail
            go_roundw
            case rel => exact ⟨k + 1, by omega, by go_num, fun j hj => by rcases Nat.lt_succ_iff_lt_or_eq.1 hj with h | h; exact HN.out j h; subst h; rw [← HP.out, HO.out]; exact HV.out, by first | trivial | rfl⟩
            case measure => simp [intOf]; omega
        · have hok : fruitOk c k p = sameN p 0 := by unfold fruitOk; rw [if_neg hkc]
          have HO := Lib.hid hok
          clear hok
          go_wp2_with fail
          refine (l01Same_calls p 0 _).mono ?_
          rintro e w2 ⟨rfl, rfl⟩
          cases hv : sameN p 0
          · have HX := Lib.hid (vCrate_at (c := c) (rs := rs) hlt (by rw [← HP.out, HO.out, hv]))
            clear hv
            go_wp2_with fail
            go_ret
            exact ⟨by rw [HX.out]; rfl, rfl⟩
          · have HV := Lib.hid hv
            clear hv
            go_wp2_with fail
            go_roundw
            case rel => exact ⟨k + 1, by omega, by go_num, fun j hj => by rcases Nat.lt_succ_iff_lt_or_eq.1 hj with h | h; exact HN.out j h; subst h; rw [← HP.out, HO.out]; exact HV.out, by first | trivial | rfl⟩
            case measure => simp [intOf]; omega
      · have HX := Lib.hid (vCrate_yes HI.out (rs := rs) (fun j hj => HN.out j (by omega)))
        go_wp2
        go_ret
        exact ⟨by rw [HX.out]; rfl, rfl⟩
theorem all_range {n : Nat} {q : Nat → Bool} (rs : List Nat) (p : Nat → Bool) (h : ∀ i, i < n → q i = p (rs.getD i 0)) (hl : rs.length = n) : (List.range n).all q = rs.all p := by
  rw [Bool.eq_iff_iff, List.all_eq_true, List.all_eq_true]
  constructor
  · intro hq x hx
    obtain ⟨i, hi, rfl⟩ := List.mem_iff_getElem.1 hx
    have := hq i (List.mem_range.2 (hl ▸ hi))
    rw [h i (hl ▸ hi)] at this
    simpa [hi] using this
  · intro hp i hi
    have hi' := List.mem_range.1 hi
    rw [h i hi']
    have hi2 : i < rs.length := by omega
    have := hp (rs[i]) (List.getElem_mem hi2)
    simpa [hi2] using this

/-- A crate's numbers, those of fruits and those behind them. -/
theorem vCrate_split (k : Nat) (hk : k ≤ 16) (rs : List Nat) (hr : rs.length = 16) : vCrate (k : Int) rs = ((rs.take k).all vPart && (rs.drop k).all (fun a => sameN a 0)) := by
  unfold vCrate
  rw [show (decide (0 ≤ (k : Int)) && decide ((k : Int) ≤ 16)) = true from by simp; omega, Bool.true_and, Bool.eq_iff_iff, Bool.and_eq_true, List.all_eq_true, List.all_eq_true, List.all_eq_true]
  constructor
  · intro h
    refine ⟨fun x hx => ?_, fun x hx => ?_⟩
    · obtain ⟨i, hi, rfl⟩ := List.mem_iff_getElem.1 hx
      simp only [List.length_take] at hi
      have := h i (List.mem_range.2 (by omega))
      unfold fruitOk at this
      rw [if_pos (by omega)] at this
      have hi2 : i < rs.length := by omega
      simpa [hi2] using this
    · obtain ⟨i, hi, rfl⟩ := List.mem_iff_getElem.1 hx
      simp only [List.length_drop] at hi
      have := h (k + i) (List.mem_range.2 (by omega))
      unfold fruitOk at this
      rw [if_neg (by omega)] at this
      have hi2 : k + i < rs.length := by omega
      simpa [hi2] using this
  · rintro ⟨h1, h2⟩ i hi
    have hi' := List.mem_range.1 hi
    have hi2 : i < rs.length := by omega
    unfold fruitOk
    by_cases hik : (i : Int) < k
    · rw [if_pos hik]
      have := h1 rs[i] (List.mem_iff_getElem.2 ⟨i, by simp; omega, by simp⟩)
      simpa [hi2] using this
    · rw [if_neg hik]
      have := h2 rs[i] (List.mem_iff_getElem.2 ⟨i - k, by simp; omega, by simp [show k + (i - k) = i by omega]⟩)
      simpa [hi2] using this

theorem validCrate1_tests (w : World) : TestsF Try.prog 82 #[] (fun a => !sameN a 0) w := by
  refine ⟨fun args W => by kernel_rfl, fun x W _ => ?_⟩
  go_enter Try.func82, Try.ntmps82
  go_wp2_with (go_at_call 83; refine (SameNumber_calls _ _ _).mono ?_; rintro e w' ⟨rfl, rfl⟩)
  go_ret
  exact ⟨rfl, Below.refl _ _⟩

theorem any_not {α : Type} (p : α → Bool) (l : List α) : (!l.any fun a => !p a) = l.all p := by rw [List.not_any_eq_all_not]; simp

theorem HoldsF.take {w : World} {b o : Nat} {rs : List Nat} (h : HoldsF w b o rs) (k : Nat) : HoldsF w b o (rs.take k) := fun i hi => by
  simp only [List.length_take] at hi
  have h2 : i < rs.length := by omega
  have hk : i < k := by omega
  have e : (rs.take k).getD i 0 = rs.getD i 0 := by simp only [List.getD_eq_getElem?_getD, List.getElem?_take, if_pos hk]
  rw [e]
  exact h i h2
theorem HoldsF.drop {w : World} {b o : Nat} {rs : List Nat} (h : HoldsF w b o rs) (k : Nat) : HoldsF w b (o + k) (rs.drop k) := fun i hi => by
  simp only [List.length_drop] at hi
  have h2 : k + i < rs.length := by omega
  have e : (rs.drop k).getD i 0 = rs.getD (k + i) 0 := by simp only [List.getD_eq_getElem?_getD, List.getElem?_drop]
  rw [e, show o + k + i = o + (k + i) by omega]
  exact h (k + i) h2

set_option maxHeartbeats 1000000 in
theorem implValidCrate_calls (c : Int) (rs : List Nat) (hr : rs.length = 16) (hlo : -128 ≤ c) (hhi : c ≤ 127) (w : World) :
    Calls Try.prog 50 #[.agg (crL c rs).toArray] w (RetBool (vCrate c rs) w) := by
  have HR := Lib.hid hr
  clear hr
  go_enter Try.func50, Try.ntmps50
  go_upto_region 1 with (fail)
  generalize hw1 : w.alloc _ = w1
  have h1 : Mem.Blk w1 w.heap.size (crL c rs) 36 := hw1 ▸ Mem.Blk.new w _ _
  have hb : Below w.heap.size w w1 := hw1 ▸ below_a1 w _
  clear hw1
  have s1 := h1.lt
  have c0 : w1.cell? ⟨w.heap.size, 0, none⟩ = some (.int .i8 c) := h1.cell 0
  go_wp2_with fail
  refine (within_calls _ _ _ _).mono ?_
  rintro e w2 ⟨rfl, rfl⟩
  cases hin : (decide (0 ≤ c) && decide (c ≤ 16))
  · have HX := Lib.hid (vCrate_out (rs := rs) hin)
    clear hin
    go_wp2_with fail
    go_ret
    exact ⟨by rw [HX.out]; rfl, hb⟩
  · simp only [Bool.and_eq_true, decide_eq_true_eq] at hin
    obtain ⟨k, rfl⟩ : ∃ k : Nat, c = k := ⟨c.toNat, by omega⟩
    have hk : k ≤ 16 := by omega
    clear hin
    have HS := Lib.hid (vCrate_split k hk rs HR.out)
    have H1 := Lib.hid (HoldsF.of_crL h1)
    clear h1
    go_wp2_with (with_reducible refine Mem.wpList_sliceH rfl 32 _ _ rfl w.heap.size 1 k 16 .i8 22 rfl rfl Try.underlying32 (by kernel_rfl) hk ?_)
    have hlen : (rs.take k).length = k := by rw [List.length_take, HR.out]; omega
    have HC := areParts_calls w.heap.size 1 16 (rs.take k) w2 (H1.out.take k) s1 (by rw [hlen]; unfold maxLen; omega)
    rw [hlen] at HC
    refine HC.mono ?_
    clear HC
    rintro e w3 ⟨rfl, hb3⟩
    rw [any_not]
    have hB3 := below_call hb hb3
    cases hv : (rs.take k).all vPart
    · have HX := Lib.hid (show vCrate (k : Int) rs = false by rw [HS.out, hv]; rfl)
      clear hv HS
      go_wp2_with fail
      go_ret
      exact ⟨by rw [HX.out]; rfl, hB3⟩
    · have HX := Lib.hid (show vCrate (k : Int) rs = (rs.drop k).all (fun a => sameN a 0) by rw [HS.out, hv]; rfl)
      clear hv HS
      have c3 : w3.cell? ⟨w.heap.size, 0, none⟩ = some (.int .i8 (k : Int)) := (hb3.cell (p := ⟨w.heap.size, 0, none⟩) s1).trans c0
      have s3 : w.heap.size < w3.heap.size := by have := hb3.size; omega
      have H3 := Lib.hid (H1.out.below hb3 s1)
      clear c0
      obtain ⟨off, hoff⟩ : ∃ off : Nat, off = if 16 = k then 1 else 1 + k := ⟨_, rfl⟩
      obtain ⟨nn, hnn⟩ : ∃ nn : Nat, nn = 16 - k := ⟨_, rfl⟩
      have HOf := Lib.hid hoff
      clear hoff
      go_wp2_with (with_reducible refine Mem.wpList_sliceL' off nn rfl 32 _ _ rfl w.heap.size 1 k 16 .i8 22 rfl rfl Try.underlying32 (by kernel_rfl) hk HOf.out hnn ?_)
      have hlen' : (rs.drop k).length = nn := by rw [List.length_drop, HR.out, hnn]
      have HC := containsFuncF_calls _ _ _ w.heap.size off nn (rs.drop k) w3 (by
        by_cases h16 : 16 = k
        · intro i hi; rw [hlen'] at hi; omega
        · rw [HOf.out, if_neg h16]; exact H3.out.drop k) s3 (by rw [hlen', hnn]; unfold maxLen; omega) (validCrate1_tests w3)
      rw [hlen', hnn] at HC
      refine HC.mono ?_
      clear HC
      rintro e w4 ⟨rfl, hb4⟩
      go_wp2_with fail
      go_ret
      exact ⟨by rw [HX.out, ← any_not]; rfl, below_call hB3 hb4⟩
end Go.Proofs.Ytfbflbiohbhmmaa
