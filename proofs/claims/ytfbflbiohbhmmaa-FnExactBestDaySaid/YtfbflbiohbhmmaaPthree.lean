/-
  The code of a crate, air, prices and days: what both programs answer.
-/
import Derived.Test.YtfbflbiohbhmmaaPgrow
namespace Go.Proofs.Ytfbflbiohbhmmaa
open Go.RowKit

def vAir (a g : Nat) : Bool := vPart a && vPart g
def daysN (n : Int) : Bool := decide (0 ≤ n) && decide (n ≤ 200)
def wbOk (c : Int) (rs : List Nat) (a g : Nat) (ps : List Nat) : Bool := vCrate c rs && vAir a g && vPrices ps
def wbCode (c : Int) (rs : List Nat) (a g : Nat) (ps : List Nat) (fine : Bool) : Int := if wbOk c rs a g ps then if fine then 0 else 2 else 1

set_option maxHeartbeats 400000 in
theorem l01Days_calls (n : Int) (w : World) :
    Calls Try.prog 53 #[.int .i64 n] w fun e w' => e = .returned (.bool (daysN n)) ∧ w' = w := by
  go_enter Try.func53, Try.ntmps53
  go_wp2_with fail
  refine (l00In_calls _ _ _ _).mono ?_
  rintro e w1 ⟨rfl, rfl⟩
  go_wp2_with fail
  go_ret
  exact ⟨rfl, rfl⟩
set_option maxHeartbeats 400000 in
theorem isDays_calls (n : Int) (w : World) :
    Calls Try.prog 61 #[.int .i64 n] w fun e w' => e = .returned (.bool (daysN n)) ∧ w' = w := by
  go_enter Try.func61, Try.ntmps61
  go_wp2_with fail
  refine (within_calls _ _ _ _).mono ?_
  rintro e w1 ⟨rfl, rfl⟩
  go_wp2_with fail
  go_ret
  exact ⟨rfl, rfl⟩

set_option maxHeartbeats 400000 in
theorem l01Air_calls (b a g : Nat) (w : World) (h0 : w.cell? ⟨b, 0, none⟩ = some (.float .f32 a)) (h1 : w.cell? ⟨b, 1, none⟩ = some (.float .f32 g)) :
    Calls Try.prog 84 #[.pointer (some ⟨b, 0, none⟩)] w fun e w' => e = .returned (.bool (vAir a g)) ∧ w' = w := by
  cases ha : vPart a <;> cases hb : vPart g
  all_goals
    have HR : Hid (vAir a g = (vPart a && vPart g)) := rfl
    have H0 := Lib.hid ha
    have H1 := Lib.hid hb
    clear ha hb
    go_enter Try.func84, Try.ntmps84
    go_wp2_with fail
    refine (l01Part_calls _ _).mono ?_
    rintro e w' ⟨rfl, rfl⟩
    rw [H0.out]
    go_wp2_with fail
    first | (refine (l01Part_calls _ _).mono ?_; rintro e w' ⟨rfl, rfl⟩; rw [H1.out]; go_wp2_with fail) | skip
    go_ret
    exact ⟨by rw [HR.out, H0.out, H1.out]; rfl, rfl⟩

set_option maxHeartbeats 400000 in
theorem implValidAir_calls (a b : Nat) (w : World) :
    Calls Try.prog 85 #[.agg #[.float .f32 a, .float .f32 b]] w (RetBool (vAir a b) w) := by
  go_enter Try.func85, Try.ntmps85
  go_wp2_with fail
  refine (areParts_calls (w.heap.size + 1) 0 2 [a, b] _ ?_ (by simp) (by simp [maxLen])).mono ?_
  · intro i hi
    match i, hi with
    | 0, _ => simp [go_sem]
    | 1, _ => simp [go_sem]
  rintro e w1 ⟨rfl, hb1⟩
  go_wp2_with fail
  go_ret
  exact ⟨by simp [vAir], below_call (below_a2 _ _ _) hb1⟩

set_option maxHeartbeats 400000 in
theorem toAir_calls (s b : Nat) (w : World) :
    Calls Try.prog 18 #[.agg #[.float .f32 s, .float .f32 b]] w (Ret (.agg #[.float .f32 s, .float .f32 b]) w) := by
  go_enter Try.func18, Try.ntmps18
  go_wp2
  exact bodyPost_ret (v := .agg #[.float .f32 s, .float .f32 b]) (by simp [results, Try.results18, go_sem]) rfl ⟨rfl, below_a3 _ _ _ _⟩

set_option maxHeartbeats 1000000 in
theorem l05Three_calls (gc ga gp : Nat) (c : Int) (rs : List Nat) (a g : Nat) (ps : List Nat) (fine : Bool) (hr : rs.length = 16) (hlo : -128 ≤ c) (hhi : c ≤ 127) (hp : ps.length = 8) (w : World)
    (h1 : Mem.Blk w gc (crL c rs) 36) (h2 : Mem.Blk w ga [.float .f32 a, .float .f32 g] 42) (h3 : Mem.Blk w gp (fL ps) 26) :
    Calls Try.prog 52 #[.pointer (some ⟨gc, 0, none⟩), .pointer (some ⟨ga, 0, none⟩), .pointer (some ⟨gp, 0, none⟩), .bool fine] w fun e w' => e = .returned (.int .i64 (wbCode c rs a g ps fine)) ∧ w' = w := by
  have HC : Hid (wbCode c rs a g ps fine = if vCrate c rs && vAir a g && vPrices ps then if fine then 0 else 2 else 1) := rfl
  have HR := Lib.hid hr
  have HP := Lib.hid hp
  have H1 := Lib.hid h1
  have H2 := Lib.hid h2
  have H3 := Lib.hid h3
  clear hr hp h1 h2 h3
  generalize wbCode c rs a g ps fine = cd at HC
  go_enter Try.func52, Try.ntmps52
  go_wp2_with fail
  refine (l01Crate_calls gc 0 c rs HR.out hlo hhi _ (H1.out.cell 0) (HoldsF.of_crL H1.out)).mono ?_
  rintro e w1 ⟨rfl, rfl⟩
  cases hv : vCrate c rs
  · have HV := Lib.hid hv
    clear hv
    go_wp2_with fail
    go_ret
    exact ⟨by rw [HC.out, HV.out]; rfl, rfl⟩
  · have HV := Lib.hid hv
    clear hv
    go_wp2_with fail
    refine (l01Air_calls ga a g _ (H2.out.cell 0) (H2.out.cell 1)).mono ?_
    rintro e w2 ⟨rfl, rfl⟩
    cases hu : vAir a g
    · have HU := Lib.hid hu
      clear hu
      go_wp2_with fail
      go_ret
      exact ⟨by rw [HC.out, HV.out, HU.out]; rfl, rfl⟩
    · have HU := Lib.hid hu
      clear hu
      go_wp2_with fail
      refine (l05Prices_calls gp ps HP.out _ (HoldsF.of_blk H3.out (fun _ _ => rfl)) H3.out.lt).mono ?_
      rintro e w3 ⟨rfl, rfl⟩
      cases hq : vPrices ps
      · have HQ := Lib.hid hq
        clear hq
        go_wp2_with fail
        go_ret
        exact ⟨by rw [HC.out, HV.out, HU.out, HQ.out]; rfl, rfl⟩
      · have HQ := Lib.hid hq
        clear hq
        cases fine
        · go_wp2_with fail
          go_ret
          exact ⟨by rw [HC.out, HV.out, HU.out, HQ.out]; rfl, rfl⟩
        · go_wp2_with fail
          go_ret
          exact ⟨by rw [HC.out, HV.out, HU.out, HQ.out]; rfl, rfl⟩

set_option maxHeartbeats 1000000 in
theorem worthCode_calls (c : Int) (rs : List Nat) (a g : Nat) (ps : List Nat) (n : Int) (hr : rs.length = 16) (hlo : -128 ≤ c) (hhi : c ≤ 127) (hp : ps.length = 8) (w : World) :
    Calls Try.prog 56 #[.agg (crL c rs).toArray, .agg #[.float .f32 a, .float .f32 g], .agg (fL ps).toArray, .int .i64 n] w (RetInt (wbCode c rs a g ps (daysN n)) w) := by
  have HC : Hid (wbCode c rs a g ps (daysN n) = if vCrate c rs && vAir a g && vPrices ps then if daysN n then 0 else 2 else 1) := rfl
  have HR := Lib.hid hr
  have HP := Lib.hid hp
  clear hr hp
  generalize wbCode c rs a g ps (daysN n) = cd at HC
  go_enter Try.func56, Try.ntmps56
  go_upto_region 1 with (fail)
  generalize hw1 : ((w.alloc _).alloc _).alloc _ = w1
  have h1 : Mem.Blk w1 w.heap.size (crL c rs) 36 := hw1 ▸ ((Mem.Blk.new w _ _).alloc _).alloc _
  have h2 : Mem.Blk w1 (w.heap.size + 1) [.float .f32 a, .float .f32 g] 42 := hw1 ▸ (Mem.Blk.new1 w _ _ _).alloc _
  have h3 : Mem.Blk w1 (w.heap.size + 1 + 1) (fL ps) 26 := hw1 ▸ (Mem.Blk.new2 w _ _ _ _)
  have hb : Below w.heap.size w w1 := hw1 ▸ below_a3 w _ _ _
  clear hw1
  have H1 := Lib.hid h1
  have H2 := Lib.hid h2
  have H3 := Lib.hid h3
  have s1 := h1.lt
  clear h1 h2 h3
  go_wp2_with (with_reducible refine Mem.wpList_loadA rfl 36 _ rfl w.heap.size 0 rfl (crL c rs) _ Try.underlying36 rfl (by rw [crL_length, HR.out]; kernel_rfl) (fun j v h => by rw [Nat.zero_add, H1.out.cell]; exact h) ?_)
  refine (implValidCrate_calls c rs HR.out hlo hhi w1).mono ?_
  rintro e w2 ⟨rfl, hb2⟩
  have hB2 := below_call hb hb2
  have H2 := Lib.hid (H2.out.below hb2 H2.out.lt)
  have H3 := Lib.hid (H3.out.below hb2 H3.out.lt)
  clear hb hb2 s1 H1
  have s2 := H2.out.lt
  have s3 := H3.out.lt
  cases hv : vCrate c rs
  · have HV := Lib.hid hv
    clear hv
    go_wp2_with fail
    go_ret
    exact ⟨by rw [HC.out, HV.out]; rfl, hB2⟩
  · have HV := Lib.hid hv
    clear hv
    go_wp2_with (with_reducible refine Mem.wpList_loadG rfl 42 _ rfl (w.heap.size + 1) 0 rfl [.float .f32 a, .float .f32 g] _ Try.underlying42 rfl (by kernel_rfl) (fun j v h => by rw [Nat.zero_add, H2.out.cell]; exact h) ?_)
    refine (implValidAir_calls a g _).mono ?_
    rintro e w3 ⟨rfl, hb3⟩
    have hB3 := below_call hB2 hb3
    have H3 := Lib.hid (H3.out.below hb3 s3)
    have s3 := H3.out.lt
    clear hB2 hb3 s2 H2
    cases hu : vAir a g
    · have HU := Lib.hid hu
      clear hu
      go_wp2_with fail
      go_ret
      exact ⟨by rw [HC.out, HV.out, HU.out]; rfl, hB3⟩
    · have HU := Lib.hid hu
      clear hu
      go_wp2_with (with_reducible refine Mem.wpList_loadG rfl 26 _ rfl (w.heap.size + 1 + 1) 0 rfl (fL ps) _ Try.underlying26 rfl (by rw [fL_length, HP.out]; kernel_rfl) (fun j v h => by rw [Nat.zero_add, H3.out.cell]; exact h) ?_)
      refine (implValidPrices_calls ps HP.out _).mono ?_
      rintro e w4 ⟨rfl, hb4⟩
      have hB4 := below_call hB3 hb4
      clear hB3 hb4 s3 H3
      cases hq : vPrices ps
      · have HQ := Lib.hid hq
        clear hq
        go_wp2_with fail
        go_ret
        exact ⟨by rw [HC.out, HV.out, HU.out, HQ.out]; rfl, hB4⟩
      · have HQ := Lib.hid hq
        clear hq
        go_wp2_with fail
        refine (isDays_calls n _).mono ?_
        rintro e w5 ⟨rfl, rfl⟩
        cases hd : daysN n
        · rw [hd] at HC
          clear hd
          go_wp2_with fail
          go_ret
          exact ⟨by rw [HC.out, HV.out, HU.out, HQ.out]; rfl, hB4⟩
        · rw [hd] at HC
          clear hd
          go_wp2_with fail
          go_ret
          exact ⟨by rw [HC.out, HV.out, HU.out, HQ.out]; rfl, hB4⟩

theorem wb_zero {c : Int} {rs : List Nat} {a g : Nat} {ps : List Nat} {fine : Bool} (h : wbCode c rs a g ps fine = 0) : (∃ k : Nat, c = (k : Int) ∧ k ≤ 16 ∧ ∀ i, i < k → vPart (rs.getD i 0) = true) ∧ vPart a = true ∧ vPart g = true ∧ fine = true := by
  unfold wbCode wbOk at h
  cases h1 : vCrate c rs <;> cases h2 : vAir a g <;> cases h3 : vPrices ps <;> cases fine <;> rw [h1, h2, h3] at h <;> simp at h
  obtain ⟨h4, h5⟩ := Bool.and_eq_true_iff.1 h2
  exact ⟨vCrate_nat h1, h4, h5, rfl⟩
theorem days_nat {n : Int} (h : daysN n = true) : ∃ m : Nat, n = m ∧ m ≤ 200 := by
  unfold daysN at h
  obtain ⟨h1, h2⟩ := Bool.and_eq_true_iff.1 h
  have h1 := of_decide_eq_true h1
  have h2 := of_decide_eq_true h2
  exact ⟨n.toNat, by omega, by omega⟩
end Go.Proofs.Ytfbflbiohbhmmaa
