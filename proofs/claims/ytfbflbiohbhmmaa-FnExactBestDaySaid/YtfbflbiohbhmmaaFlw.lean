/-
  The walk's laws for single precision: an operation hands back a word that is the plain function's up to the choice of a NaN, and draws at most once.
-/
import Derived.Test.YtfbflbiohbhmmaaFlt
namespace Go.Proofs.Ytfbflbiohbhmmaa
open Go.RowKit
namespace Fl

/-- The word that an operation leaves, as the tape chooses a NaN's bits. -/
def pickN (k : FloatKind) (w : World) (r : Option Nat) (x y : Nat) : Nat := match r with | some r => r | none => (Question.nanBits k x y).cut (w.tape w.drawn (.nanBits k x y))
def drawsN (r : Option Nat) : Nat := match r with | some _ => 0 | none => 1

def rAdd (w : World) (x y : Nat) : Nat := pickN .f32 w (Ieee.single.add x y) x y
def rSub (w : World) (x y : Nat) : Nat := pickN .f32 w (Ieee.single.sub x y) x y
def rMul (w : World) (x y : Nat) : Nat := pickN .f32 w (Ieee.single.mul x y) x y
def rDiv (w : World) (x y : Nat) : Nat := pickN .f32 w (Ieee.single.div x y) x y
def nAdd (x y : Nat) : Nat := drawsN (Ieee.single.add x y)
def nSub (x y : Nat) : Nat := drawsN (Ieee.single.sub x y)
def nMul (x y : Nat) : Nat := drawsN (Ieee.single.mul x y)
def nDiv (x y : Nat) : Nat := drawsN (Ieee.single.div x y)

theorem isNaN_cut (x y t : Nat) : isNaN ((Question.nanBits .f32 x y).cut t) = true := by
  have e : (Question.nanBits .f32 x y).cut t = (t % 2) * 2 ^ 31 + 2139095041 + (t / 2) % 8388607 := by
    show (t % 2) * 2 ^ 31 + 0x7f800000 + 1 + (t / 2) % (2 ^ 23 - 1) = _
    have : (t / 2) % (2 ^ 23 - 1) = (t / 2) % 8388607 := rfl
    omega
  rw [e]
  have h1 := Nat.mod_lt (t / 2) (show 0 < 8388607 by decide)
  have h2 : t % 2 = 0 ∨ t % 2 = 1 := by omega
  unfold isNaN Ieee.Format.read
  have sw : Ieee.single.signWeight = 2147483648 := by decide
  have bi : Ieee.single.binade = 8388608 := by decide
  have ir : Ieee.single.infRung = 2139095040 := by decide
  rw [sw, bi, ir]
  rcases h2 with h2 | h2 <;> rw [h2] <;> generalize (t / 2) % 8388607 = q at h1 ⊢
  · have m : (0 * 2 ^ 31 + 2139095041 + q) % 2147483648 = 2139095041 + q := by omega
    simp only [m]
    rw [if_neg (by omega), if_neg (by omega), if_neg (by omega)]; rfl
  · have m : (1 * 2 ^ 31 + 2139095041 + q) % 2147483648 = 2139095041 + q := by omega
    simp only [m]
    rw [if_neg (by omega), if_neg (by omega), if_neg (by omega)]; rfl

theorem canon_pick (w : World) (r : Option Nat) (x y : Nat) (hn : ∀ v, r = some v → canon v = v) : canon (pickN .f32 w r x y) = r.getD qnan := by
  cases r with
  | some v => exact hn v rfl
  | none => exact canon_of_nan (isNaN_cut x y _)

theorem run_add {P : Program} (w : World) (t : TypeId) (x y : Nat) : (binOp .add t (.float .f32 x) (.float .f32 y)).run P w = .ok (.float .f32 (rAdd w x y)) (w.drewN (nAdd x y)) := by
  unfold rAdd nAdd
  show (Op.floatArith .add .f32 x y).run P w = _
  cases h : Ieee.single.add x y with
  | some r => have h' : FloatKind.f32.format.add x y = some r := h; simp [Op.floatArith, h', pickN, drawsN, World.drewN_zero]
  | none => have h' : FloatKind.f32.format.add x y = none := h; simp [Op.floatArith, h', pickN, drawsN, choose, Sem.run, Question.forced, World.drewN]
theorem run_sub {P : Program} (w : World) (t : TypeId) (x y : Nat) : (binOp .sub t (.float .f32 x) (.float .f32 y)).run P w = .ok (.float .f32 (rSub w x y)) (w.drewN (nSub x y)) := by
  unfold rSub nSub
  show (Op.floatArith .sub .f32 x y).run P w = _
  cases h : Ieee.single.sub x y with
  | some r => have h' : FloatKind.f32.format.sub x y = some r := h; simp [Op.floatArith, h', pickN, drawsN, World.drewN_zero]
  | none => have h' : FloatKind.f32.format.sub x y = none := h; simp [Op.floatArith, h', pickN, drawsN, choose, Sem.run, Question.forced, World.drewN]
theorem run_mul {P : Program} (w : World) (t : TypeId) (x y : Nat) : (binOp .mul t (.float .f32 x) (.float .f32 y)).run P w = .ok (.float .f32 (rMul w x y)) (w.drewN (nMul x y)) := by
  unfold rMul nMul
  show (Op.floatArith .mul .f32 x y).run P w = _
  cases h : Ieee.single.mul x y with
  | some r => have h' : FloatKind.f32.format.mul x y = some r := h; simp [Op.floatArith, h', pickN, drawsN, World.drewN_zero]
  | none => have h' : FloatKind.f32.format.mul x y = none := h; simp [Op.floatArith, h', pickN, drawsN, choose, Sem.run, Question.forced, World.drewN]
theorem run_div {P : Program} (w : World) (t : TypeId) (x y : Nat) : (binOp .quo t (.float .f32 x) (.float .f32 y)).run P w = .ok (.float .f32 (rDiv w x y)) (w.drewN (nDiv x y)) := by
  unfold rDiv nDiv
  show (Op.floatArith .quo .f32 x y).run P w = _
  cases h : Ieee.single.div x y with
  | some r => have h' : FloatKind.f32.format.div x y = some r := h; simp [Op.floatArith, h', pickN, drawsN, World.drewN_zero]
  | none => have h' : FloatKind.f32.format.div x y = none := h; simp [Op.floatArith, h', pickN, drawsN, choose, Sem.run, Question.forced, World.drewN]

/-- What is written of a datum that is no NaN is no NaN. -/
theorem write_canon (d : Ieee.Datum) (h : d.isNaN = false) : canon (Ieee.single.write d) = Ieee.single.write d := by
  apply canon_of_not
  have sw : Ieee.single.signWeight = 2147483648 := by decide
  have bi : Ieee.single.binade = 8388608 := by decide
  have ir : Ieee.single.infRung = 2139095040 := by decide
  have key : ∀ (s : Bool) (k : Nat), k ≤ 2139095040 → isNaN (Ieee.single.word s k) = false := by
    intro s k hk
    unfold isNaN Ieee.Format.read Ieee.Format.word
    rw [sw, bi, ir]
    have m : (if s = true then 2147483648 + k else k) % 2147483648 = k := by split <;> omega
    simp only [m]
    split
    · rfl
    · split
      · rfl
      · rw [if_pos (by omega)]; rfl
  cases d with
  | nan s f => cases h
  | infinity s => exact key s _ (by rw [ir]; exact Nat.le_refl _)
  | number s m e =>
    show isNaN (Ieee.single.nearest s m e) = false
    unfold Ieee.Format.nearest
    split
    · exact key s 0 (by omega)
    · exact key s _ (by rw [ir]; exact Nat.min_le_right _ _)

theorem sum_notNaN {a b d : Ieee.Datum} (h : a.sum b = some d) : d.isNaN = false := by
  cases a <;> cases b <;> simp only [Ieee.Datum.sum] at h <;> (try split at h) <;> (try cases h) <;> rfl
theorem product_notNaN {a b d : Ieee.Datum} (h : a.product b = some d) : d.isNaN = false := by
  cases a <;> cases b <;> simp only [Ieee.Datum.product] at h <;> (try split at h) <;> (try cases h) <;> rfl
theorem quotient_notNaN {n : Nat} {a b d : Ieee.Datum} (h : a.quotient n b = some d) : d.isNaN = false := by
  cases a <;> cases b <;> simp only [Ieee.Datum.quotient] at h <;> (try split at h) <;> (try split at h) <;> (try cases h) <;> rfl

theorem canon_add {x y v : Nat} (h : Ieee.single.add x y = some v) : canon v = v := by
  unfold Ieee.Format.add at h
  obtain ⟨d, hd, rfl⟩ := Option.map_eq_some_iff.1 h
  exact write_canon d (sum_notNaN hd)
theorem canon_sub {x y v : Nat} (h : Ieee.single.sub x y = some v) : canon v = v := by
  unfold Ieee.Format.sub at h
  obtain ⟨d, hd, rfl⟩ := Option.map_eq_some_iff.1 h
  exact write_canon d (sum_notNaN hd)
theorem canon_mul {x y v : Nat} (h : Ieee.single.mul x y = some v) : canon v = v := by
  unfold Ieee.Format.mul at h
  obtain ⟨d, hd, rfl⟩ := Option.map_eq_some_iff.1 h
  exact write_canon d (product_notNaN hd)
theorem canon_div {x y v : Nat} (h : Ieee.single.div x y = some v) : canon v = v := by
  unfold Ieee.Format.div at h
  obtain ⟨d, hd, rfl⟩ := Option.map_eq_some_iff.1 h
  exact write_canon d (quotient_notNaN hd)

theorem canon_rAdd (w : World) (x y : Nat) : canon (rAdd w x y) = add x y := canon_pick w _ x y (fun _ h => canon_add h)
theorem canon_rSub (w : World) (x y : Nat) : canon (rSub w x y) = sub x y := canon_pick w _ x y (fun _ h => canon_sub h)
theorem canon_rMul (w : World) (x y : Nat) : canon (rMul w x y) = mul x y := canon_pick w _ x y (fun _ h => canon_mul h)
theorem canon_rDiv (w : World) (x y : Nat) : canon (rDiv w x y) = div x y := canon_pick w _ x y (fun _ h => canon_div h)
theorem canon_addv (x y : Nat) : canon (add x y) = add x y := by
  unfold add; cases h : Ieee.single.add x y with
  | some v => exact canon_add h
  | none => exact canon_of_nan isNaN_qnan
theorem canon_subv (x y : Nat) : canon (sub x y) = sub x y := by
  unfold sub; cases h : Ieee.single.sub x y with
  | some v => exact canon_sub h
  | none => exact canon_of_nan isNaN_qnan
theorem canon_mulv (x y : Nat) : canon (mul x y) = mul x y := by
  unfold mul; cases h : Ieee.single.mul x y with
  | some v => exact canon_mul h
  | none => exact canon_of_nan isNaN_qnan
theorem canon_divv (x y : Nat) : canon (div x y) = div x y := by
  unfold div; cases h : Ieee.single.div x y with
  | some v => exact canon_div h
  | none => exact canon_of_nan isNaN_qnan

/-- The laws for operands that were themselves chosen. -/
theorem add_of {u v x y : Nat} (hu : canon u = x) (hv : canon v = y) : add u v = add x y := by rw [← hu, ← hv, add_canon]
theorem sub_of {u v x y : Nat} (hu : canon u = x) (hv : canon v = y) : sub u v = sub x y := by rw [← hu, ← hv, sub_canon]
theorem mul_of {u v x y : Nat} (hu : canon u = x) (hv : canon v = y) : mul u v = mul x y := by rw [← hu, ← hv, mul_canon]
theorem div_of {u v x y : Nat} (hu : canon u = x) (hv : canon v = y) : div u v = div x y := by rw [← hu, ← hv, div_canon]

theorem binOp_eq (t : TypeId) (a b : Nat) : binOp .eql t (.float .f32 a) (.float .f32 b) = pure (.bool (eq a b)) := by simp [binOp, Op.floatCmp, eq]
theorem binOp_ne (t : TypeId) (a b : Nat) : binOp .neq t (.float .f32 a) (.float .f32 b) = pure (.bool (!eq a b)) := by simp [binOp, Op.floatCmp, eq, bne]
theorem binOp_lt (t : TypeId) (a b : Nat) : binOp .lss t (.float .f32 a) (.float .f32 b) = pure (.bool (lt a b)) := by simp [binOp, Op.floatCmp, lt]
theorem binOp_le (t : TypeId) (a b : Nat) : binOp .leq t (.float .f32 a) (.float .f32 b) = pure (.bool (le a b)) := by simp [binOp, Op.floatCmp, le]
theorem binOp_gt (t : TypeId) (a b : Nat) : binOp .gtr t (.float .f32 a) (.float .f32 b) = pure (.bool (gt a b)) := by simp [binOp, Op.floatCmp, gt]
theorem binOp_ge (t : TypeId) (a b : Nat) : binOp .geq t (.float .f32 a) (.float .f32 b) = pure (.bool (ge a b)) := by simp [binOp, Op.floatCmp, ge]

theorem run_store_float {P : Program} {w : World} {a : Addr} {m : Mode} (k : FloatKind) (b : Nat) : (store a (.float k b) m).run P w = stored P w a (.float k b) m := run_store P w a _ m rfl

attribute [go_sem] run_store_float
attribute [go_sem high] run_add run_sub run_mul run_div binOp_eq binOp_ne binOp_lt binOp_le binOp_gt binOp_ge
end Fl
end Go.Proofs.Ytfbflbiohbhmmaa
