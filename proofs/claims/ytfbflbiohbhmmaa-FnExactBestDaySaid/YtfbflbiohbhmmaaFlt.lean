/-
  Single precision words up to the choice of a NaN: what each operation of the program gives, as a plain function, and that it depends on its operands up to that choice alone.
-/
import Derived.WalkKit
import Derived.WalkSpells
import Derived.WalkLawsBesides
import Derived.Laws.FloatArith
import Derived.Deep.Draws
namespace Go.Proofs.Ytfbflbiohbhmmaa
open Go.RowKit

namespace Fl
/-- The NaN that stands for all of them. -/
def qnan : Nat := 2143289344
def isNaN (a : Nat) : Bool := (Ieee.single.read a).isNaN
/-- A word, every NaN being one and the same. -/
def canon (a : Nat) : Nat := if isNaN a then qnan else a
def add (a b : Nat) : Nat := (Ieee.single.add a b).getD qnan
def sub (a b : Nat) : Nat := (Ieee.single.sub a b).getD qnan
def mul (a b : Nat) : Nat := (Ieee.single.mul a b).getD qnan
def div (a b : Nat) : Nat := (Ieee.single.div a b).getD qnan
def lt (a b : Nat) : Bool := FloatKind.f32.format.order a b == some .lt
def le (a b : Nat) : Bool := FloatKind.f32.format.order a b == some .lt || FloatKind.f32.format.order a b == some .eq
def gt (a b : Nat) : Bool := FloatKind.f32.format.order a b == some .gt
def ge (a b : Nat) : Bool := FloatKind.f32.format.order a b == some .gt || FloatKind.f32.format.order a b == some .eq
def eq (a b : Nat) : Bool := FloatKind.f32.format.order a b == some .eq

theorem isNaN_qnan : isNaN qnan = true := by decide +kernel

theorem isNaN_of_read {a : Nat} {s : Bool} {f : Nat} (h : Ieee.single.read a = .nan s f) : isNaN a = true := by
  unfold isNaN; rw [h]; rfl

theorem read_nan {a : Nat} (h : isNaN a = true) : ∃ s f, Ieee.single.read a = .nan s f := by
  unfold isNaN at h
  cases hr : Ieee.single.read a with
  | nan s f => exact ⟨s, f, rfl⟩
  | number s m e => rw [hr] at h; cases h
  | infinity s => rw [hr] at h; cases h

theorem canon_of_nan {a : Nat} (h : isNaN a = true) : canon a = qnan := by unfold canon; rw [h]; rfl
theorem canon_of_not {a : Nat} (h : isNaN a = false) : canon a = a := by unfold canon; rw [h]; rfl

theorem isNaN_canon (a : Nat) : isNaN (canon a) = isNaN a := by
  cases h : isNaN a with
  | true => rw [canon_of_nan h, isNaN_qnan]
  | false => rw [canon_of_not h, h]

theorem canon_canon (a : Nat) : canon (canon a) = canon a := by
  cases h : isNaN a with
  | true => rw [canon_of_nan h, canon_of_nan isNaN_qnan]
  | false => rw [canon_of_not h, canon_of_not h]

/-- What a binary operation does: none where an operand is a NaN. -/
theorem add_nan_left {a b : Nat} (h : isNaN a = true) : Ieee.single.add a b = none := by
  obtain ⟨s, f, hr⟩ := read_nan h
  unfold Ieee.Format.add; rw [hr]; rfl
theorem add_nan_right {a b : Nat} (h : isNaN b = true) : Ieee.single.add a b = none := by
  obtain ⟨s, f, hr⟩ := read_nan h
  unfold Ieee.Format.add; rw [hr]; cases Ieee.single.read a <;> rfl
theorem sub_nan_left {a b : Nat} (h : isNaN a = true) : Ieee.single.sub a b = none := by
  obtain ⟨s, f, hr⟩ := read_nan h
  unfold Ieee.Format.sub; rw [hr]; rfl
theorem sub_nan_right {a b : Nat} (h : isNaN b = true) : Ieee.single.sub a b = none := by
  obtain ⟨s, f, hr⟩ := read_nan h
  unfold Ieee.Format.sub; rw [hr]; cases Ieee.single.read a <;> rfl
theorem mul_nan_left {a b : Nat} (h : isNaN a = true) : Ieee.single.mul a b = none := by
  obtain ⟨s, f, hr⟩ := read_nan h
  unfold Ieee.Format.mul; rw [hr]; rfl
theorem mul_nan_right {a b : Nat} (h : isNaN b = true) : Ieee.single.mul a b = none := by
  obtain ⟨s, f, hr⟩ := read_nan h
  unfold Ieee.Format.mul; rw [hr]; cases Ieee.single.read a <;> rfl
theorem div_nan_left {a b : Nat} (h : isNaN a = true) : Ieee.single.div a b = none := by
  obtain ⟨s, f, hr⟩ := read_nan h
  unfold Ieee.Format.div; rw [hr]; rfl
theorem div_nan_right {a b : Nat} (h : isNaN b = true) : Ieee.single.div a b = none := by
  obtain ⟨s, f, hr⟩ := read_nan h
  unfold Ieee.Format.div; rw [hr]; cases Ieee.single.read a <;> rfl
theorem order_nan_left {a b : Nat} (h : isNaN a = true) : FloatKind.f32.format.order a b = none := by
  obtain ⟨s, f, hr⟩ := read_nan h
  show Ieee.single.order a b = none
  unfold Ieee.Format.order; rw [hr]; rfl
theorem order_nan_right {a b : Nat} (h : isNaN b = true) : FloatKind.f32.format.order a b = none := by
  obtain ⟨s, f, hr⟩ := read_nan h
  show Ieee.single.order a b = none
  unfold Ieee.Format.order; rw [hr]; cases Ieee.single.read a <;> rfl

theorem bin_canon {g : Nat → Nat → Option Nat} (hl : ∀ a b, isNaN a = true → g a b = none) (hr : ∀ a b, isNaN b = true → g a b = none) (a b : Nat) :
    g (canon a) (canon b) = g a b := by
  cases ha : isNaN a with
  | true => rw [hl a b ha, canon_of_nan ha, hl _ _ isNaN_qnan]
  | false =>
    rw [canon_of_not ha]
    cases hb : isNaN b with
    | true => rw [hr a b hb, canon_of_nan hb, hr _ _ isNaN_qnan]
    | false => rw [canon_of_not hb]

theorem order_canon (a b : Nat) : FloatKind.f32.format.order (canon a) (canon b) = FloatKind.f32.format.order a b := by
  cases ha : isNaN a with
  | true => rw [order_nan_left ha, canon_of_nan ha, order_nan_left isNaN_qnan]
  | false =>
    rw [canon_of_not ha]
    cases hb : isNaN b with
    | true => rw [order_nan_right hb, canon_of_nan hb, order_nan_right isNaN_qnan]
    | false => rw [canon_of_not hb]
theorem add_canon (a b : Nat) : add (canon a) (canon b) = add a b := by
  unfold add; rw [bin_canon (g := Ieee.single.add) (fun _ _ h => add_nan_left h) (fun _ _ h => add_nan_right h)]
theorem sub_canon (a b : Nat) : sub (canon a) (canon b) = sub a b := by
  unfold sub; rw [bin_canon (g := Ieee.single.sub) (fun _ _ h => sub_nan_left h) (fun _ _ h => sub_nan_right h)]
theorem mul_canon (a b : Nat) : mul (canon a) (canon b) = mul a b := by
  unfold mul; rw [bin_canon (g := Ieee.single.mul) (fun _ _ h => mul_nan_left h) (fun _ _ h => mul_nan_right h)]
theorem div_canon (a b : Nat) : div (canon a) (canon b) = div a b := by
  unfold div; rw [bin_canon (g := Ieee.single.div) (fun _ _ h => div_nan_left h) (fun _ _ h => div_nan_right h)]
theorem lt_canon (a b : Nat) : lt (canon a) (canon b) = lt a b := by unfold lt; rw [order_canon]
theorem le_canon (a b : Nat) : le (canon a) (canon b) = le a b := by unfold le; rw [order_canon]
theorem gt_canon (a b : Nat) : gt (canon a) (canon b) = gt a b := by unfold gt; rw [order_canon]
theorem ge_canon (a b : Nat) : ge (canon a) (canon b) = ge a b := by unfold ge; rw [order_canon]
theorem eq_canon (a b : Nat) : eq (canon a) (canon b) = eq a b := by unfold eq; rw [order_canon]
theorem add_canon_left (a b : Nat) : add (canon a) b = add a b := by rw [← add_canon, canon_canon, add_canon]
theorem add_canon_right (a b : Nat) : add a (canon b) = add a b := by rw [← add_canon, canon_canon, add_canon]
theorem sub_canon_left (a b : Nat) : sub (canon a) b = sub a b := by rw [← sub_canon, canon_canon, sub_canon]
theorem sub_canon_right (a b : Nat) : sub a (canon b) = sub a b := by rw [← sub_canon, canon_canon, sub_canon]
theorem mul_canon_left (a b : Nat) : mul (canon a) b = mul a b := by rw [← mul_canon, canon_canon, mul_canon]
theorem mul_canon_right (a b : Nat) : mul a (canon b) = mul a b := by rw [← mul_canon, canon_canon, mul_canon]
theorem div_canon_left (a b : Nat) : div (canon a) b = div a b := by rw [← div_canon, canon_canon, div_canon]
theorem div_canon_right (a b : Nat) : div a (canon b) = div a b := by rw [← div_canon, canon_canon, div_canon]
theorem lt_canon_left (a b : Nat) : lt (canon a) b = lt a b := by rw [← lt_canon, canon_canon, lt_canon]
theorem lt_canon_right (a b : Nat) : lt a (canon b) = lt a b := by rw [← lt_canon, canon_canon, lt_canon]
theorem le_canon_left (a b : Nat) : le (canon a) b = le a b := by rw [← le_canon, canon_canon, le_canon]
theorem le_canon_right (a b : Nat) : le a (canon b) = le a b := by rw [← le_canon, canon_canon, le_canon]
theorem gt_canon_left (a b : Nat) : gt (canon a) b = gt a b := by rw [← gt_canon, canon_canon, gt_canon]
theorem gt_canon_right (a b : Nat) : gt a (canon b) = gt a b := by rw [← gt_canon, canon_canon, gt_canon]
theorem ge_canon_left (a b : Nat) : ge (canon a) b = ge a b := by rw [← ge_canon, canon_canon, ge_canon]
theorem ge_canon_right (a b : Nat) : ge a (canon b) = ge a b := by rw [← ge_canon, canon_canon, ge_canon]
theorem eq_canon_left (a b : Nat) : eq (canon a) b = eq a b := by rw [← eq_canon, canon_canon, eq_canon]
theorem eq_canon_right (a b : Nat) : eq a (canon b) = eq a b := by rw [← eq_canon, canon_canon, eq_canon]

/-- The word of a comparison with itself. -/
theorem eq_self (a : Nat) : eq a a = !isNaN a := by
  unfold eq isNaN
  show (Ieee.single.order a a == some .eq) = _
  unfold Ieee.Format.order
  cases Ieee.single.read a with
  | nan s f => rfl
  | infinity s => cases s <;> rfl
  | number s m e =>
    simp only [Ieee.Datum.order, Ieee.Datum.isNaN]
    rw [show compare (Ieee.signed s m (e - min e e).toNat) (Ieee.signed s m (e - min e e).toNat) = .eq from by simp]
    rfl
end Fl
end Go.Proofs.Ytfbflbiohbhmmaa
