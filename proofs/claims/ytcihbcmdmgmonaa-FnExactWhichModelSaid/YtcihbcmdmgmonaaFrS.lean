/-
  How an argument that is a slice of pairs of numbers is opened.
-/
import Derived.Test.YtcihbcmdmgmonaaBase
import Derived.Test.YtcihbcmdmgmonaaFrame
import Derived.Deep.Slices
namespace Go.Proofs.Ytcihbcmdmgmonaa
open Go.ChangeShapes Go.WideShapes Go.ChangeAt Go.RowKit

namespace Fr
theorem trod_float {H : Type} {enc : TypeId × Value → H} {P : Program} {w : World} {base : Nat} {spare : Nat → Bool} {held : Bool} {t : TypeId} {k : FloatKind} {fuel : Nat} {cs : List Value} {x : DataW H × List MemPlace}
    (ht : P.underlying t = some (.float k)) (h : DataW.trod enc P w base spare held fuel t cs = some x) : ∃ b, cs = [.float k b] := by
  cases fuel with
  | zero => simp [DataW.trod] at h
  | succ n =>
    simp only [DataW.trod, ht] at h
    split at h <;> simp_all

theorem open_pairs {H : Type} {enc : TypeId × Value → H} {P : Program} {W : World} {base : Nat} {t e f : TypeId} {v : Value} {d : DataW H} {p : List MemPlace} (hte : P.underlying t = some (.slice e)) (hc2 : P.cellsOf e = 2)
    (hst : ∃ f0 f1 : Field, P.underlying e = some (.struct #[f0, f1]) ∧ (f0.type == f && f0.offset == 0 && f1.type == f && f1.offset == 1 && P.cellsOf f == 1) = true) (hf : P.underlying f = some (.float .f32))
    (hval : Value.okWide P W .any base t v) (h : DataW.Trod enc P W 0 (fun _ => true) true t v d p) :
    ∃ (ds : List (Nat × Nat)) (ad : Option Addr) (cap : Nat), v = .slice ad ds.length cap ∧ SlD W ad ds ∧ ds.length ≤ maxLen := by
  obtain ⟨a0, len, cap, rfl⟩ := okWide_slice hte hval
  obtain ⟨fuel, hfu⟩ := h
  obtain ⟨f0, f1, hst, hff⟩ := hst
  simp only [Bool.and_eq_true, beq_iff_eq] at hff
  obtain ⟨⟨⟨⟨g1, g2⟩, g3⟩, g4⟩, g5⟩ := hff
  rcases Go.Deep.open_slice hte hfu with ⟨h1, _⟩ | ⟨a, len', cap', m, n, D, Pl, h1, _, hlc, hcm, hm, _, hx⟩
  · simp [Value.cells] at h1
    obtain ⟨rfl, rfl, rfl⟩ := h1
    exact ⟨[], none, 0, rfl, .inl rfl, Nat.zero_le _⟩
  · simp [Value.cells] at h1
    obtain ⟨rfl, rfl, rfl⟩ := h1
    simp only [if_true] at hm
    subst hm
    by_cases h0 : len = 0
    · subst h0
      exact ⟨[], some a, m, rfl, .inl rfl, Nat.zero_le _⟩
    · have key : ∀ i, i < len → ∃ q : Nat × Nat, W.cell? (a.add (i * 2)) = some (.float .f32 q.1) ∧ W.cell? ((a.add (i * 2)).add 1) = some (.float .f32 q.2) := by
        intro i hi
        obtain ⟨cs', h2, h3⟩ := hx i (by omega)
        rw [hc2] at h2
        obtain ⟨_, hl, hcell⟩ := World.cells?_some h2
        obtain ⟨y0, y1, n', _, _, h4, h5⟩ := trod_struct2 hst h3
        match cs', hl with
        | [u, v], _ =>
          rw [g1, g2, g5] at h4
          rw [g3, g4, g5] at h5
          obtain ⟨b0, hb0⟩ := trod_float hf h4
          obtain ⟨b1, hb1⟩ := trod_float hf h5
          simp at hb0 hb1
          subst hb0
          subst hb1
          refine ⟨(b0, b1), ?_, ?_⟩
          · have := hcell 0 (by omega)
            simpa [Addr.add] using this
          · have := hcell 1 (by omega)
            simpa using this
      have hspot : a.spot = none := by
        obtain ⟨q, hq, _⟩ := key 0 (by omega)
        simp only [Nat.zero_mul, Addr.add, if_true] at hq
        unfold World.cell? at hq
        split at hq
        · split at hq
          · cases hq
          · rename_i hs; simpa using hs
        · cases hq
      obtain ⟨b, o, sp⟩ := a
      simp only at hspot
      subst hspot
      obtain ⟨F, hF⟩ := Classical.axiomOfChoice (r := fun (i : Nat) (q : Nat × Nat) => i < len → W.cell? ((⟨b, o, none⟩ : Addr).add (i * 2)) = some (.float .f32 q.1) ∧ W.cell? (((⟨b, o, none⟩ : Addr).add (i * 2)).add 1) = some (.float .f32 q.2)) (fun i => by
        by_cases hi : i < len
        · obtain ⟨q, hq⟩ := key i hi; exact ⟨q, fun _ => hq⟩
        · exact ⟨(0, 0), fun h => absurd h hi⟩)
      have hlen : ((List.range len).map F).length = len := by simp
      have hH : HoldsD W b o ((List.range len).map F) := by
        intro i hi
        rw [hlen] at hi
        have := hF i hi
        have hg : ((List.range len).map F).getD i (0, 0) = F i := by simp [hi]
        rw [hg]
        have e1 : (⟨b, o, none⟩ : Addr).add (i * 2) = ⟨b, o + i * 2, none⟩ := by unfold Addr.add; split <;> simp_all
        have e2 : (⟨b, o + i * 2, none⟩ : Addr).add 1 = ⟨b, o + i * 2 + 1, none⟩ := rfl
        rw [e1, e2] at this
        exact this
      refine ⟨(List.range len).map F, some ⟨b, o, none⟩, m, by rw [hlen], .inr ⟨b, o, rfl, ?_, hH⟩, by rw [hlen]; omega⟩
      have := (hH 0 (by rw [hlen]; omega)).1
      exact World.block_lt_of_cell? W _ this
end Fr
end Go.Proofs.Ytcihbcmdmgmonaa
