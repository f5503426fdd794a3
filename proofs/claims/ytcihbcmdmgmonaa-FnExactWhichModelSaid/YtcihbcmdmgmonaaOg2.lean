/-
  Two appends in one statement: the region's law as the walk takes it.
-/
import Derived.Test.YtcihbcmdmgmonaaOg
namespace Go.Proofs.Ytcihbcmdmgmonaa
open Go.RowKit
namespace Og

def hm2 (g h : Nat) (t : Nat) : Nat := if t = 0 then g else h
theorem hm2_inj {g h : Nat} (hne : g ≠ h) (t : Nat) (ht : t ≤ 1) : ∀ t', t' ≠ t → t' ≤ 1 → hm2 g h t' ≠ hm2 g h t := by
  intro t' h1 h2
  rcases Nat.le_one_iff_eq_zero_or_eq_one.1 ht with rfl | rfl <;> rcases Nat.le_one_iff_eq_zero_or_eq_one.1 h2 with rfl | rfl
  · exact absurd rfl h1
  · exact fun h => hne h.symm
  · exact hne
  · exact absurd rfl h1
def tagB (l : List (Option Nat)) : Bool := l.all fun x => match x with | some t => decide (t ≤ 1) | none => true
theorem tagB_at {l : List (Option Nat)} (h : tagB l = true) (j t : Nat) (hj : l[j]? = some (some t)) : t ≤ 1 := by
  have := List.all_eq_true.1 h _ (List.mem_of_getElem? hj)
  simpa using this

section
variable {ops : Array Oper} {a : Act} {w : World} {base : Nat} {g h : Nat} {L : List Pr} {rs : List (Option (Nat × Value × List Nat))} {X : List Ex}

theorem part_app {i j1 j2 : Nat} {o : Oper} (hg : o.guard = none) (d1 d2 : Tmp) (ho : o.op = .call { callee := .builtin .append, args := #[.tmp d1, .tmp d2], argTypes := #[43, 43] })
    (t c : Nat) (v : Value) (es : List Nat) (x : Ex) (hx : X.getD i .no = x) (hxs : x = .no ∨ ∃ j0 t0 es0, x = .apart j0 ∧ Rg.waits .any o j0 = true ∧ L[j0]? = some (.row t0 es0) ∧ t0 ≠ t ∧ t0 ≤ 1) (hd : Rg.distinctD ops.toList = true) (hj1 : (ops.toList[j1]?).bind (·.dst) = some d1) (hj2 : (ops.toList[j2]?).bind (·.dst) = some d2) (hs1 : d1 < a.tmps.size) (hs2 : d2 < a.tmps.size)
    (hw1 : Rg.waits .any o j1 = true) (hw2 : Rg.waits .any o j2 = true) (hl1 : L[j1]? = some (.is v)) (hl2 : L[j2]? = some (.cell c)) (hi : L[i]? = some (.row t (es ++ [c]))) (hri : rs[i]? = some (some (t, v, es)))
    (hcl : clearB ops (L.map Pr.tag) i t = true) (hcr : clearR (rs.map fun x => x.map (·.1)) i t = true) (htb : tagB (L.map Pr.tag) = true) (hrb : tagB (rs.map fun x => x.map (·.1)) = true) (ht : t ≤ 1) (hne : g ≠ h) (hgN : g < w.heap.size) (hhN : h < w.heap.size) (hbase : base ≤ w.heap.size) (hlen : es.length ≤ 1048576) :
    Rg.Part Try.prog .any ops a (G2 (hm2 g h) w) (fun i vs u W => P_ w.heap.size base (hm2 g h) L i u W ∧ E_ X i vs u) (Rq w.heap.size base (hm2 g h) rs) i o :=
  part_append hg d1 d2 ho t c v es x hx hxs hd hj1 hj2 hs1 hs2 hw1 hw2 hl1 hl2 hi hri hcl hcr (hm2_inj hne t ht)
    (fun j t' hj => tagB_at htb j t' (by
      rw [List.getElem?_map]
      cases hq : L[j]? with
      | none => rw [hq] at hj; cases hj
      | some pr => rw [hq] at hj; simp at hj ⊢; exact hj))
    (fun j y hj => tagB_at hrb j y.1 (by
      rw [List.getD_eq_getElem?_getD] at hj
      rw [List.getElem?_map]
      cases hq : rs[j]? with
      | none => simp [hq] at hj
      | some z => simp [hq] at hj ⊢; exact ⟨y.2.1, y.2.2, hj⟩)) ht (by unfold hm2; split <;> assumption) hbase hlen

theorem og_region {rid : Nat} {Q : Exit → Act → World → Prop} (base g h : Nat) (L : List Pr) (rs : List (Option (Nat × Value × List Nat))) (X : List Ex) (hmix : (Try.prog).follows .mixedOrders = true)
    (hB : (Rg.distinctD ops.toList && Rg.backB .any ops && exB ops X) = true)
    (h0 : ∀ x ∈ rs.filterMap id, ∃ ws, w.ownsRow base 22 1 x.2.1 x.2.2.length (fL ws) ∧ IsFs ws x.2.2 ∧ x.2.1.ownBlock = some (hm2 g h x.1))
    (hparts : Rg.parts Try.prog .any ops a (G2 (hm2 g h) w) (fun i vs u W => P_ w.heap.size base (hm2 g h) L i u W ∧ E_ X i vs u) (Rq w.heap.size base (hm2 g h) rs) 0 ops.toList)
    (hfin : ∀ (vs : Nat → Value) (w' : World), G2 (hm2 g h) w w' → (∀ j, j < ops.size → P_ w.heap.size base (hm2 g h) L j (vs j) w' ∧ E_ X j vs (vs j)) → Q .normal (Rg.putAll vs 0 ops.toList a) w') :
    (Code.region rid ops true).wp Try.prog Q a w := by
  simp only [Bool.and_eq_true] at hB
  refine Rg.region_og (G2 (hm2 g h) w) (fun i vs u W => P_ w.heap.size base (hm2 g h) L i u W ∧ E_ X i vs u) (Rq w.heap.size base (hm2 g h) rs) hmix (fun i j vs v u W hw hp => ⟨hp.1, ex_loc hB.2 i j vs v u hw hp.2⟩)
    (by rw [hB.1.1, hB.1.2]; rfl) ⟨rfl, rfl, rfl, Nat.le_refl _, fun _ _ _ _ => rfl⟩ (fun j _ => ?_) hparts hfin
  unfold Rq
  cases hq : rs.getD j none with
  | none => trivial
  | some x =>
    have hm : x ∈ rs.filterMap id := by
      rw [List.mem_filterMap]
      refine ⟨some x, ?_, rfl⟩
      rw [List.getD_eq_getElem?_getD] at hq
      cases hr : rs[j]? with
      | none => rw [hr] at hq; cases hq
      | some y =>
        rw [hr] at hq
        have : y = some x := hq
        rw [← this]; exact List.mem_of_getElem? hr
    obtain ⟨ws, h1, h2, h3⟩ := h0 x hm
    exact ⟨ws, own_same h1 (fun _ _ => rfl), h2, h3, own_lt h1 h3⟩
end
end Og
end Go.Proofs.Ytcihbcmdmgmonaa
