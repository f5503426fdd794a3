/-
  Two appends of numbers in one statement, in whatever order: what is known of each operation's value.
-/
import Derived.Test.YtcihbcmdmgmonaaReg3
import Derived.Test.YtcihbcmdmgmonaaRegT
import Derived.Test.YtcihbcmdmgmonaaFs
import Derived.Maps.AppendAt
namespace Go.Proofs.Ytcihbcmdmgmonaa
open Go.RowKit
namespace Og

/-- What is known of a value: it is this one; a number but for what a NaN bears; a new cell that holds such a number; a slice of the call's own, by its home. -/
inductive Pr where
  | is (v : Value)
  | fl (c : Nat)
  | cell (c : Nat)
  | row (t : Nat) (es : List Nat)

def Pr.tag : Pr → Option Nat
  | .row t _ => some t
  | _ => none

section
variable (N base : Nat) (hm : Nat → Nat)
def Row (t : Nat) (es : List Nat) (u : Value) (w : World) : Prop :=
  ∃ ws h, w.ownsRow base 22 1 u es.length (fL ws) ∧ IsFs ws es ∧ u.ownBlock = some h ∧ (h = hm t ∨ N ≤ h) ∧ h < w.heap.size
def Pr.holds (pr : Pr) (u : Value) (w : World) : Prop := match pr with
  | .is v => u = v
  | .fl c => ∃ z, u = .float .f32 z ∧ Fl.canon z = Fl.canon c
  | .cell c => ∃ b z, u = .slice (some ⟨b, 0, none⟩) 1 1 ∧ N ≤ b ∧ Mem.Blk w b [.float .f32 z] 22 ∧ Fl.canon z = Fl.canon c
  | .row t es => Row N base hm t es u w

/-- What an append needs till it is run: its slice. -/
def Rq (rs : List (Option (Nat × Value × List Nat))) (i : Nat) (w : World) : Prop := match rs.getD i none with
  | some (t, v, es) => ∃ ws, w.ownsRow base 22 1 v es.length (fL ws) ∧ IsFs ws es ∧ v.ownBlock = some (hm t) ∧ hm t < N
  | none => True

/-- Blocks that were there, but for these two, are as they were. -/
structure G2 (wq w : World) : Prop where
  os : w.os = wq.os
  tape : w.tape = wq.tape
  output : w.output = wq.output
  size : wq.heap.size ≤ w.heap.size
  other : ∀ k, k < wq.heap.size → k ≠ hm 0 → k ≠ hm 1 → w.heap[k]? = wq.heap[k]?
end

/-- What is known of a value beside others: it is another's; its home is not another's. -/
inductive Ex where
  | no
  | eqv (j : Nat)
  | apart (j : Nat)
def Ex.holds (x : Ex) (vs : Nat → Value) (u : Value) : Prop := match x with
  | .no => True
  | .eqv j => u = vs j
  | .apart j => ∀ h h', (vs j).ownBlock = some h → u.ownBlock = some h' → h ≠ h'
def E_ (X : List Ex) (i : Nat) (vs : Nat → Value) (u : Value) : Prop := (X.getD i .no).holds vs u
def exB (ops : Array Oper) (X : List Ex) : Bool := (List.range X.length).all fun j => match X.getD j .no with
  | .no => true
  | .eqv k => Rg.waitsAt .any ops j k
  | .apart k => Rg.waitsAt .any ops j k
theorem ex_loc {ops : Array Oper} {X : List Ex} (hX : exB ops X = true) (i j : Nat) (vs : Nat → Value) (v u : Value) (hw : Rg.waitsAt .any ops j i = false) (h : E_ X j vs u) : E_ X j (Rg.setV vs i v) u := by
  unfold E_ at *
  by_cases hj : j < X.length
  · have h1 := List.all_eq_true.1 hX j (List.mem_range.2 hj)
    cases hq : X.getD j .no with
    | no => trivial
    | eqv k =>
      rw [hq] at h h1
      have hk : k ≠ i := by intro hk; rw [hk] at h1; exact absurd (hw.symm.trans h1) (by decide)
      show u = Rg.setV vs i v k
      rw [show Rg.setV vs i v k = vs k by simp [Rg.setV, hk]]
      exact h
    | apart k =>
      rw [hq] at h h1
      have hk : k ≠ i := by intro hk; rw [hk] at h1; exact absurd (hw.symm.trans h1) (by decide)
      show ∀ h h', (Rg.setV vs i v k).ownBlock = some h → _
      rw [show Rg.setV vs i v k = vs k by simp [Rg.setV, hk]]
      exact h
  · have : X.getD j .no = .no := by simp [List.getElem?_eq_none (Nat.le_of_not_lt hj)]
    rw [this]; trivial

theorem own_same {w w' : World} {base : Nat} {e : TypeId} {size : Nat} {v : Value} {n : Nat} {xs : List Value} (h : w.ownsRow base e size v n xs) (hb : ∀ k, v.ownBlock = some k → w'.heap[k]? = w.heap[k]?) : w'.ownsRow base e size v n xs := by
  obtain ⟨h1, h2⟩ := h
  refine ⟨h1, ?_⟩
  rcases h2 with h2 | ⟨g, cap, cur, hv, hbg, hg, rest⟩
  · exact .inl h2
  · exact .inr ⟨g, cap, cur, hv, hbg, (hb g (by rw [hv]; rfl)).trans hg, rest⟩
theorem own_lt {w : World} {base : Nat} {e : TypeId} {size : Nat} {v : Value} {n : Nat} {xs : List Value} {k : Nat} (h : w.ownsRow base e size v n xs) (hk : v.ownBlock = some k) : k < w.heap.size := by
  rcases h.2 with ⟨rfl, _⟩ | ⟨g, cap, cur, rfl, hbg, hg, rest⟩
  · cases hk
  · simp [Value.ownBlock] at hk; subst hk; exact (Array.getElem?_eq_some_iff.1 hg).1

section
variable {N base : Nat} {hm : Nat → Nat}

/-- Where the blocks that matter are as they were, what is known stays. -/
theorem holds_keep {pr : Pr} {u : Value} {w w' : World} (h : pr.holds N base hm u w) (hk : ∀ k, k < w.heap.size → (N ≤ k ∨ ∃ t, pr.tag = some t ∧ k = hm t) → w'.heap[k]? = w.heap[k]?) (hs : w.heap.size ≤ w'.heap.size) : pr.holds N base hm u w' := by
  cases pr with
  | is v => exact h
  | fl c => exact h
  | cell c =>
    obtain ⟨b, z, h1, h2, h3, h4⟩ := h
    exact ⟨b, z, h1, h2, (hk b h3.lt (.inl h2)).trans h3, h4⟩
  | row t es =>
    obtain ⟨ws, g, h1, h2, h3, h4, h5⟩ := h
    refine ⟨ws, g, own_same h1 (fun k hk' => ?_), h2, h3, h4, Nat.lt_of_lt_of_le h5 hs⟩
    rw [h3] at hk'
    cases hk'
    refine hk g h5 ?_
    rcases h4 with h4 | h4
    · exact .inr ⟨t, rfl, h4⟩
    · exact .inl h4
theorem rq_keep {rs : List (Option (Nat × Value × List Nat))} {i : Nat} {w w' : World} (h : Rq N base hm rs i w) (hk : ∀ k, k < w.heap.size → (∃ x, rs.getD i none = some x ∧ k = hm x.1) → w'.heap[k]? = w.heap[k]?) : Rq N base hm rs i w' := by
  unfold Rq at *
  cases hr : rs.getD i none with
  | none => trivial
  | some x =>
    obtain ⟨t, v, es⟩ := x
    rw [hr] at h
    obtain ⟨ws, h1, h2, h3, h4⟩ := h
    exact ⟨ws, own_same h1 (fun k hk' => by rw [h3] at hk'; cases hk'; exact hk _ (own_lt h1 h3) ⟨_, hr, rfl⟩), h2, h3, h4⟩
end

section
variable {ops : Array Oper} {a : Act} {wq : World} {base : Nat} {hm : Nat → Nat} {L : List Pr} {rs : List (Option (Nat × Value × List Nat))} {X : List Ex}

def P_ (N base : Nat) (hm : Nat → Nat) (L : List Pr) (i : Nat) (u : Value) (w : World) : Prop := match L[i]? with
  | some pr => pr.holds N base hm u w
  | none => True
theorem P_at {N i : Nat} {pr : Pr} {u : Value} {w : World} (hi : L[i]? = some pr) (h : P_ N base hm L i u w) : pr.holds N base hm u w := by
  unfold P_ at h; rw [hi] at h; exact h
theorem P_of {N i : Nat} {pr : Pr} {u : Value} {w : World} (hi : L[i]? = some pr) (h : pr.holds N base hm u w) : P_ N base hm L i u w := by
  unfold P_; rw [hi]; exact h

theorem P_keep {N j : Nat} {u : Value} {w w' : World} (h : P_ N base hm L j u w) (hk : ∀ pr, L[j]? = some pr → pr.holds N base hm u w → pr.holds N base hm u w') : P_ N base hm L j u w' := by
  unfold P_ at *
  cases hq : L[j]? with
  | none => trivial
  | some pr => rw [hq] at h; exact hk pr hq h

theorem ev_op {vs : Nat → Value} (hd : Rg.distinctD ops.toList = true) (i : Nat) (d : Tmp) (h : (ops.toList[i]?).bind (·.dst) = some d) (hs : d < a.tmps.size) : (Rg.putAll vs 0 ops.toList a).eval (.tmp d) = vs i := by
  have := Rg.putAll_at vs d ops.toList 0 i a hd h hs
  rw [Nat.zero_add] at this
  exact this
theorem ev_old {vs : Nat → Value} (d : Tmp) (h : (ops.toList.all fun o => o.dst != some d) = true) : (Rg.putAll vs 0 ops.toList a).eval (.tmp d) = a.tmps.getD d undef :=
  Rg.putAll_keep vs d ops.toList 0 a h

theorem G2.drewN {w : World} (h : G2 hm wq w) (n : Nat) : G2 hm wq (w.drewN n) := ⟨h.os, h.tape, h.output, h.size, h.other⟩

/-- An operation that turns nothing but the draws. -/
theorem part_pure {i : Nat} {o : Oper} (hg : o.guard = none) (x : Ex) (hx : X.getD i .no = x)
    (h : ∀ (vs : Nat → Value) (w : World), G2 hm wq w → (∀ j, Rg.waits .any o j = true → P_ wq.heap.size base hm L j (vs j) w) → (∀ j, Rg.waitsAt .any ops j i = true → vs j = Rg.old a ops j) →
      ∃ v n, (execOp (Rg.putAll vs 0 ops.toList a).eval o).run Try.prog w = .ok (.value v) (w.drewN n) ∧ P_ wq.heap.size base hm L i v (w.drewN n) ∧ x.holds vs v) :
    Rg.Part Try.prog .any ops a (G2 hm wq) (fun i vs u w => P_ wq.heap.size base hm L i u w ∧ E_ X i vs u) (Rq wq.heap.size base hm rs) i o := by
  refine ⟨hg, fun vs w hG hr hd ho => ?_⟩
  obtain ⟨v, n, h1, h2, h3⟩ := h vs w hG (fun j hj => (hd j hj).1) ho
  refine ⟨v, _, h1, hG.drewN n, ⟨h2, by unfold E_; rw [hx]; exact h3⟩, fun j u _ _ h => ⟨P_keep h.1 (fun pr _ h => holds_keep h (fun _ _ _ => rfl) (Nat.le_refl _)), h.2⟩, fun j _ h => rq_keep h (fun _ _ _ => rfl)⟩

theorem part_move {i : Nat} {o : Oper} (hg : o.guard = none) (hx : X.getD i .no = .no) (d : Tmp) (ho : o.op = .move (.tmp d)) (v : Value) (hi : L[i]? = some (.is v))
    (h : ∀ vs : Nat → Value, (∀ j, Rg.waitsAt .any ops j i = true → vs j = Rg.old a ops j) → (Rg.putAll vs 0 ops.toList a).eval (.tmp d) = v) :
    Rg.Part Try.prog .any ops a (G2 hm wq) (fun i vs u w => P_ wq.heap.size base hm L i u w ∧ E_ X i vs u) (Rq wq.heap.size base hm rs) i o :=
  part_pure hg .no hx fun vs w hG hd hold => by
    refine ⟨v, 0, ?_, P_of hi rfl, trivial⟩
    unfold execOp
    simp only [ho, h vs hold, World.drewN_zero]
    rfl

theorem part_assign {i j : Nat} {o : Oper} (hg : o.guard = none) (hx : X.getD i .no = .eqv j) (d : Tmp) (ho : o.op = .assign (.tmp d)) (hd : Rg.distinctD ops.toList = true) (hj : (ops.toList[j]?).bind (·.dst) = some d) (hs : d < a.tmps.size) (hw : Rg.waits .any o j = true) (pr : Pr) (hi : L[i]? = some pr) (hji : L[j]? = some pr) :
    Rg.Part Try.prog .any ops a (G2 hm wq) (fun i vs u w => P_ wq.heap.size base hm L i u w ∧ E_ X i vs u) (Rq wq.heap.size base hm rs) i o :=
  part_pure hg (.eqv j) hx fun vs w hG hp hold => by
    refine ⟨vs j, 0, ?_, P_of hi (by rw [World.drewN_zero]; exact P_at hji (hp j hw)), rfl⟩
    unfold execOp
    simp only [ho, ev_op hd j d hj hs, World.drewN_zero]
    rfl

theorem part_field {i : Nat} {o : Oper} (hg : o.guard = none) (hx : X.getD i .no = .no) (d : Tmp) (bx k : Nat) (hd : (ops.toList.all fun o => o.dst != some d) = true) (ha : a.tmps.getD d undef = .pointer (some ⟨bx, 0, none⟩)) (hi : L[i]? = some (.is (.pointer (some ⟨bx, k, none⟩))))
    (hrun : ∀ (A : Act) (w : World), A.eval (.tmp d) = .pointer (some ⟨bx, 0, none⟩) → (execOp A.eval o).run Try.prog w = .ok (.value (.pointer (some ⟨bx, k, none⟩))) w) :
    Rg.Part Try.prog .any ops a (G2 hm wq) (fun i vs u w => P_ wq.heap.size base hm L i u w ∧ E_ X i vs u) (Rq wq.heap.size base hm rs) i o :=
  part_pure hg .no hx fun vs w hG hp hold => ⟨_, 0, by rw [World.drewN_zero]; exact hrun _ w ((ev_old d hd).trans ha), P_of hi rfl, trivial⟩

theorem part_load {i j : Nat} {o : Oper} (hg : o.guard = none) (hx : X.getD i .no = .no) (d : Tmp) (bx k p : Nat) (hd : Rg.distinctD ops.toList = true) (hj : (ops.toList[j]?).bind (·.dst) = some d) (hs : d < a.tmps.size) (hw : Rg.waits .any o j = true) (hji : L[j]? = some (.is (.pointer (some ⟨bx, k, none⟩)))) (hi : L[i]? = some (.fl p))
    (hbx : bx < wq.heap.size ∧ bx ≠ hm 0 ∧ bx ≠ hm 1) (hc : wq.cell? ⟨bx, k, none⟩ = some (.float .f32 p))
    (hrun : ∀ (A : Act) (w : World), A.eval (.tmp d) = .pointer (some ⟨bx, k, none⟩) → w.cell? ⟨bx, k, none⟩ = some (.float .f32 p) → (execOp A.eval o).run Try.prog w = .ok (.value (.float .f32 p)) w) :
    Rg.Part Try.prog .any ops a (G2 hm wq) (fun i vs u w => P_ wq.heap.size base hm L i u w ∧ E_ X i vs u) (Rq wq.heap.size base hm rs) i o :=
  part_pure hg .no hx fun vs w hG hp hold => by
    refine ⟨.float .f32 p, 0, ?_, P_of hi ⟨p, rfl, rfl⟩, trivial⟩
    rw [World.drewN_zero]
    have h1 : vs j = .pointer (some ⟨bx, k, none⟩) := P_at hji (hp j hw)
    exact hrun _ w ((ev_op hd j d hj hs).trans h1) ((World.cell?_of_block (w := wq) (a := ⟨bx, k, none⟩) (hG.other bx hbx.1 hbx.2.1 hbx.2.2)).trans hc)

theorem part_mul {i j1 j2 : Nat} {o : Oper} (hg : o.guard = none) (hx : X.getD i .no = .no) (d1 d2 : Tmp) (c1 c2 : Nat) (hd : Rg.distinctD ops.toList = true) (hj1 : (ops.toList[j1]?).bind (·.dst) = some d1) (hj2 : (ops.toList[j2]?).bind (·.dst) = some d2) (hs1 : d1 < a.tmps.size) (hs2 : d2 < a.tmps.size)
    (hw1 : Rg.waits .any o j1 = true) (hw2 : Rg.waits .any o j2 = true) (hl1 : L[j1]? = some (.fl c1)) (hl2 : L[j2]? = some (.fl c2)) (hi : L[i]? = some (.fl (Fl.mul c1 c2)))
    (hrun : ∀ (A : Act) (w : World) (x y : Nat), A.eval (.tmp d1) = .float .f32 x → A.eval (.tmp d2) = .float .f32 y → (execOp A.eval o).run Try.prog w = .ok (.value (.float .f32 (Fl.rMul w x y))) (w.drewN (Fl.nMul x y))) :
    Rg.Part Try.prog .any ops a (G2 hm wq) (fun i vs u w => P_ wq.heap.size base hm L i u w ∧ E_ X i vs u) (Rq wq.heap.size base hm rs) i o :=
  part_pure hg .no hx fun vs w hG hp hold => by
    obtain ⟨x, h1, h1'⟩ := P_at hl1 (hp j1 hw1)
    obtain ⟨y, h2, h2'⟩ := P_at hl2 (hp j2 hw2)
    refine ⟨_, _, hrun _ w x y ((ev_op hd j1 d1 hj1 hs1).trans h1) ((ev_op hd j2 d2 hj2 hs2).trans h2), P_of hi ⟨_, rfl, ?_⟩, trivial⟩
    rw [Fl.canon_rMul, Fl.canon_mulv]
    exact (Fl.mul_of h1' h2').trans (Fl.mul_canon _ _)

theorem part_build {i j : Nat} {o : Oper} (hg : o.guard = none) (hx : X.getD i .no = .no) (d : Tmp) (c : Nat) (hd : Rg.distinctD ops.toList = true) (hj : (ops.toList[j]?).bind (·.dst) = some d) (hs : d < a.tmps.size) (hw : Rg.waits .any o j = true) (hji : L[j]? = some (.fl c)) (hi : L[i]? = some (.cell c))
    (hrun : ∀ (A : Act) (w : World) (x : Nat), A.eval (.tmp d) = .float .f32 x → (execOp A.eval o).run Try.prog w = .ok (.value (.slice (some ⟨w.heap.size, 0, none⟩) 1 1)) (w.alloc (.cells #[.float .f32 x] 22))) :
    Rg.Part Try.prog .any ops a (G2 hm wq) (fun i vs u w => P_ wq.heap.size base hm L i u w ∧ E_ X i vs u) (Rq wq.heap.size base hm rs) i o := by
  refine ⟨hg, fun vs w hG hr hp hold => ?_⟩
  obtain ⟨x, h1, h1'⟩ := P_at hji (hp j hw).1
  have hk : ∀ k, k < w.heap.size → (w.alloc (.cells #[.float .f32 x] 22)).heap[k]? = w.heap[k]? := fun k hk => Below.heap_alloc w _ k hk
  refine ⟨_, _, hrun _ w x ((ev_op hd j d hj hs).trans h1), ⟨hG.os, hG.tape, hG.output, by have := hG.size; simp; omega, fun k h2 h3 h4 => (hk k (Nat.lt_of_lt_of_le h2 hG.size)).trans (hG.other k h2 h3 h4)⟩, ⟨P_of hi ⟨_, x, rfl, hG.size, Mem.Blk.new w [.float .f32 x] _, h1'⟩, by unfold E_; rw [hx]; trivial⟩, fun j u _ _ h => ⟨P_keep h.1 (fun pr _ h => holds_keep h (fun k h2 _ => hk k h2) (by simp)), h.2⟩, fun j _ h => rq_keep h (fun k h2 _ => hk k h2)⟩

theorem run_op_append {o : Oper} {A : Act} {w : World} (s x : Operand) (t : TypeId) (ho : o.op = .call { callee := .builtin .append, args := #[s, x], argTypes := #[t, t] }) (v : Value) (ad : Addr) (m c : Nat) (hs : A.eval s = v) (hx : A.eval x = .slice (some ad) m c) (v' : Value) (w' : World)
    (hr : (Builtin.append_ #[t, t] o.type #[v, .slice (some ad) m c]).run Try.prog w = .ok v' w') : (execOp A.eval o).run Try.prog w = .ok (.value v') w' := by
  unfold execOp
  simp only [ho, resolve, invoke, builtin, Sem.run_bind, Sem.run_pure, Result.andThen_ok, List.map_toArray, List.map_cons, List.map_nil, hs, hx, hr]

/-- The tags of rows that an append of tag t may not meet. -/
def clearB (ops : Array Oper) (tags : List (Option Nat)) (i t : Nat) : Bool := (List.range tags.length).all fun j => j == i || Rg.waitsAt .any ops j i || tags.getD j none != some t
def clearR (rt : List (Option Nat)) (i t : Nat) : Bool := (List.range rt.length).all fun j => j == i || rt.getD j none != some t

theorem part_append {i j1 j2 : Nat} {o : Oper} (hg : o.guard = none) (d1 d2 : Tmp) (ho : o.op = .call { callee := .builtin .append, args := #[.tmp d1, .tmp d2], argTypes := #[43, 43] })
    (t c : Nat) (v : Value) (es : List Nat) (x : Ex) (hx : X.getD i .no = x) (hxs : x = .no ∨ ∃ j0 t0 es0, x = .apart j0 ∧ Rg.waits .any o j0 = true ∧ L[j0]? = some (.row t0 es0) ∧ t0 ≠ t ∧ t0 ≤ 1) (hd : Rg.distinctD ops.toList = true) (hj1 : (ops.toList[j1]?).bind (·.dst) = some d1) (hj2 : (ops.toList[j2]?).bind (·.dst) = some d2) (hs1 : d1 < a.tmps.size) (hs2 : d2 < a.tmps.size)
    (hw1 : Rg.waits .any o j1 = true) (hw2 : Rg.waits .any o j2 = true) (hl1 : L[j1]? = some (.is v)) (hl2 : L[j2]? = some (.cell c)) (hi : L[i]? = some (.row t (es ++ [c]))) (hri : rs[i]? = some (some (t, v, es)))
    (hcl : clearB ops (L.map Pr.tag) i t = true) (hcr : clearR (rs.map fun x => x.map (·.1)) i t = true) (hinj : ∀ t', t' ≠ t → t' ≤ 1 → hm t' ≠ hm t) (htag : ∀ (j : Nat) (t' : Nat), (L[j]?).bind Pr.tag = some t' → t' ≤ 1) (hrtag : ∀ (j : Nat) x, rs.getD j none = some x → x.1 ≤ 1) (ht : t ≤ 1) (hmN : hm t < wq.heap.size) (hbase : base ≤ wq.heap.size) (hlen : es.length ≤ 1048576) :
    Rg.Part Try.prog .any ops a (G2 hm wq) (fun i vs u w => P_ wq.heap.size base hm L i u w ∧ E_ X i vs u) (Rq wq.heap.size base hm rs) i o := by
  obtain ⟨i0, hi0, hz0, hz1, hz2⟩ := info_parts infoF
  refine ⟨hg, fun vs w hG hr hp hold => ?_⟩
  have h1 : vs j1 = v := P_at hl1 (hp j1 hw1).1
  obtain ⟨b, z, h2, hbN, hblk, hz⟩ := P_at hl2 (hp j2 hw2).1
  have hr0 : rs.getD i none = some (t, v, es) := by rw [List.getD_eq_getElem?_getD, hri]; rfl
  unfold Rq at hr
  rw [hr0] at hr
  obtain ⟨ws, hown, hfs, hob, hbt⟩ := hr
  obtain ⟨v', w', hrun, hown', hgrow, _, hob'⟩ := run_append_own_at (P := Try.prog) w base 43 o.type 22 i0 (.float .f32 0) 1 4 Try.underlying43 hi0 hz0 hz1 hz2 rfl (by decide) v es.length (fL ws) hown ⟨b, 0, none⟩ 1 1 [.float .f32 z] rfl
    (fun j u hj => by
      match j, hj with
      | 0, hj =>
        simp at hj; subst hj
        have := hblk.cell 0
        simpa [Addr.add] using this) (by simp [Value.oneCell']) (by unfold maxLen; omega) (by omega) (Nat.le_trans hbase hG.size)
  have hkeep : ∀ k, k < w.heap.size → k ≠ hm t → w'.heap[k]? = w.heap[k]? := fun k hk hne => hgrow.block k hk (by rw [hob]; simpa using hne)
  have hNle : wq.heap.size ≤ w.heap.size := hG.size
  refine ⟨v', w', run_op_append _ _ _ ho v ⟨b, 0, none⟩ 1 1 ((ev_op hd j1 d1 hj1 hs1).trans h1) ((ev_op hd j2 d2 hj2 hs2).trans h2) v' w' hrun, ?_, ?_, ?_, ?_⟩
  · refine ⟨hgrow.os.trans hG.os, hgrow.tape.trans hG.tape, hgrow.output.trans hG.output, Nat.le_trans hG.size hgrow.size, fun k hk h3 h4 => ?_⟩
    have hne : k ≠ hm t := by
      rcases Nat.le_one_iff_eq_zero_or_eq_one.1 ht with h | h <;> rw [h] <;> assumption
    exact (hkeep k (Nat.lt_of_lt_of_le hk hG.size) hne).trans (hG.other k hk h3 h4)
  · refine ⟨P_of hi ?_, ?_⟩
    rotate_left
    · unfold E_
      rw [hx]
      rcases hxs with rfl | ⟨j0, t0, es0, rfl, hw0, hl0, ht0, ht0'⟩
      · trivial
      · intro h h' hh hh'
        obtain ⟨_, h0, _, _, hb0, hor0, hlt0⟩ := P_at hl0 (hp j0 hw0).1
        rw [hb0] at hh
        cases hh
        have hne := hinj t0 ht0 ht0'
        rcases hob' with hob' | hob'
        · rw [hob', hob] at hh'
          cases hh'
          rcases hor0 with hor0 | hor0
          · rw [hor0]; exact hne
          · omega
        · rw [hob'] at hh'
          cases hh'
          omega
    have hlen' : (es ++ [c]).length = es.length + 1 := by simp
    rcases hob' with hob' | hob'
    · exact ⟨ws ++ [z], hm t, by rw [hlen', fL_append]; exact hown', hfs.push hz, by rw [hob', hob], .inl rfl, own_lt hown' (by rw [hob', hob])⟩
    · exact ⟨ws ++ [z], _, by rw [hlen', fL_append]; exact hown', hfs.push hz, hob', .inr hNle, own_lt hown' hob'⟩
  · intro j u hji hnw h
    refine ⟨P_keep h.1 (fun pr hpr h => holds_keep h (fun k hk hor => ?_) hgrow.size), h.2⟩
    have hne : k ≠ hm t := by
      rcases hor with hor | ⟨t', ht', rfl⟩
      · omega
      · have hlt : j < L.length := (List.getElem?_eq_some_iff.1 hpr).1
        have h5 := List.all_eq_true.1 hcl j (List.mem_range.2 (by simpa using hlt))
        rw [hnw] at h5
        have h6 : (L.map Pr.tag).getD j none = some t' := by simp [hpr, ht']
        rw [h6] at h5
        simp [hji] at h5
        exact hinj t' h5 (htag j t' (by rw [hpr]; exact ht'))
    exact hkeep k hk hne
  · intro j hji h
    refine rq_keep h (fun k hk ⟨x, hx, hkx⟩ => hkeep k hk ?_)
    rw [hkx]
    have hlt : j < rs.length := by
      rcases Nat.lt_or_ge j rs.length with h | h
      · exact h
      · simp [List.getElem?_eq_none h] at hx
    have h5 := List.all_eq_true.1 hcr j (List.mem_range.2 (by simpa using hlt))
    have h6 : (rs.map fun x => x.map (·.1)).getD j none = some x.1 := by
      rw [List.getD_eq_getElem?_getD] at hx ⊢
      rw [List.getElem?_map]
      cases hq : rs[j]? with
      | none => simp [hq] at hx
      | some y => simp [hq] at hx ⊢; exact ⟨x.2.1, x.2.2, hx⟩
    rw [h6] at h5
    simp [hji] at h5
    exact hinj x.1 h5 (hrtag j x hx)
end
end Og
end Go.Proofs.Ytcihbcmdmgmonaa
