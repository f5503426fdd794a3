/-
  A region whose order is open, walked once, in the order of the text, said of a class of worlds: each operation is run in whatever world of the class, and leaves one of the class; a callee is known by what it answers. A tail that the edges force is walked behind it.
-/
import Derived.Deep.Quiet
import Derived.StillTail
import Derived.Tactics
import Derived.Tactics2
import Derived.KernelRfl
namespace Go.Proofs.Ytfbflbiohbhmmaa
namespace Rg
section
variable {P : Program} {ops : Array Oper} {md : Region.Mode} {C : World → Prop} {S : FuncId → Array Value → Value → Prop}

/-- The operation has yielded a value, or nothing; it enters no function. -/
def Plain : Result Next → Prop
  | .ok (.value _) _ => True
  | .ok .skip _ => True
  | _ => False

/-- One operation, run in whatever world of the class. -/
def step (P : Program) (C : World → Prop) (S : FuncId → Array Value → Value → Prop) (o : Oper) (a : Act) (K : Act → Prop) : Prop :=
  (∀ w, C w → Plain ((execOp a.eval o).run P w) ∧ o.wp P a w (fun a' w' => C w' ∧ K a') (fun _ _ _ => False)) ∨
  (∃ f args, (∀ w, C w → (execOp a.eval o).run P w = .ok (.enter f args) w ∧ Calls P f args w (fun e w'' => ∃ u, e = .returned u ∧ S f args u ∧ C w'')) ∧ ∀ u, S f args u → K (a.put o.dst u))

/-- The walk of the text's order. -/
def walk (P : Program) (ops : Array Oper) (C : World → Prop) (S : FuncId → Array Value → Value → Prop) (Q : Act → Prop) : List Oper → Act → Prop
  | [], a => Q a
  | o :: rest, a => if Region.wanted o (yielded ops a.tmps) then step P C S o a (walk P ops C S Q rest) else walk P ops C S Q rest (a.put o.dst undef)

theorem walk_nil {Q : Act → Prop} {a : Act} (h : Q a) : walk P ops C S Q [] a := h

theorem step_mono {o : Oper} {a : Act} {K K' : Act → Prop} (h : ∀ a, K a → K' a) (hh : step P C S o a K) : step P C S o a K' := by
  rcases hh with hh | ⟨f, args, h1, h2⟩
  · refine .inl fun w hw => ⟨(hh w hw).1, ?_⟩
    have h3 := (hh w hw).2
    have hp := (hh w hw).1
    unfold Oper.wp at h3 ⊢
    generalize (execOp a.eval o).run P w = r at *
    cases r with
    | ok n w' =>
      cases n <;> simp only [Plain] at hp <;> simp only [Oper.upon] at h3 ⊢ <;> exact ⟨h3.1, h _ h3.2⟩
    | halt x w' => cases hp
  · exact .inr ⟨f, args, h1, fun u hu => h _ (h2 u hu)⟩

/-- A plain operation of the walk. -/
theorem walk_plain {Q : Act → Prop} {a : Act} {o : Oper} {rest : List Oper} (hg : o.guard = none)
    (h : ∀ K : Act → Prop, (∀ a, walk P ops C S Q rest a → K a) → ∀ w, C w → Plain ((execOp a.eval o).run P w) ∧ o.wp P a w (fun a' w' => C w' ∧ K a') (fun _ _ _ => False)) :
    walk P ops C S Q (o :: rest) a := by
  unfold walk
  rw [if_pos (by simp [Region.wanted, hg])]
  exact .inl (h _ (fun _ h => h))

theorem walk_step {Q : Act → Prop} {a : Act} {o : Oper} {rest : List Oper} (h : ∀ K : Act → Prop, (∀ a, walk P ops C S Q rest a → K a) → if Region.wanted o (yielded ops a.tmps) then step P C S o a K else K (a.put o.dst undef)) :
    walk P ops C S Q (o :: rest) a := h _ (fun _ h => h)

/-- A call. -/
theorem walk_calls {Q : Act → Prop} {a : Act} {o : Oper} {rest : List Oper} (hg : o.guard = none) (f : FuncId) (args : Array Value)
    (h : ∀ w, C w → (execOp a.eval o).run P w = .ok (.enter f args) w ∧ Calls P f args w (fun e w'' => ∃ u, e = .returned u ∧ S f args u ∧ C w''))
    (hk : ∀ u, S f args u → walk P ops C S Q rest (a.put o.dst u)) : walk P ops C S Q (o :: rest) a := by
  unfold walk
  rw [if_pos (by simp [Region.wanted, hg])]
  exact .inr ⟨f, args, h, hk⟩

/-- A guarded operation that is passed over. -/
theorem walk_skip {Q : Act → Prop} {a : Act} {o : Oper} {rest : List Oper} (hw : Region.wanted o (yielded ops a.tmps) = false) (h : walk P ops C S Q rest (a.put o.dst undef)) : walk P ops C S Q (o :: rest) a := by
  unfold walk
  rw [if_neg (by rw [hw]; exact Bool.false_ne_true)]
  exact h
/-- A guarded operation that is run. -/
theorem walk_on {Q : Act → Prop} {a : Act} {o : Oper} {rest : List Oper} (hw : Region.wanted o (yielded ops a.tmps) = true)
    (h : ∀ K : Act → Prop, (∀ a, walk P ops C S Q rest a → K a) → ∀ w, C w → Plain ((execOp a.eval o).run P w) ∧ o.wp P a w (fun a' w' => C w' ∧ K a') (fun _ _ _ => False)) :
    walk P ops C S Q (o :: rest) a := by
  unfold walk
  rw [if_pos hw]
  exact .inl (h _ (fun _ h => h))
/-- A guarded call. -/
theorem walk_on_call {Q : Act → Prop} {a : Act} {o : Oper} {rest : List Oper} (hw : Region.wanted o (yielded ops a.tmps) = true) (f : FuncId) (args : Array Value)
    (h : ∀ w, C w → (execOp a.eval o).run P w = .ok (.enter f args) w ∧ Calls P f args w (fun e w'' => ∃ u, e = .returned u ∧ S f args u ∧ C w''))
    (hk : ∀ u, S f args u → walk P ops C S Q rest (a.put o.dst u)) : walk P ops C S Q (o :: rest) a := by
  unfold walk
  rw [if_pos hw]
  exact .inr ⟨f, args, h, hk⟩

/-- Operation number 'i' comes up in state 'a'. -/
def rOp (P : Program) (ops : Array Oper) (C : World → Prop) (S : FuncId → Array Value → Value → Prop) (i : Nat) (K : Act → Prop) (a : Act) : Prop :=
  match ops[i]? with
  | none => K a
  | some o => if Region.wanted o (yielded ops a.tmps) then step P C S o a K else K (a.put o.dst undef)

theorem rOp_mono {i : Nat} {a : Act} {K K' : Act → Prop} (h : ∀ a, K a → K' a) (hh : rOp P ops C S i K a) : rOp P ops C S i K' a := by
  unfold rOp at *
  split
  · exact h _ (by simpa [*] using hh)
  · rename_i o ho
    simp only [ho] at hh
    split
    · rename_i hw; simp only [hw, if_true] at hh; exact step_mono h hh
    · rename_i hw; simp only [hw] at hh; exact h _ hh

/-- Whatever order is picked from here on, till 'f' operations have come up. -/
def anyL (P : Program) (md : Region.Mode) (ops : Array Oper) (C : World → Prop) (S : FuncId → Array Value → Value → Prop) (n : Nat) (L : Array Bool → Act → Prop) : Nat → Array Bool → Act → Prop
  | 0, listed, a => L listed a
  | f + 1, listed, a =>
    Region.ready md ops listed ≠ [] ∧ ∀ i ∈ Region.ready md ops listed, i < n ∧ rOp P ops C S i (anyL P md ops C S n L f (listed.setIfInBounds i true)) a

theorem wp_of_step {o : Oper} {a : Act} {K : Act → Prop} {K' : Act → World → Prop} {Q' : Exit → Act → World → Prop} {w : World} (hw : C w) (h : ∀ a w', C w' → K a → K' a w') (hh : step P C S o a K) : o.wp P a w K' Q' := by
  rcases hh with hh | ⟨f, args, h1, h2⟩
  · have h3 := (hh w hw).2
    have hp := (hh w hw).1
    unfold Oper.wp at h3 ⊢
    generalize (execOp a.eval o).run P w = r at *
    cases r with
    | ok n w' =>
      cases n <;> simp only [Plain] at hp <;> simp only [Oper.upon] at h3 ⊢ <;> exact h _ _ h3.1 h3.2
    | halt x w' => cases hp
  · obtain ⟨h3, h4⟩ := h1 w hw
    unfold Oper.wp
    rw [h3]
    simp only [Oper.upon]
    exact h4.mono fun e w'' ⟨u, he, hu, hc⟩ => by subst he; exact h _ _ hc (h2 u hu)

theorem wpOp_of_rOp {i : Nat} {a : Act} {K : Act → Prop} {K' : Act → World → Prop} {Q' : Exit → Act → World → Prop} {w : World} (hC : C w) (h : ∀ a w', C w' → K a → K' a w') (hh : rOp P ops C S i K a) : wpOp P ops Q' i K' a w := by
  unfold rOp at hh
  unfold wpOp
  split
  · rename_i ho; simp only [ho] at hh; exact h _ _ hC hh
  · rename_i o ho
    simp only [ho] at hh
    split
    · rename_i hw; simp only [hw, if_true] at hh; exact .inl (wp_of_step hC h hh)
    · rename_i hw; simp only [hw] at hh; exact h _ _ hC hh

theorem wpAny_of_anyL {n g : Nat} {L : Array Bool → Act → Prop} {Q' : Exit → Act → World → Prop} (hL : ∀ listed a w, C w → L listed a → wpAny P md ops Q' g listed a w) :
    ∀ (f : Nat) (listed : Array Bool) (a : Act) (w : World), C w → anyL P md ops C S n L f listed a → wpAny P md ops Q' (f + g) listed a w
  | 0, listed, a, w, hw, h => by rw [Nat.zero_add]; exact hL _ _ _ hw h
  | f + 1, listed, a, w, hw, h => by
    rw [show f + 1 + g = (f + g) + 1 by omega]
    exact ⟨fun h0 => absurd h0 h.1, fun i hi => wpOp_of_rOp hw (fun a' w' hw' h' => wpAny_of_anyL hL f _ a' w' hw' h') (h.2 i hi).2⟩

/-- In state 'a', in every world of the class, the operation yields a value of the set 'V'. -/
def Yields (P : Program) (ops : Array Oper) (C : World → Prop) (S : FuncId → Array Value → Value → Prop) (o : Oper) (V : Value → Prop) (a : Act) : Prop :=
  (Region.wanted o (yielded ops a.tmps) = true ∧ ((∀ w, C w → ∃ v w', ((execOp a.eval o).run P w = .ok (.value v) w' ∨ ((execOp a.eval o).run P w = .ok .skip w' ∧ v = undef)) ∧ C w' ∧ V v) ∨
    (∃ f args, (∀ w, C w → (execOp a.eval o).run P w = .ok (.enter f args) w ∧ Calls P f args w (fun e w'' => ∃ u, e = .returned u ∧ S f args u ∧ C w'')) ∧ ∀ u, S f args u → V u))) ∨
  (Region.wanted o (yielded ops a.tmps) = false ∧ V undef)

theorem yields_of_rOp {i : Nat} {o : Oper} {a : Act} {K : Act → Prop} (hi : ops[i]? = some o) (h : rOp P ops C S i K a) : ∃ V : Value → Prop, Yields P ops C S o V a ∧ ∀ v, V v → K (a.put o.dst v) := by
  unfold rOp at h
  simp only [hi] at h
  refine ⟨fun v => K (a.put o.dst v), ?_, fun _ h => h⟩
  by_cases hw : Region.wanted o (yielded ops a.tmps) = true
  · simp only [hw, if_true] at h
    refine .inl ⟨hw, ?_⟩
    rcases h with h | h
    · refine .inl fun w hC => ?_
      have h3 := (h w hC).2
      have hp := (h w hC).1
      unfold Oper.wp at h3
      generalize (execOp a.eval o).run P w = r at *
      cases r with
      | ok n w' =>
        cases n <;> simp only [Plain] at hp <;> simp only [Oper.upon] at h3
        case value v => exact ⟨v, w', .inl rfl, h3.1, h3.2⟩
        case skip => exact ⟨undef, w', .inr ⟨rfl, rfl⟩, h3.1, h3.2⟩
      | halt x w' => cases hp
    · exact .inr h
  · simp only [hw] at h
    exact .inr ⟨by simpa using hw, h⟩

theorem Yields.rOp {i : Nat} {o : Oper} {V : Value → Prop} {a : Act} (hi : ops[i]? = some o) (hy : Yields P ops C S o V a) {K : Act → Prop} (h : ∀ v, V v → K (a.put o.dst v)) : rOp P ops C S i K a := by
  unfold Rg.rOp
  simp only [hi]
  rcases hy with ⟨hw, hy⟩ | ⟨hw, hv⟩
  · simp only [hw, if_true]
    rcases hy with hy | ⟨f, args, h1, h2⟩
    · refine .inl fun w hC => ?_
      obtain ⟨v, w', hr, hC', hV⟩ := hy w hC
      unfold Oper.wp
      rcases hr with hr | ⟨hr, rfl⟩ <;> rw [hr]
      · exact ⟨trivial, hC', h v hV⟩
      · exact ⟨trivial, hC', h _ hV⟩
    · exact .inr ⟨f, args, h1, fun u hu => h u (h2 u hu)⟩
  · simp only [hw, Bool.false_eq_true, if_false]; exact h _ hv

theorem Yields.some {o : Oper} {V : Value → Prop} {a : Act} (hC : ∃ w, C w) (hy : Yields P ops C S o V a) : ∃ v, V v := by
  obtain ⟨w, hw⟩ := hC
  rcases hy with ⟨_, hy | ⟨f, args, h1, h2⟩⟩ | ⟨_, hv⟩
  · obtain ⟨v, _, _, _, hV⟩ := hy w hw; exact ⟨v, hV⟩
  · obtain ⟨e, w', fr, ⟨u, _, hu, _⟩, _⟩ := (h1 w hw).2 []
    exact ⟨u, h2 u hu⟩
  · exact ⟨_, hv⟩

theorem Yields.of_same {o : Oper} {V : Value → Prop} {a a' : Act} (hy : Yields P ops C S o V a) (he : execOp a'.eval o = execOp a.eval o)
    (hw : Region.wanted o (yielded ops a'.tmps) = Region.wanted o (yielded ops a.tmps)) : Yields P ops C S o V a' := by
  unfold Yields at *
  rw [he, hw]
  exact hy

/-- One operation 'oj', apart from 'oi'. -/
theorem rOp_put {j : Nat} {oi oj : Oper} {V : Value → Prop} (hj : ops[j]? = some oj) (hap : oi.apart ops oj = true)
    (hsi : ∀ cs b, oi.op ≠ .select cs b) (hsj : ∀ cs b, oj.op ≠ .select cs b) {K : Act → Prop} {a : Act} (hC : ∃ w, C w)
    (hy : Yields P ops C S oi V a) (h : ∀ v, V v → rOp P ops C S j K (a.put oi.dst v)) :
    rOp P ops C S j (fun a' => Yields P ops C S oi V a' ∧ ∀ v, V v → K (a'.put oi.dst v)) a := by
  obtain ⟨h1, h2, h3⟩ := Oper.apart_spec hap
  have keep : ∀ (a : Act), Yields P ops C S oi V a → ∀ u, Yields P ops C S oi V (a.put oj.dst u) := fun a hy u =>
    hy.of_same (execOp_put oi hsi a oj.dst u h3) (wanted_put oi a oj.dst u h3)
  unfold rOp at *
  simp only [hj] at *
  have hwv : ∀ v, Region.wanted oj (yielded ops (a.put oi.dst v).tmps) = Region.wanted oj (yielded ops a.tmps) := fun v => wanted_put oj a oi.dst v h1
  have hev : ∀ v, execOp (a.put oi.dst v).eval oj = execOp a.eval oj := fun v => execOp_put oj hsj a oi.dst v h1
  split
  · rename_i hw
    have h' : ∀ v, V v → step P C S oj (a.put oi.dst v) K := fun v hv => by
      have := h v hv
      rw [hwv v] at this
      simpa only [hw, if_true] using this
    obtain ⟨v0, hv0⟩ := hy.some hC
    obtain ⟨w0, hw0⟩ := hC
    rcases h' v0 hv0 with hl | ⟨f, args, hr1, _⟩
    · refine .inl fun w hCw => ?_
      have hp := (hl w hCw).1
      rw [hev v0] at hp
      refine ⟨hp, ?_⟩
      have hall : ∀ v, V v → oj.wp P (a.put oi.dst v) w (fun a' w' => C w' ∧ K a') (fun _ _ _ => False) := fun v hv => by
        rcases h' v hv with hl' | ⟨f, args, hr1, _⟩
        · exact (hl' w hCw).2
        · have := (hr1 w hCw).1
          rw [hev v] at this
          rw [this] at hp
          cases hp
      unfold Oper.wp at hall ⊢
      have hall' : ∀ v, V v → oj.upon P (a.put oi.dst v) (fun a' w' => C w' ∧ K a') (fun _ _ _ => False) ((execOp a.eval oj).run P w) := fun v hv => by
        have := hall v hv
        rwa [hev v] at this
      generalize (execOp a.eval oj).run P w = r at *
      cases r with
      | ok n w' =>
        cases n <;> simp only [Plain] at hp <;> simp only [Oper.upon] at hall' ⊢
        case value u => exact ⟨(hall' v0 hv0).1, keep a hy u, fun v hv => by rw [← Act.put_comm a v u h2]; exact (hall' v hv).2⟩
        case skip => exact ⟨(hall' v0 hv0).1, keep a hy _, fun v hv => by rw [← Act.put_comm a v undef h2]; exact (hall' v hv).2⟩
      | halt x w' => cases hp
    · rw [hev v0] at hr1
      refine .inr ⟨f, args, hr1, fun u hu => ⟨keep a hy u, fun v hv => ?_⟩⟩
      rw [← Act.put_comm a v u h2]
      rcases h' v hv with hl' | ⟨f', args', hr1', hr2'⟩
      · have := (hl' w0 hw0).1
        rw [hev v, (hr1 w0 hw0).1] at this
        cases this
      · have e1 := (hr1' w0 hw0).1
        rw [hev v, (hr1 w0 hw0).1] at e1
        simp only [Result.ok.injEq, Next.enter.injEq, and_true] at e1
        obtain ⟨rfl, rfl⟩ := e1
        exact hr2' u hu
  · rename_i hw
    refine ⟨keep a hy _, fun v hv => ?_⟩
    have := h v hv
    rw [hwv v] at this
    rw [← Act.put_comm a v undef h2]
    simpa only [hw, Bool.false_eq_true, if_false] using this

theorem anyL_first {n i : Nat} {oi : Oper} {V : Value → Prop} {L : Array Bool → Act → Prop} (hC : ∃ w, C w) (hi : ops[i]? = some oi) (hsel : ∀ (j : Nat) (o : Oper) cs b, ops[j]? = some o → o.op ≠ .select cs b)
    (hs : Region.sinkB md ops n = true) (hc : Region.chainB md ops n = true) (hn : n < ops.size) (hin : i < n)
    (hdone : ∀ listed a, L listed a → ∀ j ∈ Region.ready md ops listed, n ≤ j) :
    ∀ (f : Nat) (listed : Array Bool) (a : Act), HeadInv md ops n listed →
      (∀ j oj, ops[j]? = some oj → j ≠ i → listed.getD j true = false → (∀ e ∈ oj.after, Region.binds md e = true → e.on ≠ i) → oi.apart ops oj = true) →
      i ∈ Region.ready md ops listed → Yields P ops C S oi V a →
      (∀ v, V v → anyL P md ops C S n L f (listed.setIfInBounds i true) (a.put oi.dst v)) → anyL P md ops C S n L (f + 1) listed a := by
  intro f
  induction f with
  | zero =>
    intro listed a inv _ hr hy H
    have hun := (mem_ready.1 hr).1
    refine ⟨fun h => (by rw [h] at hr; cases hr), fun j hj => ?_⟩
    have hjn : j < n := by
      rcases Nat.lt_or_ge j n with h | h
      · exact h
      · exact absurd hj (tail_waits hs hc hn inv _ i rfl hin hun j h)
    refine ⟨hjn, ?_⟩
    by_cases hji : j = i
    · subst hji; exact hy.rOp hi H
    · obtain ⟨v, hv⟩ := hy.some hC
      have := hdone _ _ (H v hv) j (ready_mono hj hji)
      omega
  | succ f ih =>
    intro listed a inv hfree hr hy H
    have hun := (mem_ready.1 hr).1
    refine ⟨fun h => (by rw [h] at hr; cases hr), fun j hj => ?_⟩
    have hjn : j < n := by
      rcases Nat.lt_or_ge j n with h | h
      · exact h
      · exact absurd hj (tail_waits hs hc hn inv _ i rfl hin hun j h)
    refine ⟨hjn, ?_⟩
    by_cases hji : j = i
    · subst hji; exact hy.rOp hi H
    · have h1 : ∀ v, V v → rOp P ops C S j (anyL P md ops C S n L f ((listed.setIfInBounds i true).setIfInBounds j true)) (a.put oi.dst v) := fun v hv => ((H v hv).2 j (ready_mono hj hji)).2
      obtain ⟨hjun, oj, hoj, hall⟩ := mem_ready.1 hj
      have hnot : ∀ e ∈ oj.after, Region.binds md e = true → e.on ≠ i := fun e he hb heq => by
        have h1 := hall e he hb
        rw [heq, getD_both hun] at h1
        cases h1
      have h2 := rOp_put hoj (hfree j oj hoj hji hjun hnot) (fun cs b => hsel i oi cs b hi) (fun cs b => hsel j oj cs b hoj) hC hy h1
      have hfree' : ∀ k ok, ops[k]? = some ok → k ≠ i → (listed.setIfInBounds j true).getD k true = false →
          (∀ e ∈ ok.after, Region.binds md e = true → e.on ≠ i) → oi.apart ops ok = true := fun k ok hk hki hun hno => by
        refine hfree k ok hk hki ?_ hno
        by_cases hjk : j = k
        · subst hjk; exact hjun
        · rw [getD_set_ne true hjk] at hun; exact hun
      refine rOp_mono (fun a' h3 => ih (listed.setIfInBounds j true) a' (inv.set hj hjn) hfree' (ready_mono hr (Ne.symm hji)) h3.1 (fun v hv => ?_)) h2
      rw [Array.setIfInBounds_comm _ _ hji]
      exact h3.2 v hv

theorem anyL_lex {n g : Nat} {Lq : Act → Prop} (hC : ∃ w, C w) (hsel : Region.noSelect ops = true) (hs : Region.sinkB md ops n = true) (hc : Region.chainB md ops n = true) (hn : n < ops.size) :
    ∀ (l : List Oper) (k : Nat) (listed : Array Bool) (a : Act), (∀ j, j < l.length → l[j]? = ops[k + j]?) → k + l.length = n → HeadInv md ops n listed →
    Region.lexHead md ops g l.length k listed = true → walk P ops C S Lq l a →
    anyL P md ops C S n (fun listed' a' => Region.seqB md ops g n listed' = true ∧ Lq a') l.length listed a
  | [], k, listed, a, _, hk, _, hB, h => by
    have : k = n := by simpa using hk
    subst this
    exact ⟨by simpa [Region.lexHead] using hB, h⟩
  | o :: l, k, listed, a, hl, hk, inv, hB, h => by
    have h0 : ops[k]? = some o := by simpa using (hl 0 (by simp)).symm
    simp only [List.length_cons, Region.lexHead, Bool.and_eq_true] at hB
    obtain ⟨⟨hr, hf⟩, hB'⟩ := hB
    have hkn : k < n := by simp only [List.length_cons] at hk; omega
    have hr' : k ∈ Region.ready md ops listed := by simpa using hr
    have hst : rOp P ops C S k (walk P ops C S Lq l) a := by unfold rOp; simp only [h0]; exact h
    obtain ⟨V, hy, hK⟩ := yields_of_rOp h0 hst
    exact anyL_first hC h0 (Region.noSelect_spec hsel) hs hc hn hkn (fun listed' a' hL => seqB_ready hL.1) l.length listed a inv (Region.free_spec h0 hf) hr' hy
      (fun v hv => anyL_lex hC hsel hs hc hn l (k + 1) _ _ (fun j hj => by have := hl (j + 1) (by simp; omega); simpa [Nat.add_assoc, Nat.add_comm 1 j] using this) (by simp only [List.length_cons] at hk; omega) (inv.set hr' hkn) hB' (hK v hv))

/-- **The region, its order open: the first n operations in whatever order, in worlds of the class; behind them the tail, in its own order.** -/
theorem region_tail {id : Nat} {Q : Exit → Act → World → Prop} {a : Act} {w : World} {l : List Oper} (n : Nat) (C : World → Prop) (S : FuncId → Array Value → Value → Prop) (hm : P.follows .mixedOrders = true) (hB : Region.lexTailB .any l.toArray n = true)
    (hC : C { w with drawn := w.drawn + 1 })
    (h : walk P l.toArray C S (fun a' => ∀ w', C w' → wpList P l.toArray Q (l.drop n) a' w') (l.take n) a) : (Code.region id l.toArray true).wp P Q a w := by
  simp only [Region.lexTailB, Bool.and_eq_true, decide_eq_true_eq] at hB
  obtain ⟨⟨⟨⟨hsel, hn⟩, hs⟩, hc⟩, hlex⟩ := hB
  have hn' : n < l.length := by simpa using hn
  have htl : (l.take n).length = n := by simp; omega
  have hdl : (l.drop n).length = l.toArray.size - n := by simp
  have inv0 : HeadInv .any l.toArray n (Array.replicate l.toArray.size false) :=
    ⟨by simp, fun j oj _ hl => (by rw [getD_replicate_false] at hl; cases hl), fun t _ ht => getD_in (by simpa using ht) (getD_replicate_false _ _)⟩
  have H := anyL_lex (md := .any) (g := l.toArray.size - n) ⟨_, hC⟩ hsel hs hc hn (l.take n) 0 _ a (fun j hj => by
    have hj' : j < n := by rw [htl] at hj; exact hj
    simp [hj']) (by simpa using htl) inv0 (by rw [htl]; exact hlex) h
  refine wp_region_any hm ?_
  have := wpAny_of_anyL (Q' := Q) (g := l.toArray.size - n) (fun listed a' w' hw' hL => by
    have := wpAny_of_seq (md := .any) (Q' := Q) (l.drop n) n listed a' w' (fun j => by simp [List.getElem?_drop]) (by rw [hdl]; exact hL.1) (hL.2 w' hw')
    rwa [hdl] at this) _ _ _ _ hC H
  rw [htl, show n + (l.toArray.size - n) = l.toArray.size by omega] at this
  exact this
end
attribute [go_sem] Plain
end Rg
end Go.Proofs.Ytfbflbiohbhmmaa
