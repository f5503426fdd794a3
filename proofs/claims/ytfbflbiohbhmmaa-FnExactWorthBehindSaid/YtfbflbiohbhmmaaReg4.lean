/-
  As XReg3, calls of functions too: a region whose order is open and that makes and writes memory: each operation keeps what is known of the others' values, before and behind them; so whatever order is picked, at the end all is known.
-/
import Derived.Deep.Quiet
import Derived.StillTail
import Derived.Tactics
import Derived.Tactics2
import Derived.KernelRfl
namespace Go.Proofs.Ytfbflbiohbhmmaa
namespace Rg
section
variable {P : Program} {ops : Array Oper} {md : Region.Mode}

/-- All operations' values, each in its place. -/
def putAll (vs : Nat → Value) : Nat → List Oper → Act → Act
  | _, [], a => a
  | k, o :: l, a => putAll vs (k + 1) l (a.put o.dst (vs k))

def setV (vs : Nat → Value) (i : Nat) (v : Value) : Nat → Value := fun j => if j = i then v else vs j

theorem put_put (a : Act) (x : Option Tmp) (u v : Value) : (a.put x u).put x v = a.put x v := by
  cases x with
  | none => rfl
  | some d => simp [Act.put, Array.setIfInBounds_setIfInBounds]

def distinctD (l : List Oper) : Bool :=
  match l with
  | [] => true
  | o :: l => (o.dst.isNone || l.all fun o' => o'.dst != o.dst) && distinctD l

theorem putAll_put (vs : Nat → Value) (x : Option Tmp) (v : Value) : ∀ (l : List Oper) (k : Nat) (a : Act), (∀ o ∈ l, ∀ d, o.dst = some d → x ≠ some d) → (putAll vs k l a).put x v = putAll vs k l (a.put x v)
  | [], _, _, _ => rfl
  | o :: l, k, a, h => by
    show (putAll vs (k + 1) l _).put x v = putAll vs (k + 1) l _
    rw [putAll_put vs x v l (k + 1) _ (fun o' ho' => h o' (List.mem_cons_of_mem _ ho')), Act.put_comm a (vs k) v (fun d hd => h o (List.mem_cons_self ..) d hd)]

theorem putAll_vs {vs vs' : Nat → Value} : ∀ (l : List Oper) (k : Nat) (a : Act), (∀ j, k ≤ j → vs j = vs' j) → putAll vs k l a = putAll vs' k l a
  | [], _, _, _ => rfl
  | o :: l, k, a, h => by
    show putAll vs (k + 1) l _ = putAll vs' (k + 1) l _
    rw [h k (Nat.le_refl _), putAll_vs l (k + 1) _ (fun j hj => h j (by omega))]

theorem putAll_set (vs : Nat → Value) (v : Value) : ∀ (l : List Oper) (k i : Nat) (a : Act) (o : Oper), distinctD l = true → l[i]? = some o → (putAll vs k l a).put o.dst v = putAll (setV vs (k + i) v) k l a
  | [], _, i, _, _, _, h => by simp at h
  | o0 :: l, k, 0, a, o, hd, h => by
    simp at h
    subst h
    simp only [distinctD, Bool.and_eq_true, Bool.or_eq_true] at hd
    show (putAll vs (k + 1) l (a.put o0.dst (vs k))).put o0.dst v = putAll (setV vs (k + 0) v) (k + 1) l (a.put o0.dst (setV vs (k + 0) v k))
    have e1 : setV vs (k + 0) v k = v := by simp [setV]
    rw [e1, ← putAll_vs (vs := vs) (vs' := setV vs (k + 0) v) l (k + 1) _ (fun j hj => by simp [setV]; omega)]
    rcases hd.1 with hn | hall
    · cases hx : o0.dst with
      | none => rfl
      | some d => rw [hx] at hn; cases hn
    · rw [putAll_put vs o0.dst v l (k + 1) _ (fun o' ho' d hd' hx => by
        have := List.all_eq_true.1 hall o' ho'
        rw [hd', hx] at this
        simp at this), put_put]
  | o0 :: l, k, i + 1, a, o, hd, h => by
    simp only [distinctD, Bool.and_eq_true] at hd
    have h' : l[i]? = some o := by simpa using h
    show (putAll vs (k + 1) l (a.put o0.dst (vs k))).put o.dst v = putAll (setV vs (k + (i + 1)) v) (k + 1) l (a.put o0.dst (setV vs (k + (i + 1)) v k))
    have e1 : setV vs (k + (i + 1)) v k = vs k := by simp [setV]
    rw [e1, putAll_set vs v l (k + 1) i _ o hd.2 h', show k + 1 + i = k + (i + 1) by omega]

/-- What an operation's place holds ahead of the region. -/
def old (a : Act) (ops : Array Oper) (i : Nat) : Value := match ops[i]? with
  | some o => match o.dst with
    | some d => a.tmps.getD d undef
    | none => undef
  | none => undef

theorem put_same (a : Act) (d : Tmp) : a.put (some d) (a.tmps.getD d undef) = a := by
  unfold Act.put
  have : a.tmps.setIfInBounds d (a.tmps.getD d undef) = a.tmps := by
    apply Array.ext_getElem?
    intro j
    rw [Array.getElem?_setIfInBounds]
    split
    · rename_i h; subst h
      split
      · rename_i h2; simp [h2]
      · rename_i h2; rw [Array.getElem?_eq_none (by omega)]
    · rfl
  simp only [this]
theorem putAll_old (a : Act) (ops : Array Oper) : ∀ (l : List Oper) (k : Nat), (∀ j, l[j]? = ops[k + j]?) → putAll (old a ops) k l a = a
  | [], _, _ => rfl
  | o :: l, k, h => by
    have h0 : ops[k]? = some o := by simpa using (h 0).symm
    have e : a.put o.dst (old a ops k) = a := by
      unfold old
      rw [h0]
      cases hd : o.dst with
      | none => simp [Act.put]
      | some d => simp only [hd]; exact put_same a d
    show putAll (old a ops) (k + 1) l (a.put o.dst (old a ops k)) = a
    rw [e]
    exact putAll_old a ops l (k + 1) (fun j => by have := h (j + 1); simpa [Nat.add_assoc, Nat.add_comm 1 j] using this)

/-- What an operation waits for, and what waits for it. -/
def waits (md : Region.Mode) (o : Oper) (j : Nat) : Bool := o.after.any fun e => Region.binds md e && e.on == j
def waitsAt (md : Region.Mode) (ops : Array Oper) (i j : Nat) : Bool := match ops[i]? with
  | some o => waits md o j
  | none => false

/-- One operation's part. G: what is known of the world throughout; p: of an operation's value, once it is there; r: what an operation needs, till it is run. -/
def Part (P : Program) (md : Region.Mode) (ops : Array Oper) (a : Act) (G : World → Prop) (p : Nat → (Nat → Value) → Value → World → Prop) (r : Nat → World → Prop) (i : Nat) (o : Oper) : Prop :=
  o.guard = none ∧ ∀ (vs : Nat → Value) (w : World), G w → r i w → (∀ j, waits md o j = true → p j vs (vs j) w) → (∀ j, waitsAt md ops j i = true → vs j = old a ops j) →
    ∀ (K : Act → World → Prop) (Q' : Exit → Act → World → Prop), (∀ v w', G w' → p i vs v w' → (∀ j u, j ≠ i → waitsAt md ops j i = false → p j vs u w → p j vs u w') → (∀ j, j ≠ i → r j w → r j w') → K ((putAll vs 0 ops.toList a).put o.dst v) w') →
      o.wp P (putAll vs 0 ops.toList a) w K Q'
/-- A part that yields a value at once. -/
theorem part_val {a : Act} {G : World → Prop} {p : Nat → (Nat → Value) → Value → World → Prop} {r : Nat → World → Prop} {i : Nat} {o : Oper} (hg : o.guard = none)
    (h : ∀ (vs : Nat → Value) (w : World), G w → r i w → (∀ j, waits md o j = true → p j vs (vs j) w) → (∀ j, waitsAt md ops j i = true → vs j = old a ops j) →
      ∃ v w', (execOp (putAll vs 0 ops.toList a).eval o).run P w = .ok (.value v) w' ∧ G w' ∧ p i vs v w' ∧ (∀ j u, j ≠ i → waitsAt md ops j i = false → p j vs u w → p j vs u w') ∧ (∀ j, j ≠ i → r j w → r j w')) :
    Part P md ops a G p r i o :=
  ⟨hg, fun vs w h1 h2 h3 h4 K Q' hK => by
    obtain ⟨v, w', e, k1, k2, k3, k4⟩ := h vs w h1 h2 h3 h4
    unfold Oper.wp
    rw [e]
    exact hK v w' k1 k2 k3 k4⟩
/-- A part that yields no value. -/
theorem part_skip {a : Act} {G : World → Prop} {p : Nat → (Nat → Value) → Value → World → Prop} {r : Nat → World → Prop} {i : Nat} {o : Oper} (hg : o.guard = none)
    (h : ∀ (vs : Nat → Value) (w : World), G w → r i w → (∀ j, waits md o j = true → p j vs (vs j) w) → (∀ j, waitsAt md ops j i = true → vs j = old a ops j) →
      ∃ w', (execOp (putAll vs 0 ops.toList a).eval o).run P w = .ok .skip w' ∧ G w' ∧ p i vs undef w' ∧ (∀ j u, j ≠ i → waitsAt md ops j i = false → p j vs u w → p j vs u w') ∧ (∀ j, j ≠ i → r j w → r j w')) :
    Part P md ops a G p r i o :=
  ⟨hg, fun vs w h1 h2 h3 h4 K Q' hK => by
    obtain ⟨w', e, k1, k2, k3, k4⟩ := h vs w h1 h2 h3 h4
    unfold Oper.wp
    rw [e]
    exact hK undef w' k1 k2 k3 k4⟩
/-- A part that calls a function. -/
theorem part_call {a : Act} {G : World → Prop} {p : Nat → (Nat → Value) → Value → World → Prop} {r : Nat → World → Prop} {i : Nat} {o : Oper} (hg : o.guard = none)
    (h : ∀ (vs : Nat → Value) (w : World), G w → r i w → (∀ j, waits md o j = true → p j vs (vs j) w) → (∀ j, waitsAt md ops j i = true → vs j = old a ops j) →
      ∃ f args, (execOp (putAll vs 0 ops.toList a).eval o).run P w = .ok (.enter f args) w ∧ Calls P f args w (fun e w' => ∃ v, e = .returned v ∧ G w' ∧ p i vs v w' ∧ (∀ j u, j ≠ i → waitsAt md ops j i = false → p j vs u w → p j vs u w') ∧ (∀ j, j ≠ i → r j w → r j w'))) :
    Part P md ops a G p r i o :=
  ⟨hg, fun vs w h1 h2 h3 h4 K Q' hK => by
    obtain ⟨f, args, e, hc⟩ := h vs w h1 h2 h3 h4
    unfold Oper.wp
    rw [e]
    simp only [Oper.upon]
    exact hc.mono fun e w' ⟨v, he, k1, k2, k3, k4⟩ => by subst he; exact hK v w' k1 k2 k3 k4⟩

def parts (P : Program) (md : Region.Mode) (ops : Array Oper) (a : Act) (G : World → Prop) (p : Nat → (Nat → Value) → Value → World → Prop) (r : Nat → World → Prop) : Nat → List Oper → Prop
  | _, [] => True
  | k, o :: l => Part P md ops a G p r k o ∧ parts P md ops a G p r (k + 1) l

theorem parts_at {a : Act} {G : World → Prop} {p : Nat → (Nat → Value) → Value → World → Prop} {r : Nat → World → Prop} : ∀ (l : List Oper) (k : Nat), parts P md ops a G p r k l → ∀ (i : Nat) (o : Oper), l[i]? = some o → Part P md ops a G p r (k + i) o
  | [], _, _, i, _, h => by simp at h
  | o0 :: l, k, hp, 0, o, h => by simp at h; subst h; exact hp.1
  | o0 :: l, k, hp, i + 1, o, h => by
    have := parts_at l (k + 1) hp.2 i o (by simpa using h)
    rwa [show k + 1 + i = k + (i + 1) by omega] at this

/-- Each edge that binds goes back in the text. -/
def backB (md : Region.Mode) (ops : Array Oper) : Bool := (List.range ops.size).all fun i => match ops[i]? with
  | some o => o.after.all fun e => !Region.binds md e || decide (e.on < i)
  | none => true

theorem none_ready {listed : Array Bool} (hb : backB md ops = true) (hr : Region.ready md ops listed = []) : ∀ j, j < ops.size → listed.getD j true = true := by
  intro j
  induction j using Nat.strongRecOn with
  | _ j ih =>
    intro hj
    cases h : listed.getD j true with
    | true => rfl
    | false =>
      exfalso
      obtain ⟨o, ho⟩ : ∃ o, ops[j]? = some o := ⟨ops[j], Array.getElem?_eq_getElem hj⟩
      have hm : j ∈ Region.ready md ops listed := mem_ready.2 ⟨h, o, ho, fun e he hbd => by
        have h1 := List.all_eq_true.1 hb j (List.mem_range.2 hj)
        rw [ho] at h1
        have h2 := Array.all_eq_true_iff_forall_mem.1 h1 e he
        rw [hbd] at h2
        simp at h2
        have h3 := ih e.on h2 (by omega)
        cases hl : listed[e.on]? with
        | none =>
          exfalso
          have hz : listed.size ≤ e.on := by simpa using hl
          have : listed.getD j true = true := by simp [Array.getElem?_eq_none (show listed.size ≤ j by omega)]
          rw [h] at this; cases this
        | some b =>
          simp [hl] at h3 ⊢
          exact h3⟩
      rw [hr] at hm
      cases hm

theorem putAll_defers (vs : Nat → Value) : ∀ (l : List Oper) (k : Nat) (a : Act), (putAll vs k l a).defers = a.defers
  | [], _, _ => rfl
  | o :: l, k, a => by
    show (putAll vs (k + 1) l (a.put o.dst (vs k))).defers = _
    rw [putAll_defers vs l (k + 1)]
    cases o.dst <;> rfl
theorem putAll_size (vs : Nat → Value) : ∀ (l : List Oper) (k : Nat) (a : Act), (putAll vs k l a).tmps.size = a.tmps.size
  | [], _, _ => rfl
  | o :: l, k, a => by
    show (putAll vs (k + 1) l (a.put o.dst (vs k))).tmps.size = _
    rw [putAll_size vs l (k + 1)]
    cases o.dst with
    | none => rfl
    | some d => simp [Act.put]
/-- A place that no operation writes. -/
theorem putAll_keep (vs : Nat → Value) (d : Tmp) : ∀ (l : List Oper) (k : Nat) (a : Act), (l.all fun o => o.dst != some d) = true → (putAll vs k l a).tmps.getD d undef = a.tmps.getD d undef
  | [], _, _, _ => rfl
  | o :: l, k, a, h => by
    simp only [List.all_cons, Bool.and_eq_true] at h
    show (putAll vs (k + 1) l (a.put o.dst (vs k))).tmps.getD d undef = _
    rw [putAll_keep vs d l (k + 1) _ h.2]
    cases hd : o.dst with
    | none => rfl
    | some e =>
      have hne : e ≠ d := by intro he; rw [hd, he] at h; simp at h
      simp [Act.put, Array.getElem?_setIfInBounds_ne hne]
/-- The place of operation i. -/
theorem putAll_at (vs : Nat → Value) (d : Tmp) : ∀ (l : List Oper) (k i : Nat) (a : Act), distinctD l = true → (l[i]?).bind (·.dst) = some d → d < a.tmps.size → (putAll vs k l a).tmps.getD d undef = vs (k + i)
  | [], _, i, _, _, h, _ => by simp at h
  | o :: l, k, 0, a, hd, h, hs => by
    have ho : o.dst = some d := by simpa using h
    simp only [distinctD, Bool.and_eq_true, Bool.or_eq_true] at hd
    show (putAll vs (k + 1) l (a.put o.dst (vs k))).tmps.getD d undef = _
    rw [putAll_keep vs d l (k + 1) _ (by
      rcases hd.1 with hn | hall
      · rw [ho] at hn; cases hn
      · rw [← ho]; exact hall), ho]
    simp [Act.put, hs]
  | o :: l, k, i + 1, a, hd, h, hs => by
    simp only [distinctD, Bool.and_eq_true] at hd
    show (putAll vs (k + 1) l (a.put o.dst (vs k))).tmps.getD d undef = _
    rw [putAll_at vs d l (k + 1) i _ hd.2 (by simpa using h) (by cases o.dst <;> simp [Act.put, hs]), show k + 1 + i = k + (i + 1) by omega]

theorem waits_self (hb : backB md ops = true) (i : Nat) : waitsAt md ops i i = false := by
  cases hq : waitsAt md ops i i with
  | false => rfl
  | true =>
    exfalso
    unfold waitsAt at hq
    cases ho : ops[i]? with
    | none => rw [ho] at hq; cases hq
    | some o =>
      rw [ho] at hq
      unfold waits at hq
      obtain ⟨e, he, hbd⟩ := Array.any_eq_true'.1 hq
      simp only [Bool.and_eq_true, beq_iff_eq] at hbd
      have h1 := List.all_eq_true.1 hb i (List.mem_range.2 (Array.getElem?_eq_some_iff.1 ho).1)
      rw [ho] at h1
      have h2 := Array.all_eq_true_iff_forall_mem.1 h1 e he
      rw [hbd.1] at h2
      simp at h2
      omega

structure Og (md : Region.Mode) (ops : Array Oper) (a0 : Act) (G : World → Prop) (p : Nat → (Nat → Value) → Value → World → Prop) (r : Nat → World → Prop) (listed : Array Bool) (a : Act) (w : World) (vs : Nat → Value) : Prop where
  act : a = putAll vs 0 ops.toList a0
  size : listed.size = ops.size
  g : G w
  done : ∀ j, j < ops.size → listed.getD j true = true → p j vs (vs j) w
  todo : ∀ j, j < ops.size → listed.getD j true = false → r j w ∧ vs j = old a0 ops j
  closed : ∀ j oj, ops[j]? = some oj → listed.getD j true = true → ∀ e ∈ oj.after, Region.binds md e = true → listed.getD e.on true = true

theorem og_any {Q : Exit → Act → World → Prop} {a0 : Act} {G : World → Prop} {p : Nat → (Nat → Value) → Value → World → Prop} {r : Nat → World → Prop}
    (hloc : ∀ i j vs v u w, waitsAt md ops j i = false → p j vs u w → p j (setV vs i v) u w) (hdis : distinctD ops.toList = true) (hback : backB md ops = true) (hparts : parts P md ops a0 G p r 0 ops.toList)
    (hfin : ∀ (vs : Nat → Value) (w : World), G w → (∀ j, j < ops.size → p j vs (vs j) w) → Q .normal (putAll vs 0 ops.toList a0) w) :
    ∀ (f : Nat) (listed : Array Bool) (a : Act) (w : World) (vs : Nat → Value), listed.toList.count false = f → Og md ops a0 G p r listed a w vs → wpAny P md ops Q f listed a w := by
  intro f
  induction f with
  | zero =>
    intro listed a w vs hc inv
    have hall : ∀ j, j < ops.size → listed.getD j true = true := by
      intro j hj
      cases h : listed.getD j true with
      | true => rfl
      | false =>
        exfalso
        have hjs : j < listed.size := by rw [inv.size]; exact hj
        have hm : false ∈ listed.toList := by
          simp [hjs] at h
          rw [← h]; exact Array.getElem_mem_toList hjs
        exact List.count_eq_zero.1 hc hm
    refine ⟨?_, by rw [inv.act]; exact hfin vs w inv.g (fun j hj => inv.done j hj (hall j hj))⟩
    rw [List.eq_nil_iff_forall_not_mem]
    intro j hj
    obtain ⟨h, o, ho, _⟩ := mem_ready.1 hj
    rw [hall j (Array.getElem?_eq_some_iff.1 ho).1] at h
    cases h
  | succ f ih =>
    intro listed a w vs hc inv
    refine ⟨fun hr => by rw [inv.act]; exact hfin vs w inv.g (fun j hj => inv.done j hj (none_ready hback hr j hj)), fun i hi => ?_⟩
    obtain ⟨hun, o, ho, haft⟩ := mem_ready.1 hi
    have hin := (Array.getElem?_eq_some_iff.1 ho).1
    have hol : ops.toList[i]? = some o := by rw [Array.getElem?_toList]; exact ho
    have hpart := parts_at ops.toList 0 hparts i o hol
    rw [Nat.zero_add] at hpart
    obtain ⟨hg, hstep⟩ := hpart
    have hst := hstep vs w inv.g (inv.todo i hin hun).1
      (fun j hj => by
        unfold waits at hj
        obtain ⟨e, he, hb⟩ := Array.any_eq_true'.1 hj
        simp only [Bool.and_eq_true, beq_iff_eq] at hb
        have hl := haft e he hb.1
        rw [hb.2] at hl
        have hjl : j < listed.size := by
          rcases Nat.lt_or_ge j listed.size with h | h
          · exact h
          · simp [Array.getElem?_eq_none h] at hl
        refine inv.done j (by rw [← inv.size]; exact hjl) ?_
        simp [hjl] at hl ⊢
        exact hl)
      (fun j hj => by
        unfold waitsAt at hj
        cases hoj : ops[j]? with
        | none => rw [hoj] at hj; cases hj
        | some oj =>
          rw [hoj] at hj
          simp only at hj
          unfold waits at hj
          obtain ⟨e, he, hb⟩ := Array.any_eq_true'.1 hj
          simp only [Bool.and_eq_true, beq_iff_eq] at hb
          have hjn := (Array.getElem?_eq_some_iff.1 hoj).1
          cases hl : listed.getD j true with
          | false => exact (inv.todo j hjn hl).2
          | true =>
            have := inv.closed j oj hoj hl e he hb.1
            rw [hb.2, hun] at this
            cases this)
    unfold wpOp
    rw [ho]
    simp only
    rw [if_pos (by simp [Region.wanted, hg])]
    refine .inl ?_
    rw [inv.act]
    refine hst _ _ (fun v w' hG hpv hsp hsr => ?_)
    show wpAny P md ops Q f (listed.setIfInBounds i true) _ w'
    have hils : i < listed.size := by rw [inv.size]; exact hin
    have hcount : (listed.setIfInBounds i true).toList.count false = f := by
      rw [Array.toList_setIfInBounds, List.count_set (by simpa using hils)]
      have : listed.toList[i]'(by simpa using hils) = false := by
        simp [hils] at hun
        simpa using hun
      rw [this, hc]
      simp
    refine ih _ _ w' (setV vs i v) hcount ⟨?_, by simp [inv.size], hG, ?_, ?_, ?_⟩
    · have := putAll_set vs v ops.toList 0 i a0 o hdis hol
      rw [Nat.zero_add] at this
      exact this
    · intro j hj hl
      by_cases hji : j = i
      · subst hji
        have := hloc j j vs v v w' (waits_self hback j) hpv
        simpa [setV] using this
      · have hl' : listed.getD j true = true := by
          simpa [Array.getElem?_setIfInBounds_ne (Ne.symm hji)] using hl
        have hnw : waitsAt md ops j i = false := by
          cases hq : waitsAt md ops j i with
          | false => rfl
          | true =>
            exfalso
            unfold waitsAt at hq
            obtain ⟨oj, hoj⟩ : ∃ oj, ops[j]? = some oj := ⟨ops[j], Array.getElem?_eq_getElem hj⟩
            rw [hoj] at hq
            unfold waits at hq
            obtain ⟨e, he, hb⟩ := Array.any_eq_true'.1 hq
            simp only [Bool.and_eq_true, beq_iff_eq] at hb
            have := inv.closed j oj hoj hl' e he hb.1
            rw [hb.2, hun] at this
            cases this
        have := hloc i j vs v (vs j) w' hnw (hsp j (vs j) hji hnw (inv.done j hj hl'))
        simpa [setV, hji] using this
    · intro j hj hl
      by_cases hji : j = i
      · subst hji
        simp [hils] at hl
      · have hl' : listed.getD j true = false := by
          simpa [Array.getElem?_setIfInBounds_ne (Ne.symm hji)] using hl
        obtain ⟨h1, h2⟩ := inv.todo j hj hl'
        exact ⟨hsr j hji h1, by simpa [setV, hji] using h2⟩
    · intro j oj hoj hl e he hb
      by_cases hei : e.on = i
      · rw [hei]; simp [hils]
      · have key : listed.getD e.on true = true := by
          by_cases hji : j = i
          · subst hji
            rw [ho] at hoj
            cases hoj
            have := haft e he hb
            cases hq : listed[e.on]? with
            | none => simp [hq] at this
            | some b => simp [hq] at this ⊢; exact this
          · have hl' : listed.getD j true = true := by simpa [Array.getElem?_setIfInBounds_ne (Ne.symm hji)] using hl
            exact inv.closed j oj hoj hl' e he hb
        simpa [Array.getElem?_setIfInBounds_ne (Ne.symm hei)] using key

/-- Whatever order the region takes. -/
theorem region_og {id : Nat} {Q : Exit → Act → World → Prop} {a : Act} {w : World} (G : World → Prop) (p : Nat → (Nat → Value) → Value → World → Prop) (r : Nat → World → Prop)
    (hm : P.follows .mixedOrders = true) (hloc : ∀ i j vs v u w, waitsAt .any ops j i = false → p j vs u w → p j (setV vs i v) u w) (hB : (distinctD ops.toList && backB .any ops) = true) (hG : G { w with drawn := w.drawn + 1 }) (hr : ∀ j, j < ops.size → r j { w with drawn := w.drawn + 1 })
    (hparts : parts P .any ops a G p r 0 ops.toList)
    (hfin : ∀ (vs : Nat → Value) (w : World), G w → (∀ j, j < ops.size → p j vs (vs j) w) → Q .normal (putAll vs 0 ops.toList a) w) :
    (Code.region id ops true).wp P Q a w := by
  simp only [Bool.and_eq_true] at hB
  refine wp_region_any hm (og_any hloc hB.1 hB.2 hparts hfin ops.size _ a _ (old a ops) (by simp) ⟨?_, by simp, hG, ?_, ?_, ?_⟩)
  · exact (putAll_old a ops ops.toList 0 (fun j => by rw [Array.getElem?_toList, Nat.zero_add])).symm
  · intro j hj hl
    simp [hj] at hl
  · intro j hj _
    exact ⟨hr j hj, rfl⟩
  · intro j oj hoj hl
    have hj := (Array.getElem?_eq_some_iff.1 hoj).1
    simp [hj] at hl
end
end Rg
end Go.Proofs.Ytfbflbiohbhmmaa
