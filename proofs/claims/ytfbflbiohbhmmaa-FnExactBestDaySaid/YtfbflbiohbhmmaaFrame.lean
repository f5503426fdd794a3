/-
  The frame of a law's row, of whatever law: a call that answers true and leaves alone all that was there meets the row; what a struct of plain cells looks like.
-/
import Derived.WalkKit
import Derived.ProofKit
import Derived.OpenShut
import Derived.Laws.FloatArith
import Derived.SizedLaws
namespace Go.Proofs.Ytfbflbiohbhmmaa
open Go.ChangeShapes Go.WideShapes Go.ChangeAt Go.RowKit

namespace Fr
/-- What a struct or an array of plain cells looks like. -/
theorem agg_of_okWide {P : Program} {w : World} {r : Reach} {base : Nat} {t : TypeId} {v : Value} {ts : List TypeId} (hct : P.cellTypes P.depth t = some ts) (hc : P.cellsOf t = ts.length)
    (ha : (match P.underlying t with | some (.struct _) | some (.array _ _) => true | _ => false) = true) (h : Value.okWide P w r base t v) :
    ∃ cs, v = .agg cs ∧ cs.size = ts.length ∧ ∀ (i : Nat) (u : TypeId), ts[i]? = some u → ∃ x, cs[i]? = some x ∧ Cell.okWide P w r base u x := by
  have h' : ∃ cs, v = .agg cs ∧ cs.size = P.cellsOf t ∧ Row.okWide P w r base t cs := by
    unfold Value.okWide at h
    split at h
    · exact h
    · exact h
    · rename_i h1 h2
      split at ha
      · rename_i fs hf; exact absurd hf (h1 fs)
      · rename_i n e hf; exact absurd hf (h2 n e)
      · cases ha
  obtain ⟨cs, rfl, hs, ts', hts, _, hcell⟩ := h'
  rw [hct] at hts
  obtain rfl : ts = ts' := Option.some.inj hts
  refine ⟨cs, rfl, by rw [hs, hc], fun i u hu => ?_⟩
  have hi : i < ts.length := (List.getElem?_eq_some_iff.1 hu).1
  have hlt : i < cs.size := by rw [hs, hc]; exact hi
  obtain ⟨u', hu', hok⟩ := hcell i cs[i] (Array.getElem?_eq_getElem hlt)
  rw [Nat.mod_eq_of_lt hi, hu] at hu'
  obtain rfl : u = u' := Option.some.inj hu'
  exact ⟨cs[i], Array.getElem?_eq_getElem hlt, hok⟩

theorem float_of_okWide {P : Program} {w : World} {r : Reach} {base : Nat} {t : TypeId} {k : FloatKind} {v : Value} (ht : P.underlying t = some (.float k)) (h : Cell.okWide P w r base t v) :
    ∃ b, v = .float k b ∧ k.has b := by
  unfold Cell.okWide at h
  rw [ht] at h
  cases v <;> simp only [Cell.ok, ht] at h <;> first | exact h.elim | skip
  rename_i k' b
  obtain ⟨rfl, hb⟩ := h
  exact ⟨b, rfl, hb⟩

theorem int_of_okWide {P : Program} {w : World} {r : Reach} {base : Nat} {t : TypeId} {k : IntKind} {v : Value} (ht : P.underlying t = some (.int k)) (h : Cell.okWide P w r base t v) :
    ∃ n, v = .int k n ∧ k.has n := by
  unfold Cell.okWide at h
  rw [ht] at h
  cases v <;> simp only [Cell.ok, ht] at h <;> first | exact h.elim | skip
  rename_i k' b
  obtain ⟨rfl, hb⟩ := h
  exact ⟨b, rfl, hb⟩

theorem cell_of_value {P : Program} {w : World} {r : Reach} {base : Nat} {t : TypeId} {v : Value}
    (ha : (match P.underlying t with | some (.struct _) | some (.array _ _) => false | _ => true) = true) (h : Value.okWide P w r base t v) : Cell.okWide P w r base t v := by
  unfold Value.okWide at h
  split at h
  · rename_i fs hf; rw [hf] at ha; cases ha
  · rename_i n e hf; rw [hf] at ha; cases ha
  · exact h

/-- The arguments read behind the call as they read before it. -/
theorem trodAll_stays {H : Type} {enc : TypeId × Value → H} {P : Program} (hl : laidOutB P = true) {W W' : World} (hb : Below W.heap.size W W') :
    ∀ (ts : List TypeId) (vs : List Value) (ds : List (DataW H)) (ps : List MemPlace), (ts.all fun t => P.readableRec t && decide (t < P.types.size)) = true → (∀ x ∈ ps, x.block < W.heap.size) →
      DataW.TrodAll enc P W 0 (fun _ => true) true ts vs ds ps → DataW.TrodAll enc P W' 0 (fun b => decide (b < W.heap.size)) true ts vs ds ps
  | [], [], [], _, _, _, h => h
  | t :: ts, v :: vs, d :: ds, ps, hr, hlt, h => by
    obtain ⟨p, q, h1, h2, rfl⟩ := h
    simp only [List.all_cons, Bool.and_eq_true, decide_eq_true_eq] at hr
    exact ⟨p, q, Below.trod hl hr.1.1 hr.1.2 h1 hb (fun x hx => hlt x (List.mem_append_left _ hx)),
      trodAll_stays hl hb ts vs ds q (by simpa using hr.2) (fun x hx => hlt x (List.mem_append_right _ hx)) h2, rfl⟩
  | [], [], _ :: _, _, _, _, h => h.elim
  | [], _ :: _, _, _, _, _, h => h.elim
  | _ :: _, [], _, _, _, _, h => h.elim
  | _ :: _, _ :: _, [], _, _, _, h => h.elim

theorem trodVars_of_nil {H : Type} {enc : TypeId × Value → H} {P : Program} {W W' : World} {gs : List (DataW H)} {q : List MemPlace} {sp sp' : Nat → Bool} (h : DataW.TrodVars enc P W sp [] gs q) :
    gs = [] ∧ q = [] ∧ DataW.TrodVars enc P W' sp' [] gs q := by
  cases gs with
  | nil => exact ⟨rfl, h, h⟩
  | cons g gs => exact h.elim

/-- What a law's row asks behind the call. -/
theorem law_post {H : Type} {enc : TypeId × Value → H} {P : Program} {f : Func} {s : ChangeSpec} {W W' : World} {args : Array Value} {ds gs : List (DataW H)} {before : List MemPlace} {tb : TypeId}
    (hl : laidOutB P = true) (hts : (f.params.toList.all fun t => P.readableRec t && decide (t < P.types.size)) = true)
    (hrt : f.resultTypes = #[tb]) (htb : P.underlying tb = some .bool) (hv : s.vars = [])
    (hfn : (s.fn H ds).results = [.lit (.bool true)] ∧ (s.fn H ds).args = ds ∧ (s.fn H ds).vars = [])
    (hW : DataW.Whole enc P f.params.toList s.vars false W args.toList ds gs before) (hb : Below W.heap.size W W') :
    s.post enc P f false true false false W args (.bool true) W' := by
  have hW' := hW
  obtain ⟨p, q, hA, hV, rfl, hfz, hnd⟩ := hW
  rw [hv] at hV
  obtain ⟨hgs, hq, hV'⟩ := trodVars_of_nil (W' := W') (sp' := fun b => decide (b < W.heap.size)) hV
  subst hgs; subst hq
  have hlt : ∀ x ∈ p, x.block < W.heap.size := fun x hx => by simpa using hW'.lt x (by simpa using hx)
  refine ⟨ds, [], p ++ [], [], p, [], hW', ?_, ?_, ?_, hb.frame _, fun h => by cases h⟩
  · rw [List.append_nil, hfn.1, hrt]
    exact trodAll_cons_mk (shut_bool htb _) trodAll_mk0
  · rw [List.append_nil, hfn.2.1]
    exact trodAll_stays hl hb _ _ _ _ hts hlt hA
  · rw [List.append_nil, hfn.2.2, hv]
    exact hV'
end Fr
end Go.Proofs.Ytfbflbiohbhmmaa
