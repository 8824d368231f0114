/- A map of numbers to texts, as a function: what is told of a number, what is laid. -/
import Derived.Test.YtaomjdgdkdkibaaDkC
import Derived.Maps.Own
import Derived.Maps.RangeWalk
import Derived.Maps.StringElems
namespace Go.Proofs.Ytaomjdgdkdkibaa.Dk
open Go.RowKit Go.Maps Go.Proofs.YtaomjdgdkdkibaaW.PrintWords Go.Proofs.YtaomjdgdkdkibaaW.PrintLast Go.Proofs.YtaomjdgdkdkibaaW.PrintMore Go.Proofs.Ytaomjdgdkdkibaa.XB
set_option linter.unusedVariables false
set_option linter.unusedSimpArgs false
abbrev kl (k : Int) : Lit := .int .i64 k
/-- the map reads as the function f -/
def Tells (D : DataW Unit) (f : Int → Option ByteArray) : Prop :=
  ∀ k : Int, (∀ v, f k = some v → has D (kl k) = true ∧ ∀ zd, D.atKey (kl k) zd = .lit (.string v.data.toList)) ∧ (f k = none → has D (kl k) = false)
def IsM (w : World) (b n : Nat) (f : Int → Option ByteArray) : Prop :=
  ∃ D : DataW Unit, w.ownsMap Try.prog 3 (plainElem Try.prog 9) b n D ∧ Tells D f
theorem law3 : Keyed Try.prog 3 := int_keyed Try.underlying3
theorem under46 : Try.prog.underlying 46 = some (.map 3 9) := by kernel_rfl
theorem zero9 (W : World) : (zeroValue 9).run Try.prog W = .ok (.string ⟨#[]⟩) W := by kernel_rfl
theorem IsM.kept {w w' : World} {b n : Nat} {f : Int → Option ByteArray} (h : IsM w b n f) (hg : w'.heap[b]? = w.heap[b]?) : IsM w' b n f := by
  obtain ⟨D, ⟨es, clock, hb, F, hs, hD⟩, ht⟩ := h
  exact ⟨D, ⟨es, clock, hg.trans hb, F, hs, hD⟩, ht⟩
theorem IsM.lt {w : World} {b n : Nat} {f : Int → Option ByteArray} (h : IsM w b n f) : b < w.heap.size := by
  obtain ⟨D, h, _⟩ := h
  exact h.lt
theorem IsM.empty {w : World} {b : Nat} (h : w.heap[b]? = some (.map #[] 0)) : IsM w b 0 (fun _ => none) := by
  refine ⟨.map [], ?_, ?_⟩
  rotate_left
  · intro k
    exact ⟨fun v hv => absurd hv (by simp), fun _ => rfl⟩
  obtain ⟨es, clock, hb, F, hs, hD⟩ := World.ownsMap_made (H := Unit) w Try.prog 3 (plainElem Try.prog 9)
  rw [heap_alloc_new] at hb
  injection hb with hb
  injection hb with hb1 hb2
  subst hb1 hb2
  exact ⟨#[], 0, h, F, hs, hD⟩
theorem str_ext {s v : ByteArray} (h : s.data.toList = v.data.toList) : s = v := by
  cases s; cases v
  congr
  exact Array.toList_inj.mp h
theorem IsM.look {w : World} {b n : Nat} {f : Int → Option ByteArray} (h : IsM w b n f) (k : Int) (hw : (Lit.int .i64 k).wf = true) (c : Bool) :
    (Instr.lookup 46 (.map (some b)) (.int .i64 k) c).run Try.prog w = .ok (if c then .tuple #[.string ((f k).getD ⟨#[]⟩), .bool (f k).isSome] else .string ((f k).getD ⟨#[]⟩)) w := by
  obtain ⟨D, ⟨es, clock, hb, F, hs, rfl⟩, ht⟩ := h
  have hkey := keyOf_int_mk (P := Try.prog) Try.underlying3 hw
  rcases fit_look c law3 under46 (zero9 w) hb F hkey with ⟨hrun, _, hat⟩ | ⟨e0, y, _, _, hrun, hRv, hat, _⟩
  · have h0 := has_false_of_atKey hat
    cases hf : f k with
    | some v =>
      have := ((ht k).1 v hf).1
      rw [h0] at this
      cases this
    | none => exact hrun
  · obtain ⟨s, hs1, hy, _⟩ := plainElem_string_inv Try.underlying9 hRv
    have h1 := has_true_of_atKey hat
    cases hf : f k with
    | none =>
      have := (ht k).2 hf
      rw [h1] at this
      cases this
    | some v =>
      have e1 := ((ht k).1 v hf).2 (.map [])
      rw [hat (.map []), hy] at e1
      injection e1 with e1
      injection e1 with e1
      obtain rfl := str_ext e1
      rw [hs1] at hrun
      exact hrun
theorem upd_of_grown {w w' : World} {b : Nat} (h : w.grownBy w' (some b)) : Upd (fun k => k = b) w w' := ⟨h.os, h.tape, h.output, h.size, fun i hi hn => h.block i hi (fun e => hn (Option.some.inj e))⟩
theorem IsM.put {w : World} {b n : Nat} {f : Int → Option ByteArray} (h : IsM w b n f) (k : Int) (hw : (Lit.int .i64 k).wf = true) (v : ByteArray) (hv : v.size ≤ maxLen) (hn : n < maxLen) :
    ∃ w', (Instr.mapUpdate 46 (.map (some b)) (.int .i64 k) (.string v)).run Try.prog w = .ok () w' ∧ IsM w' b (n + 1) (fun j => if j = k then some v else f j) ∧ Upd (fun j => j = b) w w' := by
  obtain ⟨D, ho, ht⟩ := h
  have hkey := keyOf_int_mk (P := Try.prog) Try.underlying3 hw
  obtain ⟨w', hrun, ho', hg⟩ := ho.update law3 under46 hn hkey (plainElem_string Try.underlying9 hv)
  have hm : Maps.IsMap D := by
    obtain ⟨es, clock, _, _, _, hD⟩ := ho
    exact ⟨_, hD⟩
  refine ⟨w', hrun, ⟨_, ho', fun j => ?_⟩, upd_of_grown hg⟩
  by_cases hj : j = k
  · subst hj
    rw [show (fun i => if i = j then some v else f i) j = some v from if_pos rfl]
    refine ⟨fun v' hv' => ?_, fun hn => by cases hn⟩
    obtain rfl := Option.some.inj hv'
    exact ⟨has_put_same hm (show WideAt.IsKeyLit (kl j) from trivial) _, fun zd => atKey_put_same hm (show WideAt.IsKeyLit (kl j) from trivial) _ _⟩
  · rw [show (fun i => if i = k then some v else f i) j = f j from if_neg hj]
    have hne : kl j ≠ kl k := fun e => hj (by injection e)
    refine ⟨fun v' hv' => ?_, fun hn => ?_⟩
    · rw [has_put_other hne, ((ht j).1 v' hv').1]
      exact ⟨rfl, fun zd => by rw [atKey_put_other hne]; exact ((ht j).1 v' hv').2 zd⟩
    · rw [has_put_other hne]
      exact (ht j).2 hn
end Go.Proofs.Ytaomjdgdkdkibaa.Dk
