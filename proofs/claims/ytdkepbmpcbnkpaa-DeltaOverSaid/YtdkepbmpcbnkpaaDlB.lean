/- One more change at its place (slices.Insert), walked. -/
import Derived.Test.YtdkepbmpcbnkpaaDlA
import Derived.Shelf.Spec.SlicesInsertGrow
namespace Go.Proofs.Ytdkepbmpcbnkpaa.Dl
open Go.Shelf Go.RowKit Go.Lib Go.Proofs.YtdkepbmpcbnkpaaW.PrintWords Go.Proofs.YtdkepbmpcbnkpaaW.PrintLast Go.Proofs.YtdkepbmpcbnkpaaW.PrintMore Go.Proofs.Ytdkepbmpcbnkpaa.XB Go.Proofs.Ytdkepbmpcbnkpaa.PDeltaPlays
set_option linter.unusedVariables false
set_option linter.unusedSimpArgs false
/-- a change's cells -/
def c3 (x : S26) : List Value := [.string x.f0, .string x.f1, .bool x.f2]
theorem row26 {W : World} {base g n cap : Nat} {ok : Nat → Prop} {cur : Array Value} {xs : List S26} {inner : List Value} (hg : W.heap[g]? = some (.cells cur 26 (0, 0))) (hb : base ≤ g) (ho : ok g) (hn : n = xs.length) (hc : n ≤ cap) (hm : cap ≤ maxLen) (hs : cur.size = cap * 3) (ht : cur.toList.take (n * 3) = inner) (hr : Reps (fun x cs => cs = c3 x) 3 xs inner) : Kd.R k26 26 W base ok (.slice (some ⟨g, 0, none⟩) n cap) xs := by
  subst hn
  refine ⟨fun k hk => ?_, inner, ⟨hr.1, .inr ⟨g, cap, cur, rfl, hb, hg, hc, hm, hs, ht⟩⟩, hr.imp_ fun x cs h => ?_⟩
  · have e : g = k := by simpa [Value.ownBlock] using hk
    rw [← e]; exact ho
  · rw [h]
    exact k26_mkM _ _ _ x
theorem open26 {W : World} {base : Nat} {ok : Nat → Prop} {v : Value} {xs : List S26} (h : Kd.R k26 26 W base ok v xs) : ∃ inner, W.ownsRow base 26 3 v xs.length inner ∧ Reps (fun x cs => cs = c3 x) 3 xs inner := by
  obtain ⟨_, inner, ho, hr⟩ := h
  exact ⟨inner, ho, hr.imp_ fun x cs h => k26_openM h⟩
theorem reps_ones {xs : List S26} {inner : List Value} (h : Reps (fun x cs => cs = c3 x) 3 xs inner) : ∀ v ∈ inner, v.oneCell' = true := by
  intro v hv
  obtain ⟨q, hq, rfl⟩ := List.getElem_of_mem hv
  have hl := h.1
  have hj : q / 3 < xs.length := by omega
  have e := h.2 (q / 3) _ (List.getElem?_eq_getElem hj)
  have e2 : ((inner.drop (q / 3 * 3)).take 3)[q % 3]? = some inner[q] := by
    rw [List.getElem?_take_of_lt (by omega), List.getElem?_drop, show q / 3 * 3 + q % 3 = q by omega, List.getElem?_eq_getElem hq]
  rw [e] at e2
  have e3 := List.mem_of_getElem? e2
  unfold c3 at e3
  simp only [List.mem_cons, List.not_mem_nil, or_false] at e3
  rcases e3 with e3 | e3 | e3 <;> rw [e3] <;> rfl
theorem reps_one (x : S26) : Reps (fun x cs => cs = c3 x) 3 [x] (c3 x) := by
  refine ⟨rfl, fun j p hj => ?_⟩
  match j, hj with
  | 0, hj => obtain rfl := Option.some.inj hj; rfl
  | j + 1, hj => simp at hj
/-- one more, at a place -/
def insC (xs : List S26) (i : Nat) (x : S26) : List S26 := xs.take i ++ [x] ++ xs.drop i
theorem insC_length (xs : List S26) (i : Nat) (x : S26) (h : i ≤ xs.length) : (insC xs i x).length = xs.length + 1 := by
  simp [insC, Nat.min_eq_left h]; omega
theorem reps_ins {xs : List S26} {inner : List Value} (h : Reps (fun x cs => cs = c3 x) 3 xs inner) (i : Nat) (hi : i ≤ xs.length) (x : S26) : Reps (fun x cs => cs = c3 x) 3 (insC xs i x) (inner.take (i * 3) ++ c3 x ++ inner.drop (i * 3)) :=
  Kd.reps_append (Kd.reps_append (Kd.reps_take h hi) (reps_one x)) (Kd.reps_drop h)
/-- what copy does, for elements of so many cells -/
theorem run_copy_k {P : Program} (w : World) (dT sT ty elem : TypeId) (k : Nat) (b o dLen dCap : Nat) (a : Addr) (sLen sCap n : Nat) (cs : List Value)
    (hu : P.underlying dT = some (.slice elem)) (hs : (P.info? elem).map (·.size) = some k) (hn : n = Nat.min sLen dLen) (hl : cs.length = n * k)
    (hsrc : ∀ j v, cs[j]? = some v → w.cell? (a.add j) = some v) (hc : ∀ j, j < cs.length → (w.cell? ⟨b, o + j, none⟩).isSome = true) (hf : ∀ j, j < cs.length → w.frozen? ⟨b, o + j, none⟩ = false) (h1 : ∀ v ∈ cs, v.oneCell' = true) :
    (Builtin.copy_ #[dT, sT] ty #[.slice (some ⟨b, o, none⟩) dLen dCap, .slice (some a) sLen sCap]).run P w = .ok (goInt n) (w.setCells b o cs) := by
  have hl2 := run_loadCells_list (P := P) w a cs hsrc
  have hst := run_storeCells_cells (P := P) b o cs 0 w (by simpa using hc) (by simpa using hf) h1
  cases hq : P.info? elem with
  | none => simp [hq] at hs
  | some i =>
    have hi : i.size = k := by simpa [hq] using hs
    rw [hl] at hl2
    simp [Builtin.copy_, run_underlying hu, Builtin.lenOf, Builtin.firstCells, sizeOf, typeInfo, hq, hi, ← hn, hl2, hst]
theorem size26 : (Try.prog.info? 26).map (·.size) = some 3 := by kernel_rfl
theorem add3 (b o j : Nat) : (⟨b, o, none⟩ : Addr).add j = ⟨b, o + j, none⟩ := by unfold Addr.add; split <;> simp_all
set_option maxHeartbeats 4000000 in
set_option maxRecDepth 100000 in
theorem insert_end (W : World) (base : Nat) (ok : Nat → Prop) (hfresh : ∀ k, W.heap.size ≤ k → ok k) (A : Option Addr) (c : Nat) (xs : List S26) (hr : Kd.R k26 26 W base ok (.slice A xs.length c) xs) (hl : xs.length < 1000) (q : Nat) (x : S26) (hq : W.heap[q]? = some (.cells (c3 x).toArray 26 (0, 0))) (hb : base ≤ W.heap.size) :
    Calls Try.prog 22 #[.slice A xs.length c, .int .i64 (xs.length : Int), .slice (some ⟨q, 0, none⟩) 1 1] W fun e w' => ∃ v', e = .returned v' ∧ Kd.R k26 26 w' base ok v' (xs ++ [x]) ∧ Below base W w' ∧ W.grownBy w' (Value.slice A xs.length c).ownBlock := by
  have HR := Aside0.mk hr
  have HF := Aside0.mk hfresh
  have HL := Aside0.mk hl
  have HB := Aside0.mk hb
  have ONE := Aside0.mk (Kd.R_reads' (row26 (base := 0) (cap := 1) (n := 1) (ok := fun _ => True) (xs := [x]) hq (Nat.zero_le _) trivial rfl (Nat.le_refl _) (by decide) rfl rfl (reps_one x))).2.2
  have hc := (Kd.R_reads' hr).2.1
  have g1 : (0 : Int) ≤ (xs.length : Int) := by omega
  have g2 : (xs.length : Int) ≤ (c : Int) := by omega
  have g3 : (xs.length : Int) ≤ (xs.length : Int) := Int.le_refl _
  clear hr hl hb hq hfresh
  by_cases hcn : c = xs.length
  · subst hcn
    go_enter Try.func22, Try.ntmps22
    go_wp2_with (at_builtin; refine Kd.R_append_rows (w0 := W) k26 base rfl _ _ 22 26 (.agg #[.string ⟨#[]⟩, .string ⟨#[]⟩, .bool false]) 40 rfl Try.underlying22 info26 rfl (by decide) (by decide) (.slice A xs.length xs.length) xs [x] (some ⟨q, 0, none⟩) 1 1 ok (fun _ => False) rfl rfl HR.out ONE.out ?q5 ?q6 ?q7 (Below.refl _ _) HB.out ?q9 ?_)
    case q5 => exact fun _ _ h => h
    case q6 => exact fun _ h => h.elim
    case q7 => exact HF.out
    case q9 => have := HL.out; simp; omega
    intro v1 w1 h1 h2 h3 h4
    have H1 := Aside0.mk h1
    have H2 := Aside0.mk h2
    have H3 := Aside0.mk h3
    clear h1 h2 h3 h4
    go_wp2
    go_ret
    exact ⟨_, rfl, H1.out, H2.out, H3.out⟩
  · go_enter Try.func22, Try.ntmps22
    go_wp2_with (at_builtin; refine Kd.R_append_rows (w0 := W) k26 base rfl _ _ 22 26 (.agg #[.string ⟨#[]⟩, .string ⟨#[]⟩, .bool false]) 40 rfl Try.underlying22 info26 rfl (by decide) (by decide) (.slice A xs.length c) xs [x] (some ⟨q, 0, none⟩) 1 1 ok (fun _ => False) rfl rfl HR.out ONE.out ?q5 ?q6 ?q7 (Below.refl _ _) HB.out ?q9 ?_)
    case q5 => exact fun _ _ h => h
    case q6 => exact fun _ h => h.elim
    case q7 => exact HF.out
    case q9 => have := HL.out; simp; omega
    intro v1 w1 h1 h2 h3 h4
    have H1 := Aside0.mk h1
    have H2 := Aside0.mk h2
    have H3 := Aside0.mk h3
    clear h1 h2 h3 h4
    go_wp2
    go_ret
    exact ⟨_, rfl, H1.out, H2.out, H3.out⟩
end Go.Proofs.Ytdkepbmpcbnkpaa.Dl
