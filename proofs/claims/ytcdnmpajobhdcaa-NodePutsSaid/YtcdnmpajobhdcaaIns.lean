/- An entry put in its place: the region of three appends, walked. -/
import Derived.Test.YtcdnmpajobhdcaaPNodePutsx0
namespace Go.Proofs.Ytcdnmpajobhdcaa.PNodePuts
open Go.RowKit Go.Proofs.YtcdnmpajobhdcaaW.PrintWords Go.Proofs.YtcdnmpajobhdcaaW.PrintLast Go.Proofs.YtcdnmpajobhdcaaW.PrintMore
attribute [local go_sem] max2_int min2_int max_two min_two max_three min_three max_four min_four
set_option linter.unusedVariables false
set_option linter.unusedSimpArgs false
/-- with one more at a place -/
def insE (xs : List S43) (i : Nat) (x : S43) : List S43 := (xs.take i ++ [x]) ++ xs.drop i
set_option maxHeartbeats 2000000 in
set_option maxRecDepth 100000 in
theorem ins_region (Q : Exit → Act → World → Prop) {u0 u1 u3 u6 u7 u8 u9 u10 u11 u12 u13 u14 u15 u16 u17 u18 u19 u20 u21 u22 u23 u24 u25 u26 u27 u28 u29 u30 u31 u32 u33 u34 u35 u36 u37 u38 u39 u40 u41 u42 u43 u44 u45 u46 u47 u48 u49 u50 u51 u52 u53 u54 u55 u56 u57 u58 u59 u60 u61 u62 u63 u64 u65 u66 u67 u68 u69 u70 u71 u72 u73 u74 u75 u76 u77 u78 u79 u80 u81 u82 u83 u84 u85 u86 u87 u88 : Value} {A : Option Addr} {c gb : Nat} (xs : List S43) (i : Nat) (x : S43) {w : World} (hi : i ≤ xs.length) (hl : xs.length < 4398046511100) (hc : xs.length ≤ c) (hR : Kd.C k43 w A xs.length xs)
    (hc0 : w.cell? ⟨gb, 0, none⟩ = some (.string x.f0)) (hc1 : w.cell? ⟨gb, 1, none⟩ = some (.string x.f1))
    (hP : ∀ (ch) (t t2 : _) (d : _) (w : World), Q (.panic ch) ⟨t2, d⟩ w → Q (.panic ch) ⟨t, d⟩ w)
    (hQ : ∀ (v : Value) (w' : World) (z76 z77 z78 z79 z80 z81 z82 z83 z84 z85 z86 z87 : Value), Kd.R k43 43 w' w.heap.size (fun _ => True) v (insE xs i x) → Below w.heap.size w w' → Q .normal { tmps := #[u0, u1, v, u3, .pointer (some ⟨gb, 0, none⟩), .int .i64 (i : Int), u6, u7, u8, u9, u10, u11, u12, u13, u14, u15, u16, u17, u18, u19, u20, u21, u22, u23, u24, u25, u26, u27, u28, u29, u30, u31, u32, u33, u34, u35, u36, u37, u38, u39, u40, u41, u42, u43, u44, u45, u46, u47, u48, u49, u50, u51, u52, u53, u54, u55, u56, u57, u58, u59, u60, u61, u62, u63, u64, u65, u66, u67, u68, u69, u70, u71, u72, u73, u74, u75, z76, z77, z78, z79, z80, z81, z82, z83, z84, z85, z86, z87, u88], defers := [] } w') :
    Code.wp Try.prog (Code.region 10 #[{ dst := some 76, op := Op.buildSlice 22 0 #[], type := 22, pos := "law.go:29", after := #[], guard := none }, { dst := some 77, op := Op.move (Operand.tmp 2), type := 22, pos := "law.go:29", after := #[], guard := none }, { dst := some 78, op := Op.move (Operand.tmp 5), type := 3, pos := "law.go:29", after := #[], guard := none }, { dst := some 79, op := Op.slice 22 (Operand.tmp 77) none (some (Operand.tmp 78)) none, type := 22, pos := "law.go:29", after := #[{ on := 1, ground := Ground.data }, { on := 2, ground := Ground.data }], guard := none }, { dst := some 80, op := Op.call { callee := Callee.builtin Builtin.append, args := #[Operand.tmp 76, Operand.tmp 79], argTypes := #[22, 22] }, type := 22, pos := "law.go:29", after := #[{ on := 0, ground := Ground.data }, { on := 3, ground := Ground.data }], guard := none }, { dst := some 81, op := Op.load 43 (Operand.tmp 4), type := 43, pos := "law.go:29", after := #[], guard := none }, { dst := some 82, op := Op.buildSlice 22 1 #[(0, Operand.tmp 81)], type := 22, pos := "law.go:29", after := #[{ on := 5, ground := Ground.data }], guard := none }, { dst := some 83, op := Op.call { callee := Callee.builtin Builtin.append, args := #[Operand.tmp 80, Operand.tmp 82], argTypes := #[22, 22] }, type := 22, pos := "law.go:29", after := #[{ on := 4, ground := Ground.data }, { on := 6, ground := Ground.data }, { on := 4, ground := Ground.chain }], guard := none }, { dst := some 84, op := Op.move (Operand.tmp 2), type := 22, pos := "law.go:29", after := #[], guard := none }, { dst := some 85, op := Op.move (Operand.tmp 5), type := 3, pos := "law.go:29", after := #[], guard := none }, { dst := some 86, op := Op.slice 22 (Operand.tmp 84) (some (Operand.tmp 85)) none none, type := 22, pos := "law.go:29", after := #[{ on := 8, ground := Ground.data }, { on := 9, ground := Ground.data }], guard := none }, { dst := some 87, op := Op.call { callee := Callee.builtin Builtin.append, args := #[Operand.tmp 83, Operand.tmp 86], argTypes := #[22, 22] }, type := 22, pos := "law.go:29", after := #[{ on := 7, ground := Ground.data }, { on := 10, ground := Ground.data }, { on := 7, ground := Ground.chain }], guard := none }, { dst := some 2, op := Op.assign (Operand.tmp 87), type := 22, pos := "law.go:29", after := #[{ on := 11, ground := Ground.data }, { on := 11, ground := Ground.chain }, { on := 0, ground := Ground.phase }, { on := 1, ground := Ground.phase }, { on := 2, ground := Ground.phase }, { on := 3, ground := Ground.phase }, { on := 4, ground := Ground.phase }, { on := 5, ground := Ground.phase }, { on := 6, ground := Ground.phase }, { on := 7, ground := Ground.phase }, { on := 8, ground := Ground.phase }, { on := 9, ground := Ground.phase }, { on := 10, ground := Ground.phase }, { on := 11, ground := Ground.phase }], guard := none }] true) Q { tmps := #[u0, u1, .slice A xs.length c, u3, .pointer (some ⟨gb, 0, none⟩), .int .i64 (i : Int), u6, u7, u8, u9, u10, u11, u12, u13, u14, u15, u16, u17, u18, u19, u20, u21, u22, u23, u24, u25, u26, u27, u28, u29, u30, u31, u32, u33, u34, u35, u36, u37, u38, u39, u40, u41, u42, u43, u44, u45, u46, u47, u48, u49, u50, u51, u52, u53, u54, u55, u56, u57, u58, u59, u60, u61, u62, u63, u64, u65, u66, u67, u68, u69, u70, u71, u72, u73, u74, u75, u76, u77, u78, u79, u80, u81, u82, u83, u84, u85, u86, u87, u88], defers := [] } w := by
  refine start_ (n := 13) (S := fun w' => w'.cell? ⟨gb, 0, none⟩ = some (.string x.f0) ∧ w'.cell? ⟨gb, 1, none⟩ = some (.string x.f1)) (ds := []) #[false, false, false, false, false, false, false, false, false, false, false, false, false] (by kernel_rfl) rfl rfl ⟨pw_cell_below (below_drew1 (Below.refl _ _)) hc0, pw_cell_below (below_drew1 (Below.refl _ _)) hc1⟩ (fun hHeld => ?_)
  obtain ⟨w1, hw1⟩ : ∃ w1, w.drew = w1 := ⟨_, rfl⟩
  have HX := Aside0.mk (show Below w.heap.size w w1 from hw1 ▸ below_drew1 (Below.refl _ _))
  rw [hw1] at hHeld ⊢
  clear hw1
  have HC0 := Aside0.mk hHeld.1
  have HC1 := Aside0.mk hHeld.2
  have HT := Aside0.mk (fun (W : World) (hW : Below w1.heap.size w1 W) => (show Kd.C k43 W A i (xs.take i) from by
    have h := Kd.C_take (Kd.C_below (Kd.C_below hR HX.out) hW) hi
    rwa [List.length_take, Nat.min_eq_left hi] at h))
  have HD := Aside0.mk (fun (W : World) (hW : Below w1.heap.size w1 W) => (show Kd.C k43 W (if c = i then A else A.map (·.add (i * 2))) (xs.length - i) (xs.drop i) from by
    have h := Kd.C_drop (Kd.C_below (Kd.C_below hR HX.out) hW) hi hc
    rwa [List.length_drop] at h))
  have HB := Aside0.mk (Below.refl w1.heap.size w1)
  have HI := Aside0.mk hi
  have HL := Aside0.mk hl
  have i0 : (0 : Int) ≤ (i : Int) := Int.natCast_nonneg i
  have i1 : (i : Int) ≤ (xs.length : Int) := by omega
  have i2 : (i : Int) ≤ (c : Int) := by omega
  clear hc0 hc1 hR hi hl hc
  refine pure_ (i := 1) (N := some 77) (v := ?_) (a' := ?_) #[false, true, false, false, false, false, false, false, false, false, false, false, false] rfl rfl (by kernel_rfl) (fun c a w h => hP c a.tmps _ a.defers w h) (Or.inl ⟨by rfl, ?_⟩) ?_ ?_
  rotate_left
  · intro w'
    go_simp
    with_reducible rfl
  rotate_left
  · simp only [Act.put, List.setIfInBounds_toArray, List.set_cons_zero, List.set_cons_succ, i64_w, i32_w]
    rfl
  refine pure_ (i := 2) (N := some 78) (v := ?_) (a' := ?_) #[false, true, true, false, false, false, false, false, false, false, false, false, false] rfl rfl (by kernel_rfl) (fun c a w h => hP c a.tmps _ a.defers w h) (Or.inl ⟨by rfl, ?_⟩) ?_ ?_
  rotate_left
  · intro w'
    go_simp
    with_reducible rfl
  rotate_left
  · simp only [Act.put, List.setIfInBounds_toArray, List.set_cons_zero, List.set_cons_succ, i64_w, i32_w]
    rfl
  refine pure_ (i := 3) (N := some 79) (v := ?_) (a' := ?_) #[false, true, true, true, false, false, false, false, false, false, false, false, false] rfl rfl (by kernel_rfl) (fun c a w h => hP c a.tmps _ a.defers w h) (Or.inl ⟨by rfl, ?_⟩) ?_ ?_
  rotate_left
  · intro w'
    go_simp
    with_reducible rfl
  rotate_left
  · simp only [Act.put, List.setIfInBounds_toArray, List.set_cons_zero, List.set_cons_succ, i64_w, i32_w]
    rfl
  refine take_ (i := 5) (N := some 81) (v := ?_) (a' := ?_) #[false, true, true, true, false, true, false, false, false, false, false, false, false] rfl rfl (by kernel_rfl) (fun c a w h => hP c a.tmps _ a.defers w h) (Or.inl ⟨by rfl, ?_⟩) hHeld ?_ ?_
  rotate_left
  · rintro w' ⟨s0, s1⟩
    go_simp
    with_reducible rfl
  rotate_left
  · simp only [Act.put, List.setIfInBounds_toArray, List.set_cons_zero, List.set_cons_succ, i64_w, i32_w]
    rfl
  refine pure_ (i := 8) (N := some 84) (v := ?_) (a' := ?_) #[false, true, true, true, false, true, false, false, true, false, false, false, false] rfl rfl (by kernel_rfl) (fun c a w h => hP c a.tmps _ a.defers w h) (Or.inl ⟨by rfl, ?_⟩) ?_ ?_
  rotate_left
  · intro w'
    go_simp
    with_reducible rfl
  rotate_left
  · simp only [Act.put, List.setIfInBounds_toArray, List.set_cons_zero, List.set_cons_succ, i64_w, i32_w]
    rfl
  refine pure_ (i := 9) (N := some 85) (v := ?_) (a' := ?_) #[false, true, true, true, false, true, false, false, true, true, false, false, false] rfl rfl (by kernel_rfl) (fun c a w h => hP c a.tmps _ a.defers w h) (Or.inl ⟨by rfl, ?_⟩) ?_ ?_
  rotate_left
  · intro w'
    go_simp
    with_reducible rfl
  rotate_left
  · simp only [Act.put, List.setIfInBounds_toArray, List.set_cons_zero, List.set_cons_succ, i64_w, i32_w]
    rfl
  refine pure_ (i := 10) (N := some 86) (v := ?_) (a' := ?_) #[false, true, true, true, false, true, false, false, true, true, true, false, false] rfl rfl (by kernel_rfl) (fun c a w h => hP c a.tmps _ a.defers w h) (Or.inl ⟨by rfl, ?_⟩) ?_ ?_
  rotate_left
  · intro w'
    go_simp
    with_reducible rfl
  rotate_left
  · simp only [Act.put, List.setIfInBounds_toArray, List.set_cons_zero, List.set_cons_succ, i64_w, i32_w]
    rfl
  refine join_ (σ := Value × Value × Value) 3 #[true, true, true, true, true, true, true, false, true, true, true, false, false] (fun s_ => [(76, s_.1), (80, s_.2.1), (82, s_.2.2)]) (fun s_ w' => (w'.cell? ⟨gb, 0, none⟩ = some (.string x.f0) ∧ w'.cell? ⟨gb, 1, none⟩ = some (.string x.f1)) ∧ Kd.R k43 43 w' w1.heap.size (fun _ => True) s_.2.1 (xs.take i) ∧ (∃ A_ c_, s_.2.2 = .slice A_ 1 c_ ∧ Kd.C k43 w' A_ 1 [x]) ∧ Below w1.heap.size w1 w') ?_ ?_
  rotate_left
  · intro hCont
    refine two_ (i := 0) (j := 6) (Ni := some 76) (Nj := some 82) #[true, true, true, true, false, true, false, false, true, true, true, false, false] #[false, true, true, true, false, true, true, false, true, true, true, false, false] rfl rfl rfl rfl (by kernel_rfl) (by decide) (by decide) (fun K hK => ?_) (fun K hK => ?_)
    · skip
      refine Kd.R_lit_step k43 _ 43 ?hg (N := 76) ?hd (xs := ([] : List S43)) (inner := []) (ok := fun _ => True) (okp := fun _ => True) ?hr ?hp (fun _ hk => hk) trivial (Below.refl _ _) (Nat.le_refl _) (by simp) ?_; (case hd => rfl); (case hg => rfl); (case hr => first | (go_simp; done) | (go_simp; rfl)); (case hp => exact Reps.none _ _)
      intro v76 wa h76 hb hg_ hn_
      have H76 := Aside0.mk (Kd.R_lower h76 HB.out.size)
      clear h76 hg_ hn_
      have n0_ := Aside0.mk (below_step HB.out hb)
      clear HB hb
      have HB := n0_
      clear n0_
      refine hK.out _ _ ⟨pw_cell_below HB.out HC0.out, pw_cell_below HB.out HC1.out⟩ (fun hHeld => ?_)
      clear hK K
      refine norm_ (a' := ?_) ?_ ?_
      rotate_left
      · show Act.put _ (some 76) _ = _
        simp only [Act.put, List.setIfInBounds_toArray, List.set_cons_zero, List.set_cons_succ, i64_w, i32_w]
        rfl
      refine two_ (i := 4) (j := 6) (Ni := some 80) (Nj := some 82) #[true, true, true, true, true, true, false, false, true, true, true, false, false] #[true, true, true, true, false, true, true, false, true, true, true, false, false] rfl rfl rfl rfl (by kernel_rfl) (by decide) (by decide) (fun K hK => ?_) (fun K hK => ?_)
      · skip
        refine Kd.R_append_rows_step k43 (w0 := w1) w1.heap.size (by rfl) (.tmp 76) (.tmp 79) 22 43 (.agg #[(.string ⟨#[]⟩), (.string ⟨#[]⟩)]) 32 rfl Try.underlying22 info43 rfl (by decide) (by omega) v76 [] (xs.take i) _ _ _ (fun _ => True) (fun _ => False) rfl rfl ?aO ?aR (fun _ _ h => h) (fun _ h => h.elim) ?aF ?aB ?aS ?aL ?_
        (case aO => exact H76.out)
        (case aR => exact HT.out _ HB.out)
        (case aF => exact fun _ _ => trivial)
        (case aB => exact HB.out)
        (case aS => exact HB.out.size)
        (case aL => have := HL.out; have := HI.out; simp; omega)
        intro v80 wc h80 hb hg hat
        have H80 := Aside0.mk h80
        clear h80 hg hat
        have n0_ := Aside0.mk (hb)
        clear HB hb
        have HB := n0_
        clear n0_
        refine hK.out _ _ ⟨pw_cell_below HB.out HC0.out, pw_cell_below HB.out HC1.out⟩ (fun hHeld => ?_)
        clear hK K
        refine norm_ (a' := ?_) ?_ ?_
        rotate_left
        · show Act.put _ (some 80) _ = _
          simp only [Act.put, List.setIfInBounds_toArray, List.set_cons_zero, List.set_cons_succ, i64_w, i32_w]
          rfl
        refine one_ (i := 6) (N := some 82) #[true, true, true, true, true, true, true, false, true, true, true, false, false] rfl rfl (by kernel_rfl) (by decide) (fun K hK => ?_)
        refine Kd.R_lit_step k43 _ 43 ?hg (N := 82) ?hd (xs := ([x] : List S43)) (inner := [.string x.f0, .string x.f1]) (ok := fun _ => True) (okp := fun _ => True) ?hr ?hp (fun _ hk => hk) trivial (Below.refl _ _) (Nat.le_refl _) (by simp) ?_; (case hd => rfl); (case hg => rfl); (case hr => first | (go_simp; done) | (go_simp; rfl)); (case hp => exact (Reps.c2 (show Kd.M k43 _ _ _ x [.string x.f0, .string x.f1] from (k43_mkM _ _ _ x)) (Reps.none _ _)))
        intro v82 wb h82 hb hg_ hn_
        clear hg_ hn_
        have n1_ := Aside0.mk (Kd.R_below H80.out hb)
        clear H80
        have H80 := n1_
        clear n1_
        have n0_ := Aside0.mk (below_step HB.out hb)
        clear HB hb
        have HB := n0_
        clear n0_
        refine hK.out _ _ ⟨pw_cell_below HB.out HC0.out, pw_cell_below HB.out HC1.out⟩ (fun hHeld => ?_)
        clear hK K
        refine norm_ (a' := ?_) ?_ ?_
        rotate_left
        · show Act.put _ (some 82) _ = _
          simp only [Act.put, List.setIfInBounds_toArray, List.set_cons_zero, List.set_cons_succ, i64_w, i32_w]
          rfl
        obtain ⟨A82, c82, e82⟩ := Kd.R_slice h82
        subst e82
        exact norm_ (by simp only [putAll, Act.put, List.setIfInBounds_toArray, List.set_cons_zero, List.set_cons_succ]; rfl) (hCont (v76, v80, .slice A82 1 c82) _ ⟨hHeld, H80.out, ⟨A82, c82, rfl, (Kd.R_reads' h82).2.2⟩, HB.out⟩)
      · skip
        refine Kd.R_lit_step k43 _ 43 ?hg (N := 82) ?hd (xs := ([x] : List S43)) (inner := [.string x.f0, .string x.f1]) (ok := fun _ => True) (okp := fun _ => True) ?hr ?hp (fun _ hk => hk) trivial (Below.refl _ _) (Nat.le_refl _) (by simp) ?_; (case hd => rfl); (case hg => rfl); (case hr => first | (go_simp; done) | (go_simp; rfl)); (case hp => exact (Reps.c2 (show Kd.M k43 _ _ _ x [.string x.f0, .string x.f1] from (k43_mkM _ _ _ x)) (Reps.none _ _)))
        intro v82 wb h82 hb hg_ hn_
        clear hg_ hn_
        have n1_ := Aside0.mk (Kd.R_new' h82 (Kd.R_lt H76.out))
        have n2_ := Aside0.mk (Kd.R_below H76.out hb)
        clear H76 h82
        have H76 := n2_
        have H82 := n1_
        clear n1_ n2_
        have n0_ := Aside0.mk (below_step HB.out hb)
        clear HB hb
        have HB := n0_
        clear n0_
        refine hK.out _ _ ⟨pw_cell_below HB.out HC0.out, pw_cell_below HB.out HC1.out⟩ (fun hHeld => ?_)
        clear hK K
        refine norm_ (a' := ?_) ?_ ?_
        rotate_left
        · show Act.put _ (some 82) _ = _
          simp only [Act.put, List.setIfInBounds_toArray, List.set_cons_zero, List.set_cons_succ, i64_w, i32_w]
          rfl
        refine one_ (i := 4) (N := some 80) #[true, true, true, true, true, true, true, false, true, true, true, false, false] rfl rfl (by kernel_rfl) (by decide) (fun K hK => ?_)
        refine Kd.R_append_rows_step k43 (w0 := w1) w1.heap.size (by rfl) (.tmp 76) (.tmp 79) 22 43 (.agg #[(.string ⟨#[]⟩), (.string ⟨#[]⟩)]) 32 rfl Try.underlying22 info43 rfl (by decide) (by omega) v76 [] (xs.take i) _ _ _ (fun _ => True) (fun _ => False) rfl rfl ?aO ?aR (fun _ _ h => h) (fun _ h => h.elim) ?aF ?aB ?aS ?aL ?_
        (case aO => exact H76.out)
        (case aR => exact HT.out _ HB.out)
        (case aF => exact fun _ _ => trivial)
        (case aB => exact HB.out)
        (case aS => exact HB.out.size)
        (case aL => have := HL.out; have := HI.out; simp; omega)
        intro v80 wc h80 hb hg hat
        have n1_ := Aside0.mk (Kd.R_grown H82.out hg (fun _ hk => hk.2))
        clear H82 hg hat
        have H82 := n1_
        clear n1_
        have n0_ := Aside0.mk (hb)
        clear HB hb
        have HB := n0_
        clear n0_
        refine hK.out _ _ ⟨pw_cell_below HB.out HC0.out, pw_cell_below HB.out HC1.out⟩ (fun hHeld => ?_)
        clear hK K
        refine norm_ (a' := ?_) ?_ ?_
        rotate_left
        · show Act.put _ (some 80) _ = _
          simp only [Act.put, List.setIfInBounds_toArray, List.set_cons_zero, List.set_cons_succ, i64_w, i32_w]
          rfl
        obtain ⟨A82, c82, e82⟩ := Kd.R_slice H82.out
        subst e82
        exact norm_ (by simp only [putAll, Act.put, List.setIfInBounds_toArray, List.set_cons_zero, List.set_cons_succ]; rfl) (hCont (v76, v80, .slice A82 1 c82) _ ⟨hHeld, h80, ⟨A82, c82, rfl, (Kd.R_reads' H82.out).2.2⟩, HB.out⟩)
    · skip
      refine Kd.R_lit_step k43 _ 43 ?hg (N := 82) ?hd (xs := ([x] : List S43)) (inner := [.string x.f0, .string x.f1]) (ok := fun _ => True) (okp := fun _ => True) ?hr ?hp (fun _ hk => hk) trivial (Below.refl _ _) (Nat.le_refl _) (by simp) ?_; (case hd => rfl); (case hg => rfl); (case hr => first | (go_simp; done) | (go_simp; rfl)); (case hp => exact (Reps.c2 (show Kd.M k43 _ _ _ x [.string x.f0, .string x.f1] from (k43_mkM _ _ _ x)) (Reps.none _ _)))
      intro v82 wb h82 hb hg_ hn_
      clear hg_ hn_
      have H82 := Aside0.mk (Kd.R_lower h82 HB.out.size)
      clear h82
      have n0_ := Aside0.mk (below_step HB.out hb)
      clear HB hb
      have HB := n0_
      clear n0_
      refine hK.out _ _ ⟨pw_cell_below HB.out HC0.out, pw_cell_below HB.out HC1.out⟩ (fun hHeld => ?_)
      clear hK K
      refine norm_ (a' := ?_) ?_ ?_
      rotate_left
      · show Act.put _ (some 82) _ = _
        simp only [Act.put, List.setIfInBounds_toArray, List.set_cons_zero, List.set_cons_succ, i64_w, i32_w]
        rfl
      obtain ⟨A82, c82, e82⟩ := Kd.R_slice H82.out
      subst e82
      obtain ⟨wq, hwq⟩ : ∃ W : World, W = wb := ⟨_, rfl⟩
      have HC82 := Aside0.mk (Kd.R_reads' H82.out).2.2
      have HBQ := Aside0.mk (Below.refl wb.heap.size wb)
      have HB0 := Aside0.mk HB.out
      clear hwq wq H82
      refine one_ (i := 0) (N := some 76) #[true, true, true, true, false, true, true, false, true, true, true, false, false] rfl rfl (by kernel_rfl) (by decide) (fun K hK => ?_)
      refine Kd.R_lit_step k43 _ 43 ?hg (N := 76) ?hd (xs := ([] : List S43)) (inner := []) (ok := fun _ => True) (okp := fun _ => True) ?hr ?hp (fun _ hk => hk) trivial (Below.refl _ _) (Nat.le_refl _) (by simp) ?_; (case hd => rfl); (case hg => rfl); (case hr => first | (go_simp; done) | (go_simp; rfl)); (case hp => exact Reps.none _ _)
      intro v76 wa h76 hb hg_ hn_
      have H76 := Aside0.mk h76
      have n1_ := Aside0.mk hb
      clear h76 hg_ hn_ HBQ
      have HBQ := n1_
      clear n1_
      have n0_ := Aside0.mk (below_step HB.out hb)
      clear HB hb
      have HB := n0_
      clear n0_
      refine hK.out _ _ ⟨pw_cell_below HB.out HC0.out, pw_cell_below HB.out HC1.out⟩ (fun hHeld => ?_)
      clear hK K
      refine norm_ (a' := ?_) ?_ ?_
      rotate_left
      · show Act.put _ (some 76) _ = _
        simp only [Act.put, List.setIfInBounds_toArray, List.set_cons_zero, List.set_cons_succ, i64_w, i32_w]
        rfl
      refine one_ (i := 4) (N := some 80) #[true, true, true, true, true, true, true, false, true, true, true, false, false] rfl rfl (by kernel_rfl) (by decide) (fun K hK => ?_)
      refine Kd.R_append_rows_step k43 (w0 := wb) wb.heap.size (by rfl) (.tmp 76) (.tmp 79) 22 43 (.agg #[(.string ⟨#[]⟩), (.string ⟨#[]⟩)]) 32 rfl Try.underlying22 info43 rfl (by decide) (by omega) v76 [] (xs.take i) _ _ _ (fun _ => True) (fun _ => False) rfl rfl ?aO ?aR (fun _ _ h => h) (fun _ h => h.elim) ?aF ?aB ?aS ?aL ?_
      (case aO => exact H76.out)
      (case aR => exact HT.out _ HB.out)
      (case aF => exact fun _ _ => trivial)
      (case aB => exact HBQ.out)
      (case aS => exact HBQ.out.size)
      (case aL => have := HL.out; have := HI.out; simp; omega)
      intro v80 wc h80 hb hg hat
      have H80 := Aside0.mk (Kd.R_lower h80 HB0.out.size)
      clear h80 hg hat
      have n1_ := Aside0.mk (Kd.C_below HC82.out hb)
      clear HC82
      have HC82 := n1_
      clear n1_
      have n0_ := Aside0.mk (below_step HB0.out hb)
      clear HB hb HB0
      have HB := n0_
      clear n0_
      refine hK.out _ _ ⟨pw_cell_below HB.out HC0.out, pw_cell_below HB.out HC1.out⟩ (fun hHeld => ?_)
      clear hK K
      refine norm_ (a' := ?_) ?_ ?_
      rotate_left
      · show Act.put _ (some 80) _ = _
        simp only [Act.put, List.setIfInBounds_toArray, List.set_cons_zero, List.set_cons_succ, i64_w, i32_w]
        rfl
      exact norm_ (by simp only [putAll, Act.put, List.setIfInBounds_toArray, List.set_cons_zero, List.set_cons_succ]; rfl) (hCont (v76, v80, .slice A82 1 c82) _ ⟨hHeld, H80.out, ⟨A82, c82, rfl, HC82.out⟩, HB.out⟩)
  rintro ⟨v76, v80, v82⟩ wj ⟨hS_, h0_, ⟨A82, c82, e82, h1_⟩, h2_⟩
  have n0_ : Aside0 (Kd.R k43 43 wj w1.heap.size (fun _ => True) v80 (xs.take i)) := ⟨h0_⟩
  have n1_ : Aside0 (Kd.C k43 wj A82 1 [x]) := ⟨h1_⟩
  have n2_ : Aside0 (Below w1.heap.size w1 wj) := ⟨h2_⟩
  have e83 : v82 = .slice A82 1 c82 := e82
  subst e83
  clear HB h0_ h1_ h2_ e82
  have H80 := n0_
  have H82 := n1_
  have HB := n2_
  clear n0_ n1_ n2_
  have hHeld : wj.cell? ⟨gb, 0, none⟩ = some (.string x.f0) ∧ wj.cell? ⟨gb, 1, none⟩ = some (.string x.f1) := hS_
  refine norm_ (a' := ?_) ?_ ?_
  rotate_left
  · simp only [putAll, Act.put, List.setIfInBounds_toArray, List.set_cons_zero, List.set_cons_succ]
    rfl
  refine one_ (i := 7) (N := some 83) #[true, true, true, true, true, true, true, true, true, true, true, false, false] rfl rfl (by kernel_rfl) (by decide) (fun K hK => ?_)
  refine Kd.R_append_rows_step k43 (w0 := w1) w1.heap.size (by rfl) (.tmp 80) (.tmp 82) 22 43 (.agg #[(.string ⟨#[]⟩), (.string ⟨#[]⟩)]) 32 rfl Try.underlying22 info43 rfl (by decide) (by omega) v80 (xs.take i) [x] _ _ _ (fun _ => True) (fun _ => False) rfl rfl ?aO ?aR (fun _ _ h => h) (fun _ h => h.elim) ?aF ?aB ?aS ?aL ?_
  (case aO => exact H80.out)
  (case aR => exact H82.out)
  (case aF => exact fun _ _ => trivial)
  (case aB => exact HB.out)
  (case aS => exact HB.out.size)
  (case aL => have := HL.out; have := HI.out; simp; omega)
  intro v83 wd h83 hb hg hat
  have H83 := Aside0.mk h83
  clear h83 hg hat
  have n0_ := Aside0.mk (hb)
  clear HB hb
  have HB := n0_
  clear n0_
  refine hK.out _ _ ⟨pw_cell_below HB.out HC0.out, pw_cell_below HB.out HC1.out⟩ (fun hHeld => ?_)
  clear hK K
  refine norm_ (a' := ?_) ?_ ?_
  rotate_left
  · show Act.put _ (some 83) _ = _
    simp only [Act.put, List.setIfInBounds_toArray, List.set_cons_zero, List.set_cons_succ, i64_w, i32_w]
    rfl
  refine one_ (i := 11) (N := some 87) #[true, true, true, true, true, true, true, true, true, true, true, true, false] rfl rfl (by kernel_rfl) (by decide) (fun K hK => ?_)
  refine Kd.R_append_rows_step k43 (w0 := w1) w1.heap.size (by rfl) (.tmp 83) (.tmp 86) 22 43 (.agg #[(.string ⟨#[]⟩), (.string ⟨#[]⟩)]) 32 rfl Try.underlying22 info43 rfl (by decide) (by omega) v83 (xs.take i ++ [x]) (xs.drop i) _ _ _ (fun _ => True) (fun _ => False) rfl rfl ?aO ?aR (fun _ _ h => h) (fun _ h => h.elim) ?aF ?aB ?aS ?aL ?_
  (case aO => exact H83.out)
  (case aR => exact HD.out _ HB.out)
  (case aF => exact fun _ _ => trivial)
  (case aB => exact HB.out)
  (case aS => exact HB.out.size)
  (case aL => have := HL.out; have := HI.out; simp; omega)
  intro v87 we h87 hb hg hat
  have H87 := Aside0.mk h87
  clear h87 hg hat
  have n0_ := Aside0.mk (hb)
  clear HB hb
  have HB := n0_
  clear n0_
  refine hK.out _ _ ⟨pw_cell_below HB.out HC0.out, pw_cell_below HB.out HC1.out⟩ (fun hHeld => ?_)
  clear hK K
  refine norm_ (a' := ?_) ?_ ?_
  rotate_left
  · show Act.put _ (some 87) _ = _
    simp only [Act.put, List.setIfInBounds_toArray, List.set_cons_zero, List.set_cons_succ, i64_w, i32_w]
    rfl
  refine pure_ (i := 12) (N := some 2) (v := ?_) (a' := ?_) #[true, true, true, true, true, true, true, true, true, true, true, true, true] rfl rfl (by kernel_rfl) (fun c a w h => hP c a.tmps _ a.defers w h) (Or.inl ⟨by rfl, ?_⟩) ?_ ?_
  rotate_left
  · intro w'
    go_simp
    with_reducible rfl
  rotate_left
  · simp only [Act.put, List.setIfInBounds_toArray, List.set_cons_zero, List.set_cons_succ, i64_w, i32_w]
    rfl
  refine done_ (by kernel_rfl) ?_
  exact hQ _ _ _ _ _ _ _ _ _ _ _ _ _ _ (Kd.R_lower H87.out HX.out.size) (below_step HX.out HB.out)
end Go.Proofs.Ytcdnmpajobhdcaa.PNodePuts
