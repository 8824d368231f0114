/- SealBent: the law's own function, walked. -/
import Derived.Test.YtdoblaihpelhgaaDoorPureSealBent
import Derived.Test.YtdoblaihpelhgaaDoorXA
import Derived.Test.YtdoblaihpelhgaaDoorXM
import Derived.Test.YtdoblaihpelhgaaDoorXI
namespace Go.Proofs.YtdoblaihpelhgaaDoor.Sb
open Go.RowKit Go.Proofs.YtdoblaihpelhgaaDoor.PSealBent Go.Proofs.YtdoblaihpelhgaaDoorW.PrintWords Go.Proofs.YtdoblaihpelhgaaDoorW.PrintLast Go.Proofs.YtdoblaihpelhgaaDoorW.PrintMore Go.Proofs.YtdoblaihpelhgaaDoor.XA Go.Proofs.YtdoblaihpelhgaaDoor.XB Go.Proofs.YtdoblaihpelhgaaDoor.XL Go.Proofs.YtdoblaihpelhgaaDoor.XM Go.Proofs.YtdoblaihpelhgaaDoor.Sha
open Go.Proofs.YtdoblaihpelhgaaDoor.PureB (short em facts)
attribute [local go_sem] max2_int min2_int max_two min_two max_three min_three max_four min_four   -- for this text's walks alone
set_option linter.unusedVariables false
set_option linter.unusedSimpArgs false
def T1 : Bool × List (List Nat × List Nat) := (true, [([], []), ([], []), ([1], [1]), ([2], [2]), ([0, 3], [0, 3]), ([], []), ([], []), ([6], [6]), ([7], [7]), ([5, 8], [5, 8]), ([9], [9]), ([], []), ([4, 10, 0, 1, 2, 3, 4, 11], [4]), ([11, 10, 12, 0, 1, 2, 3, 4, 5, 6, 7, 8, 9, 10, 11, 12], [10, 11])])
def B1 : List Nat := [0, 0, 2, 6, 15, 0, 0, 64, 192, 480, 992, 0, 4095, 8191]
theorem tab1 : rtab .any (opsOf Tryd.f5 1) = T1 := by kernel_rfl
theorem bits1 : waitsOk T1.2 B1 = true := by kernel_rfl
theorem u8_of {x : Int} (h : (Lit.int .u8 x).wf = true) : 0 ≤ x ∧ x ≤ 255 := by
  have h2 : IntKind.u8.min ≤ x ∧ x ≤ IntKind.u8.max := by simpa [Lit.wf] using h
  exact h2
/-- keys in memory -/
def IsKeys (w : World) (g : Nat) (T G : ByteArray) : Prop := w.heap[g]? = some (.cells #[.string T, .string G] 23 (0, 0))
theorem IsKeys.below {w w1 : World} {g : Nat} {T G : ByteArray} (h : IsKeys w g T G) (hb : Below w.heap.size w w1) : IsKeys w1 g T G := blk_below h hb
theorem IsKeys.drew {w : World} {g : Nat} {T G : ByteArray} (h : IsKeys w g T G) : IsKeys w.drew g T G := h
theorem IsKeys.drewN {w : World} {g : Nat} {T G : ByteArray} (h : IsKeys w g T G) (n : Nat) : IsKeys (w.drewN n) g T G := h
theorem IsKeys.far {w : World} {g : Nat} {T G : ByteArray} (h : IsKeys w g T G) {a : Addr} (hp : g ≠ a.block) (u : Value) : IsKeys (w.setCell a u) g T G := blk_far h hp u
theorem u8w (r : Nat) (h : r < 256) : IntKind.u8.wrap (r : Int) = r := by
  unfold IntKind.wrap
  simp only [IntKind.bits, IntKind.signed]
  show (r : Int) % 256 = r
  omega
/-- the bytes with one of them turned -/
theorem bent_of (z : ByteArray) (i : Nat) (q bv v : Int) (hi : i < z.size) (hq : 0 ≤ q ∧ q ≤ 255) (hbv : bt z (i : Int) = bv) (hv : Go.bits .xor .u8 bv q = v) :
    ∃ C, strOfNums ((bytesOf z).set i v) = C ∧ ((bytesOf z).set i v).length = z.size ∧ C.size = z.size ∧ (z = C ↔ q = 0) := by
  have hbr := bt_range z (i : Int)
  rw [hbv] at hbr
  have hbb := byte_bits hbr hq
  have hxr := (xor8 hbr hq).1
  rw [hv] at hbb hxr
  obtain ⟨cs, hcs⟩ : ∃ cs, (bytesOf z).set i v = cs := ⟨_, rfl⟩
  have hcl : cs.length = z.size := by rw [← hcs, List.length_set, bytesOf_length]
  obtain ⟨C, hC⟩ : ∃ C, strOfNums cs = C := ⟨_, rfl⟩
  have hCs : C.size = z.size := by rw [← hC, strOfNums_size, hcl]
  refine ⟨C, by rw [hcs]; exact hC, by rw [hcs]; exact hcl, hCs, ?_⟩
  rw [← hbb.2.2.2]
  constructor
  · intro h
    have h2 : bt z (i : Int) = v := by
      rw [h, ← hC]
      have hr : ∀ u ∈ cs, 0 ≤ u ∧ u ≤ 255 := by
        intro u hu
        rw [← hcs] at hu
        rcases List.mem_or_eq_of_mem_set hu with h3 | h3
        · have h4 := List.mem_map.mp h3
          obtain ⟨c, _, rfl⟩ := h4
          have := c.toNat_lt
          omega
        · rw [h3]; exact hxr
      have hbo : bytesOf (strOfNums cs) = cs := by
        unfold bytesOf
        rw [strOfNums_data, List.map_map]
        conv => rhs; rw [← List.map_id cs]
        apply List.map_congr_left
        intro u hu
        have := hr u hu
        simp
        omega
      rw [bt_nat, hbo, ← hcs, List.getD_eq_getElem?_getD, List.getElem?_set_self (by rw [bytesOf_length]; exact hi)]; rfl
    rw [← h2, hbv]
  · intro h
    rw [← hC, ← hcs, h, show bv = (bytesOf z).getD i 0 by rw [← hbv, bt_nat], List.getD_eq_getElem?_getD, List.getElem?_eq_getElem (by rw [bytesOf_length]; exact hi)]
    simp [strOfNums_bytesOf]
theorem set_extract (S : ByteArray) (i t : Nat) (v : Int) (ht : t ≤ i) : (strOfNums ((bytesOf S).set i v)).extract 0 t = S.extract 0 t := by
  have h1 : ∀ C : ByteArray, C.extract 0 t = ⟨(C.data.toList.take t).toArray⟩ := fun C => by
    apply toList_inj.mp
    rw [toList_data, toList_data, extract_data, List.drop_zero, Nat.sub_zero]
  rw [h1, h1, strOfNums_data]
  congr 2
  rw [List.map_set, List.take_set_of_le ht]
  congr 1
  unfold bytesOf
  rw [List.map_map]
  conv => rhs; rw [← List.map_id S.data.toList]
  apply List.map_congr_left
  intro c _
  simp
set_option maxHeartbeats 8000000 in
set_option maxRecDepth 100000 in
theorem law_calls (a0 a1 : ByteArray) (p q : Int) (hp : 0 ≤ p ∧ p ≤ 255) (hq : 0 ≤ q ∧ q ≤ 255) (h0 : a0.size ≤ 140737488351232) (h1 : a1.size ≤ 140737488351232) (w : World) (hG : SL w) :
    Calls Tryd.prog 5 #[.string a0, .string a1, .agg #[.int .u8 p, .int .u8 q]] w fun e w' => e = .returned (.bool true) ∧ Below w.heap.size w w' := by
  have hu23 := Tryd.underlying23
  obtain ⟨ji4, hji4_⟩ : ∃ m : Int, (if 200 < (a1.size : Int) then 200 else (a1.size : Int)) = m := ⟨_, rfl⟩
  obtain ⟨ji7, hji7_⟩ : ∃ m : Int, (if 80 < (a0.size : Int) then 80 else (a0.size : Int)) = m := ⟨_, rfl⟩
  have hji7 := hji7_
  have hji4 := hji4_
  have g4 : 0 ≤ ji4 ∧ ji4 ≤ (a1.size : Int) ∧ ji4 ≤ 200 := by rw [← hji4_]; split <;> omega
  have g7 : 0 ≤ ji7 ∧ ji7 ≤ (a0.size : Int) ∧ ji7 ≤ 80 := by rw [← hji7_]; split <;> omega
  obtain ⟨x_1, hx_1⟩ : ∃ x_, a1.extract 0 ((ji4) : Int).toNat = x_ := ⟨_, rfl⟩
  have hxs : x_1.size ≤ 200 := by rw [← hx_1, ByteArray.size_extract]; omega
  have hys : (a0.extract 0 ((ji7) : Int).toNat).size ≤ 80 := by rw [ByteArray.size_extract]; omega
  obtain ⟨t126, t127, t129, s0_, f1, f2, f3, f4, f5, f6, f7, f8, f9⟩ := facts a0 _ x_1 h0 hys hxs
  have A10 := Aside0.mk f1
  have A11 := Aside0.mk f2
  have A12 := Aside0.mk f3
  have HS := Aside0.mk (show s0_.size ≤ 232 ∧ 32 ≤ s0_.size ∧ s0_.size = x_1.size + 32 by omega)
  have HF := Aside0.mk (And.intro f5 f6)
  have A15 := Aside0.mk f7
  have A16 := Aside0.mk f8
  have A17 := Aside0.mk f9
  have HG := Aside0.mk hG
  have HP := Aside0.mk hp
  have HQ := Aside0.mk hq
  have HB := Aside0.mk (Below.refl w.heap.size w)
  have c5b0 := eq_true g4.1
  have c5b1 : decide (0 ≤ (ji4)) = true := decide_eq_true g4.1
  have c6b0 := eq_true g4.2.1
  have c6b1 : decide ((ji4) ≤ (a1.size : Int)) = true := decide_eq_true g4.2.1
  have c8b0 := eq_true g7.1
  have c8b1 : decide (0 ≤ (ji7)) = true := decide_eq_true g7.1
  have c9b0 := eq_true g7.2.1
  have c9b1 : decide ((ji7) ≤ (a0.size : Int)) = true := decide_eq_true g7.2.1
  clear f1 f2 f3 f4 f5 f6 f7 f8 f9 hG hp hq h0 h1 g4 g7 hxs hys
  go_enter Tryd.func5, Tryd.ntmps5
  go_wp2_with ((with_reducible refine gate_dst (N := 5) rfl ?_); refine arr_new ?hg (N := 5) ?hd [p, q] .u8 38 ?hr ?_; (case hd => rfl); (case hg => rfl); (case hr => first | (go_simp; done) | (go_simp; rfl)); intro g5 eg w1 hx hb; have HA := Aside0.mk hx; have n0 := Aside0.mk (below_step HB.out hb); clear HB hx hb eg; have HB := n0; clear n0)
  have HA1 := HA
  have HB1 := HB
  clear HA HB
  have HB := Aside0.mk (below_drew1 (Below.refl w1.heap.size w1))
  refine start_ (n := 14) (S := fun w' => True) (ds := []) #[false, false, false, false, false, false, false, false, false, false, false, false, false, false] (by kernel_rfl) rfl rfl trivial (fun hHeld => ?_); refine with_tabW tab1 bits1 (fun HT_ HW_ => ?_)
  generalize w1.drew = w17 at HB hHeld ⊢
  refine pure_ (i := 0) (N := some 14) (v := ?_) (a' := ?_) #[true, false, false, false, false, false, false, false, false, false, false, false, false, false] rfl rfl (any_of HT_.out (by kernel_rfl)) (fun _ _ _ h => h) (Or.inl ⟨by rfl, ?_⟩) ?_ ?_
  rotate_left
  · intro w'
    go_simp
    with_reducible rfl
  rotate_left
  · simp only [Act.put, List.setIfInBounds_toArray, List.set_cons_zero, List.set_cons_succ, i64_w, i32_w]
    rfl
  refine pure_ (i := 1) (N := some 15) (v := ?_) (a' := ?_) #[true, true, false, false, false, false, false, false, false, false, false, false, false, false] rfl rfl (any_of HT_.out (by kernel_rfl)) (fun _ _ _ h => h) (Or.inl ⟨by rfl, ?_⟩) ?_ ?_
  rotate_left
  · intro w'
    go_simp
    with_reducible rfl
  rotate_left
  · simp only [Act.put, List.setIfInBounds_toArray, List.set_cons_zero, List.set_cons_succ, i64_w, i32_w]
    rfl
  refine pure_ (i := 2) (N := some 16) (v := ?_) (a' := ?_) #[true, true, true, false, false, false, false, false, false, false, false, false, false, false] rfl rfl (any_of HT_.out (by kernel_rfl)) (fun _ _ _ h => h) (Or.inl ⟨by rfl, ?_⟩) ?_ ?_
  rotate_left
  · intro w'
    go_simp
    with_reducible rfl
  rotate_left
  · simp only [Act.put, List.setIfInBounds_toArray, List.set_cons_zero, List.set_cons_succ, i64_w, i32_w]
    rfl
  refine pure_ (i := 3) (N := some 17) (v := ?_) (a' := ?_) #[true, true, true, true, false, false, false, false, false, false, false, false, false, false] rfl rfl (any_of HT_.out (by kernel_rfl)) (fun _ _ _ h => h) (Or.inl ⟨by rfl, ?_⟩) ?_ ?_
  rotate_left
  · intro w'
    go_simp
    with_reducible rfl
  rotate_left
  · simp only [Act.put, List.setIfInBounds_toArray, List.set_cons_zero, List.set_cons_succ, i64_w, i32_w]
    rfl
  refine pure_ (i := 4) (N := some 18) (v := ?_) (a' := ?_) #[true, true, true, true, true, false, false, false, false, false, false, false, false, false] rfl rfl (any_of HT_.out (by kernel_rfl)) (fun _ _ _ h => h) (Or.inl ⟨by rfl, ?_⟩) ?_ ?_
  rotate_left
  · intro w'
    go_simp
    with_reducible rfl
  rotate_left
  · simp only [Act.put, List.setIfInBounds_toArray, List.set_cons_zero, List.set_cons_succ, i64_w, i32_w]
    rfl
  refine pure_ (i := 5) (N := some 19) (v := ?_) (a' := ?_) #[true, true, true, true, true, true, false, false, false, false, false, false, false, false] rfl rfl (any_of HT_.out (by kernel_rfl)) (fun _ _ _ h => h) (Or.inl ⟨by rfl, ?_⟩) ?_ ?_
  rotate_left
  · intro w'
    go_simp
    with_reducible rfl
  rotate_left
  · simp only [Act.put, List.setIfInBounds_toArray, List.set_cons_zero, List.set_cons_succ, i64_w, i32_w]
    rfl
  refine pure_ (i := 6) (N := some 20) (v := ?_) (a' := ?_) #[true, true, true, true, true, true, true, false, false, false, false, false, false, false] rfl rfl (any_of HT_.out (by kernel_rfl)) (fun _ _ _ h => h) (Or.inl ⟨by rfl, ?_⟩) ?_ ?_
  rotate_left
  · intro w'
    go_simp
    with_reducible rfl
  rotate_left
  · simp only [Act.put, List.setIfInBounds_toArray, List.set_cons_zero, List.set_cons_succ, i64_w, i32_w]
    rfl
  refine pure_ (i := 7) (N := some 21) (v := ?_) (a' := ?_) #[true, true, true, true, true, true, true, true, false, false, false, false, false, false] rfl rfl (any_of HT_.out (by kernel_rfl)) (fun _ _ _ h => h) (Or.inl ⟨by rfl, ?_⟩) ?_ ?_
  rotate_left
  · intro w'
    go_simp
    with_reducible rfl
  rotate_left
  · simp only [Act.put, List.setIfInBounds_toArray, List.set_cons_zero, List.set_cons_succ, i64_w, i32_w]
    rfl
  refine pure_ (i := 8) (N := some 22) (v := ?_) (a' := ?_) #[true, true, true, true, true, true, true, true, true, false, false, false, false, false] rfl rfl (any_of HT_.out (by kernel_rfl)) (fun _ _ _ h => h) (Or.inl ⟨by rfl, ?_⟩) ?_ ?_
  rotate_left
  · intro w'
    go_simp
    with_reducible rfl
  rotate_left
  · simp only [Act.put, List.setIfInBounds_toArray, List.set_cons_zero, List.set_cons_succ, i64_w, i32_w]
    rfl
  refine pure_ (i := 9) (N := some 23) (v := ?_) (a' := ?_) #[true, true, true, true, true, true, true, true, true, true, false, false, false, false] rfl rfl (any_of HT_.out (by kernel_rfl)) (fun _ _ _ h => h) (Or.inl ⟨by rfl, ?_⟩) ?_ ?_
  rotate_left
  · intro w'
    go_simp
    with_reducible rfl
  rotate_left
  · simp only [Act.put, List.setIfInBounds_toArray, List.set_cons_zero, List.set_cons_succ, i64_w, i32_w]
    rfl
  refine join_ (σ := Nat) 2 #[true, true, true, true, true, true, true, true, true, true, true, true, false, false] (fun s_ => [(24, .agg #[.string t126, .string t127]), (8, .pointer (some ⟨s_, 0, none⟩))]) (fun s_ w' => (w'.heap[s_]? = some (.cells #[.string (⟨#[]⟩ : ByteArray), .string (⟨#[]⟩ : ByteArray)] 23 (0, 0))) ∧ (w1.heap.size ≤ s_) ∧ (w1.heap.size ≤ s_) ∧ (Below w1.heap.size w1 w')) ?_ ?_
  rotate_left
  · intro hCont
    refine two_ (i := 10) (j := 11) (Ni := some 24) (Nj := some 8) #[true, true, true, true, true, true, true, true, true, true, true, false, false, false] #[true, true, true, true, true, true, true, true, true, true, false, true, false, false] rfl rfl rfl rfl (two_of HT_.out (by kernel_rfl)) (by decide) (by decide) (fun K hK => ?_) (fun K hK => ?_)
    · skip
      refine goes_ Tryd.func6 (by kernel_rfl) rfl #[.string (a0.extract 0 ((ji7) : Int).toNat)] (by rfl) rfl rfl (by (try simp only [List.map_toArray, List.map_cons, List.map_nil]); first | done | (simp only [hji7]; rfl) | rfl | (simp only [List.length_drop, List.length_take]; rfl)) ?_
      with_reducible refine (lodestonelaw10_keys.calls (a0.extract 0 ((ji7) : Int).toNat) t126 t127 _ A10.out).mono ?_
      rintro e w18 ⟨rfl, hb⟩
      refine ⟨_, rfl, ?_⟩
      have n0_ := Aside0.mk (below_step (by repeat (first | (with_reducible first | exact HB.out | apply below_alloc | apply pw_below_drewN | apply below_drew1) | exact HB.out)) hb)
      clear HB
      have HB := n0_
      clear n0_
      (try clear hb)
      (try clear hb2)
      (try clear hk)
      (try clear hi)
      refine hK.out _ _ trivial (fun hHeld => ?_)
      clear hK K
      refine norm_ (a' := ?_) ?_ ?_
      rotate_left
      · show Act.put _ (some 24) _ = _
        simp only [Act.put, List.setIfInBounds_toArray, List.set_cons_zero, List.set_cons_succ, i64_w, i32_w]
        rfl
      refine one_ (i := 11) (N := some 8) #[true, true, true, true, true, true, true, true, true, true, true, true, false, false] rfl rfl (one_of HT_.out (by kernel_rfl)) (by decide) (fun K hK => ?_)
      refine box_step ?hg (N := 8) ?hd (cs := #[.string (⟨#[]⟩ : ByteArray), .string (⟨#[]⟩ : ByteArray)]) (t := 23) ?hr ?_; (case hd => rfl); (case hg => rfl); (case hr => first | (go_simp; done) | (go_simp; rfl))
      intro gb128 hg w19 hbox hb
      have n0_ := Aside0.mk (below_step (by repeat (first | (with_reducible first | exact HB.out | apply below_alloc | apply pw_below_drewN | apply below_drew1) | exact HB.out)) hb)
      have n1_ := Aside0.mk (hbox)
      have n2_ := Aside0.mk ((by rw [hg]; exact (below_size (by repeat (first | (with_reducible first | exact HB.out | apply below_alloc | apply pw_below_drewN | apply below_drew1) | exact HB.out))) : w1.heap.size ≤ gb128))
      have n3_ := Aside0.mk ((by rw [hg]; exact (below_size (by repeat (first | (with_reducible first | exact HB.out | apply below_alloc | apply pw_below_drewN | apply below_drew1) | exact HB.out))) : w1.heap.size ≤ gb128))
      clear HB
      have HB := n0_
      have BK128 := n1_
      have GW128 := n2_
      have GE128 := n3_
      clear n0_ n1_ n2_ n3_
      clear hb hbox hg
      refine hK.out _ _ trivial (fun hHeld => ?_)
      clear hK K
      refine norm_ (a' := ?_) ?_ ?_
      rotate_left
      · show Act.put _ (some 8) _ = _
        simp only [Act.put, List.setIfInBounds_toArray, List.set_cons_zero, List.set_cons_succ, i64_w, i32_w]
        rfl
      exact norm_ (by simp only [putAll, Act.put, List.setIfInBounds_toArray, List.set_cons_zero, List.set_cons_succ]) (hCont (gb128) _ ⟨(by (with_reducible repeat (first | refine blk_drewN ?_ _ | refine blk_drew ?_ | refine blk_alloc ?_ _)); exact BK128.out), GW128.out, GE128.out, (by repeat (first | (with_reducible first | exact HB.out | apply below_alloc | apply pw_below_drewN | apply below_drew1 | refine below_set ?_ GE128.out) | exact HB.out))⟩)
    · skip
      refine box_step ?hg (N := 8) ?hd (cs := #[.string (⟨#[]⟩ : ByteArray), .string (⟨#[]⟩ : ByteArray)]) (t := 23) ?hr ?_; (case hd => rfl); (case hg => rfl); (case hr => first | (go_simp; done) | (go_simp; rfl))
      intro gb128 hg w18 hbox hb
      have n0_ := Aside0.mk (below_step (by repeat (first | (with_reducible first | exact HB.out | apply below_alloc | apply pw_below_drewN | apply below_drew1) | exact HB.out)) hb)
      have n1_ := Aside0.mk (hbox)
      have n2_ := Aside0.mk ((by rw [hg]; exact (below_size (by repeat (first | (with_reducible first | exact HB.out | apply below_alloc | apply pw_below_drewN | apply below_drew1) | exact HB.out))) : w1.heap.size ≤ gb128))
      have n3_ := Aside0.mk ((by rw [hg]; exact (below_size (by repeat (first | (with_reducible first | exact HB.out | apply below_alloc | apply pw_below_drewN | apply below_drew1) | exact HB.out))) : w1.heap.size ≤ gb128))
      clear HB
      have HB := n0_
      have BK128 := n1_
      have GW128 := n2_
      have GE128 := n3_
      clear n0_ n1_ n2_ n3_
      clear hb hbox hg
      refine hK.out _ _ trivial (fun hHeld => ?_)
      clear hK K
      refine norm_ (a' := ?_) ?_ ?_
      rotate_left
      · show Act.put _ (some 8) _ = _
        simp only [Act.put, List.setIfInBounds_toArray, List.set_cons_zero, List.set_cons_succ, i64_w, i32_w]
        rfl
      refine one_ (i := 10) (N := some 24) #[true, true, true, true, true, true, true, true, true, true, true, true, false, false] rfl rfl (one_of HT_.out (by kernel_rfl)) (by decide) (fun K hK => ?_)
      refine goes_ Tryd.func6 (by kernel_rfl) rfl #[.string (a0.extract 0 ((ji7) : Int).toNat)] (by rfl) rfl rfl (by (try simp only [List.map_toArray, List.map_cons, List.map_nil]); first | done | (simp only [hji7]; rfl) | rfl | (simp only [List.length_drop, List.length_take]; rfl)) ?_
      with_reducible refine (lodestonelaw10_keys.calls (a0.extract 0 ((ji7) : Int).toNat) t126 t127 _ A10.out).mono ?_
      rintro e w19 ⟨rfl, hb⟩
      refine ⟨_, rfl, ?_⟩
      have n0_ := Aside0.mk (blk_below (g := gb128) (o := .cells #[.string (⟨#[]⟩ : ByteArray), .string (⟨#[]⟩ : ByteArray)] 23 (0, 0)) (by (with_reducible repeat (first | refine blk_drewN ?_ _ | refine blk_drew ?_ | refine blk_alloc ?_ _)); exact BK128.out) hb)
      have n1_ := Aside0.mk (below_step (by repeat (first | (with_reducible first | exact HB.out | apply below_alloc | apply pw_below_drewN | apply below_drew1 | refine below_set ?_ GE128.out) | exact HB.out)) hb)
      clear BK128
      clear HB
      have BK128 := n0_
      have HB := n1_
      clear n0_ n1_
      (try clear hb)
      (try clear hb2)
      (try clear hk)
      (try clear hi)
      refine hK.out _ _ trivial (fun hHeld => ?_)
      clear hK K
      refine norm_ (a' := ?_) ?_ ?_
      rotate_left
      · show Act.put _ (some 24) _ = _
        simp only [Act.put, List.setIfInBounds_toArray, List.set_cons_zero, List.set_cons_succ, i64_w, i32_w]
        rfl
      exact norm_ (by simp only [putAll, Act.put, List.setIfInBounds_toArray, List.set_cons_zero, List.set_cons_succ]) (hCont (gb128) _ ⟨(by (with_reducible repeat (first | refine blk_drewN ?_ _ | refine blk_drew ?_ | refine blk_alloc ?_ _)); exact BK128.out), GW128.out, GE128.out, (by repeat (first | (with_reducible first | exact HB.out | apply below_alloc | apply pw_below_drewN | apply below_drew1 | refine below_set ?_ GE128.out) | exact HB.out))⟩)
  rintro gb128 w20 ⟨h0_, h1_, h2_, h3_⟩
  have n0_ : Aside0 (w20.heap[gb128]? = some (.cells #[.string (⟨#[]⟩ : ByteArray), .string (⟨#[]⟩ : ByteArray)] 23 (0, 0))) := ⟨h0_⟩
  have n1_ : Aside0 (w1.heap.size ≤ gb128) := ⟨h1_⟩
  have n2_ : Aside0 (w1.heap.size ≤ gb128) := ⟨h2_⟩
  have n3_ : Aside0 (Below w1.heap.size w1 w20) := ⟨h3_⟩
  clear HB
  clear h0_ h1_ h2_ h3_
  have BK128 := n0_
  have GW128 := n1_
  have GE128 := n2_
  have HB := n3_
  clear n0_ n1_ n2_ n3_
  have hHeld := trivial
  refine norm_ (a' := ?_) ?_ ?_
  rotate_left
  · simp only [putAll, Act.put, List.setIfInBounds_toArray, List.set_cons_zero, List.set_cons_succ]
    rfl
  refine pure_ (i := 12) (N := some 7) (v := ?_) (a' := ?_) #[true, true, true, true, true, true, true, true, true, true, true, true, true, false] rfl rfl (any_of HT_.out (by kernel_rfl)) (fun _ _ _ h => h) (Or.inl ⟨by rfl, ?_⟩) ?_ ?_
  rotate_left
  · intro w'
    go_simp
    with_reducible rfl
  rotate_left
  · simp only [Act.put, List.setIfInBounds_toArray, List.set_cons_zero, List.set_cons_succ, i64_w, i32_w]
    rfl
  refine one_ (i := 13) (N := none) #[true, true, true, true, true, true, true, true, true, true, true, true, true, true] rfl rfl (one_of HT_.out (by kernel_rfl)) (by decide) (fun K hK => ?_)
  have hs21 : w20.cell? ⟨gb128, 0, none⟩ = some (.string (⟨#[]⟩ : ByteArray)) := (blk_cell BK128.out 0).trans rfl
  have hfs21 := blk_frozen BK128.out 0
  have hs22 : w20.cell? ⟨gb128, 1, none⟩ = some (.string (⟨#[]⟩ : ByteArray)) := (blk_cell BK128.out 1).trans rfl
  have hfs22 := blk_frozen BK128.out 1
  refine skip_ (w1 := ?_) (by rfl) rfl ?_ ?_
  rotate_left
  · go_simp
    rfl
  refine hK.out _ _ trivial (fun hHeld => ?_)
  clear hK K
  refine done_ (done_of HT_.out (by kernel_rfl)) ?_
  try go_wp2
  have n0_ : Aside0 (((w20.setCell ⟨gb128, 0, none⟩ (.string t126)).setCell ⟨gb128, 1, none⟩ (.string t127)).heap[gb128]? = some (.cells #[.string t126, .string t127] 23 (0, 0))) := ⟨by (with_reducible repeat (first | refine blk_drewN ?_ _ | refine blk_drew ?_ | refine blk_alloc ?_ _)); refine blk_put (cs := #[.string t126, .string (⟨#[]⟩ : ByteArray)]) ?_ 1 _ rfl; (with_reducible repeat (first | refine blk_drewN ?_ _ | refine blk_drew ?_ | refine blk_alloc ?_ _)); refine blk_put (cs := #[.string (⟨#[]⟩ : ByteArray), .string (⟨#[]⟩ : ByteArray)]) ?_ 0 _ rfl; (with_reducible repeat (first | refine blk_drewN ?_ _ | refine blk_drew ?_ | refine blk_alloc ?_ _)); exact BK128.out⟩
  have n1_ : Aside0 (Below w1.heap.size w1 ((w20.setCell ⟨gb128, 0, none⟩ (.string t126)).setCell ⟨gb128, 1, none⟩ (.string t127))) := ⟨by repeat (first | (with_reducible first | exact HB.out | apply below_alloc | apply pw_below_drewN | apply below_drew1 | refine below_set ?_ GE128.out) | exact HB.out)⟩
  (try clear BK128)
  (try clear HB)
  generalize ((w20.setCell ⟨gb128, 0, none⟩ (.string t126)).setCell ⟨gb128, 1, none⟩ (.string t127)) = w23 at n0_ n1_ ⊢
  have BK := Aside0.mk (show IsKeys w23 gb128 t126 t127 from n0_.out)
  have HA := Aside0.mk (HA1.out.below n1_.out)
  have HB := Aside0.mk (HB1.out.trans (n1_.out.mono HB1.out.size))
  have NG := Aside0.mk (show w.heap.size ≤ gb128 from Nat.le_trans HB1.out.size GW128.out)
  clear n0_ n1_ HA1 HB1 GE128 GW128
  refine start_ (n := 7) (S := fun w' => IsKeys w' gb128 t126 t127 ∧ IsArr w' g5 38 .u8 [p, q] ∧ Below w.heap.size w w') (ds := []) #[false, false, false, false, false, false, false] (by kernel_rfl) rfl rfl ⟨BK.out.drew, HA.out.drew, below_drew1 HB.out⟩ (fun hHeld => ?_)
  refine pure_ (i := 1) (N := some 26) (v := ?_) (a' := ?_) #[false, true, false, false, false, false, false] rfl rfl (by kernel_rfl) (fun _ _ _ h => h) (Or.inl ⟨by rfl, ?_⟩) ?_ ?_
  rotate_left
  · intro w'
    go_simp
    with_reducible rfl
  rotate_left
  · simp only [Act.put, List.setIfInBounds_toArray, List.set_cons_zero, List.set_cons_succ, i64_w, i32_w]
    rfl
  refine pure_ (i := 3) (N := some 28) (v := ?_) (a' := ?_) #[false, true, false, true, false, false, false] rfl rfl (by kernel_rfl) (fun _ _ _ h => h) (Or.inl ⟨by rfl, ?_⟩) ?_ ?_
  rotate_left
  · intro w'
    go_simp
    with_reducible rfl
  rotate_left
  · simp only [Act.put, List.setIfInBounds_toArray, List.set_cons_zero, List.set_cons_succ, i64_w, i32_w]
    rfl
  refine take_ (i := 0) (N := some 25) (v := ?_) (a' := ?_) #[true, true, false, true, false, false, false] rfl rfl (by kernel_rfl) (fun _ _ _ h => h) (Or.inl ⟨by rfl, ?_⟩) hHeld ?_ ?_
  rotate_left
  · rintro w' ⟨s0, s1, s2⟩
    have q0_ : w'.cell? ⟨gb128, 0, none⟩ = some (.string t126) := (blk_cell s0 0).trans rfl
    have q1_ : w'.cell? ⟨gb128, 1, none⟩ = some (.string t127) := (blk_cell s0 1).trans rfl
    clear s0 s1 s2
    go_simp
    with_reducible rfl
  rotate_left
  · simp only [Act.put, List.setIfInBounds_toArray, List.set_cons_zero, List.set_cons_succ, i64_w, i32_w]
    rfl
  refine one_ (i := 2) (N := some 27) #[true, true, true, true, false, false, false] rfl rfl (by kernel_rfl) (by decide) (fun K hK => ?_)
  refine goes_ Tryd.func8 (by kernel_rfl) rfl #[.string a0] (by rfl) rfl rfl (by (try simp only [List.map_toArray, List.map_cons, List.map_nil]); first | done | rfl) ?_
  with_reducible refine (lodestonelaw10_nonce.calls a0 t129 _ A11.out).mono ?_
  rintro e w' ⟨rfl, ⟨nd, rfl⟩⟩
  refine ⟨_, rfl, ?_⟩
  refine hK.out _ _ ⟨hHeld.1.drewN _, hHeld.2.1.drewN _, pw_below_drewN hHeld.2.2 _⟩ (fun hHeld => ?_)
  clear hK K
  refine norm_ (a' := ?_) ?_ ?_
  rotate_left
  · show Act.put _ (some 27) _ = _
    simp only [Act.put, List.setIfInBounds_toArray, List.set_cons_zero, List.set_cons_succ, i64_w, i32_w]
    rfl
  refine one_ (i := 4) (N := some 29) #[true, true, true, true, true, false, false] rfl rfl (by kernel_rfl) (by decide) (fun K hK => ?_)
  refine goes_ Tryd.func7 (by kernel_rfl) rfl #[.agg #[.string t126, .string t127], .int .i64 5, .string t129, .string x_1] (by rfl) rfl rfl (by (try simp only [List.map_toArray, List.map_cons, List.map_nil]); first | done | rfl) ?_
  with_reducible refine (seal_Put.calls t126 t127 5 t129 x_1 s0_ _ ?side1 A12.out).mono ?_
  (case side1 => exact SL.below HG.out hHeld.2.2)
  rintro e w9 ⟨rfl, hb⟩
  refine ⟨_, rfl, ?_⟩
  refine hK.out _ _ ⟨hHeld.1.below hb, hHeld.2.1.below hb, below_step hHeld.2.2 hb⟩ (fun hHeld => ?_)
  clear hK K
  refine norm_ (a' := ?_) ?_ ?_
  rotate_left
  · show Act.put _ (some 29) _ = _
    simp only [Act.put, List.setIfInBounds_toArray, List.set_cons_zero, List.set_cons_succ, i64_w, i32_w]
    rfl
  refine one_ (i := 5) (N := some 30) #[true, true, true, true, true, true, false] rfl rfl (by kernel_rfl) (by decide) (fun K hK => ?_)
  have hb := bytes_below (Below.refl w9.heap.size w9) (Nat.le_refl _) 5 s0_
  refine value_ (w1 := Lib.bytesWorld w9 5 s0_) (v := .slice (some ⟨w9.heap.size, 0, none⟩) s0_.size (grownCap w9 s0_.size 0 5)) (by rfl) rfl ?_ ?_
  · have hcv_ := print_bytes (P := Tryd.prog) 9 35 5 Tryd.underlying9 Tryd.underlying35 Tryd.underlying5 s0_ w9
    go_simp
    first | done | rfl
  have hle_ := hHeld.2.2.size
  have HO := Aside0.mk (ownM_bytes w9 5 s0_ (by have := HS.out; unfold maxLen; omega) w.heap.size hHeld.2.2.size)
  have NE := Aside0.mk (show g5 ≠ w9.heap.size from Nat.ne_of_lt hHeld.2.1.lt)
  have NK := Aside0.mk (show gb128 ≠ w9.heap.size from Nat.ne_of_lt (blk_lt hHeld.1))
  refine hK.out _ _ ⟨hHeld.1.below hb, hHeld.2.1.below hb, below_step hHeld.2.2 hb⟩ (fun hHeld => ?_)
  clear hK K
  refine norm_ (a' := ?_) ?_ ?_
  rotate_left
  · show Act.put _ (some 30) _ = _
    simp only [Act.put, List.setIfInBounds_toArray, List.set_cons_zero, List.set_cons_succ, i64_w, i32_w]
    rfl
  refine pure_ (i := 6) (N := some 9) (v := ?_) (a' := ?_) #[true, true, true, true, true, true, true] rfl rfl (by kernel_rfl) (fun _ _ _ h => h) (Or.inl ⟨by rfl, ?_⟩) ?_ ?_
  rotate_left
  · intro w'
    go_simp
    with_reducible rfl
  rotate_left
  · simp only [Act.put, List.setIfInBounds_toArray, List.set_cons_zero, List.set_cons_succ, i64_w, i32_w]
    rfl
  refine done_ (by kernel_rfl) ?_


  have BK := Aside0.mk hHeld.1
  have HA := Aside0.mk hHeld.2.1
  have HB := Aside0.mk hHeld.2.2
  have LB := Aside0.mk hle_
  clear hHeld hle_ hb
  obtain ⟨cap, hcap⟩ : ∃ c, grownCap w9 s0_.size 0 5 = c := ⟨_, rfl⟩
  obtain ⟨gb, hgb⟩ : ∃ g, w9.heap.size = g := ⟨_, rfl⟩
  rw [hcap, hgb] at HO ⊢
  rw [hgb] at NE NK LB
  clear hcap hgb
  generalize Lib.bytesWorld w9 5 s0_ = w3 at BK HA HB HO ⊢
  clear hu23 hji4_ hji7_ hji7 hji4 hx_1 c5b0 c5b1 c6b0 c6b1 c8b0 c8b1 c9b0 c9b1
  obtain ⟨r, hr⟩ : ∃ r : Nat, p % 32 = r := ⟨(p % 32).toNat, by have := HP.out; omega⟩
  obtain ⟨m, hm⟩ : ∃ m : Nat, (s0_.size : Int) - 1 = m := ⟨s0_.size - 1, by have := HS.out; omega⟩
  obtain ⟨i, hi⟩ : ∃ i : Nat, (m : Int) - r = i := ⟨m - r, by have := HS.out; omega⟩
  have hil : i < s0_.size := by omega
  have HI := Aside0.mk (show i < s0_.size ∧ x_1.size ≤ i by have := HS.out; omega)
  have t1 : Int.tmod p 32 = r := by rw [← hr]; exact Int.tmod_eq_emod_of_nonneg HP.out.1
  have t2 : wrap64 (m : Int) = m := w64 (by omega) (by have := HS.out; omega)
  have t3 : wrap64 (i : Int) = i := w64 (by omega) (by have := HS.out; omega)
  have t4 : wrap64 (r : Int) = r := w64 (by omega) (by omega)
  have t5 : IntKind.u8.wrap (r : Int) = r := u8w r (by omega)
  have z2 : (0 : Int) ≤ i := by omega
  have z3 : (i : Int) < (s0_.size : Int) := by omega
  have e1 : decide ((s0_.size : Int) < 32) = false := decide_eq_false (by have := HS.out; omega)
  have e1n : decide (s0_.size < 32) = false := decide_eq_false (by have := HS.out; omega)
  obtain ⟨bv, hbv⟩ : ∃ v, bt s0_ (i : Int) = v := ⟨_, rfl⟩
  have c0 : w3.cell? ⟨g5, 0, none⟩ = some (.int .u8 p) := HA.out.cell 0 (by simp)
  have c1 : w3.cell? ⟨g5, 1, none⟩ = some (.int .u8 q) := HA.out.cell 1 (by simp)
  have cb : w3.cell? ⟨gb, i, none⟩ = some (.int .u8 bv) := by
    rw [← hbv, bt_nat]
    exact HO.out.cell i (by rw [bytesOf_length]; exact hil)
  have fb := HO.out.frozen i (by rw [bytesOf_length]; exact hil)
  have HV := Aside0.mk hbv
  clear hbv hil
  go_wp2
  go_region
  obtain ⟨v, hv⟩ : ∃ v, Go.bits .xor .u8 bv q = v := ⟨_, rfl⟩
  rw [hv]
  have n0 := Aside0.mk ((HO.out.set i v).drew)
  have n1 := Aside0.mk ((HA.out.far (p := ⟨gb, i, none⟩) NE.out (.int .u8 v)).drew)
  have n2 := Aside0.mk (below_drew1 (below_set (g := gb) (j := i) (v := .int .u8 v) HB.out LB.out))
  have n3 := Aside0.mk ((BK.out.far (a := ⟨gb, i, none⟩) NK.out (.int .u8 v)).drew)
  obtain ⟨C, hCC⟩ := bent_of s0_ i q bv v HI.out.1 HQ.out HV.out hv
  obtain ⟨hC, hcl, hCs, hzC⟩ := hCC
  have hex : C.extract 0 x_1.size = s0_.extract 0 x_1.size := by rw [← hC]; exact set_extract s0_ i x_1.size v HI.out.2
  obtain ⟨cs, hcs⟩ : ∃ cs, (bytesOf s0_).set i v = cs := ⟨_, rfl⟩
  rw [hcs] at n0 hC hcl
  obtain ⟨u1, u2, k1, k2⟩ := HF.out.1 C hCs hex
  have A13 := Aside0.mk k1
  have A14 := Aside0.mk (HF.out.2 C hCs)
  have HU := Aside0.mk k2
  have HZ := Aside0.mk hzC
  have HCL := Aside0.mk hcl
  have HC := Aside0.mk hC
  clear k1 k2 hex hC hcl hCs hzC hv hcs c0 c1 cb fb z2 z3 t1 t2 t3 t4 t5 e1 e1n hr hm hi HA HB BK HO
  generalize (w3.setCell ⟨gb, i, none⟩ (.int .u8 v)).drew = w4 at n0 n1 n2 n3 ⊢
  have HO := n0
  have HA := n1
  have HB := n2
  have BK := n3
  clear n0 n1 n2 n3
  go_wp2
  refine start_ (n := 11) (S := fun w' => IsKeys w' gb128 t126 t127 ∧ IsArr w' g5 38 .u8 [p, q] ∧ Below w.heap.size w w' ∧ OwnM w' w.heap.size 5 (.slice (some ⟨gb, 0, none⟩) s0_.size cap) cs) (ds := []) #[false, false, false, false, false, false, false, false, false, false, false] (by kernel_rfl) rfl rfl ⟨BK.out.drew, HA.out.drew, below_drew1 HB.out, HO.out.drew⟩ (fun hHeld => ?_)
  refine pure_ (i := 1) (N := some 51) (v := ?_) (a' := ?_) #[false, true, false, false, false, false, false, false, false, false, false] rfl rfl (by kernel_rfl) (fun _ _ _ h => h) (Or.inl ⟨by rfl, ?_⟩) ?_ ?_
  rotate_left
  · intro w'
    go_simp
    with_reducible rfl
  rotate_left
  · simp only [Act.put, List.setIfInBounds_toArray, List.set_cons_zero, List.set_cons_succ, i64_w, i32_w]
    rfl
  refine pure_ (i := 3) (N := some 53) (v := ?_) (a' := ?_) #[false, true, false, true, false, false, false, false, false, false, false] rfl rfl (by kernel_rfl) (fun _ _ _ h => h) (Or.inl ⟨by rfl, ?_⟩) ?_ ?_
  rotate_left
  · intro w'
    go_simp
    with_reducible rfl
  rotate_left
  · simp only [Act.put, List.setIfInBounds_toArray, List.set_cons_zero, List.set_cons_succ, i64_w, i32_w]
    rfl
  refine take_ (i := 4) (N := some 54) (v := ?_) (a' := ?_) #[false, true, false, true, true, false, false, false, false, false, false] rfl rfl (by kernel_rfl) (fun _ _ _ h => h) (Or.inl ⟨by rfl, ?_⟩) hHeld ?_ ?_
  rotate_left
  · rintro w' ⟨s0, s1, s2, s3⟩
    have hr_ := s3.reads HCL.out.symm (by have := HS.out; omega)
    have hcv_ := string_of_reads (P := Tryd.prog) Tryd.underlying35 Tryd.underlying5 Tryd.underlying9 hr_ (c := cap)
    rw [HC.out] at hcv_
    clear s0 s1 s2 s3 hr_
    go_simp
    with_reducible rfl
  rotate_left
  · simp only [Act.put, List.setIfInBounds_toArray, List.set_cons_zero, List.set_cons_succ, i64_w, i32_w]
    rfl
  refine take_ (i := 0) (N := some 50) (v := ?_) (a' := ?_) #[true, true, false, true, true, false, false, false, false, false, false] rfl rfl (by kernel_rfl) (fun _ _ _ h => h) (Or.inl ⟨by rfl, ?_⟩) hHeld ?_ ?_
  rotate_left
  · rintro w' ⟨s0, s1, s2, s3⟩
    have q0_ : w'.cell? ⟨gb128, 0, none⟩ = some (.string t126) := (blk_cell s0 0).trans rfl
    have q1_ : w'.cell? ⟨gb128, 1, none⟩ = some (.string t127) := (blk_cell s0 1).trans rfl
    clear s0 s1 s2 s3
    go_simp
    with_reducible rfl
  rotate_left
  · simp only [Act.put, List.setIfInBounds_toArray, List.set_cons_zero, List.set_cons_succ, i64_w, i32_w]
    rfl
  refine one_ (i := 2) (N := some 52) #[true, true, true, true, true, false, false, false, false, false, false] rfl rfl (by kernel_rfl) (by decide) (fun K hK => ?_)
  refine goes_ Tryd.func8 (by kernel_rfl) rfl #[.string a0] (by rfl) rfl rfl (by (try simp only [List.map_toArray, List.map_cons, List.map_nil]); first | done | rfl) ?_
  with_reducible refine (lodestonelaw10_nonce.calls a0 t129 _ A11.out).mono ?_
  rintro e w' ⟨rfl, ⟨nd, rfl⟩⟩
  refine ⟨_, rfl, ?_⟩
  refine hK.out _ _ ⟨hHeld.1.drewN _, hHeld.2.1.drewN _, pw_below_drewN hHeld.2.2.1 _, hHeld.2.2.2.drewN _⟩ (fun hHeld => ?_)
  clear hK K
  refine norm_ (a' := ?_) ?_ ?_
  rotate_left
  · show Act.put _ (some 52) _ = _
    simp only [Act.put, List.setIfInBounds_toArray, List.set_cons_zero, List.set_cons_succ, i64_w, i32_w]
    rfl
  refine one_ (i := 5) (N := some 55) #[true, true, true, true, true, true, false, false, false, false, false] rfl rfl (by kernel_rfl) (by decide) (fun K hK => ?_)
  refine goes_ Tryd.func9 (by kernel_rfl) rfl #[.agg #[.string t126, .string t127], .int .i64 5, .string t129, .string C] (by rfl) rfl rfl (by (try simp only [List.map_toArray, List.map_cons, List.map_nil]); first | done | rfl) ?_
  with_reducible refine (seal_Get.calls 500 t126 t127 5 t129 C u1 u2 _ ?side1 A13.out).mono ?_
  (case side1 => exact SL.below HG.out hHeld.2.2.1)
  rintro e w9 ⟨rfl, hb⟩
  refine ⟨_, rfl, ?_⟩
  refine hK.out _ _ ⟨hHeld.1.below hb, hHeld.2.1.below hb, below_step hHeld.2.2.1 hb, hHeld.2.2.2.below hb⟩ (fun hHeld => ?_)
  clear hK K
  refine norm_ (a' := ?_) ?_ ?_
  rotate_left
  · show Act.put _ (some 55) _ = _
    simp only [Act.put, List.setIfInBounds_toArray, List.set_cons_zero, List.set_cons_succ, i64_w, i32_w]
    rfl
  refine pure_ (i := 6) (N := some 49) (v := ?_) (a' := ?_) #[true, true, true, true, true, true, true, false, false, false, false] rfl rfl (by kernel_rfl) (fun _ _ _ h => h) (Or.inl ⟨by rfl, ?_⟩) ?_ ?_
  rotate_left
  · intro w'
    go_simp
    with_reducible rfl
  rotate_left
  · simp only [Act.put, List.setIfInBounds_toArray, List.set_cons_zero, List.set_cons_succ, i64_w, i32_w]
    rfl
  refine pure_ (i := 7) (N := some 56) (v := ?_) (a' := ?_) #[true, true, true, true, true, true, true, true, false, false, false] rfl rfl (by kernel_rfl) (fun _ _ _ h => h) (Or.inl ⟨by rfl, ?_⟩) ?_ ?_
  rotate_left
  · intro w'
    go_simp
    with_reducible rfl
  rotate_left
  · simp only [Act.put, List.setIfInBounds_toArray, List.set_cons_zero, List.set_cons_succ, i64_w, i32_w]
    rfl
  refine pure_ (i := 8) (N := some 57) (v := ?_) (a' := ?_) #[true, true, true, true, true, true, true, true, true, false, false] rfl rfl (by kernel_rfl) (fun _ _ _ h => h) (Or.inl ⟨by rfl, ?_⟩) ?_ ?_
  rotate_left
  · intro w'
    go_simp
    with_reducible rfl
  rotate_left
  · simp only [Act.put, List.setIfInBounds_toArray, List.set_cons_zero, List.set_cons_succ, i64_w, i32_w]
    rfl
  refine pure_ (i := 9) (N := some 10) (v := ?_) (a' := ?_) #[true, true, true, true, true, true, true, true, true, true, false] rfl rfl (by kernel_rfl) (fun _ _ _ h => h) (Or.inl ⟨by rfl, ?_⟩) ?_ ?_
  rotate_left
  · intro w'
    go_simp
    with_reducible rfl
  rotate_left
  · simp only [Act.put, List.setIfInBounds_toArray, List.set_cons_zero, List.set_cons_succ, i64_w, i32_w]
    rfl
  refine pure_ (i := 10) (N := some 11) (v := ?_) (a' := ?_) #[true, true, true, true, true, true, true, true, true, true, true] rfl rfl (by kernel_rfl) (fun _ _ _ h => h) (Or.inl ⟨by rfl, ?_⟩) ?_ ?_
  rotate_left
  · intro w'
    go_simp
    with_reducible rfl
  rotate_left
  · simp only [Act.put, List.setIfInBounds_toArray, List.set_cons_zero, List.set_cons_succ, i64_w, i32_w]
    rfl
  refine done_ (by kernel_rfl) ?_


  have HO := Aside0.mk hHeld.2.2.2
  have HA := Aside0.mk hHeld.2.1
  have HB := Aside0.mk hHeld.2.2.1
  have BK := Aside0.mk hHeld.1
  clear hHeld hb
  go_wp2
  refine start_ (n := 11) (S := fun w' => IsKeys w' gb128 t126 t127 ∧ IsArr w' g5 38 .u8 [p, q] ∧ Below w.heap.size w w' ∧ OwnM w' w.heap.size 5 (.slice (some ⟨gb, 0, none⟩) s0_.size cap) cs) (ds := []) #[false, false, false, false, false, false, false, false, false, false, false] (by kernel_rfl) rfl rfl ⟨BK.out.drew, HA.out.drew, below_drew1 HB.out, HO.out.drew⟩ (fun hHeld => ?_)
  refine pure_ (i := 0) (N := some 59) (v := ?_) (a' := ?_) #[true, false, false, false, false, false, false, false, false, false, false] rfl rfl (by kernel_rfl) (fun _ _ _ h => h) (Or.inl ⟨by rfl, ?_⟩) ?_ ?_
  rotate_left
  · intro w'
    go_simp
    with_reducible rfl
  rotate_left
  · simp only [Act.put, List.setIfInBounds_toArray, List.set_cons_zero, List.set_cons_succ, i64_w, i32_w]
    rfl
  refine pure_ (i := 1) (N := some 60) (v := ?_) (a' := ?_) #[true, true, false, false, false, false, false, false, false, false, false] rfl rfl (by kernel_rfl) (fun _ _ _ h => h) (Or.inl ⟨by rfl, ?_⟩) ?_ ?_
  rotate_left
  · intro w'
    go_simp
    with_reducible rfl
  rotate_left
  · simp only [Act.put, List.setIfInBounds_toArray, List.set_cons_zero, List.set_cons_succ, i64_w, i32_w]
    rfl
  refine pure_ (i := 3) (N := some 62) (v := ?_) (a' := ?_) #[true, true, false, true, false, false, false, false, false, false, false] rfl rfl (by kernel_rfl) (fun _ _ _ h => h) (Or.inl ⟨by rfl, ?_⟩) ?_ ?_
  rotate_left
  · intro w'
    go_simp
    with_reducible rfl
  rotate_left
  · simp only [Act.put, List.setIfInBounds_toArray, List.set_cons_zero, List.set_cons_succ, i64_w, i32_w]
    rfl
  refine take_ (i := 4) (N := some 63) (v := ?_) (a' := ?_) #[true, true, false, true, true, false, false, false, false, false, false] rfl rfl (by kernel_rfl) (fun _ _ _ h => h) (Or.inl ⟨by rfl, ?_⟩) hHeld ?_ ?_
  rotate_left
  · rintro w' ⟨s0, s1, s2, s3⟩
    have hr_ := s3.reads HCL.out.symm (by have := HS.out; omega)
    have hcv_ := string_of_reads (P := Tryd.prog) Tryd.underlying35 Tryd.underlying5 Tryd.underlying9 hr_ (c := cap)
    rw [HC.out] at hcv_
    clear s0 s1 s2 s3 hr_
    go_simp
    with_reducible rfl
  rotate_left
  · simp only [Act.put, List.setIfInBounds_toArray, List.set_cons_zero, List.set_cons_succ, i64_w, i32_w]
    rfl
  refine one_ (i := 2) (N := some 61) #[true, true, true, true, true, false, false, false, false, false, false] rfl rfl (by kernel_rfl) (by decide) (fun K hK => ?_)
  refine goes_ Tryd.func8 (by kernel_rfl) rfl #[.string a0] (by rfl) rfl rfl (by (try simp only [List.map_toArray, List.map_cons, List.map_nil]); first | done | rfl) ?_
  with_reducible refine (lodestonelaw10_nonce.calls a0 t129 _ A11.out).mono ?_
  rintro e w' ⟨rfl, ⟨nd, rfl⟩⟩
  refine ⟨_, rfl, ?_⟩
  refine hK.out _ _ ⟨hHeld.1.drewN _, hHeld.2.1.drewN _, pw_below_drewN hHeld.2.2.1 _, hHeld.2.2.2.drewN _⟩ (fun hHeld => ?_)
  clear hK K
  refine norm_ (a' := ?_) ?_ ?_
  rotate_left
  · show Act.put _ (some 61) _ = _
    simp only [Act.put, List.setIfInBounds_toArray, List.set_cons_zero, List.set_cons_succ, i64_w, i32_w]
    rfl
  refine one_ (i := 5) (N := some 64) #[true, true, true, true, true, true, false, false, false, false, false] rfl rfl (by kernel_rfl) (by decide) (fun K hK => ?_)
  refine goes_ Tryd.func9 (by kernel_rfl) rfl #[.agg #[.string short, .string em], .int .i64 5, .string t129, .string C] (by rfl) rfl rfl (by (try simp only [List.map_toArray, List.map_cons, List.map_nil]); first | done | rfl) ?_
  with_reducible refine (seal_Get.calls 500 short em 5 t129 C em 2 _ ?side1 A14.out).mono ?_
  (case side1 => exact SL.below HG.out hHeld.2.2.1)
  rintro e w9 ⟨rfl, hb⟩
  refine ⟨_, rfl, ?_⟩
  refine hK.out _ _ ⟨hHeld.1.below hb, hHeld.2.1.below hb, below_step hHeld.2.2.1 hb, hHeld.2.2.2.below hb⟩ (fun hHeld => ?_)
  clear hK K
  refine norm_ (a' := ?_) ?_ ?_
  rotate_left
  · show Act.put _ (some 64) _ = _
    simp only [Act.put, List.setIfInBounds_toArray, List.set_cons_zero, List.set_cons_succ, i64_w, i32_w]
    rfl
  refine pure_ (i := 6) (N := some 58) (v := ?_) (a' := ?_) #[true, true, true, true, true, true, true, false, false, false, false] rfl rfl (by kernel_rfl) (fun _ _ _ h => h) (Or.inl ⟨by rfl, ?_⟩) ?_ ?_
  rotate_left
  · intro w'
    go_simp
    with_reducible rfl
  rotate_left
  · simp only [Act.put, List.setIfInBounds_toArray, List.set_cons_zero, List.set_cons_succ, i64_w, i32_w]
    rfl
  refine pure_ (i := 7) (N := some 65) (v := ?_) (a' := ?_) #[true, true, true, true, true, true, true, true, false, false, false] rfl rfl (by kernel_rfl) (fun _ _ _ h => h) (Or.inl ⟨by rfl, ?_⟩) ?_ ?_
  rotate_left
  · intro w'
    go_simp
    with_reducible rfl
  rotate_left
  · simp only [Act.put, List.setIfInBounds_toArray, List.set_cons_zero, List.set_cons_succ, i64_w, i32_w]
    rfl
  refine pure_ (i := 8) (N := some 66) (v := ?_) (a' := ?_) #[true, true, true, true, true, true, true, true, true, false, false] rfl rfl (by kernel_rfl) (fun _ _ _ h => h) (Or.inl ⟨by rfl, ?_⟩) ?_ ?_
  rotate_left
  · intro w'
    go_simp
    with_reducible rfl
  rotate_left
  · simp only [Act.put, List.setIfInBounds_toArray, List.set_cons_zero, List.set_cons_succ, i64_w, i32_w]
    rfl
  refine pure_ (i := 9) (N := some 12) (v := ?_) (a' := ?_) #[true, true, true, true, true, true, true, true, true, true, false] rfl rfl (by kernel_rfl) (fun _ _ _ h => h) (Or.inl ⟨by rfl, ?_⟩) ?_ ?_
  rotate_left
  · intro w'
    go_simp
    with_reducible rfl
  rotate_left
  · simp only [Act.put, List.setIfInBounds_toArray, List.set_cons_zero, List.set_cons_succ, i64_w, i32_w]
    rfl
  refine pure_ (i := 10) (N := some 13) (v := ?_) (a' := ?_) #[true, true, true, true, true, true, true, true, true, true, true] rfl rfl (by kernel_rfl) (fun _ _ _ h => h) (Or.inl ⟨by rfl, ?_⟩) ?_ ?_
  rotate_left
  · intro w'
    go_simp
    with_reducible rfl
  rotate_left
  · simp only [Act.put, List.setIfInBounds_toArray, List.set_cons_zero, List.set_cons_succ, i64_w, i32_w]
    rfl
  refine done_ (by kernel_rfl) ?_


  have HO := Aside0.mk hHeld.2.2.2
  have HA := Aside0.mk hHeld.2.1
  have HB := Aside0.mk hHeld.2.2.1
  have BK := Aside0.mk hHeld.1
  clear hHeld hb HO
  have HUQ := Aside0.mk (show (u2 = 0 ∧ q = 0) ∨ (u2 = 100 ∧ q ≠ 0) by
    rcases HU.out with ⟨h, e⟩ | ⟨h, e⟩
    · exact .inl ⟨h, HZ.out.mp e.symm⟩
    · exact .inr ⟨h, fun h2 => e (HZ.out.mpr h2).symm⟩)
  clear HU HZ
  rcases HUQ.out with ⟨rfl, rfl⟩ | ⟨rfl, hq0⟩
  · clear HUQ
    go_wp2_with (first | (go_at_call 10; (with_reducible refine (lodestonelaw10_awake.calls 500 true _ (SL.below HG.out HB.out) A17.out).mono ?_); rintro e w9 ⟨rfl, hb⟩; have n1_ := Aside0.mk (below_step HB.out hb); have n2_ := Aside0.mk (HA.out.below hb); have n3_ := Aside0.mk (BK.out.below hb); clear HA HB BK hb; have HB := n1_; have HA := n2_; have BK := n3_; clear n1_ n2_ n3_; have c1 := HA.out.cell 1 (by simp)) | (go_at_call 8; (with_reducible refine (lodestonelaw10_nonce.calls a0 t129 _ A11.out).mono ?_); rintro e w9 ⟨rfl, ⟨nd, rfl⟩⟩; have n1_ := Aside0.mk (pw_below_drewN HB.out nd); have n3_ := Aside0.mk (BK.out.drewN nd); clear HB BK HA c1; have HB := n1_; have BK := n3_; clear n1_ n3_) | (go_at_call 7; (with_reducible refine (seal_Put.calls short em 5 t129 x_1 em _ (SL.below HG.out HB.out) A15.out).mono ?_); rintro e w9 ⟨rfl, hb⟩; have n1_ := Aside0.mk (below_step HB.out hb); have n3_ := Aside0.mk (BK.out.below hb); clear HB BK hb; have HB := n1_; have BK := n3_; clear n1_ n3_; have q0_ : w9.cell? ⟨gb128, 0, none⟩ = some (.string t126) := (blk_cell BK.out 0).trans rfl; have q1_ : w9.cell? ⟨gb128, 1, none⟩ = some (.string t127) := (blk_cell BK.out 1).trans rfl) | (go_at_call 7; (with_reducible refine (seal_Put.calls t126 t127 5 short x_1 em _ (SL.below HG.out HB.out) A16.out).mono ?_); rintro e w9 ⟨rfl, hb⟩; have n1_ := Aside0.mk (below_step HB.out hb); clear HB hb; have HB := n1_; clear n1_))
    go_ret
    exact ⟨rfl, HB.out⟩
  · have hq1 : (q == 0) = false := beq_eq_false_iff_ne.mpr hq0
    have hq2 : (q != 0) = true := bne_iff_ne.mpr hq0
    clear HUQ hq0
    go_wp2_with (first | (go_at_call 10; (with_reducible refine (lodestonelaw10_awake.calls 500 true _ (SL.below HG.out HB.out) A17.out).mono ?_); rintro e w9 ⟨rfl, hb⟩; have n1_ := Aside0.mk (below_step HB.out hb); have n2_ := Aside0.mk (HA.out.below hb); have n3_ := Aside0.mk (BK.out.below hb); clear HA HB BK hb; have HB := n1_; have HA := n2_; have BK := n3_; clear n1_ n2_ n3_; have c1 := HA.out.cell 1 (by simp)) | (go_at_call 8; (with_reducible refine (lodestonelaw10_nonce.calls a0 t129 _ A11.out).mono ?_); rintro e w9 ⟨rfl, ⟨nd, rfl⟩⟩; have n1_ := Aside0.mk (pw_below_drewN HB.out nd); have n3_ := Aside0.mk (BK.out.drewN nd); clear HB BK HA c1; have HB := n1_; have BK := n3_; clear n1_ n3_) | (go_at_call 7; (with_reducible refine (seal_Put.calls short em 5 t129 x_1 em _ (SL.below HG.out HB.out) A15.out).mono ?_); rintro e w9 ⟨rfl, hb⟩; have n1_ := Aside0.mk (below_step HB.out hb); have n3_ := Aside0.mk (BK.out.below hb); clear HB BK hb; have HB := n1_; have BK := n3_; clear n1_ n3_; have q0_ : w9.cell? ⟨gb128, 0, none⟩ = some (.string t126) := (blk_cell BK.out 0).trans rfl; have q1_ : w9.cell? ⟨gb128, 1, none⟩ = some (.string t127) := (blk_cell BK.out 1).trans rfl) | (go_at_call 7; (with_reducible refine (seal_Put.calls t126 t127 5 short x_1 em _ (SL.below HG.out HB.out) A16.out).mono ?_); rintro e w9 ⟨rfl, hb⟩; have n1_ := Aside0.mk (below_step HB.out hb); clear HB hb; have HB := n1_; clear n1_))
    go_ret
    exact ⟨rfl, HB.out⟩
end Go.Proofs.YtdoblaihpelhgaaDoor.Sb
