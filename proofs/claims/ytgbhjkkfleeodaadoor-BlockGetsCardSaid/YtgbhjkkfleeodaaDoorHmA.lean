import Derived.Test.YtgbhjkkfleeodaaDoorShaZ
import Derived.Test.YtgbhjkkfleeodaaDoorXL
import Derived.Test.YtgbhjkkfleeodaaDoorXA
import Derived.Lib.BufferWrite
namespace Go.Proofs.YtgbhjkkfleeodaaDoor.Hm
open Go.RowKit Go.Proofs.YtgbhjkkfleeodaaDoorW.PrintWords Go.Proofs.YtgbhjkkfleeodaaDoorW.PrintLast Go.Proofs.YtgbhjkkfleeodaaDoorW.PrintMore Go.Proofs.YtgbhjkkfleeodaaDoor.XA Go.Proofs.YtgbhjkkfleeodaaDoor.XB Go.Proofs.YtgbhjkkfleeodaaDoor.XL Go.Proofs.YtgbhjkkfleeodaaDoor.Sha
set_option linter.unusedVariables false
set_option linter.unusedSimpArgs false
def kk (key : ByteArray) : ByteArray := if key.size > 64 then dig key else key
theorem kk_size (key : ByteArray) : (kk key).size ≤ 64 := by
  unfold kk
  split
  · rw [dig_size]; omega
  · omega
def pdL (K : ByteArray) (by_ : Int) : List Int := (List.range 64).map fun (i : Nat) => Go.bits .xor .u8 (bt K (i : Int)) by_
def pd (key : ByteArray) (by_ : Int) : ByteArray := strOfNums (pdL (kk key) by_)
theorem pd_size (key : ByteArray) (by_ : Int) : (pd key by_).size = 64 := by rw [pd, strOfNums_size, pdL]; simp
def bl (K : ByteArray) : List Int := bytesOf K ++ List.replicate (64 - K.size) 0
theorem bl_length (K : ByteArray) (h : K.size ≤ 64) : (bl K).length = 64 := by
  simp [bl, bytesOf_length]; omega
theorem bl_get (K : ByteArray) (j : Nat) : (bl K).getD j 0 = bt K (j : Int) := by
  rw [bt_nat, bl, List.getD_eq_getElem?_getD, List.getD_eq_getElem?_getD]
  by_cases h : j < (bytesOf K).length
  · rw [List.getElem?_append_left h]
  · rw [List.getElem?_append_right (by omega), List.getElem?_eq_none (l := bytesOf K) (by omega), List.getElem?_replicate]
    split <;> rfl
theorem copy_run {P : Program} (w : World) {ops : Array Oper} {rest : List Oper} {o : Oper} {a : Act} {Q : Exit → Act → World → Prop} (hgd : o.guard = none) (d s : Operand) (t t' : TypeId)
    (ho : o.op = .call { callee := .builtin .copy, args := #[d, s], argTypes := #[t, t'] }) (v u : Value) (hd : a.eval d = v) (hs : a.eval s = u) {v' : Value} {w' : World}
    (hr : (Builtin.copy_ #[t, t'] o.type #[v, u]).run P w = .ok v' w') (h : wpList P ops Q rest (a.put o.dst v') w') : wpList P ops Q (o :: rest) a w := by
  refine wpList_plain hgd fun _ hK => ?_
  unfold Oper.wp execOp
  simp only [ho, resolve, invoke, builtin, Sem.run_bind, Sem.run_pure, Result.andThen_ok, List.map_toArray, List.map_cons, List.map_nil, hd, hs, hr]
  exact hK _ _ h
def z64 : List Int := List.replicate 64 0
theorem made64 : madeCells #[.int .u8 0] 64 = arrK .u8 z64 := by kernel_rfl
theorem copied (K : ByteArray) (h : K.size ≤ 64) : ((arrK .u8 z64).toList.take 0 ++ Lib.byteCells K.data.toList ++ (arrK .u8 z64).toList.drop (0 + K.size)).toArray = arrK .u8 (bl K) := by
  apply Array.toList_inj.mp
  simp only [List.take_zero, List.nil_append, Nat.zero_add, arrK, bl, List.map_append, z64, Lib.byteCells, bytesOf]
  congr 1
  · rw [List.map_map]; rfl
  · rw [List.map_replicate, List.drop_replicate, List.map_replicate]
theorem arr_reads {w : World} {g T : Nat} {xs : List Int} (h : IsArr w g T .u8 xs) (hl : xs.length = 64) : ReadsInt w .u8 (some ⟨g, 0, none⟩) 64 xs :=
  ⟨hl, by decide, fun _ => ⟨_, rfl, fun j hj => by rw [add_plain]; exact h.cell j (by omega)⟩⟩
def xorL (K : ByteArray) (by_ : Int) (i : Nat) : Int := Go.bits .xor .u8 (bt K (i : Int)) by_
theorem xorL_full (K : ByteArray) (by_ : Int) (h : K.size ≤ 64) : setAll (xorL K by_) (bl K) 64 = pdL K by_ := by
  have := setAll_full (xorL K by_) (bl K)
  rw [bl_length K h] at this
  exact this
set_option maxHeartbeats 8000000 in
set_option maxRecDepth 100000 in
theorem padded_calls (key : ByteArray) (by_ : Int) (hk : key.size ≤ 140737488351232) (w : World) (hG : SL w) :
    Calls Tryd.prog 77 #[.string key, .int .u8 by_] w fun e w' => e = .returned (.string (pd key by_)) ∧ Below w.heap.size w w' := by
  have km : ∀ W : World, (Instr.makeSlice 34 (.int .i64 64) (.int .i64 64)).run Tryd.prog W = .ok (.slice (some ⟨W.heap.size, 0, none⟩) 64 64) (W.alloc (.cells (arrK .u8 z64) 5)) := by
    intro W
    have := print_make (P := Tryd.prog) 34 5 .u8 1 Tryd.underlying34 (by kernel_rfl) (by decide) 64 (by decide) W
    rw [made64] at this
    exact this
  obtain ⟨K, hK⟩ : ∃ K, kk key = K := ⟨_, rfl⟩
  have hKs : K.size ≤ 64 := by rw [← hK]; exact kk_size key
  have HK := Aside0.mk hK
  have HKS := Aside0.mk hKs
  have HG := Aside0.mk hG
  have HB := Aside0.mk (Below.refl w.heap.size w)
  clear hK hKs hG
  by_cases hc : key.size > 64
  · have c1 : decide ((64 : Int) < (key.size : Int)) = true := decide_eq_true (by omega)
    have hdk : dig key = K := by rw [← HK.out, kk, if_pos hc]
    have HD := Aside0.mk hdk
    have HKL := Aside0.mk hk
    clear hdk hc hk
    go_enter Tryd.func77, Tryd.ntmps77
    go_wp2_with (first
      | (go_at_call 86; refine (sum_dig key HKL.out _ (SL.below HG.out HB.out)).mono ?_; rintro e w1 ⟨rfl, hb⟩; rw [HD.out]; have n0 := Aside0.mk (below_step HB.out hb); clear HB hb; have HB := n0; clear n0)
      | ((with_reducible refine gate_builtin (b := .copy) (xs := #[.tmp 13, .tmp 14]) rfl ?_); refine copy_run _ rfl (.tmp 13) (.tmp 14) 34 9 rfl _ _ rfl rfl (Lib.run_copy_row_string _ 34 9 _ 5 _ 0 64 64 K (arrK .u8 z64) 5 Tryd.underlying34 (by kernel_rfl) (blk_new _ _) HKS.out (by rw [arrK_size]; have := HKS.out; simp [z64]; omega)) ?_; rw [copied K HKS.out]))
    have LX := Aside0.mk (show w.heap.size ≤ w1.heap.size from HB.out.size)
    have n1 := Aside0.mk (show IsArr ((w1.alloc (.cells (arrK .u8 z64) 5)).setRow w1.heap.size (arrK .u8 (bl K))) w1.heap.size 5 .u8 (bl K) from setRow_heap _ _ _ _ _ _ (blk_new w1 _))
    have n2 := Aside0.mk ((setRow_blk (w1.alloc (.cells (arrK .u8 z64) 5)) w1.heap.size (arrK .u8 (bl K))).below (below_alloc HB.out _) LX.out)
    clear HB km
    obtain ⟨g, hg⟩ : ∃ g, w1.heap.size = g := ⟨_, rfl⟩
    rw [hg] at n1 n2 LX ⊢
    generalize (w1.alloc (.cells (arrK .u8 z64) 5)).setRow g (arrK .u8 (bl K)) = w2 at n1 n2 ⊢
    have HX := n1
    have HB := n2
    clear n1 n2 hg
    go_loopw [18] (fun i wr => ∃ k : Nat, k ≤ 64 ∧ i = .int .i64 k ∧ IsArr wr g 5 .u8 (setAll (xorL K by_) (bl K) k) ∧ Below w.heap.size w wr) (fun i _ => 64 - (intOf i).toNat)
    case atStart => exact ⟨0, by omega, rfl, HX.out, HB.out⟩
    case round =>
      clear HX HB
      obtain ⟨k, hkk, rfl, hX, hB⟩ := hrel
      have HB := Aside0.mk hB; have HX := Aside0.mk hX
      clear hB hX
      by_cases hlt : k < 64
      · have q0 : decide ((k : Int) < 64) = true := decide_eq_true (by omega)
        have q1 : (0 : Int) ≤ k := by omega
        have q2 : (k : Int) < 64 := by omega
        obtain ⟨v, hv⟩ : ∃ v, bt K (k : Int) = v := ⟨_, rfl⟩
        have hcell : wr.cell? ⟨g, k, none⟩ = some (.int .u8 v) := by
          have h := HX.out.cell k (by rw [setAll_length, bl_length _ HKS.out]; exact hlt)
          rw [setAll_high _ _ _ _ (Nat.le_refl k), bl_get, hv] at h
          exact h
        have hfr := HX.out.frozen k
        have HV := Aside0.mk hv
        clear hv
        go_wp2
        go_roundw
        case rel =>
          refine ⟨k + 1, by omega, by go_num, ?_, below_set HB.out LX.out⟩
          rw [setAll, xorL, HV.out]
          exact HX.out.set k _
        case measure => simp [intOf]; omega
      · have ek : k = 64 := by omega
        subst ek
        rw [show ((64 : Nat) : Int) = 64 from rfl]
        rw [xorL_full K by_ HKS.out] at HX
        have hr := arr_reads HX.out (by simp [pdL])
        have hv := string_of_reads (P := Tryd.prog) Tryd.underlying34 Tryd.underlying5 Tryd.underlying9 hr (c := 64)
        rw [show strOfNums (pdL K by_) = pd key by_ by rw [pd, HK.out]] at hv
        clear hr
        go_wp2
        go_ret
        exact ⟨rfl, HB.out⟩
  · have c1 : decide ((64 : Int) < (key.size : Int)) = false := decide_eq_false (by omega)
    have hdk : key = K := by rw [← HK.out, kk, if_neg hc]
    subst hdk
    clear hc hk
    go_enter Tryd.func77, Tryd.ntmps77
    go_wp2_with ((with_reducible refine gate_builtin (b := .copy) (xs := #[.tmp 13, .tmp 14]) rfl ?_); refine copy_run _ rfl (.tmp 13) (.tmp 14) 34 9 rfl _ _ rfl rfl (Lib.run_copy_row_string _ 34 9 _ 5 _ 0 64 64 key (arrK .u8 z64) 5 Tryd.underlying34 (by kernel_rfl) (blk_new _ _) HKS.out (by rw [arrK_size]; have := HKS.out; simp [z64]; omega)) ?_; rw [copied key HKS.out])
    have LX := Aside0.mk (Nat.le_refl w.heap.size)
    have n1 := Aside0.mk (show IsArr ((w.alloc (.cells (arrK .u8 z64) 5)).setRow w.heap.size (arrK .u8 (bl key))) w.heap.size 5 .u8 (bl key) from setRow_heap _ _ _ _ _ _ (blk_new w _))
    have n2 := Aside0.mk ((setRow_blk (w.alloc (.cells (arrK .u8 z64) 5)) w.heap.size (arrK .u8 (bl key))).below (below_alloc HB.out _) LX.out)
    clear HB km
    generalize (w.alloc (.cells (arrK .u8 z64) 5)).setRow w.heap.size (arrK .u8 (bl key)) = w2 at n1 n2 ⊢
    have HX := n1
    have HB := n2
    clear n1 n2
    go_loopw [18] (fun i wr => ∃ k : Nat, k ≤ 64 ∧ i = .int .i64 k ∧ IsArr wr w.heap.size 5 .u8 (setAll (xorL key by_) (bl key) k) ∧ Below w.heap.size w wr) (fun i _ => 64 - (intOf i).toNat)
    case atStart => exact ⟨0, by omega, rfl, HX.out, HB.out⟩
    case round =>
      clear HX HB
      obtain ⟨k, hkk, rfl, hX, hB⟩ := hrel
      have HB := Aside0.mk hB; have HX := Aside0.mk hX
      clear hB hX
      by_cases hlt : k < 64
      · have q0 : decide ((k : Int) < 64) = true := decide_eq_true (by omega)
        have q1 : (0 : Int) ≤ k := by omega
        have q2 : (k : Int) < 64 := by omega
        obtain ⟨v, hv⟩ : ∃ v, bt key (k : Int) = v := ⟨_, rfl⟩
        have hcell : wr.cell? ⟨w.heap.size, k, none⟩ = some (.int .u8 v) := by
          have h := HX.out.cell k (by rw [setAll_length, bl_length _ HKS.out]; exact hlt)
          rw [setAll_high _ _ _ _ (Nat.le_refl k), bl_get, hv] at h
          exact h
        have hfr := HX.out.frozen k
        have HV := Aside0.mk hv
        clear hv
        go_wp2
        go_roundw
        case rel =>
          refine ⟨k + 1, by omega, by go_num, ?_, below_set HB.out LX.out⟩
          rw [setAll, xorL, HV.out]
          exact HX.out.set k _
        case measure => simp [intOf]; omega
      · have ek : k = 64 := by omega
        subst ek
        rw [show ((64 : Nat) : Int) = 64 from rfl]
        rw [xorL_full key by_ HKS.out] at HX
        have hr := arr_reads HX.out (by simp [pdL])
        have hv := string_of_reads (P := Tryd.prog) Tryd.underlying34 Tryd.underlying5 Tryd.underlying9 hr (c := 64)
        rw [show strOfNums (pdL key by_) = pd key by_ by rw [pd, HK.out]] at hv
        clear hr
        go_wp2
        go_ret
        exact ⟨rfl, HB.out⟩
end Go.Proofs.YtgbhjkkfleeodaaDoor.Hm
