import Derived.Test.YtgbhjkkfleeodaaDoorShaA
import Derived.Test.YtgbhjkkfleeodaaDoorXM
namespace Go.Proofs.YtgbhjkkfleeodaaDoor.Sha
open Go.RowKit Go.Proofs.YtgbhjkkfleeodaaDoorW.PrintWords Go.Proofs.YtgbhjkkfleeodaaDoorW.PrintLast Go.Proofs.YtgbhjkkfleeodaaDoorW.PrintMore Go.Proofs.YtgbhjkkfleeodaaDoor.XA Go.Proofs.YtgbhjkkfleeodaaDoor.XM
set_option linter.unusedVariables false
set_option linter.unusedSimpArgs false
def zc (n : Nat) : Nat := (119 - n % 64) % 64
def tail8 (n : Int) : List Int := [n / 72057594037927936 % 256, n / 281474976710656 % 256, n / 1099511627776 % 256, n / 4294967296 % 256, n / 16777216 % 256, n / 65536 % 256, n / 256 % 256, n % 256]
def padL (s : ByteArray) : List Int := bytesOf s ++ [128] ++ List.replicate (zc s.size) 0 ++ tail8 ((s.size : Int) * 8)
def lenV : Value → Nat | .slice _ n _ => n | _ => 0
theorem info5 : (Tryd.prog.info? 5).map (fun i => (i.zero, i.size, i.bytes)) = some (some (.int .u8 0), 1, 1) := by kernel_rfl
set_option maxHeartbeats 8000000 in
set_option maxRecDepth 100000 in
theorem filled_calls (s : ByteArray) (hs : s.size ≤ 140737488351232) (w : World) :
    Calls Tryd.prog 94 #[.string s] w fun e w' => e = .returned (.string (strOfNums (padL s))) ∧ Below w.heap.size w w' := by
  have HK0 := Aside0.mk (ownM_bytes w 5 s (by unfold maxLen; omega) w.heap.size (Nat.le_refl _))
  have HB0 := Aside0.mk (bytes_below (Below.refl w.heap.size w) (Nat.le_refl _) 5 s)
  have kc := print_bytes (P := Tryd.prog) 9 34 5 Tryd.underlying9 Tryd.underlying34 Tryd.underlying5 s w
  have hl := bytesOf_length s
  go_enter Tryd.func94, Tryd.ntmps94
  go_wp2_with ((with_reducible refine gate_builtin (b := .append) (xs := #[.tmp 7, .tmp 8]) rfl ?_); at_builtin; refine append_M rfl (.tmp 7) (.tmp 8) 34 5 rfl Tryd.underlying34 info5 w.heap.size _ _ 128 _ 1 rfl rfl ((blk_cell (blk_new _ _) 0).trans rfl) (HK0.out.below (below_alloc (Below.refl _ _) _)) (by have := HB0.out.size; simp; omega) (by rw [hl]; omega) ?_; intro v1 w1 ho hb; have HO := Aside0.mk ho; have HB := Aside0.mk ((below_alloc HB0.out _).trans hb); clear ho hb)
  go_loopw [3] (fun v wr => ∃ j : Nat, j ≤ zc s.size ∧ OwnM wr w.heap.size 5 v (bytesOf s ++ [128] ++ List.replicate j 0) ∧ Below w.heap.size w wr) (fun v _ => s.size + 1 + zc s.size - lenV v)
  case atStart => exact ⟨0, by omega, by simpa using HO.out, HB.out⟩
  case round =>
    clear HO HB HK0 HB0 kc
    obtain ⟨j, hj, ho, hb⟩ := hrel
    have HO := Aside0.mk ho; have HB := Aside0.mk hb
    clear hb
    have hlen : (bytesOf s ++ [128] ++ List.replicate j (0 : Int)).length = s.size + 1 + j := by simp [hl]; omega
    obtain ⟨g, cap, cur, mk, rfl, _⟩ := ho
    rw [hlen] at HO ⊢
    have HLn := Aside0.mk hlen
    clear hlen
    have hz : zc s.size ≤ 63 := by unfold zc; omega
    by_cases hjz : j = zc s.size
    · have e56 : (s.size + 1 + j) % 64 = 56 := by rw [hjz]; unfold zc; omega
      have c1 : (((s.size + 1 + j : Nat) : Int) % 64 != 56) = false := by
        rw [bne_eq_false_iff_eq]; omega
      have c2 : (((s.size : Int) + 1 + j) % 64 != 56) = false := by
        rw [bne_eq_false_iff_eq]; omega
      subst hjz
      obtain ⟨L0, hL0⟩ : ∃ L0, bytesOf s ++ [128] ++ List.replicate (zc s.size) (0 : Int) = L0 := ⟨_, rfl⟩
      rw [hL0] at HO HLn
      have HL0 := Aside0.mk hL0
      clear hL0
      obtain ⟨n8, hn8⟩ : ∃ n : Int, (s.size : Int) * 8 = n := ⟨_, rfl⟩
      go_wp2
      have hn0 : 0 ≤ n8 := by omega
      have HN := Aside0.mk hn8
      clear hn8 c1 c2 e56
      go_loopw [3, 5] (fun v i wr => ∃ j : Nat, j ≤ 8 ∧ i = .int .i64 (56 - 8 * (j : Int)) ∧ OwnM wr w.heap.size 5 v (L0 ++ (tail8 n8).take j) ∧ Below w.heap.size w wr) (fun _ i _ => (intOf i + 8).toNat)
      case atStart => exact ⟨0, by omega, rfl, by simpa using HO.out, HB.out⟩
      case round =>
        clear HO HB
        obtain ⟨j, hj, rfl, ho, hb⟩ := hrel
        have HO := Aside0.mk ho; have HB := Aside0.mk hb
        clear hb
        have hlen2 : (L0 ++ (tail8 n8).take j).length = s.size + 1 + zc s.size + j := by
          rw [List.length_append, HLn.out, List.length_take]; simp [tail8]; omega
        obtain ⟨g, cap, cur, mk, rfl, _⟩ := ho
        clear HLn
        obtain ⟨n, hn⟩ : ∃ n, (L0 ++ (tail8 n8).take j).length = n := ⟨_, rfl⟩
        rw [hn] at HO hlen2 ⊢
        have HLn := Aside0.mk hn
        have hn2 : n ≤ 140737488351232 + 200 := by omega
        clear hn hlen2
        by_cases h8 : j = 8
        · subst h8
          have hr := HO.out.reads HLn.out.symm (by omega)
          have hv : ∀ W : World, W = wr → (convert 34 9 (.slice (some ⟨g, 0, none⟩) n cap)).run Tryd.prog W = .ok (.string (strOfNums (L0 ++ (tail8 n8).take 8))) W := by
            rintro W rfl
            exact string_of_reads (P := Tryd.prog) Tryd.underlying34 Tryd.underlying5 Tryd.underlying9 hr
          have hv2 := hv wr rfl
          obtain ⟨R, hR⟩ : ∃ R, strOfNums (L0 ++ (tail8 n8).take 8) = R := ⟨_, rfl⟩
          rw [hR] at hv2
          have HR := Aside0.mk hR
          clear hv hr hR
          go_wp2
          go_ret
          exact ⟨by rw [← HR.out, show L0 ++ (tail8 n8).take 8 = padL s by rw [← HL0.out, ← HN.out]; rfl]; rfl, HB.out⟩
        · have hcases : j = 0 ∨ j = 1 ∨ j = 2 ∨ j = 3 ∨ j = 4 ∨ j = 5 ∨ j = 6 ∨ j = 7 := by omega
          clear h8
          rcases hcases with rfl | rfl | rfl | rfl | rfl | rfl | rfl | rfl
          · go_wp2_with ((with_reducible refine gate_builtin (b := .append) (xs := #[.tmp 25, .tmp 30]) rfl ?_); at_builtin; refine append_M rfl (.tmp 25) (.tmp 30) 34 5 rfl Tryd.underlying34 info5 w.heap.size _ _ _ _ 1 rfl rfl ((blk_cell (blk_new _ _) 0).trans rfl) (HO.out.below (below_alloc (Below.refl _ _) _)) (by have := HB.out.size; simp; omega) (by rw [HLn.out]; omega) ?_; intro v2 w2 ho hb; have HO2 := Aside0.mk ho; have HB2 := Aside0.mk ((below_alloc HB.out _).trans hb); clear ho hb)
            go_roundw
            case rel => exact ⟨1, by omega, by go_num, by have := HO2.out; rwa [List.append_assoc] at this, HB2.out⟩
            case measure => simp [intOf]
          · go_wp2_with ((with_reducible refine gate_builtin (b := .append) (xs := #[.tmp 25, .tmp 30]) rfl ?_); at_builtin; refine append_M rfl (.tmp 25) (.tmp 30) 34 5 rfl Tryd.underlying34 info5 w.heap.size _ _ _ _ 1 rfl rfl ((blk_cell (blk_new _ _) 0).trans rfl) (HO.out.below (below_alloc (Below.refl _ _) _)) (by have := HB.out.size; simp; omega) (by rw [HLn.out]; omega) ?_; intro v2 w2 ho hb; have HO2 := Aside0.mk ho; have HB2 := Aside0.mk ((below_alloc HB.out _).trans hb); clear ho hb)
            go_roundw
            case rel => exact ⟨2, by omega, by go_num, by have := HO2.out; rwa [List.append_assoc] at this, HB2.out⟩
            case measure => simp [intOf]
          · go_wp2_with ((with_reducible refine gate_builtin (b := .append) (xs := #[.tmp 25, .tmp 30]) rfl ?_); at_builtin; refine append_M rfl (.tmp 25) (.tmp 30) 34 5 rfl Tryd.underlying34 info5 w.heap.size _ _ _ _ 1 rfl rfl ((blk_cell (blk_new _ _) 0).trans rfl) (HO.out.below (below_alloc (Below.refl _ _) _)) (by have := HB.out.size; simp; omega) (by rw [HLn.out]; omega) ?_; intro v2 w2 ho hb; have HO2 := Aside0.mk ho; have HB2 := Aside0.mk ((below_alloc HB.out _).trans hb); clear ho hb)
            go_roundw
            case rel => exact ⟨3, by omega, by go_num, by have := HO2.out; rwa [List.append_assoc] at this, HB2.out⟩
            case measure => simp [intOf]
          · go_wp2_with ((with_reducible refine gate_builtin (b := .append) (xs := #[.tmp 25, .tmp 30]) rfl ?_); at_builtin; refine append_M rfl (.tmp 25) (.tmp 30) 34 5 rfl Tryd.underlying34 info5 w.heap.size _ _ _ _ 1 rfl rfl ((blk_cell (blk_new _ _) 0).trans rfl) (HO.out.below (below_alloc (Below.refl _ _) _)) (by have := HB.out.size; simp; omega) (by rw [HLn.out]; omega) ?_; intro v2 w2 ho hb; have HO2 := Aside0.mk ho; have HB2 := Aside0.mk ((below_alloc HB.out _).trans hb); clear ho hb)
            go_roundw
            case rel => exact ⟨4, by omega, by go_num, by have := HO2.out; rwa [List.append_assoc] at this, HB2.out⟩
            case measure => simp [intOf]
          · go_wp2_with ((with_reducible refine gate_builtin (b := .append) (xs := #[.tmp 25, .tmp 30]) rfl ?_); at_builtin; refine append_M rfl (.tmp 25) (.tmp 30) 34 5 rfl Tryd.underlying34 info5 w.heap.size _ _ _ _ 1 rfl rfl ((blk_cell (blk_new _ _) 0).trans rfl) (HO.out.below (below_alloc (Below.refl _ _) _)) (by have := HB.out.size; simp; omega) (by rw [HLn.out]; omega) ?_; intro v2 w2 ho hb; have HO2 := Aside0.mk ho; have HB2 := Aside0.mk ((below_alloc HB.out _).trans hb); clear ho hb)
            go_roundw
            case rel => exact ⟨5, by omega, by go_num, by have := HO2.out; rwa [List.append_assoc] at this, HB2.out⟩
            case measure => simp [intOf]
          · go_wp2_with ((with_reducible refine gate_builtin (b := .append) (xs := #[.tmp 25, .tmp 30]) rfl ?_); at_builtin; refine append_M rfl (.tmp 25) (.tmp 30) 34 5 rfl Tryd.underlying34 info5 w.heap.size _ _ _ _ 1 rfl rfl ((blk_cell (blk_new _ _) 0).trans rfl) (HO.out.below (below_alloc (Below.refl _ _) _)) (by have := HB.out.size; simp; omega) (by rw [HLn.out]; omega) ?_; intro v2 w2 ho hb; have HO2 := Aside0.mk ho; have HB2 := Aside0.mk ((below_alloc HB.out _).trans hb); clear ho hb)
            go_roundw
            case rel => exact ⟨6, by omega, by go_num, by have := HO2.out; rwa [List.append_assoc] at this, HB2.out⟩
            case measure => simp [intOf]
          · go_wp2_with ((with_reducible refine gate_builtin (b := .append) (xs := #[.tmp 25, .tmp 30]) rfl ?_); at_builtin; refine append_M rfl (.tmp 25) (.tmp 30) 34 5 rfl Tryd.underlying34 info5 w.heap.size _ _ _ _ 1 rfl rfl ((blk_cell (blk_new _ _) 0).trans rfl) (HO.out.below (below_alloc (Below.refl _ _) _)) (by have := HB.out.size; simp; omega) (by rw [HLn.out]; omega) ?_; intro v2 w2 ho hb; have HO2 := Aside0.mk ho; have HB2 := Aside0.mk ((below_alloc HB.out _).trans hb); clear ho hb)
            go_roundw
            case rel => exact ⟨7, by omega, by go_num, by have := HO2.out; rwa [List.append_assoc] at this, HB2.out⟩
            case measure => simp [intOf]
          · go_wp2_with ((with_reducible refine gate_builtin (b := .append) (xs := #[.tmp 25, .tmp 30]) rfl ?_); at_builtin; refine append_M rfl (.tmp 25) (.tmp 30) 34 5 rfl Tryd.underlying34 info5 w.heap.size _ _ _ _ 1 rfl rfl ((blk_cell (blk_new _ _) 0).trans rfl) (HO.out.below (below_alloc (Below.refl _ _) _)) (by have := HB.out.size; simp; omega) (by rw [HLn.out]; omega) ?_; intro v2 w2 ho hb; have HO2 := Aside0.mk ho; have HB2 := Aside0.mk ((below_alloc HB.out _).trans hb); clear ho hb)
            go_roundw
            case rel => exact ⟨8, by omega, by go_num, by have := HO2.out; rwa [List.append_assoc] at this, HB2.out⟩
            case measure => simp [intOf]
    · have e56 : (s.size + 1 + j) % 64 ≠ 56 := by unfold zc at *; omega
      have c1 : (((s.size + 1 + j : Nat) : Int) % 64 != 56) = true := by
        rw [bne_iff_ne]; omega
      have c2 : (((s.size : Int) + 1 + j) % 64 != 56) = true := by
        rw [bne_iff_ne]; omega
      go_wp2_with ((with_reducible refine gate_builtin (b := .append) (xs := #[.tmp 14, .tmp 15]) rfl ?_); at_builtin; refine append_M rfl (.tmp 14) (.tmp 15) 34 5 rfl Tryd.underlying34 info5 w.heap.size _ _ 0 _ 1 rfl rfl ((blk_cell (blk_new _ _) 0).trans rfl) (HO.out.below (below_alloc (Below.refl _ _) _)) (by have := HB.out.size; simp; omega) (by rw [HLn.out]; omega) ?_; intro v2 w2 ho hb; have HO2 := Aside0.mk ho; have HB2 := Aside0.mk ((below_alloc HB.out _).trans hb); clear ho hb)
      go_roundw
      case rel => exact ⟨j + 1, by omega, by have := HO2.out; rwa [List.append_assoc, ← List.replicate_succ'] at this, HB2.out⟩
      case measure =>
        obtain ⟨g2, cap2, cur2, mk2, rfl, _⟩ := HO2.out
        simp [lenV, hl]; omega
end Go.Proofs.YtgbhjkkfleeodaaDoor.Sha
