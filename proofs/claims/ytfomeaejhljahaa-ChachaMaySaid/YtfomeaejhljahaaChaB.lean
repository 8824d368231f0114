/- The code's beginning of a block: words of the key and the nonce are laid into an array. -/
import Derived.Test.YtfomeaejhljahaaChaQ
import Derived.Test.YtfomeaejhljahaaXU
import Derived.Test.YtfomeaejhljahaaXB
namespace Go.Proofs.Ytfomeaejhljahaa.Cha
open Go.RowKit Go.Proofs.YtfomeaejhljahaaW.PrintWords Go.Proofs.YtfomeaejhljahaaW.PrintLast Go.Proofs.YtfomeaejhljahaaW.PrintMore Go.Proofs.Ytfomeaejhljahaa.XA Go.Proofs.Ytfomeaejhljahaa.XU Go.Proofs.Ytfomeaejhljahaa.XB
set_option linter.unusedVariables false
set_option linter.unusedSimpArgs false
def rw4 (s : ByteArray) (at_ : Int) : Int := bt s at_ + bt s (at_ + 1) * 256 + bt s (at_ + 2) * 65536 + bt s (at_ + 3) * 16777216
theorem or4 {a b c d : Int} (ha : 0 ≤ a ∧ a ≤ 255) (hb : 0 ≤ b ∧ b ≤ 255) (hc : 0 ≤ c ∧ c ≤ 255) (hd : 0 ≤ d ∧ d ≤ 255) :
    Go.bits .or .u32 (Go.bits .or .u32 (Go.bits .or .u32 a (b * 256)) (c * 65536)) (d * 16777216) = a + b * 256 + c * 65536 + d * 16777216 := by
  have e1 := (or_add (x := a) (y := b) 8 (by unfold U; omega) (by unfold U; omega) (by omega) (by omega)).1
  have e2 := (or_add (x := a + b * 2 ^ 8) (y := c) 16 (by unfold U; omega) (by unfold U; omega) (by omega) (by omega)).1
  have e3 := (or_add (x := a + b * 2 ^ 8 + c * 2 ^ 16) (y := d) 24 (by unfold U; omega) (by unfold U; omega) (by omega) (by omega)).1
  rw [show (256 : Int) = 2 ^ 8 from rfl, show (65536 : Int) = 2 ^ 16 from rfl, show (16777216 : Int) = 2 ^ 24 from rfl, e1, e2, e3]
set_option maxHeartbeats 4000000 in
theorem word_calls (s : ByteArray) (hs : 4 ≤ s.size) (w : World) : Calls Try.prog 18 #[.string s] w fun e w' => e = .returned (.int .u32 (rw4 s 0)) ∧ ∃ m, w' = w.drewN m := by
  have q0 : ((0 : Int) < (s.size : Int)) = True := eq_true (by omega)
  have q1 : ((1 : Int) < (s.size : Int)) = True := eq_true (by omega)
  have q2 : ((2 : Int) < (s.size : Int)) = True := eq_true (by omega)
  have q3 : ((3 : Int) < (s.size : Int)) = True := eq_true (by omega)
  have n0 : (0 < s.size) = True := eq_true (by omega)
  have n1 : (1 < s.size) = True := eq_true (by omega)
  have n2 : (2 < s.size) = True := eq_true (by omega)
  have n3 : (3 < s.size) = True := eq_true (by omega)
  have h0 : ∀ h : 0 < s.size, ((s[0]'h).toNat : Int) = bt s 0 := bt_at s 0
  have h1 : ∀ h : 1 < s.size, ((s[1]'h).toNat : Int) = bt s 1 := bt_at s 1
  have h2 : ∀ h : 2 < s.size, ((s[2]'h).toNat : Int) = bt s 2 := bt_at s 2
  have h3 : ∀ h : 3 < s.size, ((s[3]'h).toNat : Int) = bt s 3 := bt_at s 3
  have HO := Aside0.mk (or4 (bt_range s 0) (bt_range s 1) (bt_range s 2) (bt_range s 3))
  go_enter Try.func18, Try.ntmps18
  go_wp2
  go_quiet (fail)
  all_goals go_wp2
  all_goals go_ret
  have r0 := bt_range s 0
  have r1 := bt_range s 1
  have r2 := bt_range s 2
  have r3 := bt_range s 3
  refine ⟨congrArg (fun x => Ending.returned (Value.int .u32 x)) (show Go.bits .or .u32 (Go.bits .or .u32 (Go.bits .or .u32 (bt s 0 % 4294967296) (bt s 1 % 4294967296 * 256 % 4294967296)) (bt s 2 % 4294967296 * 65536 % 4294967296)) (bt s 3 % 4294967296 * 16777216 % 4294967296) = rw4 s 0 from ?_), nq, rfl⟩
  rw [show bt s 0 % 4294967296 = bt s 0 by omega, show bt s 1 % 4294967296 * 256 % 4294967296 = bt s 1 * 256 by omega, show bt s 2 % 4294967296 * 65536 % 4294967296 = bt s 2 * 65536 by omega, show bt s 3 % 4294967296 * 16777216 % 4294967296 = bt s 3 * 16777216 by omega]
  exact HO.out
theorem bt_nat (s : ByteArray) (j : Nat) : bt s (j : Int) = (bytesOf s).getD j 0 := by
  rw [← rd_bytesOf]; rfl
theorem bt_drop (s : ByteArray) (a j : Nat) (ha : a + j < s.size) : bt (s.extract a s.size) (j : Int) = bt s ((a + j : Nat) : Int) := by
  rw [bt_nat, bt_nat]
  have e : bytesOf (s.extract a s.size) = (bytesOf s).drop a := by
    unfold bytesOf
    rw [extract_data, List.map_take, List.map_drop, List.take_of_length_le]
    rw [List.length_drop, List.length_map, data_len]
    exact Nat.le_refl _
  rw [e, List.getD_eq_getElem?_getD, List.getD_eq_getElem?_getD, List.getElem?_drop]
theorem rw4_drop (s : ByteArray) (i : Nat) (h : 4 * i + 4 ≤ s.size) : rw4 (s.extract (4 * i) s.size) 0 = rw4 s (4 * (i : Int)) := by
  have h0 := bt_drop s (4 * i) 0 (by omega)
  have h1 := bt_drop s (4 * i) 1 (by omega)
  have h2 := bt_drop s (4 * i) 2 (by omega)
  have h3 := bt_drop s (4 * i) 3 (by omega)
  unfold rw4
  simp only [Int.zero_add, Int.natCast_add, Int.natCast_mul, Int.natCast_zero, Int.natCast_one, Int.add_zero, Int.cast_ofNat_Int] at h0 h1 h2 h3 ⊢
  rw [h0, h1, h2, h3]
theorem rw4_U (s : ByteArray) (i : Int) : U (rw4 s i) := by
  have r0 := bt_range s i
  have r1 := bt_range s (i + 1)
  have r2 := bt_range s (i + 2)
  have r3 := bt_range s (i + 3)
  unfold U rw4
  omega
def k0L : List Int := [1634760805, 857760878, 2036477234, 1797285236, 0, 0, 0, 0, 0, 0, 0, 0, 0, 0, 0, 0]
def z16 : List Int := List.replicate 16 0
/-- words of a string laid into an array from a place on -/
def lay (xs : List Int) (p : Nat) (s : ByteArray) : Nat → List Int
  | 0 => xs
  | i + 1 => (lay xs p s i).set (p + i) (rw4 s (4 * (i : Int)))
theorem lay_length (xs : List Int) (p : Nat) (s : ByteArray) (i : Nat) : (lay xs p s i).length = xs.length := by
  induction i with
  | zero => rfl
  | succ i ih => rw [lay, List.length_set, ih]
theorem lay_U {xs : List Int} (h : AU xs) (p : Nat) (s : ByteArray) (i : Nat) : AU (lay xs p s i) := by
  induction i with
  | zero => exact h
  | succ i ih => exact ih.set _ (rw4_U _ _)
def firstL (key nonce : ByteArray) (n : Int) : List Int := lay ((lay k0L 4 key 8).set 12 n) 13 nonce 3
theorem firstL_length (key nonce : ByteArray) (n : Int) : (firstL key nonce n).length = 16 := by
  rw [firstL, lay_length, List.length_set, lay_length]; rfl
set_option maxHeartbeats 8000000 in
set_option maxRecDepth 100000 in
theorem begin_calls (key nonce : ByteArray) (n : Int) (hk : key.size = 32) (hn : nonce.size = 12) (w : World) :
    Calls Try.prog 14 #[.string key, .int .u32 n, .string nonce] w fun e w' => e = .returned (.agg (arrK .u32 (firstL key nonce n))) ∧ Below w.heap.size w w' := by
  have HB := Aside0.mk (Below.refl w.heap.size w)
  go_enter Try.func14, Try.ntmps14
  go_wp2_with (first
    | ((with_reducible refine gate_dst (N := 6) rfl ?_); refine arr_new ?hg (N := 6) ?hd z16 .u32 31 ?hr ?_; (case hd => rfl); (case hg => rfl); (case hr => first | (go_simp; done) | (go_simp; rfl)); intro gr eg w1 hx hb; have HR := Aside0.mk hx; have n0 := Aside0.mk (below_step HB.out hb); have LR := Aside0.mk (show w.heap.size ≤ gr by rw [eg]; exact HB.out.size); clear HB hx hb eg; have HB := n0; clear n0)
    | ((with_reducible refine gate_dst (N := 7) rfl ?_); refine arr_new ?hg (N := 7) ?hd z16 .u32 31 ?hr ?_; (case hd => rfl); (case hg => rfl); (case hr => first | (go_simp; done) | (go_simp; rfl)); intro gx eg w2 hx hb; have n1 := Aside0.mk (HR.out.below hb); have HX := Aside0.mk hx; have n0 := Aside0.mk (below_step HB.out hb); have LX := Aside0.mk (show w.heap.size ≤ gx by rw [eg]; exact HB.out.size); have NRX := Aside0.mk (show gr ≠ gx by rw [eg]; exact Nat.ne_of_lt HR.out.lt); clear HB HR hx hb eg; have HB := n0; have HR := n1; clear n0 n1)
    | ((with_reducible refine gate_store (t := 31) (p := 7) (v := .tmp 10) rfl ?_); refine arr_store rfl rfl 31 (.tmp 7) (.tmp 10) rfl gx .u32 z16 k0L rfl rfl 31 HX.out (by kernel_rfl) rfl ?_; intro w4 hx hs; have n0 := Aside0.mk (hs.below HB.out LX.out); have n1 := Aside0.mk (hs.arr HR.out NRX.out); clear HB HX HR; have HX := Aside0.mk hx; have HB := n0; have HR := n1; clear n0 n1 hx hs))
  go_loopw [11] (fun i wr => ∃ k : Nat, k ≤ 8 ∧ i = .int .i64 k ∧ IsArr wr gr 31 .u32 z16 ∧ IsArr wr gx 31 .u32 (lay k0L 4 key k) ∧ Below w.heap.size w wr) (fun i _ => 8 - (intOf i).toNat)
  case atStart => exact ⟨0, by omega, rfl, HR.out, HX.out, HB.out⟩
  case round =>
    clear HR HX HB
    obtain ⟨k, hkk, rfl, hR, hX, hB⟩ := hrel
    have HR := Aside0.mk hR; have HB := Aside0.mk hB; have HX := Aside0.mk hX
    clear hR hB hX
    by_cases hlt : k < 8
    · have q0 : decide ((k : Int) < 8) = true := decide_eq_true (by omega)
      have q1 : (0 : Int) ≤ k := by omega
      have q4 : (0 : Int) ≤ 4 * (k : Int) := by omega
      have q5 : 4 * (k : Int) ≤ (key.size : Int) := by omega
      have hsl : ∀ W : World, (Instr.slice 9 (.string key) (some (.int .i64 (4 * (k : Int)))) none none).run Try.prog W = .ok (.string (key.extract (4 * k) key.size)) W := fun W => by
        have h := run_slice_string_from_if (P := Try.prog) (w := W) 9 key .i64 (4 * (k : Int)) Try.underlying9
        rw [h, if_pos (by omega)]
        have e1 : (4 * (k : Int)).toNat = 4 * k := by omega
        rw [e1]
      obtain ⟨sl, hsl2⟩ : ∃ x, key.extract (4 * k) key.size = x := ⟨_, rfl⟩
      have hsz : 4 ≤ sl.size := by rw [← hsl2, ByteArray.size_extract]; omega
      have hval := rw4_drop key k (by omega)
      rw [hsl2] at hval hsl
      have HV := Aside0.mk hval
      have HSZ := Aside0.mk hsz
      clear hval hsl2 hsz
      obtain ⟨xs, hxs⟩ : ∃ xs, lay k0L 4 key k = xs := ⟨_, rfl⟩
      have hxl : xs.length = 16 := by rw [← hxs, lay_length]; rfl
      rw [hxs] at HX
      have HN := Aside0.mk (show lay k0L 4 key (k + 1) = xs.set (4 + k) (rw4 key (4 * (k : Int))) by rw [← hxs]; rfl)
      clear hxs
      obtain ⟨vo, hvo⟩ : ∃ v, wr.cell? ⟨gx, 4 + k, none⟩ = some (.int .u32 v) := ⟨_, HX.out.cell (4 + k) (by omega)⟩
      have hfo := HX.out.frozen (4 + k)
      have r1 : IntKind.i64.wrap (4 + (k : Int)) = 4 + (k : Int) := by rw [IntKind.wrap_i64]; omega
      have r2 : (0 : Int) ≤ 4 + (k : Int) := by omega
      have r3 : 4 + (k : Int) < 16 := by omega
      have r4 : (4 + (k : Int)).toNat = 4 + k := by omega
      have HXL := Aside0.mk hxl
      clear hxl
      go_wp2_with (first
        | (go_at_call 18; with_reducible refine (word_calls _ HSZ.out _).mono ?_; rintro e w' ⟨rfl, m, rfl⟩; rw [HV.out]))
      go_roundw
      case rel =>
        exact ⟨k + 1, by omega, by go_num, (HR.out.drewN m).far NRX.out _, by rw [HN.out]; exact (HX.out.drewN m).set (4 + k) _, below_set (pw_below_drewN HB.out m) LX.out⟩
      case measure => simp [intOf]; omega
    · have ek : k = 8 := by omega
      subst ek
      rw [show ((8 : Nat) : Int) = 8 from rfl]
      obtain ⟨y0, hy0⟩ : ∃ y, lay k0L 4 key 8 = y := ⟨_, rfl⟩
      rw [hy0] at HX
      have HL0 := Aside0.mk (show y0.length = 16 by rw [← hy0, lay_length]; rfl)
      obtain ⟨vo, hvo⟩ : ∃ v, wr.cell? ⟨gx, 12, none⟩ = some (.int .u32 v) := ⟨_, HX.out.cell 12 (by rw [HL0.out]; omega)⟩
      have hfo := HX.out.frozen 12
      have H0 := Aside0.mk hy0
      clear hy0
      go_wp2
      have n1 := (HX.out.set 12 n)
      have n2 := (HR.out.far (p := ⟨gx, 12, none⟩) NRX.out (.int .u32 n))
      have n3 := (below_set (g := gx) (j := 12) (v := .int .u32 n) HB.out LX.out)
      generalize wr.setCell ⟨gx, 12, none⟩ (.int .u32 n) = w5 at n1 n2 n3 ⊢
      obtain ⟨y1, hy1⟩ : ∃ y, y0.set 12 n = y := ⟨_, rfl⟩
      rw [hy1] at n1
      have HL1 := Aside0.mk (show y1.length = 16 by rw [← hy1, List.length_set]; exact HL0.out)
      have H1 := Aside0.mk hy1
      clear hy1 HX HR HB hvo hfo
      have HX := Aside0.mk n1
      have HR := Aside0.mk n2
      have HB := Aside0.mk n3
      clear n1 n2 n3
      go_loopw [25] (fun i wr => ∃ k : Nat, k ≤ 3 ∧ i = .int .i64 k ∧ IsArr wr gr 31 .u32 z16 ∧ IsArr wr gx 31 .u32 (lay y1 13 nonce k) ∧ Below w.heap.size w wr) (fun i _ => 3 - (intOf i).toNat)
      case atStart => exact ⟨0, by omega, rfl, HR.out, HX.out, HB.out⟩
      case round =>
        clear HR HX HB
        obtain ⟨k, hkk, rfl, hR, hX, hB⟩ := hrel
        have HR := Aside0.mk hR; have HB := Aside0.mk hB; have HX := Aside0.mk hX
        clear hR hB hX
        by_cases hlt : k < 3
        · have q0 : decide ((k : Int) < 3) = true := decide_eq_true (by omega)
          have q1 : (0 : Int) ≤ k := by omega
          have q4 : (0 : Int) ≤ 4 * (k : Int) := by omega
          have q5 : 4 * (k : Int) ≤ (nonce.size : Int) := by omega
          have hsl : ∀ W : World, (Instr.slice 9 (.string nonce) (some (.int .i64 (4 * (k : Int)))) none none).run Try.prog W = .ok (.string (nonce.extract (4 * k) nonce.size)) W := fun W => by
            have h := run_slice_string_from_if (P := Try.prog) (w := W) 9 nonce .i64 (4 * (k : Int)) Try.underlying9
            rw [h, if_pos (by omega)]
            have e1 : (4 * (k : Int)).toNat = 4 * k := by omega
            rw [e1]
          obtain ⟨sl, hsl2⟩ : ∃ x, nonce.extract (4 * k) nonce.size = x := ⟨_, rfl⟩
          have hsz : 4 ≤ sl.size := by rw [← hsl2, ByteArray.size_extract]; omega
          have hval := rw4_drop nonce k (by omega)
          rw [hsl2] at hval hsl
          have HV := Aside0.mk hval
          have HSZ := Aside0.mk hsz
          clear hval hsl2 hsz
          obtain ⟨xs, hxs⟩ : ∃ xs, lay y1 13 nonce k = xs := ⟨_, rfl⟩
          have hxl : xs.length = 16 := by rw [← hxs, lay_length]; exact HL1.out
          rw [hxs] at HX
          have HN := Aside0.mk (show lay y1 13 nonce (k + 1) = xs.set (13 + k) (rw4 nonce (4 * (k : Int))) by rw [← hxs]; rfl)
          clear hxs
          obtain ⟨vo, hvo⟩ : ∃ v, wr.cell? ⟨gx, 13 + k, none⟩ = some (.int .u32 v) := ⟨_, HX.out.cell (13 + k) (by omega)⟩
          have hfo := HX.out.frozen (13 + k)
          have r1 : IntKind.i64.wrap (13 + (k : Int)) = 13 + (k : Int) := by rw [IntKind.wrap_i64]; omega
          have r2 : (0 : Int) ≤ 13 + (k : Int) := by omega
          have r3 : 13 + (k : Int) < 16 := by omega
          have r4 : (13 + (k : Int)).toNat = 13 + k := by omega
          have HXL := Aside0.mk hxl
          clear hxl
          go_wp2_with (first
            | (go_at_call 18; with_reducible refine (word_calls _ HSZ.out _).mono ?_; rintro e w' ⟨rfl, m, rfl⟩; rw [HV.out]))
          go_roundw
          case rel =>
            exact ⟨k + 1, by omega, by go_num, (HR.out.drewN m).far NRX.out _, by rw [HN.out]; exact (HX.out.drewN m).set (13 + k) _, below_set (pw_below_drewN HB.out m) LX.out⟩
          case measure => simp [intOf]; omega
        · have ek : k = 3 := by omega
          subst ek
          rw [show ((3 : Nat) : Int) = 3 from rfl]
          obtain ⟨y2, hy2⟩ : ∃ y, lay y1 13 nonce 3 = y := ⟨_, rfl⟩
          rw [hy2] at HX
          have HL2 := Aside0.mk (show y2.length = 16 by rw [← hy2, lay_length]; exact HL1.out)
          have HE := Aside0.mk (show firstL key nonce n = y2 by rw [firstL, H0.out, H1.out, hy2])
          clear hy2
          go_wp2_with (first
            | ((with_reducible refine gate_dst (N := 37) rfl ?_); refine arr_load rfl 31 (.tmp 7) rfl gx 16 22 .u32 y2 rfl 31 HX.out Try.underlying31 (by rw [HL2.out]; kernel_rfl) ?_)
            | ((with_reducible refine gate_store (t := 31) (p := 6) (v := .tmp 37) rfl ?_); refine arr_store rfl rfl 31 (.tmp 6) (.tmp 37) rfl gr .u32 z16 y2 rfl rfl 31 HR.out (by rw [HL2.out]; kernel_rfl) (by rw [HL2.out]; rfl) ?_; intro w9 hx hs; have G1 := Aside0.mk (hs.below HB.out LR.out); have G2 := Aside0.mk hx; clear hx hs))
          exact bodyPost_ret (results_arr (k := .u32) rfl _ _ gr 16 22 y2 31 rfl G2.out Try.underlying31 (by rw [HL2.out]; kernel_rfl)) rfl ⟨by rw [HE.out], G1.out⟩
end Go.Proofs.Ytfomeaejhljahaa.Cha
