/- The code's bytes turned. -/
import Derived.Test.YtfomeaejhljahaaChaD
namespace Go.Proofs.Ytfomeaejhljahaa.Cha
open Go.RowKit Go.Proofs.YtfomeaejhljahaaW.PrintWords Go.Proofs.YtfomeaejhljahaaW.PrintLast Go.Proofs.YtfomeaejhljahaaW.PrintMore Go.Proofs.Ytfomeaejhljahaa.XA Go.Proofs.Ytfomeaejhljahaa.XU Go.Proofs.Ytfomeaejhljahaa.XB Go.Proofs.Ytfomeaejhljahaa.XM
set_option linter.unusedVariables false
set_option linter.unusedSimpArgs false
/-- the number of the block that byte i is in -/
def bno (i : Nat) : Int := ((i / 64 : Nat) : Int) % 4294967296
/-- byte i, turned -/
def tb (key nonce s : ByteArray) (i : Nat) : Int := Go.bits .xor .u8 (bt s i) (bt (blk key nonce (bno i)) ((i % 64 : Nat) : Int))
def tt (key nonce s : ByteArray) : Nat → List Int
  | 0 => bytesOf s
  | k + 1 => (tt key nonce s k).set k (tb key nonce s k)
theorem tt_length (key nonce s : ByteArray) (k : Nat) : (tt key nonce s k).length = s.size := by
  induction k with
  | zero => exact bytesOf_length s
  | succ k ih => rw [tt, List.length_set, ih]
theorem tt_high (key nonce s : ByteArray) (k j : Nat) (h : k ≤ j) : (tt key nonce s k).getD j 0 = bt s j := by
  induction k with
  | zero => exact (bt_nat s j).symm
  | succ k ih =>
    rw [tt, List.getD_eq_getElem?_getD, List.getElem?_set_ne (by omega), ← List.getD_eq_getElem?_getD]
    exact ih (by omega)
theorem bno_step (key nonce : ByteArray) (k : Nat) : (k + 1) % 64 = 0 ∨ blk key nonce (bno k) = blk key nonce (bno (k + 1)) := by
  by_cases h : (k + 1) % 64 = 0
  · exact .inl h
  · refine .inr ?_
    unfold bno
    rw [show (k + 1) / 64 = k / 64 by omega]
/-- bytes, turned -/
def turned (key nonce s : ByteArray) : ByteArray := strOfNums (tt key nonce s s.size)
theorem turn_none (key nonce s : ByteArray) (h : ¬ (key.size = 32 ∧ nonce.size = 12)) (w : World) : Calls Try.prog 11 #[.string key, .string nonce, .string s] w fun e w' => e = .returned (.string ⟨#[]⟩) ∧ w' = w := by
  go_enter Try.func11, Try.ntmps11
  go_wp2_with (go_at_call 13; with_reducible refine (may_false key nonce h _).mono ?_; rintro e w' ⟨rfl, rfl⟩)
  go_ret
  exact ⟨rfl, rfl⟩
set_option maxHeartbeats 8000000 in
set_option maxRecDepth 100000 in
theorem turn_calls (key nonce s : ByteArray) (hs : s.size ≤ 140737488351232) (hk : key.size = 32) (hn : nonce.size = 12) (w : World) :
    Calls Try.prog 11 #[.string key, .string nonce, .string s] w fun e w' => e = .returned (.string (turned key nonce s)) ∧ Below w.heap.size w w' := by
  have HK0 := Aside0.mk (ownM_bytes w 5 s (by unfold maxLen; omega) w.heap.size (Nat.le_refl _))
  have HB0 := Aside0.mk (bytes_below (Below.refl w.heap.size w) (Nat.le_refl _) 5 s)
  have kc := print_bytes (P := Try.prog) 9 34 5 Try.underlying9 Try.underlying34 Try.underlying5 s w
  have HKN := Aside0.mk (And.intro hk hn)
  have HSZ := Aside0.mk hs
  clear hk hn
  go_enter Try.func11, Try.ntmps11
  go_wp2_with (go_at_call 13; with_reducible refine (may_true key nonce HKN.out.1 HKN.out.2 _).mono ?_; rintro e w' ⟨rfl, hw⟩; obtain rfl := hw.symm)
  generalize Lib.bytesWorld w 5 s = w1 at HK0 HB0 ⊢
  obtain ⟨cap, hcap⟩ : ∃ c, grownCap w s.size 0 5 = c := ⟨_, rfl⟩
  rw [hcap] at HK0 ⊢
  clear hcap kc
  go_loopw [8, 18] (fun v i wr => ∃ (k : Nat) (p : ByteArray), k ≤ s.size ∧ v = .string p ∧ i = .int .i64 k ∧ OwnM wr w.heap.size 5 (.slice (some ⟨w.heap.size, 0, none⟩) s.size cap) (tt key nonce s k) ∧ (k % 64 = 0 ∨ p = blk key nonce (bno k)) ∧ Below w.heap.size w wr) (fun _ i _ => s.size - (intOf i).toNat)
  case atStart => exact ⟨0, _, by omega, rfl, rfl, HK0.out, .inl rfl, HB0.out⟩
  case round =>
    clear HK0 HB0
    obtain ⟨k, p, hk, rfl, rfl, ho, hd, hb⟩ := hrel
    have HO := Aside0.mk ho; have HB := Aside0.mk hb; have HD := Aside0.mk hd
    clear ho hb hd
    by_cases hlt : k < s.size
    · have q0 : decide ((k : Int) < (s.size : Int)) = true := decide_eq_true (by omega)
      have q1 : (0 : Int) ≤ k := by omega
      have m1 : Int.tmod (k : Int) 64 = (k : Int) % 64 := tm (by omega)
      have q2 : (k : Int) < (s.size : Int) := by omega
      obtain ⟨P, hP⟩ : ∃ P, blk key nonce (bno k) = P := ⟨_, rfl⟩
      have HPS := Aside0.mk (show P.size = 64 by rw [← hP]; exact blk_size _ _ _)
      have HP := Aside0.mk hP
      clear hP
      by_cases h64 : k % 64 = 0
      · have c1 : ((k : Int) % 64 == 0) = true := by rw [beq_iff_eq]; omega
        have d1 : Int.tdiv (k : Int) 64 = (k : Int) / 64 := td (by omega)
        have CB := Aside0.mk (fun W : World => block_calls key nonce (bno k) HKN.out.1 HKN.out.2 W)
        rw [HP.out, show bno k = (k : Int) / 64 % 4294967296 by unfold bno; omega] at CB
        go_wp2_with (go_at_call 7; with_reducible refine (CB.out _).mono ?_; rintro e w7 ⟨rfl, hb⟩; have n0 := Aside0.mk (HO.out.below hb); have n1 := Aside0.mk (below_step HB.out hb); clear HO HB hb; have HO := n0; have HB := n1; clear n0 n1)
        have hcb : w7.cell? ⟨w.heap.size, k, none⟩ = some (.int .u8 (bt s k)) := by rw [← tt_high key nonce s k k (Nat.le_refl _)]; exact HO.out.cell k (by rw [tt_length]; exact hlt)
        have hfb := HO.out.frozen k (by rw [tt_length]; exact hlt)
        have z0 : (0 ≤ (k : Int) % 64) = True := eq_true (by omega)
        have z1 : ((k : Int) % 64 < (P.size : Int)) = True := eq_true (by rw [HPS.out]; omega)
        have hx := bt_at P ((k : Int) % 64)
        go_wp2
        go_region
        have e1 : tt key nonce s (k + 1) = (tt key nonce s k).set k (Go.bits .xor .u8 (bt s k) (bt P ((k : Int) % 64))) := by
          rw [tt, tb, HP.out, show ((k % 64 : Nat) : Int) = (k : Int) % 64 by omega]
        have n0 := Aside0.mk ((HO.out.set k (Go.bits .xor .u8 (bt s k) (bt P ((k : Int) % 64)))).drew)
        rw [← e1] at n0
        have n1 := Aside0.mk (below_drew1 (below_set (j := k) (v := .int .u8 (Go.bits .xor .u8 (bt s k) (bt P ((k : Int) % 64)))) HB.out (Nat.le_refl w.heap.size)))
        clear e1 hcb hfb hx
        generalize (w7.setCell ⟨w.heap.size, k, none⟩ (.int .u8 (Go.bits .xor .u8 (bt s k) (bt P ((k : Int) % 64))))).drew = W9 at n0 n1 ⊢
        go_wp2
        go_roundw
        case rel => exact ⟨k + 1, P, by omega, rfl, by go_num, n0.out, by rw [← HP.out]; exact bno_step key nonce k, n1.out⟩
        case measure => simp [intOf]; omega
      · have c1 : ((k : Int) % 64 == 0) = false := by rw [beq_eq_false_iff_ne]; omega
        have hpP : p = P := by
          rcases HD.out with h | h
          · exact absurd h h64
          · rw [h, HP.out]
        subst hpP
        have hcb : wr.cell? ⟨w.heap.size, k, none⟩ = some (.int .u8 (bt s k)) := by rw [← tt_high key nonce s k k (Nat.le_refl _)]; exact HO.out.cell k (by rw [tt_length]; exact hlt)
        have hfb := HO.out.frozen k (by rw [tt_length]; exact hlt)
        have z0 : (0 ≤ (k : Int) % 64) = True := eq_true (by omega)
        have z1 : ((k : Int) % 64 < (p.size : Int)) = True := eq_true (by rw [HPS.out]; omega)
        have hx := bt_at p ((k : Int) % 64)
        go_wp2
        go_region
        have e1 : tt key nonce s (k + 1) = (tt key nonce s k).set k (Go.bits .xor .u8 (bt s k) (bt p ((k : Int) % 64))) := by
          rw [tt, tb, HP.out, show ((k % 64 : Nat) : Int) = (k : Int) % 64 by omega]
        have n0 := Aside0.mk ((HO.out.set k (Go.bits .xor .u8 (bt s k) (bt p ((k : Int) % 64)))).drew)
        rw [← e1] at n0
        have n1 := Aside0.mk (below_drew1 (below_set (j := k) (v := .int .u8 (Go.bits .xor .u8 (bt s k) (bt p ((k : Int) % 64)))) HB.out (Nat.le_refl w.heap.size)))
        clear e1 hcb hfb hx
        generalize (wr.setCell ⟨w.heap.size, k, none⟩ (.int .u8 (Go.bits .xor .u8 (bt s k) (bt p ((k : Int) % 64))))).drew = W9 at n0 n1 ⊢
        go_wp2
        go_roundw
        case rel => exact ⟨k + 1, p, by omega, rfl, by go_num, n0.out, by rw [← HP.out]; exact bno_step key nonce k, n1.out⟩
        case measure => simp [intOf]; omega
    · have ek : k = s.size := by omega
      subst ek
      have q0 : decide ((s.size : Int) < (s.size : Int)) = false := decide_eq_false (by omega)
      have hr := HO.out.reads (tt_length key nonce s s.size).symm (by omega)
      have hv := string_of_reads (P := Try.prog) Try.underlying34 Try.underlying5 Try.underlying9 hr (c := cap)
      clear hr
      obtain ⟨R, hR⟩ : ∃ R, strOfNums (tt key nonce s s.size) = R := ⟨_, rfl⟩
      rw [hR] at hv
      have HRR := Aside0.mk (show turned key nonce s = R from hR)
      clear hR
      go_wp2
      go_ret
      exact ⟨by rw [HRR.out]; rfl, HB.out⟩
end Go.Proofs.Ytfomeaejhljahaa.Cha
