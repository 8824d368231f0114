/- Cube roots' and square roots' first bits, as the document reckons them. -/
import Derived.Test.YtehmnbdeokjogaaDoorShaX
namespace Go.Proofs.YtehmnbdeokjogaaDoor.Sha
open Go.RowKit Go.Proofs.YtehmnbdeokjogaaDoorW.PrintWords Go.Proofs.YtehmnbdeokjogaaDoorW.PrintLast Go.Proofs.YtehmnbdeokjogaaDoorW.PrintMore Go.Proofs.YtehmnbdeokjogaaDoor.XA Go.Proofs.YtehmnbdeokjogaaDoor.XB
set_option linter.unusedVariables false
set_option linter.unusedSimpArgs false
/-- bit j, from 2^e down -/
def bitj (e : Int) : Nat → Int
  | 0 => e
  | j + 1 => bitj e j / 2
def rootj (e : Int) (test : Int → Bool) : Nat → Int
  | 0 => 0
  | j + 1 => if test (rootj e test j + bitj e j) then rootj e test j + bitj e j else rootj e test j
theorem bitj_pos (e : Int) (he : 0 ≤ e) (j : Nat) : 0 ≤ bitj e j := by
  induction j with
  | zero => exact he
  | succ j ih => rw [bitj]; omega
theorem rootj_le (e : Int) (he : 0 ≤ e) (test : Int → Bool) (j : Nat) : 0 ≤ rootj e test j ∧ rootj e test j + 2 * bitj e j ≤ 2 * e := by
  induction j with
  | zero => simp [rootj, bitj]
  | succ j ih =>
    have h := bitj_pos e he j
    rw [rootj, bitj]
    split <;> omega
def cubeT (n k : Int) : Bool := !aboveB k n
def cubeN (n : Int) : Int := rootj 34359738368 (cubeT n) 36 % 4294967296
theorem bit36 : ∀ j, j < 36 → decide (0 < bitj 34359738368 j) = true := by decide
theorem bit36z : bitj 34359738368 36 = 0 := by decide
set_option maxHeartbeats 8000000 in
set_option maxRecDepth 100000 in
theorem cube_calls (n : Int) (w : World) :
    Calls Tryd.prog 22 #[.int .u64 n] w fun e w' => e = .returned (.int .u32 (cubeN n)) ∧ Below w.heap.size w w' := by
  have HB := Aside0.mk (Below.refl w.heap.size w)
  go_enter Tryd.func22, Tryd.ntmps22
  go_wp2
  go_loopw [3, 4] (fun k b wr => ∃ j : Nat, j ≤ 36 ∧ k = .int .u64 (rootj 34359738368 (cubeT n) j) ∧ b = .int .u64 (bitj 34359738368 j) ∧ Below w.heap.size w wr) (fun _ b _ => (intOf b).toNat)
  case atStart => exact ⟨0, by omega, rfl, rfl, HB.out⟩
  case round =>
    clear HB
    obtain ⟨j, hj, rfl, rfl, hB⟩ := hrel
    have HB := Aside0.mk hB
    clear hB
    have hr := rootj_le 34359738368 (by omega) (cubeT n) j
    have hb := bitj_pos 34359738368 (by omega) j
    by_cases hlt : j < 36
    · have q0 := bit36 j hlt
      obtain ⟨k, hk⟩ : ∃ k, rootj 34359738368 (cubeT n) j = k := ⟨_, rfl⟩
      obtain ⟨b, hbb⟩ : ∃ b, bitj 34359738368 j = b := ⟨_, rfl⟩
      have hN : rootj 34359738368 (cubeT n) (j + 1) = if cubeT n (k + b) then k + b else k := by rw [rootj, hk, hbb]
      have hB2 : bitj 34359738368 (j + 1) = b / 2 := by rw [bitj, hbb]
      rw [hk, hbb] at hr
      rw [hbb] at hb q0
      have hb1 : 0 < b := of_decide_eq_true q0
      have w1 : IntKind.u64.wrap (k + b) = k + b := by rw [IntKind.wrap_u64]; omega
      have d2 : Int.tdiv b 2 = b / 2 := Int.tdiv_eq_ediv_of_nonneg hb
      have d3 : IntKind.u64.wrap (b / 2) = b / 2 := by rw [IntKind.wrap_u64]; omega
      have HU := Aside0.mk (show U64 (k + b) by unfold U64; omega)
      have HM := Aside0.mk hb1
      rw [hk, hbb]
      have HN := Aside0.mk hN
      have HB2 := Aside0.mk hB2
      clear hk hbb hN hB2 hr hb hb1
      by_cases ht : aboveB (k + b) n = true
      · have HT := Aside0.mk (show rootj 34359738368 (cubeT n) (j + 1) = k by rw [HN.out, if_neg (by simp [cubeT, ht])])
        go_wp2_with (go_at_call 24; with_reducible refine (above_calls (k + b) n HU.out _).mono ?_; rintro e w1 ⟨rfl, hb⟩; rw [ht]; have n0 := Aside0.mk (below_step HB.out hb); clear HB hb; have HB := n0; clear n0)
        go_roundw
        case rel => exact ⟨j + 1, by omega, by rw [HT.out], by rw [HB2.out], HB.out⟩
        case measure =>
          have := HM.out
          simp [intOf]; omega
      · have ht2 : aboveB (k + b) n = false := by simpa using ht
        have HT := Aside0.mk (show rootj 34359738368 (cubeT n) (j + 1) = k + b by rw [HN.out, if_pos (by simp [cubeT, ht2])])
        clear ht
        go_wp2_with (go_at_call 24; with_reducible refine (above_calls (k + b) n HU.out _).mono ?_; rintro e w1 ⟨rfl, hb⟩; rw [ht2]; have n0 := Aside0.mk (below_step HB.out hb); clear HB hb; have HB := n0; clear n0)
        go_roundw
        case rel => exact ⟨j + 1, by omega, by rw [HT.out], by rw [HB2.out], HB.out⟩
        case measure =>
          have := HM.out
          simp [intOf]; omega
    · have ej : j = 36 := by omega
      subst ej
      rw [bit36z] at hr ⊢
      obtain ⟨k, hk⟩ : ∃ k, rootj 34359738368 (cubeT n) 36 = k := ⟨_, rfl⟩
      rw [hk] at hr ⊢
      have HE := Aside0.mk (show cubeN n = k % 4294967296 by rw [cubeN, hk])
      have d1 : Int.tmod k 4294967296 = k % 4294967296 := Int.tmod_eq_emod_of_nonneg hr.1
      clear hk hlt hj hb hr
      go_wp2
      go_ret
      refine ⟨?_, HB.out⟩
      rw [HE.out]
      simp
end Go.Proofs.YtehmnbdeokjogaaDoor.Sha
