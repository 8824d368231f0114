/- The document's numbers of four parts, times one of two. -/
import Derived.Test.YtehmnbdeokjogaaDoorShaN
namespace Go.Proofs.YtehmnbdeokjogaaDoor.Sha
open Go.RowKit Go.Proofs.YtehmnbdeokjogaaDoorW.PrintWords Go.Proofs.YtehmnbdeokjogaaDoorW.PrintLast Go.Proofs.YtehmnbdeokjogaaDoorW.PrintMore Go.Proofs.YtehmnbdeokjogaaDoor.XA
set_option linter.unusedVariables false
set_option linter.unusedSimpArgs false
def tn (o a p v : Int) : Int := (o + a * p + v) % 18446744073709551616
def z4 : List Int := [0, 0, 0, 0]
/-- the inner loop: what is written, what is over -/
def stp (xs : List Int) (p : Int) (j : Nat) (out : List Int) : Nat → List Int × Int
  | 0 => (out, 0)
  | i + 1 => ((stp xs p j out i).1.set (i + j) (tn ((stp xs p j out i).1.getD (i + j) 0) (xs.getD i 0) p (stp xs p j out i).2 % 4294967296), tn ((stp xs p j out i).1.getD (i + j) 0) (xs.getD i 0) p (stp xs p j out i).2 / 4294967296)
theorem stp_length (xs : List Int) (p : Int) (j : Nat) (out : List Int) (i : Nat) : (stp xs p j out i).1.length = out.length := by
  induction i with
  | zero => rfl
  | succ i ih => rw [stp, List.length_set, ih]
def tO (xs ps : List Int) : Nat → List Int
  | 0 => z4
  | j + 1 => (stp xs (ps.getD j 0) j (tO xs ps j) (4 - j)).1
theorem tO_length (xs ps : List Int) (j : Nat) : (tO xs ps j).length = 4 := by
  induction j with
  | zero => rfl
  | succ j ih => rw [tO, stp_length, ih]
def timesL (xs : List Int) (k : Int) : List Int := tO xs [k % 4294967296, k / 4294967296] 2
def U64 (x : Int) : Prop := 0 ≤ x ∧ x < 18446744073709551616
set_option maxHeartbeats 8000000 in
set_option maxRecDepth 100000 in
theorem times_calls (xs : List Int) (k : Int) (hl : xs.length = 4) (hk : U64 k) (w : World) :
    Calls Tryd.prog 25 #[.agg (arrK .u64 xs), .int .u64 k] w fun e w' => e = .returned (.agg (arrK .u64 (timesL xs k))) ∧ Below w.heap.size w w' := by
  have HB := Aside0.mk (Below.refl w.heap.size w)
  have HL := Aside0.mk hl
  obtain ⟨k0, k1⟩ := hk
  have d1 : Int.tmod k 4294967296 = k % 4294967296 := Int.tmod_eq_emod_of_nonneg k0
  have d2 : Int.tdiv k 4294967296 = k / 4294967296 := Int.tdiv_eq_ediv_of_nonneg k0
  have d3 : IntKind.u64.wrap (k / 4294967296) = k / 4294967296 := by rw [IntKind.wrap_u64]; omega
  obtain ⟨p0, hp0⟩ : ∃ p, k % 4294967296 = p := ⟨_, rfl⟩
  obtain ⟨p1, hp1⟩ : ∃ p, k / 4294967296 = p := ⟨_, rfl⟩
  have HP := Aside0.mk (And.intro hp0 hp1)
  clear hl
  go_enter Tryd.func25, Tryd.ntmps25
  go_wp2_with (first
    | ((with_reducible refine gate_dst (N := 2) rfl ?_); refine arr_new ?hg (N := 2) ?hd xs .u64 47 ?hr ?_; (case hd => rfl); (case hg => rfl); (case hr => first | (go_simp; done) | (go_simp; rfl)); intro ga eg w1 hx hb; have HA := Aside0.mk hx; have n0 := Aside0.mk (below_step HB.out hb); clear HB hx hb eg; have HB := n0; clear n0)
    | ((with_reducible refine gate_dst (N := 4) rfl ?_); refine arr_new ?hg (N := 4) ?hd z4 .u64 47 ?hr ?_; (case hd => rfl); (case hg => rfl); (case hr => first | (go_simp; done) | (go_simp; rfl)); intro gr eg w2 hx hb; have n1 := Aside0.mk (HA.out.below hb); have HR := Aside0.mk hx; have n0 := Aside0.mk (below_step HB.out hb); have LR := Aside0.mk (show w.heap.size ≤ gr by rw [eg]; exact HB.out.size); clear HB HA hx hb eg; have HB := n0; have HA := n1; clear n0 n1)
    | ((with_reducible refine gate_dst (N := 5) rfl ?_); refine arr_new ?hg (N := 5) ?hd z4 .u64 47 ?hr ?_; (case hd => rfl); (case hg => rfl); (case hr => first | (go_simp; done) | (go_simp; rfl)); intro go eg w3 hx hb; have n1 := Aside0.mk (HA.out.below hb); have n2 := Aside0.mk (HR.out.below hb); have HO := Aside0.mk hx; have n0 := Aside0.mk (below_step HB.out hb); have LO := Aside0.mk (show w.heap.size ≤ go by rw [eg]; exact HB.out.size); have NAO := Aside0.mk (show ga ≠ go by rw [eg]; exact Nat.ne_of_lt HA.out.lt); have NRO := Aside0.mk (show gr ≠ go by rw [eg]; exact Nat.ne_of_lt HR.out.lt); clear HB HA HR hx hb eg; have HB := n0; have HA := n1; have HR := n2; clear n0 n1 n2)
    | ((with_reducible refine gate_dst (N := 6) rfl ?_); refine arr_new ?hg (N := 6) ?hd [0, 0] .u64 49 ?hr ?_; (case hd => rfl); (case hg => rfl); (case hr => first | (go_simp; done) | (go_simp; rfl)); intro gp eg w4 hx hb; have n1 := Aside0.mk (HA.out.below hb); have n2 := Aside0.mk (HR.out.below hb); have n3 := Aside0.mk (HO.out.below hb); have HQ := Aside0.mk hx; have n0 := Aside0.mk (below_step HB.out hb); have LQ := Aside0.mk (show w.heap.size ≤ gp by rw [eg]; exact HB.out.size); have NAQ := Aside0.mk (show ga ≠ gp by rw [eg]; exact Nat.ne_of_lt HA.out.lt); have NRQ := Aside0.mk (show gr ≠ gp by rw [eg]; exact Nat.ne_of_lt HR.out.lt); have NOQ := Aside0.mk (show go ≠ gp by rw [eg]; exact Nat.ne_of_lt HO.out.lt); clear HB HA HR HO hx hb eg; have HB := n0; have HA := n1; have HR := n2; have HO := n3; clear n0 n1 n2 n3)
    | ((with_reducible refine gate_store (t := 47) (p := 5) (v := .tmp 11) rfl ?_); refine arr_store rfl rfl 47 (.tmp 5) (.tmp 11) rfl go .u64 z4 z4 rfl rfl 47 HO.out (by kernel_rfl) rfl ?_; intro w5 hx hs; have n0 := Aside0.mk (hs.below HB.out LO.out); have n1 := Aside0.mk (hs.arr HA.out NAO.out); have n2 := Aside0.mk (hs.arr HR.out NRO.out); have n3 := Aside0.mk (hs.arr HQ.out NOQ.out.symm); clear HB HA HR HO HQ; have HO := Aside0.mk hx; have HB := n0; have HA := n1; have HR := n2; have HQ := n3; clear n0 n1 n2 n3 hx hs)
    | ((with_reducible refine gate_store (t := 49) (p := 6) (v := .tmp 16) rfl ?_); refine arr_store rfl rfl 49 (.tmp 6) (.tmp 16) rfl gp .u64 [0, 0] [p0, p1] rfl rfl 49 HQ.out (by kernel_rfl) rfl ?_; intro w6 hx hs; have n0 := Aside0.mk (hs.below HB.out LQ.out); have n1 := Aside0.mk (hs.arr HA.out NAQ.out); have n2 := Aside0.mk (hs.arr HR.out NRQ.out); have n3 := Aside0.mk (hs.arr HO.out NOQ.out); clear HB HA HR HO HQ; have HQ := Aside0.mk hx; have HB := n0; have HA := n1; have HR := n2; have HO := n3; clear n0 n1 n2 n3 hx hs))
  clear d1 d2 d3 hp0 hp1 k0 k1
  go_loopw [7] (fun i wr => ∃ j : Nat, j ≤ 2 ∧ i = .int .i64 j ∧ IsArr wr ga 47 .u64 xs ∧ IsArr wr gr 47 .u64 z4 ∧ IsArr wr go 47 .u64 (tO xs [p0, p1] j) ∧ IsArr wr gp 49 .u64 [p0, p1] ∧ Below w.heap.size w wr) (fun i _ => 2 - (intOf i).toNat)
  case atStart => exact ⟨0, by omega, rfl, HA.out, HR.out, HO.out, HQ.out, HB.out⟩
  case round =>
    clear HA HR HO HQ HB
    obtain ⟨j, hj, rfl, hA, hR, hO, hQ, hB⟩ := hrel
    have HA := Aside0.mk hA; have HR := Aside0.mk hR; have HO := Aside0.mk hO; have HQ := Aside0.mk hQ; have HB := Aside0.mk hB
    clear hA hR hO hQ hB
    by_cases hlt : j < 2
    · have q0 : decide ((j : Int) < 2) = true := decide_eq_true (by omega)
      obtain ⟨out, hout⟩ : ∃ o, tO xs [p0, p1] j = o := ⟨_, rfl⟩
      obtain ⟨p, hp⟩ : ∃ p, [p0, p1].getD j 0 = p := ⟨_, rfl⟩
      have HOL := Aside0.mk (show out.length = 4 by rw [← hout]; exact tO_length _ _ _)
      have HN := Aside0.mk (show tO xs [p0, p1] (j + 1) = (stp xs p j out (4 - j)).1 by rw [tO, hp, hout])
      have HPJ := Aside0.mk hp
      rw [hout] at HO
      clear hout hp
      go_wp2
      go_loopw [8, 9] (fun v i wr => ∃ k : Nat, k ≤ 4 - j ∧ i = .int .i64 k ∧ v = .int .u64 (stp xs p j out k).2 ∧ IsArr wr ga 47 .u64 xs ∧ IsArr wr gr 47 .u64 z4 ∧ IsArr wr go 47 .u64 (stp xs p j out k).1 ∧ IsArr wr gp 49 .u64 [p0, p1] ∧ Below w.heap.size w wr) (fun _ i _ => 4 - (intOf i).toNat)
      case atStart => exact ⟨0, by omega, rfl, rfl, HA.out, HR.out, HO.out, HQ.out, HB.out⟩
      case round =>
        clear HA HR HO HQ HB
        obtain ⟨i, hi, rfl, rfl, hA, hR, hO, hQ, hB⟩ := hrel
        have HA := Aside0.mk hA; have HR := Aside0.mk hR; have HO := Aside0.mk hO; have HQ := Aside0.mk hQ; have HB := Aside0.mk hB
        clear hA hR hO hQ hB
        obtain ⟨cur, hcur⟩ : ∃ c, (stp xs p j out i).1 = c := ⟨_, rfl⟩
        obtain ⟨v, hv⟩ : ∃ c, (stp xs p j out i).2 = c := ⟨_, rfl⟩
        have HCL := Aside0.mk (show cur.length = 4 by rw [← hcur, stp_length]; exact HOL.out)
        rw [hcur] at HO
        rw [hv]
        by_cases hlt2 : i + j < 4
        · have q1 : decide ((i : Int) + j < 4) = true := decide_eq_true (by omega)
          obtain ⟨ai, hai⟩ : ∃ c, xs.getD i 0 = c := ⟨_, rfl⟩
          obtain ⟨oi, hoi⟩ : ∃ c, cur.getD (i + j) 0 = c := ⟨_, rfl⟩
          have hca : wr.cell? ⟨ga, i, none⟩ = some (.int .u64 ai) := by rw [← hai]; exact HA.out.cell i (by rw [HL.out]; omega)
          have hco : wr.cell? ⟨go, i + j, none⟩ = some (.int .u64 oi) := by rw [← hoi]; exact HO.out.cell (i + j) (by rw [HCL.out]; omega)
          have hcp : wr.cell? ⟨gp, j, none⟩ = some (.int .u64 p) := by rw [← HPJ.out]; exact HQ.out.cell j (by simpa using hlt)
          have q2 : (0 : Int) ≤ i := by omega
          have q3 : (i : Int) < 4 := by omega
          have q4 : (0 : Int) ≤ j := by omega
          have q5 : (j : Int) < 2 := by omega
          have q6 : (0 : Int) ≤ (i : Int) + j := by omega
          have q7 : (i : Int) + j < 4 := by omega
          have q8 : ((i : Int) + j).toNat = i + j := by omega
          have HV := Aside0.mk (And.intro hcur (And.intro hv (And.intro hai hoi)))
          clear hcur hv hai hoi
          go_wp2
          go_quiet (fail)
          obtain ⟨n, hn⟩ : ∃ n, IntKind.u64.wrap (IntKind.u64.wrap (oi + IntKind.u64.wrap (ai * p)) + v) = n := ⟨_, rfl⟩
          have hnt : tn oi ai p v = n := by
            rw [← hn, tn]
            simp only [IntKind.wrap_u64]
            omega
          have n0 : 0 ≤ n := by rw [← hnt]; unfold tn; omega
          have n1 : n < 18446744073709551616 := by rw [← hnt]; unfold tn; omega
          rw [hn]
          have HNT := Aside0.mk hnt
          have F2 := Aside0.mk (And.intro (HA.out.drewN nq) (And.intro (HR.out.drewN nq) (And.intro (HO.out.drewN nq) (And.intro (HQ.out.drewN nq) (pw_below_drewN HB.out nq)))))
          clear hca hco hcp HA HR HO HQ HB hn hnt
          generalize wr.drewN nq = wr at F2 ⊢
          have HO := Aside0.mk F2.out.2.2.1
          have d1 : Int.tmod n 4294967296 = n % 4294967296 := Int.tmod_eq_emod_of_nonneg n0
          have d2 : Int.tdiv n 4294967296 = n / 4294967296 := Int.tdiv_eq_ediv_of_nonneg n0
          have d3 : IntKind.u64.wrap (n / 4294967296) = n / 4294967296 := by rw [IntKind.wrap_u64]; omega
          have hco : wr.cell? ⟨go, i + j, none⟩ = some (.int .u64 oi) := by rw [← HV.out.2.2.2]; exact HO.out.cell (i + j) (by rw [HCL.out]; omega)
          have hfo := HO.out.frozen (i + j)
          go_wp2
          go_roundw
          case rel =>
            have e : stp xs p j out (i + 1) = (cur.set (i + j) (n % 4294967296), n / 4294967296) := by
              rw [stp, HV.out.1, HV.out.2.1, HV.out.2.2.1, HV.out.2.2.2, HNT.out]
            refine ⟨i + 1, by omega, by go_num, by rw [e], F2.out.1.far NAO.out _, F2.out.2.1.far NRO.out _, ?_, F2.out.2.2.2.1.far (Ne.symm NOQ.out) _, below_set F2.out.2.2.2.2 LO.out⟩
            rw [e]
            exact HO.out.set (i + j) _
          case measure => simp [intOf]; omega
        · have q1 : decide ((i : Int) + j < 4) = false := decide_eq_false (by omega)
          have ei : i = 4 - j := by omega
          have hcur2 : tO xs [p0, p1] (j + 1) = cur := by rw [HN.out, ← ei, hcur]
          have HN2 := Aside0.mk hcur2
          clear hcur hv hcur2
          go_wp2
          go_roundw
          case rel => exact ⟨j + 1, by omega, by go_num, HA.out, HR.out, by rw [HN2.out]; exact HO.out, HQ.out, HB.out⟩
          case measure => simp [intOf]; omega
    · have ej : j = 2 := by omega
      subst ej
      rw [show ((2 : Nat) : Int) = 2 from rfl]
      obtain ⟨res, hres⟩ : ∃ o, tO xs [p0, p1] 2 = o := ⟨_, rfl⟩
      have HRL := Aside0.mk (show res.length = 4 by rw [← hres]; exact tO_length _ _ _)
      have HE := Aside0.mk (show timesL xs k = res by rw [timesL, HP.out.1, HP.out.2, hres])
      rw [hres] at HO
      clear hres
      go_wp2_with (first
        | ((with_reducible refine gate_dst (N := 50) rfl ?_); refine arr_load rfl 47 (.tmp 5) rfl go 4 38 .u64 res rfl 47 HO.out Tryd.underlying47 (by rw [HRL.out]; kernel_rfl) ?_)
        | ((with_reducible refine gate_store (t := 47) (p := 4) (v := .tmp 50) rfl ?_); refine arr_store rfl rfl 47 (.tmp 4) (.tmp 50) rfl gr .u64 z4 res rfl rfl 47 HR.out (by rw [HRL.out]; kernel_rfl) (by rw [HRL.out]; rfl) ?_; intro w9 hx hs; have G1 := Aside0.mk (hs.below HB.out LR.out); have G2 := Aside0.mk hx; clear hx hs))
      exact bodyPost_ret (results_arr (k := .u64) rfl _ _ gr 4 38 res 47 rfl G2.out Tryd.underlying47 (by rw [HRL.out]; kernel_rfl)) rfl ⟨by rw [HE.out], G1.out⟩
end Go.Proofs.YtehmnbdeokjogaaDoor.Sha
