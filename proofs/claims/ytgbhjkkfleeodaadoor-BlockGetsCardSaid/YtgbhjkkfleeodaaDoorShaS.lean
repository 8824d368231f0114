import Derived.Test.YtgbhjkkfleeodaaDoorShaA
import Derived.Test.YtgbhjkkfleeodaaDoorXW
import Derived.Deep.RegionHeld3
namespace Go.Proofs.YtgbhjkkfleeodaaDoor.Sha
open Go.RowKit Go.Proofs.YtgbhjkkfleeodaaDoorW.PrintWords Go.Proofs.YtgbhjkkfleeodaaDoorW.PrintLast Go.Proofs.YtgbhjkkfleeodaaDoorW.PrintMore Go.Proofs.YtgbhjkkfleeodaaDoor.XA Go.Proofs.YtgbhjkkfleeodaaDoor.XW
set_option linter.unusedVariables false
set_option linter.unusedSimpArgs false
theorem reads_far {w : World} {k : IntKind} {g n : Nat} {xs : List Int} (h : ReadsInt w k (some ⟨g, 0, none⟩) n xs) {p : Addr} (hp : p.block ≠ g) (u : Value) : ReadsInt (w.setCell p u) k (some ⟨g, 0, none⟩) n xs :=
  ⟨h.1, h.2.1, fun h0 => by
    obtain ⟨ad, e, hc⟩ := h.2.2 h0
    cases e
    refine ⟨_, rfl, fun j hj => ?_⟩
    have := hc j hj
    rw [add_plain] at this ⊢
    rw [World.cell?_setCell_far _ _ _ _ hp]
    exact this⟩
def inn (x : Int) (bs : List Int) : Nat → Int
  | 0 => x
  | j + 1 => Go.bits .or .u32 (inn x bs j * 256 % 4294967296) (bs.getD j 0)
def mix (p q a b : Int) : Int := (p + Go.bits .xor .u32 (Go.bits .xor .u32 (rot a 7) (rot a 18)) (a / 8) + q + Go.bits .xor .u32 (Go.bits .xor .u32 (rot b 17) (rot b 19)) (b / 1024)) % 4294967296
theorem mix_eq (p q a b : Int) : IntKind.u32.wrap (IntKind.u32.wrap (IntKind.u32.wrap (p + Go.bits .xor .u32 (Go.bits .xor .u32 (rot a 7) (rot a 18)) (a / 8)) + q) + Go.bits .xor .u32 (Go.bits .xor .u32 (rot b 17) (rot b 19)) (b / 1024)) = mix p q a b := by
  unfold mix
  simp only [IntKind.wrap_u32]
  omega
def sub4 (s : ByteArray) (i : Nat) : ByteArray := s.extract (4 * i) (4 * i + 4)
def sp (s : ByteArray) : Nat → List Int
  | 0 => List.replicate 64 0
  | i + 1 => (sp s i).set i (if i < 16 then inn ((sp s i).getD i 0) (bytesOf (sub4 s i)) 4 else mix ((sp s i).getD (i - 16) 0) ((sp s i).getD (i - 7) 0) ((sp s i).getD (i - 15) 0) ((sp s i).getD (i - 2) 0))
theorem sp_length (s : ByteArray) (i : Nat) : (sp s i).length = 64 := by
  induction i with
  | zero => simp [sp]
  | succ i ih => simp [sp, ih]
set_option maxHeartbeats 8000000 in
set_option maxRecDepth 100000 in
theorem spread_calls (s : ByteArray) (hs : s.size = 64) (w : World) :
    Calls Tryd.prog 97 #[.string s] w fun e w' => e = .returned (.agg (arrK .u32 (sp s 64))) ∧ Below w.heap.size w w' := by
  have HB := Aside0.mk (Below.refl w.heap.size w)
  have HS := Aside0.mk hs
  clear hs
  go_enter Tryd.func97, Tryd.ntmps97
  go_wp2_with (first
    | ((with_reducible refine gate_dst (N := 2) rfl ?_); refine arr_new ?hg (N := 2) ?hd (List.replicate 64 0) .u32 140 ?hr ?_; (case hd => rfl); (case hg => rfl); (case hr => first | (go_simp; done) | (go_simp; rfl)); intro gr eg w1 hx hb; have HR := Aside0.mk hx; have n0 := Aside0.mk (below_step HB.out hb); have LR := Aside0.mk (show w.heap.size ≤ gr by rw [eg]; exact HB.out.size); clear HB hx hb eg; have HB := n0; clear n0)
    | ((with_reducible refine gate_dst (N := 3) rfl ?_); refine arr_new ?hg (N := 3) ?hd (List.replicate 64 0) .u32 140 ?hr ?_; (case hd => rfl); (case hg => rfl); (case hr => first | (go_simp; done) | (go_simp; rfl)); intro gw eg w2 hx hb; have n1 := Aside0.mk (HR.out.below hb); have HX := Aside0.mk hx; have n0 := Aside0.mk (below_step HB.out hb); have LX := Aside0.mk (show w.heap.size ≤ gw by rw [eg]; exact HB.out.size); have NRX := Aside0.mk (show gr ≠ gw by rw [eg]; exact Nat.ne_of_lt HR.out.lt); clear HB HR hx hb eg; have HB := n0; have HR := n1; clear n0 n1))
  go_loopw [9] (fun i wr => ∃ k : Nat, k ≤ 64 ∧ i = .int .i64 k ∧ IsArr wr gr 140 .u32 (List.replicate 64 0) ∧ IsArr wr gw 140 .u32 (sp s k) ∧ Below w.heap.size w wr) (fun i _ => 64 - (intOf i).toNat)
  case atStart => exact ⟨0, by omega, rfl, HR.out, HX.out, HB.out⟩
  case round =>
    clear HR HX HB
    obtain ⟨k, hk, rfl, hR, hX, hB⟩ := hrel
    have HR := Aside0.mk hR; have HB := Aside0.mk hB; have HX := Aside0.mk hX
    clear hR hB hX
    by_cases hlt : k < 64
    · have q0 : decide ((k : Int) < 64) = true := decide_eq_true (by omega)
      have q1 : (0 : Int) ≤ k := by omega
      by_cases h16 : k < 16
      · have q2 : decide ((k : Int) < 16) = true := decide_eq_true (by omega)
        have p1 : (4 : Int) * k + 4 ≤ (s.size : Int) := by rw [HS.out]; omega
        have p2 : (0 : Int) ≤ 4 * (k : Int) := by omega
        have p3 : 4 * k + 4 ≤ s.size := by rw [HS.out]; omega
        have hsl : ∀ W : World, (Instr.slice 9 (.string s) (some (.int .i64 (4 * (k : Int)))) (some (.int .i64 (4 * (k : Int) + 4))) none).run Tryd.prog W = .ok (.string (sub4 s k)) W := fun W => by
          have h := run_slice_string (P := Tryd.prog) (w := W) 9 s .i64 .i64 (4 * (k : Int)) (4 * (k : Int) + 4) Tryd.underlying9 (by omega) (by omega) (by omega)
          rw [h]
          have e1 : (4 * (k : Int)).toNat = 4 * k := by omega
          have e2 : (4 * (k : Int) + 4).toNat = 4 * k + 4 := by omega
          simp only [sub4, e1, e2]
        have hsz : (sub4 s k).size = 4 := by rw [sub4, ByteArray.size_extract]; omega
        have kc := fun (W : World) (s : ByteArray) => print_bytes (P := Tryd.prog) 9 34 5 Tryd.underlying9 Tryd.underlying34 Tryd.underlying5 s W
        go_wp2
        obtain ⟨bs, hbs⟩ : ∃ bs, bytesOf (sub4 s k) = bs := ⟨_, rfl⟩
        obtain ⟨X, hX⟩ : ∃ X, (sp s k).getD k 0 = X := ⟨_, rfl⟩
        have hl := sp_length s k
        have K1 := bytes_reads wr 5 (sub4 s k) (by omega)
        have K2 := bytes_below (Below.refl wr.heap.size wr) (Nat.le_refl _) 5 (sub4 s k)
        rw [hbs, hsz] at K1
        have a1 := HR.out.below K2
        have a2 : IsArr (Lib.bytesWorld wr 5 (sub4 s k)) gw 140 .u32 ((sp s k).set k X) := by
          have := HX.out.below K2
          rw [← hX, List.getD_eq_getElem?_getD, List.getElem?_eq_getElem (by omega)]
          simpa using this
        have a3 := HB.out.trans (K2.mono HB.out.size)
        have NG := Aside0.mk (show gw ≠ wr.heap.size from Nat.ne_of_lt HX.out.lt)
        have HS2 := Aside0.mk hsz
        have HE := Aside0.mk (And.intro hbs hX)
        clear kc hsl K2 HR HX HB hbs hX hsz
        generalize Lib.bytesWorld wr 5 (sub4 s k) = w3 at K1 a1 a2 a3 ⊢
        have K1' := Aside0.mk K1
        have A1 := Aside0.mk a1
        have A2 := Aside0.mk a2
        have A3 := Aside0.mk a3
        clear K1 a1 a2 a3
        obtain ⟨g3, hg3⟩ : ∃ g3, wr.heap.size = g3 := ⟨_, rfl⟩
        rw [hg3] at K1' NG
        rw [hg3]
        go_wp2
        go_loopw [23] (fun i wx => ∃ j : Nat, j ≤ 4 ∧ i = .int .i64 j ∧ IsArr wx gr 140 .u32 (List.replicate 64 0) ∧ IsArr wx gw 140 .u32 ((sp s k).set k (inn X bs j)) ∧ Below w.heap.size w wx ∧ ReadsInt wx .u8 (some ⟨g3, 0, none⟩) 4 bs) (fun i _ => 4 - (intOf i).toNat)
        case atStart => exact ⟨0, by omega, rfl, A1.out, A2.out, A3.out, K1'.out⟩
        case round =>
          clear A1 A2 A3 K1'
          obtain ⟨j, hj, rfl, b1, b2, b3, b4⟩ := hrel
          have B1 := Aside0.mk b1; have B2 := Aside0.mk b2; have B3 := Aside0.mk b3; have B4 := Aside0.mk b4
          clear b1 b2 b3 b4
          by_cases hj4 : j < 4
          · obtain ⟨bj, hbj⟩ : ∃ b, bs.getD j 0 = b := ⟨_, rfl⟩
            obtain ⟨cu, hcu⟩ : ∃ b, inn X bs j = b := ⟨_, rfl⟩
            have c1 : wr.cell? ⟨g3, j, none⟩ = some (.int .u8 bj) := by rw [← hbj]; exact reads_cell B4.out j hj4
            have c2 : wr.cell? ⟨gw, k, none⟩ = some (.int .u32 cu) := by
              rw [← hcu]
              have := B2.out.cell k (by rw [List.length_set]; omega)
              rw [this, List.getD_eq_getElem?_getD, List.getElem?_set_self (by omega)]; rfl
            have c3 := B2.out.frozen k
            have c4 : decide ((j : Int) < 4) = true := decide_eq_true (by omega)
            have c5 : (0 : Int) ≤ j := by omega
            have HJ := Aside0.mk (And.intro hbj hcu)
            have hb2 : 0 ≤ bj ∧ bj ≤ 255 := by
              rw [← hbj, ← HE.out.1]
              show 0 ≤ rd _ ((j : Nat) : Int) ∧ rd _ ((j : Nat) : Int) ≤ 255
              rw [rd_bytesOf]; exact bt_range _ _
            clear hbj hcu
            go_wp2
            go_roundw
            case rel =>
              refine ⟨j + 1, by omega, by go_num, B1.out.far (fun e => NRX.out e) _, ?_, below_set B3.out LX.out, reads_far B4.out NG.out _⟩
              have := B2.out.set k (Go.bits .or .u32 (cu * 256 % 4294967296) bj)
              rw [List.set_set] at this
              rw [show inn X bs (j + 1) = Go.bits .or .u32 (cu * 256 % 4294967296) bj by rw [← HJ.out.1, ← HJ.out.2]; rfl]
              exact this
            case measure => simp [intOf]; omega
          · have ej : j = 4 := by omega
            subst ej
            go_wp2
            go_roundw
            case rel =>
              refine ⟨k + 1, by omega, by go_num, B1.out, ?_, B3.out⟩
              have e : sp s (k + 1) = (sp s k).set k (inn X bs 4) := by
                rw [← HE.out.1, ← HE.out.2]
                show (sp s k).set k (if k < 16 then _ else _) = _
                rw [if_pos h16]
              rw [e]
              exact B2.out
            case measure => simp [intOf]; omega
      · have q2 : decide ((k : Int) < 16) = false := decide_eq_false (by omega)
        obtain ⟨xa, hxa⟩ : ∃ x, (sp s k).getD (k - 15) 0 = x := ⟨_, rfl⟩
        obtain ⟨xb, hxb⟩ : ∃ x, (sp s k).getD (k - 2) 0 = x := ⟨_, rfl⟩
        obtain ⟨xp, hxp⟩ : ∃ x, (sp s k).getD (k - 16) 0 = x := ⟨_, rfl⟩
        obtain ⟨xq, hxq⟩ : ∃ x, (sp s k).getD (k - 7) 0 = x := ⟨_, rfl⟩
        have hl := sp_length s k
        have z1 : wr.cell? ⟨gw, k - 15, none⟩ = some (.int .u32 xa) := by rw [← hxa]; exact HX.out.cell _ (by omega)
        have z2 : wr.cell? ⟨gw, k - 2, none⟩ = some (.int .u32 xb) := by rw [← hxb]; exact HX.out.cell _ (by omega)
        have q4 : (15 : Int) ≤ k := by omega
        have q5 : (2 : Int) ≤ k := by omega
        have q6 : decide ((k : Int) - 15 < 64) = true := decide_eq_true (by omega)
        have q7 : decide ((k : Int) - 2 < 64) = true := decide_eq_true (by omega)
        go_wp2
        go_quiet (fail)
        have z3 : (wr.drewN nq).cell? ⟨gw, k - 16, none⟩ = some (.int .u32 xp) := by rw [← hxp]; exact HX.out.cell _ (by omega)
        have z4 : (wr.drewN nq).cell? ⟨gw, k - 7, none⟩ = some (.int .u32 xq) := by rw [← hxq]; exact HX.out.cell _ (by omega)
        have a1 : IsArr (wr.drewN nq) gr 140 .u32 (List.replicate 64 0) := HR.out
        have a2 : IsArr (wr.drewN nq) gw 140 .u32 (sp s k) := HX.out
        have a3 : Below w.heap.size w (wr.drewN nq) := pw_below_drewN HB.out nq
        have HE := Aside0.mk (And.intro hxa (And.intro hxb (And.intro hxp hxq)))
        clear HR HX HB z1 z2 hxa hxb hxp hxq q6 q7
        generalize wr.drewN nq = wr at z3 z4 a1 a2 a3 ⊢
        have q4 : (16 : Int) ≤ k := by omega
        have q5 : (7 : Int) ≤ k := by omega
        have q6 : decide ((k : Int) - 16 < 64) = true := decide_eq_true (by omega)
        have q7 : decide ((k : Int) - 7 < 64) = true := decide_eq_true (by omega)
        have hf := a2.frozen k
        obtain ⟨xo, hxo⟩ : ∃ xo, wr.cell? ⟨gw, k, none⟩ = some (.int .u32 xo) := ⟨_, a2.cell k (by omega)⟩
        have r0 : (k : Int) < 64 := by omega
        have r2 : (0 : Int) ≤ (k : Int) - 16 := by omega
        have r3 : (k : Int) - 16 < 64 := by omega
        have r4 : ((k : Int) - 16).toNat = k - 16 := by omega
        have r6 : (0 : Int) ≤ (k : Int) - 7 := by omega
        have r7 : (k : Int) - 7 < 64 := by omega
        have r8 : ((k : Int) - 7).toNat = k - 7 := by omega
        have r1 : IntKind.i64.wrap ((k : Int) - 16) = (k : Int) - 16 := by rw [IntKind.wrap_i64]; omega
        have r5 : IntKind.i64.wrap ((k : Int) - 7) = (k : Int) - 7 := by rw [IntKind.wrap_i64]; omega
        go_wp2
        go_region_held3 (fun w' => w'.cell? ⟨gw, k - 16, none⟩ = some (.int .u32 xp) ∧ w'.cell? ⟨gw, k - 7, none⟩ = some (.int .u32 xq))
          (first | exact ⟨z3, z4⟩ | exact ⟨(World.cell?_setCell_other _ _ _ _ (by intro q; injection q with _ q; omega)).trans z3, (World.cell?_setCell_other _ _ _ _ (by intro q; injection q with _ q; omega)).trans z4⟩ | go_keep)
          (first
            | (go_at_call 98; with_reducible refine (rightw_7 _ _).mono ?_; rintro e w' ⟨rfl, m, rfl⟩)
            | (go_at_call 98; with_reducible refine (rightw_18 _ _).mono ?_; rintro e w' ⟨rfl, m, rfl⟩)
            | (go_at_call 98; with_reducible refine (rightw_17 _ _).mono ?_; rintro e w' ⟨rfl, m, rfl⟩)
            | (go_at_call 98; with_reducible refine (rightw_19 _ _).mono ?_; rintro e w' ⟨rfl, m, rfl⟩))
        go_wp2
        go_roundw
        case rel =>
          refine ⟨k + 1, by omega, by go_num, IsArr.far (IsArr.drewN a1 _) NRX.out _, ?_, below_set (pw_below_drewN a3 _) LX.out⟩
          have e : sp s (k + 1) = (sp s k).set k (mix xp xq xa xb) := by
            obtain ⟨e1, e2, e3, e4⟩ := HE.out
            rw [← e1, ← e2, ← e3, ← e4]
            show (sp s k).set k (if k < 16 then _ else _) = _
            rw [if_neg h16]
          rw [e, ← mix_eq]
          exact IsArr.set (IsArr.drewN a2 _) k _
        case measure => simp [intOf]; omega
    · have ek : k = 64 := by omega
      subst ek
      go_wp2_with (first
        | ((with_reducible refine gate_dst (N := 75) rfl ?_); refine arr_load rfl 140 (.tmp 3) rfl gw 64 22 .u32 (sp s 64) rfl 140 HX.out Tryd.underlying140 (by rw [sp_length]; kernel_rfl) ?_)
        | ((with_reducible refine gate_store (t := 140) (p := 2) (v := .tmp 75) rfl ?_); refine arr_store rfl rfl 140 (.tmp 2) (.tmp 75) rfl gr .u32 (List.replicate 64 0) (sp s 64) rfl rfl 140 HR.out (by rw [sp_length]; kernel_rfl) (by rw [sp_length]; rfl) ?_; intro w9 hx hs; have G1 := Aside0.mk (hs.below HB.out LR.out); have G2 := Aside0.mk hx; clear hx hs))
      exact bodyPost_ret (results_arr (k := .u32) rfl _ _ gr 64 22 (sp s 64) 140 rfl G2.out Tryd.underlying140 (by rw [sp_length]; kernel_rfl)) rfl ⟨rfl, G1.out⟩
end Go.Proofs.YtgbhjkkfleeodaaDoor.Sha
