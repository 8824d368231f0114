import Derived.Test.YtgbhjkkfleeodaaDoorXA
import Derived.Test.YtgbhjkkfleeodaaDoorXI
import Derived.Lib.LaidTab
import Derived.RegionTactic
import Derived.BigRegion
namespace Go.Proofs.YtgbhjkkfleeodaaDoor.Sha
open Go.RowKit Go.Proofs.YtgbhjkkfleeodaaDoorW.PrintWords Go.Proofs.YtgbhjkkfleeodaaDoorW.PrintLast Go.Proofs.YtgbhjkkfleeodaaDoorW.PrintMore Go.Proofs.YtgbhjkkfleeodaaDoor.XA
set_option linter.unusedVariables false
set_option linter.unusedSimpArgs false
def rot (n : Int) (k : Nat) : Int := Go.bits .or .u32 (n / 2 ^ k) (n * 2 ^ (32 - k) % 4294967296)
theorem right_2 (n : Int) (w : World) (m : Nat) : Calls Tryd.prog 98 #[.int .u32 n, .int .i64 2] (w.drewN m) fun e w'' => e = .returned (.int .u32 (rot n 2)) ∧ ∃ m, w'' = w.drewN m := by
  go_enter Tryd.func98, Tryd.ntmps98
  go_wp2
  go_quiet (fail)
  all_goals go_wp2
  all_goals go_ret
  all_goals exact ⟨rfl, _, World.drewN_drewN _ _ _⟩
theorem right_6 (n : Int) (w : World) (m : Nat) : Calls Tryd.prog 98 #[.int .u32 n, .int .i64 6] (w.drewN m) fun e w'' => e = .returned (.int .u32 (rot n 6)) ∧ ∃ m, w'' = w.drewN m := by
  go_enter Tryd.func98, Tryd.ntmps98
  go_wp2
  go_quiet (fail)
  all_goals go_wp2
  all_goals go_ret
  all_goals exact ⟨rfl, _, World.drewN_drewN _ _ _⟩
theorem right_7 (n : Int) (w : World) (m : Nat) : Calls Tryd.prog 98 #[.int .u32 n, .int .i64 7] (w.drewN m) fun e w'' => e = .returned (.int .u32 (rot n 7)) ∧ ∃ m, w'' = w.drewN m := by
  go_enter Tryd.func98, Tryd.ntmps98
  go_wp2
  go_quiet (fail)
  all_goals go_wp2
  all_goals go_ret
  all_goals exact ⟨rfl, _, World.drewN_drewN _ _ _⟩
theorem right_11 (n : Int) (w : World) (m : Nat) : Calls Tryd.prog 98 #[.int .u32 n, .int .i64 11] (w.drewN m) fun e w'' => e = .returned (.int .u32 (rot n 11)) ∧ ∃ m, w'' = w.drewN m := by
  go_enter Tryd.func98, Tryd.ntmps98
  go_wp2
  go_quiet (fail)
  all_goals go_wp2
  all_goals go_ret
  all_goals exact ⟨rfl, _, World.drewN_drewN _ _ _⟩
theorem right_13 (n : Int) (w : World) (m : Nat) : Calls Tryd.prog 98 #[.int .u32 n, .int .i64 13] (w.drewN m) fun e w'' => e = .returned (.int .u32 (rot n 13)) ∧ ∃ m, w'' = w.drewN m := by
  go_enter Tryd.func98, Tryd.ntmps98
  go_wp2
  go_quiet (fail)
  all_goals go_wp2
  all_goals go_ret
  all_goals exact ⟨rfl, _, World.drewN_drewN _ _ _⟩
theorem right_17 (n : Int) (w : World) (m : Nat) : Calls Tryd.prog 98 #[.int .u32 n, .int .i64 17] (w.drewN m) fun e w'' => e = .returned (.int .u32 (rot n 17)) ∧ ∃ m, w'' = w.drewN m := by
  go_enter Tryd.func98, Tryd.ntmps98
  go_wp2
  go_quiet (fail)
  all_goals go_wp2
  all_goals go_ret
  all_goals exact ⟨rfl, _, World.drewN_drewN _ _ _⟩
theorem right_18 (n : Int) (w : World) (m : Nat) : Calls Tryd.prog 98 #[.int .u32 n, .int .i64 18] (w.drewN m) fun e w'' => e = .returned (.int .u32 (rot n 18)) ∧ ∃ m, w'' = w.drewN m := by
  go_enter Tryd.func98, Tryd.ntmps98
  go_wp2
  go_quiet (fail)
  all_goals go_wp2
  all_goals go_ret
  all_goals exact ⟨rfl, _, World.drewN_drewN _ _ _⟩
theorem right_19 (n : Int) (w : World) (m : Nat) : Calls Tryd.prog 98 #[.int .u32 n, .int .i64 19] (w.drewN m) fun e w'' => e = .returned (.int .u32 (rot n 19)) ∧ ∃ m, w'' = w.drewN m := by
  go_enter Tryd.func98, Tryd.ntmps98
  go_wp2
  go_quiet (fail)
  all_goals go_wp2
  all_goals go_ret
  all_goals exact ⟨rfl, _, World.drewN_drewN _ _ _⟩
theorem right_22 (n : Int) (w : World) (m : Nat) : Calls Tryd.prog 98 #[.int .u32 n, .int .i64 22] (w.drewN m) fun e w'' => e = .returned (.int .u32 (rot n 22)) ∧ ∃ m, w'' = w.drewN m := by
  go_enter Tryd.func98, Tryd.ntmps98
  go_wp2
  go_quiet (fail)
  all_goals go_wp2
  all_goals go_ret
  all_goals exact ⟨rfl, _, World.drewN_drewN _ _ _⟩
theorem right_25 (n : Int) (w : World) (m : Nat) : Calls Tryd.prog 98 #[.int .u32 n, .int .i64 25] (w.drewN m) fun e w'' => e = .returned (.int .u32 (rot n 25)) ∧ ∃ m, w'' = w.drewN m := by
  go_enter Tryd.func98, Tryd.ntmps98
  go_wp2
  go_quiet (fail)
  all_goals go_wp2
  all_goals go_ret
  all_goals exact ⟨rfl, _, World.drewN_drewN _ _ _⟩
theorem rightw_7 (n : Int) (w : World) : Calls Tryd.prog 98 #[.int .u32 n, .int .i64 7] w fun e w'' => e = .returned (.int .u32 (rot n 7)) ∧ ∃ m, w'' = w.drewN m := right_7 n w 0
theorem rightw_17 (n : Int) (w : World) : Calls Tryd.prog 98 #[.int .u32 n, .int .i64 17] w fun e w'' => e = .returned (.int .u32 (rot n 17)) ∧ ∃ m, w'' = w.drewN m := right_17 n w 0
theorem rightw_18 (n : Int) (w : World) : Calls Tryd.prog 98 #[.int .u32 n, .int .i64 18] w fun e w'' => e = .returned (.int .u32 (rot n 18)) ∧ ∃ m, w'' = w.drewN m := right_18 n w 0
theorem rightw_19 (n : Int) (w : World) : Calls Tryd.prog 98 #[.int .u32 n, .int .i64 19] w fun e w'' => e = .returned (.int .u32 (rot n 19)) ∧ ∃ m, w'' = w.drewN m := right_19 n w 0
def t1 (e f g h s w : Int) : Int := h + Go.bits .xor .u32 (Go.bits .xor .u32 (rot e 6) (rot e 11)) (rot e 25) + Go.bits .xor .u32 (Go.bits .and .u32 e f) (Go.bits .and .u32 (Go.bits .xor .u32 IntKind.u32.max e) g) + s + w
def t2 (a b c : Int) : Int := Go.bits .xor .u32 (Go.bits .xor .u32 (rot a 2) (rot a 13)) (rot a 22) + Go.bits .xor .u32 (Go.bits .xor .u32 (Go.bits .and .u32 a b) (Go.bits .and .u32 a c)) (Go.bits .and .u32 b c)
def step (x : List Int) (s w : Int) : List Int :=
  match x with
  | [a, b, c, d, e, f, g, h] => [(t1 e f g h s w + t2 a b c) % 4294967296, a, b, c, (d + t1 e f g h s w) % 4294967296, e, f, g]
  | _ => x
def st (h : List Int) (ss ws : List Int) : Nat → List Int
  | 0 => h
  | k + 1 => step (st h ss ws k) (ss.getD k 0) (ws.getD k 0)
def addUp (h xs : List Int) : Nat → List Int
  | 0 => h
  | k + 1 => (addUp h xs k).set k (((addUp h xs k).getD k 0 + xs.getD k 0) % 4294967296)
theorem addUp_length (h xs : List Int) (k : Nat) : (addUp h xs k).length = h.length := by
  induction k with
  | zero => rfl
  | succ k ih => simp [addUp, ih]
theorem eight (l : List Int) (h : l.length = 8) : ∃ a b c d e f g i, l = [a, b, c, d, e, f, g, i] := by
  match l, h with | [a, b, c, d, e, f, g, i], _ => exact ⟨a, b, c, d, e, f, g, i, rfl⟩
theorem st_length (h ss ws : List Int) (hh : h.length = 8) (k : Nat) : (st h ss ws k).length = 8 := by
  induction k with
  | zero => exact hh
  | succ k ih =>
    obtain ⟨a, b, c, d, e, f, g, i, hl⟩ := eight _ ih
    simp only [st, hl, step]; rfl
theorem run_index_arr {P : Program} (T E n : Nat) (kd : IntKind) (ws : List Int) (k : Nat) (hu : P.underlying T = some (.array n E)) (hE : (P.info? E).map (·.size) = some 1) (he : P.underlying E = some (.int kd)) (hk : k < n) (hl : ws.length = n) (W : World) :
    (Instr.index T (.agg (arrK kd ws)) (.int .i64 (k : Int))).run P W = .ok (.int kd (ws.getD k 0)) W := by
  obtain ⟨i, hi, hs⟩ := Option.map_eq_some_iff.1 hE
  have hg := arrK_get kd ws k (by omega)
  have h1 : (0 : Int) ≤ k ∧ (k : Int) < n := by omega
  simp [Instr.index, Sem.run_bind, run_underlying hu, asIntOf, h1, sizeOf, typeInfo, hi, hs, part, isAgg, run_underlying he, hg, hk, Result.andThen]
structure Round (w wr : World) (gh gr gx : Nat) (h xs : List Int) (k : Nat) (sk : Int) : Prop where
  hh : IsArr wr gh 137 .u32 h
  hr : IsArr wr gr 137 .u32 [0, 0, 0, 0, 0, 0, 0, 0]
  hx : IsArr wr gx 137 .u32 xs
  hb : Below w.heap.size w wr
  hs : wr.cell? ⟨3, k, none⟩ = some (.int .u32 sk)
theorem Round.drewN {w wr : World} {gh gr gx : Nat} {h xs : List Int} {k : Nat} {sk : Int} (F : Round w wr gh gr gx h xs k sk) (n : Nat) : Round w (wr.drewN n) gh gr gx h xs k sk :=
  ⟨F.hh, F.hr, F.hx, F.hb.trans (pw_below_drewN (Below.refl _ _) n), F.hs⟩
theorem Round.cells {w wr : World} {gh gr gx : Nat} {h : List Int} {a b c d e f g i : Int} {k : Nat} {sk : Int} (F : Round w wr gh gr gx h [a, b, c, d, e, f, g, i] k sk) :
    wr.cell? ⟨gx, 0, none⟩ = some (.int .u32 a) ∧ wr.cell? ⟨gx, 1, none⟩ = some (.int .u32 b) ∧ wr.cell? ⟨gx, 2, none⟩ = some (.int .u32 c) ∧ wr.cell? ⟨gx, 3, none⟩ = some (.int .u32 d) ∧
    wr.cell? ⟨gx, 4, none⟩ = some (.int .u32 e) ∧ wr.cell? ⟨gx, 5, none⟩ = some (.int .u32 f) ∧ wr.cell? ⟨gx, 6, none⟩ = some (.int .u32 g) ∧ wr.cell? ⟨gx, 7, none⟩ = some (.int .u32 i) :=
  ⟨F.hx.cell 0 (by simp), F.hx.cell 1 (by simp), F.hx.cell 2 (by simp), F.hx.cell 3 (by simp), F.hx.cell 4 (by simp), F.hx.cell 5 (by simp), F.hx.cell 6 (by simp), F.hx.cell 7 (by simp)⟩
end Go.Proofs.YtgbhjkkfleeodaaDoor.Sha
