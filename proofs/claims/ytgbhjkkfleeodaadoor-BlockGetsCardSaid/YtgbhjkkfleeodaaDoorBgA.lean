/- Bytes laid into a made block: 'make' and 'copy' of a text of any length. -/
import Derived.Test.YtgbhjkkfleeodaaDoorHmA
import Derived.Test.YtgbhjkkfleeodaaDoorWWords
import Derived.Test.YtgbhjkkfleeodaaDoorWLast
namespace Go.Proofs.YtgbhjkkfleeodaaDoorW.PrintWords
open Go.RowKit
section
variable {P : Program} {ops : Array Oper} {o : Oper} {a : Act} {Q : Exit → Act → World → Prop} {Kc : Act → World → Prop}
theorem event_step {W w1 : World} {v : Value} (hw : Region.wanted o (yielded ops a.tmps) = true) (hrun : (execOp a.eval o).run P W = .ok (.value v) w1) (h : Kc (a.put o.dst v) w1) : if Region.wanted o (yielded ops a.tmps) = true then Oper.wp P o a W Kc Q else Kc (a.put o.dst undef) W := by
  rw [if_pos hw]
  unfold Oper.wp
  rw [hrun]
  exact h
end
end Go.Proofs.YtgbhjkkfleeodaaDoorW.PrintWords
namespace Go.Proofs.YtgbhjkkfleeodaaDoorW.PrintWords
open Go.RowKit
section
variable {P : Program} {ops : Array Oper} {o : Oper} {a : Act} {Q : Exit → Act → World → Prop} {Kc : Act → World → Prop}
namespace Kd
variable {α : Type}
theorem R_lit_step (d : Kd α) {w0 W : World} (base e : Nat) (hw : Region.wanted o (yielded ops a.tmps) = true) {N : Tmp} (_hd : o.dst = some N) {xs : List α} {inner : List Value} {ok okp : Nat → Prop}
    (hrun : (execOp a.eval o).run P W = .ok (.value (.slice (some ⟨W.heap.size, 0, none⟩) xs.length xs.length)) (W.alloc (.cells inner.toArray e)))
    (hrep : Reps (d.M W base okp) d.sz xs inner) (hok : ∀ k, okp k → ok k) (hfresh : ok W.heap.size) (HB : Below base w0 W) (hbase : base ≤ W.heap.size) (hm : xs.length ≤ 9223372036854775807)
    (h : ∀ v1 w1, d.R e w1 base ok v1 xs → Below base w0 w1 → W.grownBy w1 none → (∃ b, v1.ownBlock = some b ∧ W.heap.size ≤ b) → Kc (a.put o.dst v1) w1) : if Region.wanted o (yielded ops a.tmps) = true then Oper.wp P o a W Kc Q else Kc (a.put o.dst undef) W := by
  refine event_step hw hrun (h _ _ ⟨fun k hk => ?_, inner, ?_, ?_⟩ (HB.alloc hbase _) (World.grownBy_alloc W _ none) ⟨W.heap.size, by simp [Value.ownBlock], Nat.le_refl _⟩)
  · have : W.heap.size = k := by simpa [Value.ownBlock] using hk
    subst this
    exact hfresh
  · have h2 := World.ownsRow_lit (base := base) (e := e) (size := d.sz) W inner.toArray xs.length hbase (by simpa [maxLen] using hm) (by simpa using hrep.1)
    simpa using h2
  · refine hrep.imp_ (fun p c hp => d.M_mono (fun k hk => ⟨hok k hk.1, fun he => ?_⟩) (M_below (d.M_bound hp) (below_alloc (Below.refl _ _) _)))
    have h3 : k = W.heap.size := by simpa [Value.ownBlock] using he
    have := hk.2.2.1
    omega
end Kd
end
end Go.Proofs.YtgbhjkkfleeodaaDoorW.PrintWords
namespace Go.Proofs.YtgbhjkkfleeodaaDoor.Bg
open Go.RowKit Go.Proofs.YtgbhjkkfleeodaaDoorW.PrintWords Go.Proofs.YtgbhjkkfleeodaaDoorW.PrintLast Go.Proofs.YtgbhjkkfleeodaaDoorW.PrintMore Go.Proofs.YtgbhjkkfleeodaaDoor.XA Go.Proofs.YtgbhjkkfleeodaaDoor.XB Go.Proofs.YtgbhjkkfleeodaaDoor.XL Go.Proofs.YtgbhjkkfleeodaaDoor.Sha Go.Proofs.YtgbhjkkfleeodaaDoor.Hm
set_option linter.unusedVariables false
set_option linter.unusedSimpArgs false
def z512 : List Int := List.replicate 512 0
theorem made_any (n : Nat) : madeCells #[.int .u8 0] n = arrK .u8 (List.replicate n 0) := by
  apply Array.ext
  · rw [size_madeCells, arrK_size, List.length_replicate]
  · intro i h1 h2
    simp [madeCells, arrK, Nat.mod_one]
theorem made512 : madeCells #[.int .u8 0] 512 = arrK .u8 z512 := made_any 512
def padL5 (s : ByteArray) : List Int := bytesOf (s.extract 0 512) ++ List.replicate (512 - (s.extract 0 512).size) 0
def pad (s : ByteArray) : ByteArray := strOfNums (padL5 s)
theorem cut_le (s : ByteArray) : (s.extract 0 512).size ≤ 512 := by rw [ByteArray.size_extract]; omega
theorem padL5_length (s : ByteArray) : (padL5 s).length = 512 := by
  have h := cut_le s
  rw [padL5, List.length_append, List.length_replicate, show (bytesOf (s.extract 0 512)).length = (s.extract 0 512).size by simp [bytesOf, data_len]]
  omega
theorem pad_size (s : ByteArray) : (pad s).size = 512 := by rw [pad, strOfNums_size, padL5_length]
theorem copied5 (K : ByteArray) (h : K.size ≤ 512) : ((arrK .u8 z512).toList.take 0 ++ Lib.byteCells K.data.toList ++ (arrK .u8 z512).toList.drop (0 + K.size)).toArray = arrK .u8 (bytesOf K ++ List.replicate (512 - K.size) 0) := by
  apply Array.toList_inj.mp
  simp only [List.take_zero, List.nil_append, Nat.zero_add, arrK, List.map_append, z512, Lib.byteCells, bytesOf]
  congr 1
  · rw [List.map_map]; rfl
  · rw [List.map_replicate, List.drop_replicate, List.map_replicate]
theorem arr_reads5 {w : World} {g T : Nat} {xs : List Int} (h : IsArr w g T .u8 xs) (hl : xs.length = 512) : ReadsInt w .u8 (some ⟨g, 0, none⟩) 512 xs :=
  ⟨hl, by decide, fun _ => ⟨_, rfl, fun j hj => by rw [add_plain]; exact h.cell j (by omega)⟩⟩
/-- 'copy' of a text, of which so many bytes go over as there is room for -/
theorem run_copy_any {P : Program} (w : World) (dT sT ty elem : TypeId) (g o dLen dCap : Nat) (s K : ByteArray) (hK : s.extract 0 dLen = K) (cur : Array Value) (t : TypeId)
    (hu : P.underlying dT = some (.slice elem)) (hs : (P.info? elem).map (·.size) = some 1) (hg : w.heap[g]? = some (.cells cur t (0, 0))) (hfit : o + K.size ≤ cur.size) :
    (Builtin.copy_ #[dT, sT] ty #[.slice (some ⟨g, o, none⟩) dLen dCap, .string s]).run P w =
      .ok (goInt K.size) (w.setRow g (cur.toList.take o ++ Lib.byteCells K.data.toList ++ cur.toList.drop (o + K.size)).toArray) := by
  have hlen : (Lib.byteCells K.data.toList).length = K.size := by rw [Lib.byteCells_length, ← Lib.size_eq]
  have hst := run_storeCells_at P g o t (Lib.byteCells K.data.toList) 0 cur w hg (by rw [hlen]; simpa using hfit) (Lib.byteCells_one _)
  have hmin : Nat.min s.size dLen = K.size := by rw [← hK, ByteArray.size_extract, Nat.sub_zero]; exact Nat.min_comm _ _
  have htk : List.take K.size (List.map (fun b : UInt8 => Value.int IntKind.u8 (b.toNat : Int)) s.data.toList) = Lib.byteCells K.data.toList := by
    rw [← hK, ← List.map_take, extract_data, List.drop_zero, Nat.sub_zero]
    show _ = List.map _ _
    congr 1
    rw [ByteArray.size_extract, Nat.sub_zero, ← data_len]
    rcases Nat.le_total dLen s.data.toList.length with h | h
    · rw [Nat.min_eq_left h]
    · rw [Nat.min_eq_right h, List.take_of_length_le (Nat.le_refl _), List.take_of_length_le h]
  clear hK
  rw [hlen] at hst
  simp only [Nat.add_zero] at hst
  cases hq : P.info? elem with
  | none => simp [hq] at hs
  | some i =>
    simp [Builtin.copy_, run_underlying hu, Builtin.lenOf, Builtin.firstCells, sizeOf, typeInfo, hq, hmin]
    rw [htk, hst]
    simp [Result.andThen]
end Go.Proofs.YtgbhjkkfleeodaaDoor.Bg
