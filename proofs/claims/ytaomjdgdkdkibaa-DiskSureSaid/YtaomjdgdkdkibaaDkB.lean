/- A disk, made: slices.Clone of cuts, disk.New. -/
import Derived.Test.YtaomjdgdkdkibaaDkA
import Derived.Lib.SliceRun
import Derived.Carry
import Derived.MapKept
import Derived.WideMake
namespace Go.Proofs.Ytaomjdgdkdkibaa.Dk
open Go.RowKit Go.Proofs.YtaomjdgdkdkibaaW.PrintWords Go.Proofs.YtaomjdgdkdkibaaW.PrintLast Go.Proofs.YtaomjdgdkdkibaaW.PrintMore Go.Proofs.Ytaomjdgdkdkibaa.XB Go.Proofs.Ytaomjdgdkdkibaa.PDiskNone
attribute [local go_sem] max2_int min2_int max_two min_two max_three min_three max_four min_four
set_option linter.unusedVariables false
set_option linter.unusedSimpArgs false
/-- outside of S the world w' is as w was -/
structure Upd (S : Nat → Prop) (w w' : World) : Prop where
  os : w'.os = w.os
  tape : w'.tape = w.tape
  output : w'.output = w.output
  size : w.heap.size ≤ w'.heap.size
  block : ∀ k, k < w.heap.size → ¬ S k → w'.heap[k]? = w.heap[k]?
theorem Upd.refl (S : Nat → Prop) (w : World) : Upd S w w := ⟨rfl, rfl, rfl, Nat.le_refl _, fun _ _ _ => rfl⟩
theorem Upd.trans {S : Nat → Prop} {a b c : World} (h : Upd S a b) (k : Upd S b c) : Upd S a c :=
  ⟨k.os.trans h.os, k.tape.trans h.tape, k.output.trans h.output, Nat.le_trans h.size k.size, fun i hi hn => (k.block i (Nat.lt_of_lt_of_le hi h.size) hn).trans (h.block i hi hn)⟩
theorem Upd.mono {S T : Nat → Prop} {a b : World} (h : Upd S a b) (hs : ∀ k, S k → T k) : Upd T a b := ⟨h.os, h.tape, h.output, h.size, fun i hi hn => h.block i hi (fun c => hn (hs _ c))⟩
theorem Upd.of_below {S : Nat → Prop} {a b : World} (h : Below a.heap.size a b) : Upd S a b := ⟨h.os, h.tape, h.output, h.size, fun i hi _ => h.block i hi⟩
theorem Upd.below {S : Nat → Prop} {a b : World} (h : Upd S a b) {B : Nat} (hB : B ≤ a.heap.size) (hS : ∀ k, S k → B ≤ k) : Below B a b :=
  ⟨h.os, h.tape, h.output, h.size, fun k hk => h.block k (Nat.lt_of_lt_of_le hk hB) (fun hs => by have := hS k hs; omega)⟩
theorem Upd.setCell {S : Nat → Prop} {a b : World} (h : Upd S a b) {p : Addr} (hp : S p.block) (u : Value) : Upd S a (b.setCell p u) :=
  h.trans ⟨rfl, rfl, rfl, by simp [World.setCell], fun k hk hn => Below.heap_setCell _ _ _ _ (fun e => hn (e ▸ hp))⟩
theorem Upd.drew {S : Nat → Prop} {a b : World} (h : Upd S a b) : Upd S a b.drew := ⟨h.os, h.tape, h.output, h.size, h.block⟩
theorem Upd.alloc {S : Nat → Prop} {a b : World} (h : Upd S a b) (o : Obj) : Upd S a (b.alloc o) := h.trans (Upd.of_below ((Below.refl b.heap.size b).alloc (Nat.le_refl _) o))
theorem Upd.blk {S : Nat → Prop} {a b : World} (h : Upd S a b) {g : Nat} {o : Obj} (hg : a.heap[g]? = some o) (hn : ¬ S g) : b.heap[g]? = some o := (h.block g (blk_lt hg) hn).trans hg
theorem info48 : (Try.prog.info? 49).map (fun i => (i.zero, i.size, i.bytes)) = some (some (.agg #[(.int .i64 0), (.int .u64 0)]), 2, 16) := by kernel_rfl
structure S48 where
  f0 : Int
  f1 : Int
def z48 : S48 := ⟨(0 : Int), (0 : Int)⟩
def k48 : Kd S48 := Kd.iso (Kd.pair (Kd.int .i64) (Kd.int .u64)) (fun x : S48 => (x.f0, x.f1))
theorem k48_open {w : World} {x : S48} {cs : List Value} (h : k48.K w x cs) : cs = [.int .i64 x.f0, .int .u64 x.f1] := by
  obtain ⟨_, _, rfl, rfl, rfl⟩ := h
  exact rfl
theorem k48_mk (w : World) (x : S48)  : k48.K w x [.int .i64 x.f0, .int .u64 x.f1] := ⟨[.int .i64 x.f0], [.int .u64 x.f1], rfl, rfl, rfl⟩
theorem k48_mkM (w : World) (base : Nat) (ok : Nat → Prop) (x : S48)  : k48.M w base ok x [.int .i64 x.f0, .int .u64 x.f1] := ⟨[.int .i64 x.f0], [.int .u64 x.f1], rfl, rfl, rfl⟩
def rd_T48 (xs : List S48) (i : Int) : S48 := xs.getD i.toNat z48
theorem at_T48 {w : World} {A : Option Addr} {n : Nat} {xs : List S48} (h : Kd.C k48 w A n xs) (i : Int) (h0 : 0 ≤ i) (h1 : i < n) : ∃ ad , A = some ad ∧ w.cell? (ad.add (i.toNat * 2)) = some (.int .i64 (rd_T48 xs i).f0) ∧ w.cell? ⟨(ad.add (i.toNat * 2)).block, (ad.add (i.toNat * 2)).off + 1, none⟩ = some (.int .u64 (rd_T48 xs i).f1) := by
  obtain ⟨ad, c, e, _, hK, hc0⟩ := Kd.C_get h z48 i h0 h1
  have hc : ∀ j u, c[j]? = some u → w.cell? (ad.add (i.toNat * 2 + j)) = some u := hc0
  obtain rfl := k48_open hK
  exact ⟨ad, e, hc 0 _ rfl, by rw [← add_field _ _ 1 (by omega)]; exact hc 1 _ rfl⟩
/-- cuts of a power: their row, that lies in blocks from lo on, and below hi -/
def Cuts (w : World) (v : Value) (L : List S48) (lo hi : Nat) : Prop :=
  ∃ A c, v = .slice A L.length c ∧ L.length ≤ 9223372036854775807 ∧ ∀ i : Int, 0 ≤ i → i < L.length → ∃ ad, A = some ad ∧ (lo ≤ ad.block ∧ ad.block < hi) ∧ w.cell? (ad.add (i.toNat * 2)) = some (.int .i64 (rd_T48 L i).f0) ∧ w.cell? ⟨(ad.add (i.toNat * 2)).block, (ad.add (i.toNat * 2)).off + 1, none⟩ = some (.int .u64 (rd_T48 L i).f1)
theorem add_block (a : Addr) (n : Nat) : (a.add n).block = a.block := by unfold Addr.add; split <;> rfl
theorem cell_same {w w' : World} {a : Addr} (h : w'.heap[a.block]? = w.heap[a.block]?) : w'.cell? a = w.cell? a := by
  unfold World.cell?
  rw [h]
theorem Cuts.move {w w' : World} {v : Value} {L : List S48} {lo hi : Nat} (h : Cuts w v L lo hi) (hm : ∀ k, lo ≤ k → k < hi → w'.heap[k]? = w.heap[k]?) : Cuts w' v L lo hi := by
  obtain ⟨A, c, e, hl, hr⟩ := h
  refine ⟨A, c, e, hl, fun i h0 h1 => ?_⟩
  obtain ⟨ad, ha, hb, c1, c2⟩ := hr i h0 h1
  exact ⟨ad, ha, hb, (cell_same (by rw [add_block]; exact hm _ hb.1 hb.2)).trans c1, (cell_same (by show w'.heap[(ad.add _).block]? = w.heap[(ad.add _).block]?; rw [add_block]; exact hm _ hb.1 hb.2)).trans c2⟩
theorem Cuts.nil (w : World) (lo hi : Nat) : Cuts w (.slice none 0 0) [] lo hi := ⟨none, 0, rfl, by decide, fun i h0 h1 => by simp at h1; omega⟩
set_option maxHeartbeats 8000000 in
set_option maxRecDepth 100000 in
theorem clone_calls (A : Option Addr) (n c : Nat) (xs : List (S48)) (w : World) (hr : Kd.C k48 w A n xs) (hl : n * 16 ≤ 140737488355328) :
    Calls Try.prog 22 #[.slice A n c] w fun e w' => ∃ v, e = .returned v ∧ Cuts w' v xs w.heap.size w'.heap.size ∧ Below w.heap.size w w' := by
  have hn := hr.1
  have HR := Aside0.mk hr
  have HL := Aside0.mk hl
  have q_ := fun (W : World) => Lib.run_eql_slice_nil (P := Try.prog) W 43 49 A n c 0 0 Try.underlying43
  cases A with
  | none =>
    have h0 : n = 0 := by
      rcases Nat.eq_zero_or_pos n with h | h
      · exact h
      · obtain ⟨ad, e, _⟩ := HR.out.2.2 h
        cases e
    have hx : xs = [] := List.eq_nil_of_length_eq_zero (by omega)
    subst hx
    subst h0
    have q1_ : ∀ W : World, (binOp .eql 43 (.slice none 0 c) (.slice none 0 0)).run Try.prog W = .ok (.bool true) W := fun W => q_ W
    clear hr hl hn HR HL q_
    go_enter Try.func22, Try.ntmps22
    go_wp2
    go_ret
    exact ⟨_, rfl, Cuts.nil _ _ _, Below.refl _ _⟩
  | some ad =>
    have HN := Aside0.mk hn
    clear hr hl hn
    go_enter Try.func22, Try.ntmps22
    go_wp2_with (at_builtin; refine Kd.R_append_rows (w0 := w) k48 w.heap.size rfl _ _ 43 49 (.agg #[.int .i64 0, .int .u64 0]) 16 rfl Try.underlying43 ?qi ?q1 ?q2 ?q3 (.slice (some ⟨w.heap.size, 0, none⟩) 0 0) [] xs (some ad) n c (fun _ => True) (fun _ => False) rfl rfl ?q4 (Kd.C_below HR.out (below_alloc (Below.refl _ _) _)) ?q5 ?q6 ?q7 (below_alloc (Below.refl _ _) _) ?q8 ?q9 ?_)
    case qi => kernel_rfl
    case q1 => rfl
    case q2 => decide
    case q3 => decide
    case q4 => exact ⟨fun _ _ => trivial, [], World.ownsRow_made w #[] 0 (Nat.le_refl _) (Nat.zero_le _) rfl, Reps.none _ _⟩
    case q5 => exact fun _ _ h => h
    case q6 => exact fun _ h => h.elim
    case q7 => exact fun _ _ => trivial
    case q8 => simp
    case q9 => have := HL.out; simpa using this
    intro v1 w1 hR hB hG hO
    have HB := Aside0.mk hB
    have HR1 := Aside0.mk hR
    clear hR hB hG hO
    go_wp2
    go_ret
    have hR := HR1.out
    refine ⟨v1, rfl, ?_, HB.out⟩
    obtain ⟨A1, c1, rfl, hr1⟩ := Kd.R_reads hR
    obtain ⟨inner, ho⟩ := Kd.R_own hR
    refine ⟨A1, c1, rfl, by have := HN.out; have := HL.out; omega, fun i h0 h1 => ?_⟩
    obtain ⟨ad1, ha, x1, x2⟩ := at_T48 hr1.2 i h0 h1
    refine ⟨ad1, ha, ?_, x1, x2⟩
    subst ha
    exact ⟨own_base ho _ rfl, own_lt ho _ rfl⟩
end Go.Proofs.Ytaomjdgdkdkibaa.Dk
