/- A book, walked: New, Len, Full, Twins and Sum. -/
import Derived.Test.YtlahimndndlbiaaDoorBkA
import Derived.Test.YtlahimndndlbiaaDoorShaZ
import Derived.Test.YtlahimndndlbiaaDoorXI
import Derived.Carry
namespace Go.Proofs.YtlahimndndlbiaaDoor.Bk
open Go.RowKit Go.Proofs.YtlahimndndlbiaaDoorW.PrintWords Go.Proofs.YtlahimndndlbiaaDoorW.PrintLast Go.Proofs.YtlahimndndlbiaaDoorW.PrintMore Go.Proofs.YtlahimndndlbiaaDoor.XB Go.Proofs.YtlahimndndlbiaaDoor.Sha
set_option linter.unusedVariables false
set_option linter.unusedSimpArgs false
theorem under30 : Tryd.prog.underlying 30 = some (.map 9 9) := by kernel_rfl
theorem under9 : Tryd.prog.underlying 9 = some .string := by kernel_rfl
theorem zero9 (W : World) : (zeroValue 9).run Tryd.prog W = .ok (.string ⟨#[]⟩) W := by kernel_rfl
theorem len_map {w : World} {m : Nat} {L : List (ByteArray × ByteArray)} (h : IsMap w m L) (ty : TypeId) : (Builtin.len_ #[30] ty #[.map (some m)]).run Tryd.prog w = .ok (.int .i64 (L.length : Int)) w := by
  obtain ⟨es, clock, h1, h2⟩ := h
  have hl := IsMap.size (w := w) (m := m) (clock := clock) h2
  rw [run_len_map w 30 ty m es clock (by rw [show Tryd.prog.mapKeyOf 30 = 9 by kernel_rfl, show Tryd.prog.mapElemOf 30 = 9 by kernel_rfl]; exact under30) h1, hl]
  rfl
/-- the text of nothing -/
abbrev em : ByteArray := ⟨#[]⟩
set_option maxHeartbeats 8000000 in
set_option maxRecDepth 100000 in
theorem new_calls (w : World) :
    Calls Tryd.prog 4 #[] w fun e w' => ∃ g m, e = .returned (.pointer (some ⟨g, 0, none⟩)) ∧ w.heap.size ≤ g ∧ w.heap.size ≤ m ∧ IsBook w' g m 32 ⟨[], em, em, false, false⟩ ∧ Below w.heap.size w w' := by
  have hmm := @run_makeMap Tryd.prog
  go_enter Tryd.func4, Tryd.ntmps4
  go_wp2
  go_ret
  refine ⟨w.heap.size + 1, w.heap.size, rfl, by omega, Nat.le_refl _, ⟨?_, ⟨#[], 0, ?_, rfl⟩⟩, ?_⟩
  · have h := heap_alloc_new (w.alloc (.map #[] 0)) (.cells #[.map (some w.heap.size), .string ⟨#[]⟩, .string ⟨#[]⟩, .bool false, .bool false] 32 (0, 0))
    rw [World.size_alloc] at h
    exact h
  · exact blk_alloc (blk_new w _) _
  · exact ((Below.refl w.heap.size w).alloc (Nat.le_refl _) _).alloc (by simp) _
set_option maxHeartbeats 8000000 in
set_option maxRecDepth 100000 in
theorem len_calls (g m : Nat) (s : St) (w : World) (h : IsBook w g m 32 s) :
    Calls Tryd.prog 8 #[.pointer (some ⟨g, 0, none⟩)] w fun e w' => e = .returned (.int .i64 s.L.length) ∧ Below w.heap.size w w' := by
  have c0 : w.cell? ⟨g, 0, none⟩ = some (.map (some m)) := blk_cell h.cells 0
  have hl := len_map h.map
  clear h
  go_enter Tryd.func8, Tryd.ntmps8
  go_wp2
  go_ret
  exact ⟨rfl, Below.refl _ _⟩
set_option maxHeartbeats 8000000 in
set_option maxRecDepth 100000 in
theorem sum_twin (g m : Nat) (s : St) (hs : s.tw = true) (t : ByteArray) (ht : t.size ≤ 140737488351232) (w : World) (hG : SL w) (h : IsBook w g m 32 s) :
    Calls Tryd.prog 9 #[.pointer (some ⟨g, 0, none⟩), .string t] w fun e w' => e = .returned (.string (dig t)) ∧ Below w.heap.size w w' := by
  have HG := Aside0.mk hG
  have HK := Aside0.mk h
  clear hG h
  go_enter Tryd.func9, Tryd.ntmps9
  go_wp2_with (first | (go_at_call 16; (with_reducible refine (sum_dig t ht _ ?side1).mono ?_); (case side1 => exact HG.out); rintro e w1 ⟨rfl, hb⟩; have HB := Aside0.mk hb; have HK1 := Aside0.mk (HK.out.below hb); clear hb; have c3 : w1.cell? ⟨g, 3, none⟩ = some (.bool true) := hs ▸ (blk_cell HK1.out.cells 3)))
  go_ret
  exact ⟨rfl, HB.out⟩
set_option maxHeartbeats 8000000 in
set_option maxRecDepth 100000 in
theorem sum_old (g m : Nat) (s : St) (hs : s.tw = false) (t f : ByteArray) (hl : look s.L (dig t) = some f) (hf : f.toList = t.toList) (ht : t.size ≤ 140737488351232) (w : World) (hG : SL w) (h : IsBook w g m 32 s) :
    Calls Tryd.prog 9 #[.pointer (some ⟨g, 0, none⟩), .string t] w fun e w' => e = .returned (.string (dig t)) ∧ Below w.heap.size w w' ∧ s.next (dig t) t = s := by
  have HG := Aside0.mk hG
  have HK := Aside0.mk h
  have HL := Aside0.mk hl
  have HS := Aside0.mk hs
  clear hG h hl hs
  have b1 : (f.toList == t.toList) = true := beq_iff_eq.mpr hf
  have b2 : (f.toList != t.toList) = false := bne_eq_false_iff_eq.mpr hf
  have HF := Aside0.mk hf
  clear hf
  go_enter Tryd.func9, Tryd.ntmps9
  go_wp2_with (first | (go_at_call 16; fail))
  (with_reducible refine (sum_dig t ht _ ?side1).mono ?_)
  (case side1 => exact HG.out)
  rintro e w1 ⟨rfl, hb⟩
  have HB := Aside0.mk hb
  have HK1 := Aside0.mk (HK.out.below hb)
  clear hb
  have c3 : w1.cell? ⟨g, 3, none⟩ = some (.bool false) := HS.out ▸ (blk_cell HK1.out.cells 3)
  have c0 : w1.cell? ⟨g, 0, none⟩ = some (.map (some m)) := blk_cell HK1.out.cells 0
  have lk : (Instr.lookup 30 (.map (some m)) (.string (dig t)) true).run Tryd.prog w1 = .ok (.tuple #[.string f, .bool true]) w1 := by (have q := run_look HK1.out.map 30 9 9 under30 under9 zero9 (dig t); rw [HL.out] at q; exact q)
  go_wp2
  go_ret
  refine ⟨rfl, HB.out, ?_⟩
  rw [St.next, HS.out, HL.out]
  exact if_pos HF.out
set_option maxHeartbeats 8000000 in
set_option maxRecDepth 100000 in
theorem sum_two (g m : Nat) (s : St) (hs : s.tw = false) (t f : ByteArray) (hl : look s.L (dig t) = some f) (hf : f.toList ≠ t.toList) (ht : t.size ≤ 140737488351232) (w : World) (hG : SL w) (h : IsBook w g m 32 s) :
    Calls Tryd.prog 9 #[.pointer (some ⟨g, 0, none⟩), .string t] w fun e w' => e = .returned (.string (dig t)) ∧ IsBook w' g m 32 (s.next (dig t) t) ∧ Upd (fun j => j = g ∨ j = m) w w' := by
  have HG := Aside0.mk hG
  have HK := Aside0.mk h
  have HL := Aside0.mk hl
  have HS := Aside0.mk hs
  clear hG h hl hs
  have b1 : (f.toList == t.toList) = false := beq_eq_false_iff_ne.mpr hf
  have b2 : (f.toList != t.toList) = true := bne_iff_ne.mpr hf
  have HF := Aside0.mk hf
  clear hf
  go_enter Tryd.func9, Tryd.ntmps9
  go_wp2_with (first | (go_at_call 16; fail))
  (with_reducible refine (sum_dig t ht _ ?side1).mono ?_)
  (case side1 => exact HG.out)
  rintro e w1 ⟨rfl, hb⟩
  have HB := Aside0.mk hb
  have HK1 := Aside0.mk (HK.out.below hb)
  clear hb
  have c3 : w1.cell? ⟨g, 3, none⟩ = some (.bool false) := HS.out ▸ (blk_cell HK1.out.cells 3)
  have c0 : w1.cell? ⟨g, 0, none⟩ = some (.map (some m)) := blk_cell HK1.out.cells 0
  have c1 : w1.cell? ⟨g, 1, none⟩ = some (.string s.a) := blk_cell HK1.out.cells 1
  have f1 : w1.frozen? ⟨g, 1, none⟩ = false := blk_frozen HK1.out.cells 1
  have c2 : w1.cell? ⟨g, 2, none⟩ = some (.string s.b) := blk_cell HK1.out.cells 2
  have f2 : w1.frozen? ⟨g, 2, none⟩ = false := blk_frozen HK1.out.cells 2
  have lk : (Instr.lookup 30 (.map (some m)) (.string (dig t)) true).run Tryd.prog w1 = .ok (.tuple #[.string f, .bool true]) w1 := by (have q := run_look HK1.out.map 30 9 9 under30 under9 zero9 (dig t); rw [HL.out] at q; exact q)
  have f3 : w1.frozen? ⟨g, 3, none⟩ = false := blk_frozen HK1.out.cells 3
  go_wp2
  go_ret
  have e1 := IsCells.set HK1.out.cells 1 (.string f)
  have e2 := blk_set e1 2 (.string t)
  have e3 := blk_set e2 3 (.bool true)
  have en : s.next (dig t) t = { s with a := f, b := t, tw := true } := by
    rw [St.next, HS.out, HL.out]
    exact if_neg HF.out
  refine ⟨rfl, ?_, ?_⟩
  · rw [en]
    exact ⟨e3, ((HK1.out.map.other HK1.out.ne _).other HK1.out.ne _).other HK1.out.ne _⟩
  · exact (((Upd.of_below HB.out).setCell (.inl rfl) _).setCell (.inl rfl) _).setCell (.inl rfl) _
set_option maxHeartbeats 8000000 in
set_option maxRecDepth 100000 in
theorem sum_full (g m : Nat) (s : St) (hs : s.tw = false) (t : ByteArray) (hl : look s.L (dig t) = none) (hf : 8192 ≤ s.L.length) (ht : t.size ≤ 140737488351232) (w : World) (hG : SL w) (h : IsBook w g m 32 s) :
    Calls Tryd.prog 9 #[.pointer (some ⟨g, 0, none⟩), .string t] w fun e w' => e = .returned (.string (dig t)) ∧ IsBook w' g m 32 (s.next (dig t) t) ∧ Upd (fun j => j = g ∨ j = m) w w' := by
  have HG := Aside0.mk hG
  have HK := Aside0.mk h
  have HL := Aside0.mk hl
  have HS := Aside0.mk hs
  clear hG h hl hs
  have HF := Aside0.mk hf
  have b1 : decide ((8192 : Int) ≤ (s.L.length : Int)) = true := decide_eq_true (by omega)
  clear hf
  go_enter Tryd.func9, Tryd.ntmps9
  go_wp2_with (first | (go_at_call 16; fail))
  (with_reducible refine (sum_dig t ht _ ?side1).mono ?_)
  (case side1 => exact HG.out)
  rintro e w1 ⟨rfl, hb⟩
  have HB := Aside0.mk hb
  have HK1 := Aside0.mk (HK.out.below hb)
  clear hb
  have c3 : w1.cell? ⟨g, 3, none⟩ = some (.bool false) := HS.out ▸ (blk_cell HK1.out.cells 3)
  have c0 : w1.cell? ⟨g, 0, none⟩ = some (.map (some m)) := blk_cell HK1.out.cells 0
  have c4 : w1.cell? ⟨g, 4, none⟩ = some (.bool s.fl) := blk_cell HK1.out.cells 4
  have f4 : w1.frozen? ⟨g, 4, none⟩ = false := blk_frozen HK1.out.cells 4
  have lk : (Instr.lookup 30 (.map (some m)) (.string (dig t)) true).run Tryd.prog w1 = .ok (.tuple #[.string ⟨#[]⟩, .bool false]) w1 := by (have q := run_look HK1.out.map 30 9 9 under30 under9 zero9 (dig t); rw [HL.out] at q; exact q)
  have hl := len_map HK1.out.map 3
  go_wp2
  go_ret
  have e1 := IsCells.set HK1.out.cells 4 (.bool true)
  have en : s.next (dig t) t = { s with fl := true } := by
    rw [St.next, HS.out, HL.out]
    exact if_pos HF.out
  refine ⟨rfl, ?_, ?_⟩
  · rw [en]
    exact ⟨e1, HK1.out.map.other HK1.out.ne _⟩
  · exact (Upd.of_below HB.out).setCell (.inl rfl) _
set_option maxHeartbeats 8000000 in
set_option maxRecDepth 100000 in
theorem sum_new (g m : Nat) (s : St) (hs : s.tw = false) (t : ByteArray) (hl : look s.L (dig t) = none) (hf : s.L.length < 8192) (ht : t.size ≤ 140737488351232) (w : World) (hG : SL w) (h : IsBook w g m 32 s) :
    Calls Tryd.prog 9 #[.pointer (some ⟨g, 0, none⟩), .string t] w fun e w' => e = .returned (.string (dig t)) ∧ IsBook w' g m 32 (s.next (dig t) t) ∧ Upd (fun j => j = g ∨ j = m) w w' := by
  have HG := Aside0.mk hG
  have HK := Aside0.mk h
  have HL := Aside0.mk hl
  have HS := Aside0.mk hs
  clear hG h hl hs
  have HF := Aside0.mk hf
  have b1 : decide ((8192 : Int) ≤ (s.L.length : Int)) = false := decide_eq_false (by omega)
  clear hf
  go_enter Tryd.func9, Tryd.ntmps9
  go_wp2_with (first | (go_at_call 16; fail))
  (with_reducible refine (sum_dig t ht _ ?side1).mono ?_)
  (case side1 => exact HG.out)
  rintro e w1 ⟨rfl, hb⟩
  have HB := Aside0.mk hb
  have HK1 := Aside0.mk (HK.out.below hb)
  clear hb
  have c3 : w1.cell? ⟨g, 3, none⟩ = some (.bool false) := HS.out ▸ (blk_cell HK1.out.cells 3)
  have c0 : w1.cell? ⟨g, 0, none⟩ = some (.map (some m)) := blk_cell HK1.out.cells 0
  have lk : (Instr.lookup 30 (.map (some m)) (.string (dig t)) true).run Tryd.prog w1 = .ok (.tuple #[.string ⟨#[]⟩, .bool false]) w1 := by (have q := run_look HK1.out.map 30 9 9 under30 under9 zero9 (dig t); rw [HL.out] at q; exact q)
  have hl := len_map HK1.out.map 3
  obtain ⟨w2, hp, hm2, hu2⟩ := run_put HK1.out.map 30 9 9 under30 under9 (dig t) t HL.out
  have HM2 := Aside0.mk hm2
  have HU2 := Aside0.mk hu2
  clear hm2 hu2
  go_wp2
  go_ret
  have en : s.next (dig t) t = { s with L := s.L ++ [(dig t, t)] } := by
    rw [St.next, HS.out, HL.out]
    exact if_neg (by have := HF.out; omega)
  refine ⟨rfl, ?_, ?_⟩
  · rw [en]
    exact ⟨HU2.out.blk HK1.out.cells (fun e => HK1.out.ne e.symm), HM2.out⟩
  · exact (Upd.of_below HB.out).trans ⟨HU2.out.os, HU2.out.tape, HU2.out.output, HU2.out.size, fun k hk hn => HU2.out.block k hk (fun e => hn (.inr e))⟩
/-- a book's Sum: the sum of the text; the book is the next one -/
theorem sum_calls (g m : Nat) (s : St) (t : ByteArray) (ht : t.size ≤ 140737488351232) (w : World) (hG : SL w) (h : IsBook w g m 32 s) :
    Calls Tryd.prog 9 #[.pointer (some ⟨g, 0, none⟩), .string t] w fun e w' => e = .returned (.string (dig t)) ∧ IsBook w' g m 32 (s.next (dig t) t) ∧ Upd (fun j => j = g ∨ j = m) w w' := by
  cases c : s.tw with
  | true =>
    refine (sum_twin g m s c t ht w hG h).mono fun e w' ⟨h1, h2⟩ => ⟨h1, ?_, Upd.of_below h2⟩
    rw [St.next, c]
    exact h.below h2
  | false =>
    cases hl : look s.L (dig t) with
    | some f =>
      by_cases hf : f.toList = t.toList
      · refine (sum_old g m s c t f hl hf ht w hG h).mono fun e w' ⟨h1, h2, h3⟩ => ⟨h1, ?_, Upd.of_below h2⟩
        rw [h3]
        exact h.below h2
      · exact sum_two g m s c t f hl hf ht w hG h
    | none =>
      by_cases hf : 8192 ≤ s.L.length
      · exact sum_full g m s c t hl hf ht w hG h
      · exact sum_new g m s c t hl (by omega) ht w hG h
end Go.Proofs.YtlahimndndlbiaaDoor.Bk
