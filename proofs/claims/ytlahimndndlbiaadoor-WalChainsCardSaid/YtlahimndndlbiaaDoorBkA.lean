/- A book in memory: its cells, and its map of texts; what an operation on the map does. -/
import Derived.Test.YtlahimndndlbiaaDoorXB
import Derived.Test.YtlahimndndlbiaaDoorWMore
import Derived.MapKept
import Derived.WideMake
namespace Go.Proofs.YtlahimndndlbiaaDoor.Bk
open Go.RowKit Go.Proofs.YtlahimndndlbiaaDoorW.PrintWords Go.Proofs.YtlahimndndlbiaaDoorW.PrintMore Go.Proofs.YtlahimndndlbiaaDoor.XB
/-- outside of S the world w' is as w was -/
structure Upd (S : Nat → Prop) (w w' : World) : Prop where
  os : w'.os = w.os
  tape : w'.tape = w.tape
  output : w'.output = w.output
  size : w.heap.size ≤ w'.heap.size
  block : ∀ k, k < w.heap.size → ¬ S k → w'.heap[k]? = w.heap[k]?
theorem Upd.refl (S : Nat → Prop) (w : World) : Upd S w w := ⟨rfl, rfl, rfl, Nat.le_refl _, fun _ _ _ => rfl⟩
theorem Upd.trans {S : Nat → Prop} {a b c : World} (h : Upd S a b) (k : Upd S b c) : Upd S a c :=
  ⟨k.os.trans h.os, k.tape.trans h.tape, k.output.trans h.output, Nat.le_trans h.size k.size, fun i hi hn => (k.block i (Nat.lt_of_lt_of_le hi h.size) hn).trans (h.block i hi hn)⟩
theorem Upd.of_below {S : Nat → Prop} {a b : World} (h : Below a.heap.size a b) : Upd S a b := ⟨h.os, h.tape, h.output, h.size, fun i hi _ => h.block i hi⟩
theorem Upd.below {S : Nat → Prop} {a b : World} (h : Upd S a b) {B : Nat} (hB : B ≤ a.heap.size) (hS : ∀ k, S k → B ≤ k) : Below B a b :=
  ⟨h.os, h.tape, h.output, h.size, fun k hk => h.block k (Nat.lt_of_lt_of_le hk hB) (fun hs => by have := hS k hs; omega)⟩
theorem Upd.setCell {S : Nat → Prop} {a b : World} (h : Upd S a b) {p : Addr} (hp : S p.block) (u : Value) : Upd S a (b.setCell p u) :=
  h.trans ⟨rfl, rfl, rfl, by simp [World.setCell], fun k hk hn => Below.heap_setCell _ _ _ _ (fun e => hn (e ▸ hp))⟩
theorem Upd.drew {S : Nat → Prop} {a b : World} (h : Upd S a b) : Upd S a b.drew := ⟨h.os, h.tape, h.output, h.size, h.block⟩
theorem Upd.blk {S : Nat → Prop} {a b : World} (h : Upd S a b) {g : Nat} {o : Obj} (hg : a.heap[g]? = some o) (hn : ¬ S g) : b.heap[g]? = some o := (h.block g (blk_lt hg) hn).trans hg
/-- the text of a sum, if there is one -/
def look : List (ByteArray × ByteArray) → ByteArray → Option ByteArray
  | [], _ => none
  | p :: l, k => if p.1.toList = k.toList then some p.2 else look l k
theorem look_append (l : List (ByteArray × ByteArray)) (p : ByteArray × ByteArray) (k : ByteArray) : look (l ++ [p]) k = (look l k).or (if p.1.toList = k.toList then some p.2 else none) := by
  induction l with
  | nil =>
    show look [p] k = _
    unfold look
    by_cases c : p.1.toList = k.toList
    · rw [if_pos c, if_pos c]; rfl
    · rw [if_neg c, if_neg c]; rfl
  | cons q l ih =>
    show look (q :: (l ++ [p])) k = (look (q :: l) k).or _
    unfold look
    by_cases c : q.1.toList = k.toList
    · rw [if_pos c, if_pos c]; rfl
    · rw [if_neg c, if_neg c, ih]
theorem look_mem (l : List (ByteArray × ByteArray)) (k v : ByteArray) (h : look l k = some v) : (k, v) ∈ l := by
  induction l with
  | nil => cases h
  | cons q l ih =>
    unfold look at h
    by_cases c : q.1.toList = k.toList
    · rw [if_pos c] at h
      injection h with h
      rw [← toList_inj.mp c, ← h]; exact List.mem_cons_self ..
    · rw [if_neg c] at h
      exact List.mem_cons_of_mem _ (ih h)
theorem look_none (l : List (ByteArray × ByteArray)) (k : ByteArray) (h : look l k = none) (v : ByteArray) : (k, v) ∉ l := by
  induction l with
  | nil => simp
  | cons q l ih =>
    unfold look at h
    by_cases c : q.1.toList = k.toList
    · rw [if_pos c] at h; cases h
    · rw [if_neg c] at h
      intro hm
      rcases List.mem_cons.mp hm with e | hm
      · exact c (by rw [← e])
      · exact ih h hm
/-- the entries of a map -/
def ents (l : List (ByteArray × ByteArray)) : List (Value × Value) := l.map fun p => (.string p.1, .string p.2)
/-- a book's fields -/
structure St where
  L : List (ByteArray × ByteArray)
  a : ByteArray
  b : ByteArray
  tw : Bool
  fl : Bool
def IsMap (w : World) (m : Nat) (L : List (ByteArray × ByteArray)) : Prop := ∃ es clock, w.heap[m]? = some (.map es clock) ∧ es.toList.map (fun e => (e.key, e.val)) = ents L
def IsCells (w : World) (g m T : Nat) (s : St) : Prop := w.heap[g]? = some (.cells #[.map (some m), .string s.a, .string s.b, .bool s.tw, .bool s.fl] T (0, 0))
structure IsBook (w : World) (g m T : Nat) (s : St) : Prop where
  cells : IsCells w g m T s
  map : IsMap w m s.L
theorem IsMap.upd {S : Nat → Prop} {w w' : World} {m : Nat} {L : List (ByteArray × ByteArray)} (h : IsMap w m L) (hu : Upd S w w') (hn : ¬ S m) : IsMap w' m L := by
  obtain ⟨es, clock, h1, h2⟩ := h
  exact ⟨es, clock, hu.blk h1 hn, h2⟩
theorem IsBook.below {w w' : World} {g m T : Nat} {s : St} (h : IsBook w g m T s) (hb : Below w.heap.size w w') : IsBook w' g m T s :=
  ⟨blk_below h.cells hb, by obtain ⟨es, clock, h1, h2⟩ := h.map; exact ⟨es, clock, blk_below h1 hb, h2⟩⟩
theorem IsBook.drew {w : World} {g m T : Nat} {s : St} (h : IsBook w g m T s) : IsBook w.drew g m T s := ⟨h.cells, h.map⟩
theorem IsBook.ne {w : World} {g m T : Nat} {s : St} (h : IsBook w g m T s) : m ≠ g := by
  obtain ⟨es, clock, h1, _⟩ := h.map
  rintro rfl
  have h2 : w.heap[m]? = _ := h.cells
  rw [h1] at h2
  injection h2 with h2
  cases h2
theorem IsMap.other {w : World} {m g j : Nat} {L : List (ByteArray × ByteArray)} (h : IsMap w m L) (hne : m ≠ g) (v : Value) : IsMap (w.setCell ⟨g, j, none⟩ v) m L := by
  obtain ⟨es, clock, h1, h2⟩ := h
  exact ⟨es, clock, (Below.heap_setCell w ⟨g, j, none⟩ v m hne).trans h1, h2⟩
theorem IsCells.set {w : World} {g m T : Nat} {s : St} (h : IsCells w g m T s) (j : Nat) (v : Value) : (w.setCell ⟨g, j, none⟩ v).heap[g]? = some (.cells ((#[.map (some m), .string s.a, .string s.b, .bool s.tw, .bool s.fl] : Array Value).setIfInBounds j v) T (0, 0)) := blk_set h j v
theorem IsMap.size {w : World} {m : Nat} {es : Array MapEntry} {clock : Nat} {L : List (ByteArray × ByteArray)} (h2 : es.toList.map (fun e => (e.key, e.val)) = ents L) : es.size = L.length := by
  have h := congrArg List.length h2
  simpa [ents] using h
theorem find_now (k : ByteArray) : ∀ (l : List (ByteArray × ByteArray)) (es : List MapEntry) (i : Nat), es.map (fun e => (e.key, e.val)) = ents l →
    (look l k = none ∧ Instr.findNow .string (.string k) es i = some none) ∨ ∃ v j, look l k = some v ∧ Instr.findNow .string (.string k) es i = some (some (j, .string v))
  | [], es, i, h => by
    have : es = [] := by simpa [ents] using h
    subst this
    exact .inl ⟨rfl, rfl⟩
  | p :: l, es, i, h => by
    match es, h with
    | [], h => simp [ents] at h
    | e :: es, h =>
      simp only [List.map_cons, ents, List.cons.injEq, Prod.mk.injEq] at h
      obtain ⟨⟨h1, h2⟩, h3⟩ := h
      unfold look
      by_cases c : p.1.toList = k.toList
      · refine .inr ⟨p.2, i, if_pos c, ?_⟩
        have hb : (k == p.1) = true := (MapKept.bytes_beq _ _).mpr (toList_inj.mp c).symm
        simp [Instr.findNow, Instr.sameNow, h1, h2, hb]
      · have hb : (k == p.1) = false := by
          cases e : (k == p.1)
          · rfl
          · exact absurd (toList_inj.mpr ((MapKept.bytes_beq _ _).mp e).symm) c
        rw [if_neg c]
        rcases find_now k l es (i + 1) h3 with ⟨h4, h5⟩ | ⟨v, j, h4, h5⟩
        · exact .inl ⟨h4, by simp [Instr.findNow, Instr.sameNow, h1, hb, h5]⟩
        · exact .inr ⟨v, j, h4, by simp [Instr.findNow, Instr.sameNow, h1, hb, h5]⟩
section
variable {P : Program}
theorem run_look {w : World} {m : Nat} {L : List (ByteArray × ByteArray)} (h : IsMap w m L) (t kt et : TypeId) (ht : P.underlying t = some (.map kt et)) (hk : P.underlying kt = some .string) (hz : ∀ W : World, (zeroValue et).run P W = .ok (.string ⟨#[]⟩) W) (k : ByteArray) :
    (Instr.lookup t (.map (some m)) (.string k) true).run P w = .ok (.tuple #[.string ((look L k).getD ⟨#[]⟩), .bool (look L k).isSome]) w := by
  obtain ⟨es, clock, h1, h2⟩ := h
  have hc : ∀ e, (Instr.checkKey e 10000 kt (.string k)).run P w = .ok () w := fun e => MapKept.run_checkKey (k := .string k) hk (by simp [MapKept.IsKey]) e 9999
  rcases find_now k L es.toList 0 h2 with ⟨h3, h4⟩ | ⟨v, j, h3, h4⟩
  · simp [Instr.lookup, run_underlying ht, MapKept.run_getObj_map h1, hc, MapKept.run_findKey hk h4, hz, h3, Result.andThen]
  · simp [Instr.lookup, run_underlying ht, MapKept.run_getObj_map h1, hc, MapKept.run_findKey hk h4, h3, Result.andThen]
theorem run_put {w : World} {m : Nat} {L : List (ByteArray × ByteArray)} (h : IsMap w m L) (t kt et : TypeId) (ht : P.underlying t = some (.map kt et)) (hk : P.underlying kt = some .string) (k v : ByteArray) (hn : look L k = none) :
    ∃ w1, (Instr.mapUpdate t (.map (some m)) (.string k) (.string v)).run P w = .ok () w1 ∧ IsMap w1 m (L ++ [(k, v)]) ∧ Upd (fun j => j = m) w w1 := by
  obtain ⟨es, clock, h1, h2⟩ := h
  have hc : ∀ e, (Instr.checkKey e 10000 kt (.string k)).run P w = .ok () w := fun e => MapKept.run_checkKey (k := .string k) hk (by simp [MapKept.IsKey]) e 9999
  have hs := MapKept.heap_set (w := w) (o' := .map (es.push { key := .string k, val := .string v, born := clock }) (clock + 1)) h1
  rcases find_now k L es.toList 0 h2 with ⟨h3, h4⟩ | ⟨v', j, h3, h4⟩
  · refine ⟨{ w with heap := w.heap.setIfInBounds m (.map (es.push { key := .string k, val := .string v, born := clock }) (clock + 1)) }, ?_, ⟨_, _, hs.1, ?_⟩, ⟨rfl, rfl, rfl, by simp, fun j _ hj => hs.2 j hj⟩⟩
    · simp [Instr.mapUpdate, run_underlying ht, MapKept.run_getObj_map h1, hc, MapKept.run_findKey hk h4, MapKept.run_setObj_map _ h1, Result.andThen]
    · simp [h2, ents]
  · rw [hn] at h3; cases h3
end
/-- what a book is behind a text more, of the sum d -/
def St.next (s : St) (d t : ByteArray) : St :=
  match s.tw, look s.L d with
  | true, _ => s
  | false, some f => if f.toList = t.toList then s else { s with a := f, b := t, tw := true }
  | false, none => if 8192 ≤ s.L.length then { s with fl := true } else { s with L := s.L ++ [(d, t)] }
end Go.Proofs.YtlahimndndlbiaaDoor.Bk
