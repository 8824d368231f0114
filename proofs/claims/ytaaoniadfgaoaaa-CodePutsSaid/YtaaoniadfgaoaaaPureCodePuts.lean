/- CodePuts, the plain law: numbers, texts and truths have the document's bytes; for every number of 64 bits, every text, every truth. -/
import Derived.Test.YtaaoniadfgaoaaaPCodePutsx2
import Derived.Test.YtaaoniadfgaoaaaXB
namespace Go.Proofs.Ytaaoniadfgaoaaa.Pure
open Go.RowKit Go.Proofs.Ytaaoniadfgaoaaa.PCodePuts Go.Proofs.YtaaoniadfgaoaaaW.PrintWords Go.Proofs.YtaaoniadfgaoaaaW.PrintLast Go.Proofs.YtaaoniadfgaoaaaW.PrintMore Go.Proofs.Ytaaoniadfgaoaaa.XB

def leb : Nat → Int → List Int
  | 0, _ => []
  | f + 1, n => if n < 128 then [n] else (n % 128 + 128) :: leb f (n / 128)
theorem leb_length (f : Nat) : ∀ n, (leb f n).length ≤ f := by
  induction f with
  | zero => intro n; simp [leb]
  | succ f ih => intro n; unfold leb; split <;> simp; exact ih _
theorem num_loop (f : Nat) : ∀ (k : Nat) (n : Int) (acc : List Int), 1 ≤ f → 0 ≤ n → n < 128 ^ f → n < 18446744073709551616 → f ≤ k → acc.length + f < 1000 →
    code_Num.l0 k n acc = some (strOfNums (acc ++ leb f n)) := by
  induction f with
  | zero => intro k n acc hf; omega
  | succ f ih =>
    intro k n acc _ h0 h1 h2 hk ha
    obtain ⟨k, rfl⟩ : ∃ m, k = m + 1 := ⟨k - 1, by omega⟩
    unfold code_Num.l0 leb
    by_cases c : n > 127
    · rw [if_pos c, if_pos (by omega), if_neg (by omega), or_u8_128 (by omega) (by omega)]
      have e : 128 + n % 256 % 128 = n % 128 + 128 := by omega
      rw [e, ih k (n / 128) _ (by rcases f with _ | f; simp at h1; omega; omega) (by omega) (by rw [Int.pow_succ] at h1; omega) (by omega) (by omega) (by simp; omega)]
      simp
    · rw [if_neg c, if_pos (by omega), if_pos (by omega), show n % 256 = n by omega]
theorem num_some (n : Int) (h0 : 0 ≤ n) (h1 : n < 18446744073709551616) (k : Nat) (hk : 10 ≤ k) : code_Num.f k n = some (strOfNums (leb 10 n)) := by
  unfold code_Num.f
  rw [num_loop 10 k n [] (by decide) h0 (by omega) h1 hk (by simp)]
  rfl
theorem ref_num (f : Nat) : ∀ (k : Nat) (n : Int), 1 ≤ f → 0 ≤ n → n < 128 ^ f → n < 18446744073709551616 → f ≤ k → f < 1000 →
    lodestoneref04_Num.f k n = some (strOfNums (leb f n)) := by
  induction f with
  | zero => intro k n hf; omega
  | succ f ih =>
    intro k n _ h0 h1 h2 hk hf
    obtain ⟨k, rfl⟩ : ∃ m, k = m + 1 := ⟨k - 1, by omega⟩
    unfold lodestoneref04_Num.f leb
    by_cases c : n < 128
    · rw [if_pos c, if_pos c, show n % 256 = n by omega]
    · rw [if_neg c, if_neg c, tm h0, td h0, wu64s (x := n / 128) (by omega) (by omega), ih k (n / 128) (by rcases f with _ | f; simp at h1; omega; omega) (by omega) (by rw [Int.pow_succ] at h1; omega) (by omega) (by omega) (by omega),
        wu64s (by omega) (by omega), show (n % 128 + 128) % 256 = n % 128 + 128 by omega]
      simp only [Option.bind_some]
      have := leb_length f (n / 128)
      rw [if_pos (by rw [strOfNums_size, strOfNums_size]; simp; omega), ← strOfNums_append]
      rfl
theorem ref_num_some (n : Int) (h0 : 0 ≤ n) (h1 : n < 18446744073709551616) (k : Nat) (hk : 10 ≤ k) : lodestoneref04_Num.f k n = some (strOfNums (leb 10 n)) :=
  ref_num 10 k n (by decide) h0 (by omega) h1 hk (by decide)
theorem awake_true : lodestonelaw04_awake.f 20 = some true := by decide +kernel

/-- eight bytes, or four, the highest first -/
def be : Nat → Int → List Int
  | 0, _ => []
  | j + 1, n => be j (n / 256) ++ [n % 256]
theorem be_length (j : Nat) : ∀ n, (be j n).length = j := by
  induction j with
  | zero => intro n; rfl
  | succ j ih => intro n; simp [be, ih]
theorem high_loop (d : Nat) : ∀ (k : Nat) (x m i : Int) (acc : ByteArray), 0 ≤ x → x < 18446744073709551616 → 0 ≤ i → m - i = d → m ≤ 8 → d < k → acc.size + d ≤ 1000 →
    lodestoneref04_High.l0 k x m acc i = some (strOfNums (be d x) ++ acc) := by
  induction d with
  | zero =>
    intro k x m i acc h0 h1 h2 h3 h4 hk ha
    obtain ⟨k, rfl⟩ : ∃ m, k = m + 1 := ⟨k - 1, by omega⟩
    unfold lodestoneref04_High.l0
    rw [if_neg (by omega)]
    show _ = some ((⟨#[]⟩ : ByteArray) ++ acc)
    rw [empty_append]
  | succ d ih =>
    intro k x m i acc h0 h1 h2 h3 h4 hk ha
    obtain ⟨k, rfl⟩ : ∃ m, k = m + 1 := ⟨k - 1, by omega⟩
    unfold lodestoneref04_High.l0
    rw [if_pos (by omega), if_pos (by omega), tm h0, td h0, wu64s (x := x / 256) (by omega) (by omega), w64 (x := i + 1) (by omega) (by omega)]
    simp only [Option.bind_some]
    have hs : (strOfNums [x % 256 % 256]).size = 1 := strOfNums_size _
    rw [if_pos (by omega), ih k _ _ _ _ (by omega) (by omega) (by omega) (by omega) h4 (by omega) (by rw [size_append]; omega), show x % 256 % 256 = x % 256 by omega, ← append_assoc, ← strOfNums_append]
    rfl
theorem high_some (x m : Int) (d : Nat) (hm : m = d) (hd : d ≤ 8) (h0 : 0 ≤ x) (h1 : x < 18446744073709551616) (k : Nat) (hk : 10 ≤ k) : lodestoneref04_High.f k x m = some (strOfNums (be d x)) := by
  unfold lodestoneref04_High.f
  rw [high_loop d k x m 0 _ h0 h1 (by omega) (by omega) (by omega) (by omega) (by show 0 + d ≤ 1000; omega), append_empty]
theorem small_some (x : Int) (_ : 0 ≤ x) (_ : x < 4294967296) : code_Small.f x = some (strOfNums (be 4 x)) := by
  unfold code_Small.f
  congr 2
  simp only [be, List.nil_append, List.cons_append]
  rw [show x / 256 / 256 / 256 = x / 16777216 by omega, show x / 256 / 256 = x / 65536 by omega]
theorem big_some (x : Int) (h0 : 0 ≤ x) (h1 : x < 18446744073709551616) : code_Big.f x = some (strOfNums (be 8 x)) := by
  unfold code_Big.f
  rw [small_some _ (by omega) (by omega), small_some _ (by omega) (by omega)]
  simp only [Option.bind_some]
  rw [if_pos (by rw [strOfNums_size, strOfNums_size, be_length, be_length]; decide), ← strOfNums_append]
  congr 2
  simp only [be, List.nil_append, List.cons_append, List.cons.injEq, and_true]
  refine ⟨?_, ?_, ?_, ?_, ?_, ?_, ?_, ?_⟩ <;> omega

theorem CodePuts : lodestonelaw04_CodePuts.Pure := by
  intro n s b hn hs
  have hb := bounds_u64 hn
  refine ⟨20, ?_⟩
  unfold lodestonelaw04_CodePuts.f
  have hm : 0 ≤ mn (s.size : Int) 300 ∧ mn (s.size : Int) 300 ≤ s.size := by unfold mn; split <;> omega
  rw [if_pos hm.1, if_pos hm.2, awake_true]
  generalize ht : s.extract 0 (mn (s.size : Int) 300).toNat = t
  have hts : t.size ≤ 140737488351232 := by rw [← ht, size_extract]; omega
  have htext : code_Text.f 20 t = some (strOfNums (leb 10 (t.size : Int)) ++ t) := by
    unfold code_Text.f
    rw [if_pos (by omega), num_some _ (by omega) (by omega) 20 (by decide)]
    simp only [Option.bind_some]
    have := leb_length 10 (t.size : Int)
    rw [if_pos (by rw [strOfNums_size]; omega)]
  have hreft : lodestoneref04_Text.f 20 t = some (strOfNums (leb 10 (t.size : Int)) ++ t) := by
    unfold lodestoneref04_Text.f
    rw [if_pos (by omega), ref_num_some _ (by omega) (by omega) 20 (by decide)]
    simp only [Option.bind_some]
    have := leb_length 10 (t.size : Int)
    rw [if_pos (by rw [strOfNums_size]; omega)]
  have ha : Go.bits .and .u64 n 4294967295 = n % 4294967296 := and_u64 n 32 hb.1 (by omega) (by decide)
  rw [num_some n hb.1 (by omega) 20 (by decide), ref_num_some n hb.1 (by omega) 20 (by decide), big_some n hb.1 (by omega), high_some n 8 8 rfl (by decide) hb.1 (by omega) 20 (by decide),
    ha, small_some (n % 4294967296) (by omega) (by omega), high_some (n % 4294967296) 4 4 rfl (by decide) (by omega) (by omega) 20 (by decide), htext, hreft]
  simp only [Option.bind_some, if_true]
  cases b <;> simp [code_Bool.f, lodestoneref04_Bool.f]
end Go.Proofs.Ytaaoniadfgaoaaa.Pure
