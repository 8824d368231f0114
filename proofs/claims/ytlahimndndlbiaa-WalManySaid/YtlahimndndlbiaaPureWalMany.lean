/- The plain law of WalMany: so many changes a record has, and no more. -/
import Derived.Test.YtlahimndndlbiaaPWalManyx4
import Derived.Test.YtlahimndndlbiaaQWalMany
namespace Go.Proofs.Ytlahimndndlbiaa.Pure
open Go.RowKit Go.Proofs.Ytlahimndndlbiaa.PWalMany Go.Proofs.YtlahimndndlbiaaW.PrintWords Go.Proofs.YtlahimndndlbiaaW.PrintLast Go.Proofs.YtlahimndndlbiaaW.PrintMore Go.Proofs.Ytlahimndndlbiaa.XB Go.Proofs.Ytlahimndndlbiaa.RWalMany Go.Proofs.Ytlahimndndlbiaa.QWalMany
set_option linter.unusedVariables false
set_option linter.unusedSimpArgs false
theorem awake_60 : lodestonelaw15_awake.f 60 = some true := by decide +kernel
theorem awake_k : ∀ d, lodestonelaw15_awake.f (60 + d) = some true
  | 0 => awake_60
  | d + 1 => lodestonelaw15_awake.mono (60 + d) true (awake_k d)
abbrev c0 : S33 := ⟨(⟨#[107]⟩ : ByteArray), em, true⟩
theorem ok_c0 : okC c0 := ⟨fun e => by have := congrArg ByteArray.size e; revert this; decide, by decide, by decide, fun _ => rfl⟩
theorem enc_c0 : (enc c0).size = 3 := by decide +kernel
theorem encL_rep : ∀ n : Nat, (encL (List.replicate n c0)).size = 3 * n
  | 0 => rfl
  | n + 1 => by
    rw [List.replicate_succ, encL, ByteArray.size_append, enc_c0, encL_rep n]
    omega
theorem ok_rep (n : Nat) (h1 : 1 ≤ n) (h2 : n ≤ 256) : okL (List.replicate n c0) :=
  ⟨by rw [List.length_replicate]; exact h1, by rw [List.length_replicate]; exact h2, fun c hc => by rw [List.eq_of_mem_replicate hc]; exact ok_c0⟩
theorem rec_rep (n : Nat) (h2 : n ≤ 256) : ¬ ((rec_ (List.replicate n c0)).size : Int) > 16384 := by
  have h := encL_rep n
  have h3 := leb_length 10 ((List.replicate n c0).length : Int)
  rw [rec_, ByteArray.size_append, strOfNums_size, h]
  omega
theorem nil_not : ¬ okL [] := fun h => absurd h.1 (by decide)
theorem fin (n k : Nat) (h1 : 250 ≤ n) (h2 : n ≤ 265) (hk : 400 ≤ k) : lodestonelaw15_WalMany.l0 (k + 1) (n : Int) (List.replicate n c0) (n : Int) = some true := by
  have ha : lodestonelaw15_awake.f k = some true := by
    obtain ⟨d, rfl⟩ : ∃ d, k = 60 + d := ⟨k - 60, by omega⟩
    exact awake_k d
  have hn : wal_Put.f k ([] : List S33) = some em := put_not [] (by decide) nil_not k
  rw [lodestonelaw15_WalMany.l0, if_neg (by omega)]
  by_cases c : n ≤ 256
  · have hl := ok_rep n (by omega) c
    have hs := rec_rep n c
    have hp : wal_Put.f k (List.replicate n c0) = some (rec_ (List.replicate n c0)) := by rw [put_ok _ hl k (by omega), kept, if_neg hs]
    have hg := get_ok _ hl hs k (by omega)
    have hd : decide ((n : Int) ≤ 256) = true := decide_eq_true (by omega)
    have hx : ((rec_ (List.replicate n c0)).toList != ([] : List UInt8)) = true := bne_iff_ne.mpr (rec_ne _)
    rw [hp, Option.bind_some, hg, Option.bind_some, ha, Option.bind_some, if_pos rfl, hd, hx, if_pos (by rfl), if_pos (by rfl), hn, Option.bind_some, em_nil]
    rfl
  · have hl : ¬ okL (List.replicate n c0) := fun h => by have := h.2.1; rw [List.length_replicate] at this; exact c this
    have hp : wal_Put.f k (List.replicate n c0) = some em := put_not _ (by rw [List.length_replicate]; omega) hl k
    have hd : decide ((n : Int) ≤ 256) = false := decide_eq_false (by omega)
    have hx : (em.toList != ([] : List UInt8)) = false := by rw [em_nil]; rfl
    rw [hp, Option.bind_some, get_em k (by omega), Option.bind_some, ha, Option.bind_some, if_pos rfl, hd, hx, if_pos (by rfl), if_pos (by rfl), hn, Option.bind_some, em_nil]
    rfl
theorem loop (n : Nat) (h1 : 250 ≤ n) (h2 : n ≤ 265) : ∀ (d i k : Nat) (l : List S33), i + d = n → l.length = n → (∀ j, j < i → l[j]? = some c0) → d + 401 ≤ k → lodestonelaw15_WalMany.l0 k (n : Int) l (i : Int) = some true := by
  intro d
  induction d with
  | zero =>
    intro i k l hi hl hj hk
    have e : l = List.replicate n c0 := by
      apply List.ext_getElem?
      intro j
      by_cases c : j < n
      · rw [hj j (by omega), List.getElem?_replicate, if_pos c]
      · rw [List.getElem?_eq_none (by omega), List.getElem?_replicate, if_neg c]
    obtain ⟨k, rfl⟩ : ∃ m, k = m + 1 := ⟨k - 1, by omega⟩
    obtain rfl : i = n := by omega
    rw [e]
    exact fin i k h1 h2 (by omega)
  | succ d ih =>
    intro i k l hi hl hj hk
    obtain ⟨k, rfl⟩ : ∃ m, k = m + 1 := ⟨k - 1, by omega⟩
    have hw : wrap64 ((i : Int) + 1) = ((i + 1 : Nat) : Int) := by unfold wrap64; omega
    rw [lodestonelaw15_WalMany.l0, if_pos (by omega), if_pos (by omega), if_pos (by omega), hw, Int.toNat_natCast]
    refine ih (i + 1) k _ (by omega) (by rw [List.length_set]; exact hl) (fun j h => ?_) (by omega)
    by_cases c : j = i
    · subst c
      rw [List.getElem?_set_self (by omega)]
    · rw [List.getElem?_set_ne (fun e => c e.symm)]
      exact hj j (by omega)
theorem WalMany : lodestonelaw15_WalMany.Pure := by
  intro a ha
  have h : Go.bits .and .i64 a ((2 ^ 4 - 1 : Nat) : Int) = a % ((2 ^ 4 : Nat) : Int) := and_mask64 a 4 (by decide) (by decide)
  have h2 : Go.bits .and .i64 a 15 = a % 16 := h
  obtain ⟨n, hn⟩ : ∃ n : Nat, wrap64 (250 + Go.bits .and .i64 a 15) = (n : Int) := ⟨(250 + a % 16).toNat, by rw [h2, w64 (by omega) (by omega)]; omega⟩
  have hb : 250 ≤ n ∧ n ≤ 265 := by rw [h2, w64 (by omega) (by omega)] at hn; omega
  refine ⟨800, ?_⟩
  unfold lodestonelaw15_WalMany.f
  rw [hn, if_pos (by omega), if_pos (by omega), Int.toNat_natCast]
  exact loop n hb.1 hb.2 n 0 800 _ (by omega) List.length_replicate (fun j hj => absurd hj (Nat.not_lt_zero j)) (by omega)
end Go.Proofs.Ytlahimndndlbiaa.Pure
