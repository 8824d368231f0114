/- The plain law of WalPuts: a record has the document's bytes, and is read again; one that may not be has none. -/
import Derived.Test.YtlahimndndlbiaaPWalPutsx8
import Derived.Test.YtlahimndndlbiaaQWalPuts
namespace Go.Proofs.Ytlahimndndlbiaa.PurePuts
open Go.RowKit Go.Proofs.Ytlahimndndlbiaa.PWalPuts Go.Proofs.YtlahimndndlbiaaW.PrintWords Go.Proofs.YtlahimndndlbiaaW.PrintLast Go.Proofs.YtlahimndndlbiaaW.PrintMore Go.Proofs.Ytlahimndndlbiaa.XB Go.Proofs.Ytlahimndndlbiaa.RWalPuts Go.Proofs.Ytlahimndndlbiaa.QWalPuts
set_option linter.unusedVariables false
set_option linter.unusedSimpArgs false
theorem awake_60 : lodestonelaw15_awake.f 60 = some true := by decide +kernel
theorem awake_k : ∀ d, lodestonelaw15_awake.f (60 + d) = some true
  | 0 => awake_60
  | d + 1 => lodestonelaw15_awake.mono (60 + d) true (awake_k d)
theorem law (l : List S33) (a : Int) : lodestonelaw15_WalPuts.f 400 l a = some true := by
  obtain ⟨x, hx, hxl⟩ := cut_ok l a 400 (by decide)
  obtain ⟨b, hb, hi⟩ := may_some x (by omega)
  obtain ⟨b2, hb2, hi2⟩ := rmay_some x (by omega) 400 (by omega)
  have hbb : b2 = b := Bool.eq_iff_iff.mpr (hi2.trans hi.symm)
  have hne : (b != b) = false := by cases b <;> rfl
  have ha : lodestonelaw15_awake.f 400 = some true := awake_k 340
  subst hbb
  have none_ : wal_Put.f 400 x = some em → lodestoneref15_Put.f 400 x = some em → lodestonelaw15_WalPuts.f 400 l a = some true := by
    intro h1 h2
    unfold lodestonelaw15_WalPuts.f
    rw [hx, Option.bind_some, h1, Option.bind_some, get_em 400 (by decide), Option.bind_some, ha, Option.bind_some, if_pos rfl, h2, Option.bind_some, if_pos rfl, hb, Option.bind_some, hb2, Option.bind_some, hne, if_neg (by decide), if_pos em_nil, if_pos rfl]
    rfl
  by_cases ok : okL x
  · have hp := put_ok x ok 400 (by decide)
    have hr := rput_ok x ok 400 (by decide)
    by_cases c : ((rec_ x).size : Int) > 16384
    · rw [kept, if_pos c] at hp hr
      exact none_ hp hr
    · rw [kept, if_neg c] at hp hr
      have hg := get_ok x ok c 400 (by decide)
      unfold lodestonelaw15_WalPuts.f
      rw [hx, Option.bind_some, hp, Option.bind_some, hg, Option.bind_some, ha, Option.bind_some, if_pos rfl, hr, Option.bind_some, if_pos rfl, hb, Option.bind_some, hb2, Option.bind_some, hne, if_neg (by decide), if_neg (rec_ne x), if_pos rfl]
      show ((lodestonelaw15_same.f 400 x x).bind _) = _
      rw [same_some x (by omega) 400 (by omega), Option.bind_some, if_pos rfl]
  · exact none_ (put_not x (by omega) ok 400) (rput_not x (by omega) ok 400 (by omega))
end Go.Proofs.Ytlahimndndlbiaa.PurePuts
