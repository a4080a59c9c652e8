/- The plain law: a request fits every serial number. No program in sight. -/
import Derived.Test.YtlabdakpcpiihaaExplain
import Derived.Test.YtlabdakpcpiihaaGroupPlain
namespace Go.Proofs.Ytlabdakpcpiihaa
theorem mod1019 {b : Int} (h0 : 1 ≤ b) (h1 : b ≤ 1018) : (modI b 1019 == 0) = false := by
  rw [modI_1019]; simp; omega
theorem blind_val {s b : Int} (hs0 : 0 ≤ s) (hs1 : s ≤ 100000) (hb0 : 1 ≤ b) (hb1 : b ≤ 1018) : blindI s b = (powGroupI (hashToGroupI 101 s) b, true) := blindI_yes (inR_yes hs0 hs1) (mod1019 hb0 hb1)
theorem blind_ne {s b : Int} (hb0 : 1 ≤ b) (hb1 : b ≤ 1018) : ¬ powGroupI (hashToGroupI 101 s) b = 1 := pg_ne_one (hg_ge _ _) (hg_ne_one _ _) (by omega)
/-- the explanation of any group element but 1 -/
theorem fits {e o : Int} (he : isGE e = true) (h1 : ¬ e = 1) (ho0 : 0 ≤ o) (ho1 : o ≤ 100000) : ∃ c : Int, 1 ≤ c ∧ c ≤ 1018 ∧ explainI e o = (c, true) ∧ blindI o c = (e, true) := by
  obtain ⟨c, c0, c1, hc⟩ := pg_gen (hg_ge 101 o) (hg_ne_one 101 o) he
  have hc0 : ¬ c = 0 := by
    intro h
    rw [h, pg_zero (hg_ge 101 o) (by rfl)] at hc
    exact h1 hc.symm
  have hd : dlogI (hashToGroupI 101 o) e = c := by rw [← hc]; exact dlogI_pg (hg_ge 101 o) (hg_ne_one 101 o) c0 c1
  refine ⟨c, by omega, by omega, ?_, ?_⟩
  · rw [explainI_yes (inR_yes ho0 ho1) (by simp [h1]) (by omega), hd]
  · rw [blind_val ho0 ho1 (by omega) (by omega), hc]
theorem explain_back {s b : Int} (hs0 : 0 ≤ s) (hs1 : s ≤ 100000) (hb0 : 1 ≤ b) (hb1 : b ≤ 1018) : explainI (powGroupI (hashToGroupI 101 s) b) s = (b, true) := by
  have hd : dlogI (hashToGroupI 101 s) (powGroupI (hashToGroupI 101 s) b) = b := dlogI_pg (hg_ge 101 s) (hg_ne_one 101 s) (by omega) (by omega)
  rw [explainI_yes (inR_yes hs0 hs1) (by simp [blind_ne hb0 hb1]) (by omega), hd]
theorem explain_one (s : Int) : explainI 1 s = (0, false) := explainI_no (.inr (.inl rfl))
end Go.Proofs.Ytlabdakpcpiihaa
