/- What slices.Grow of nil comes to, as a contract on the abstract machine. No condition. -/
import Derived.Test.YtnfoibgafmeenaaDk3
namespace Go.Proofs.Ytnfoibgafmeenaa.AM
open Go Go.RowKit
set_option cbv.warning false
set_option maxRecDepth 100000
set_option linter.unusedVariables false
set_option linter.unusedSimpArgs false
theorem Grow_nil (W0 : World) (s : Int) (n : Nat) (hs : IsN s n) (hn : n ≤ 8796093022208) (k : V → Heap → Prop) (g : Nat → Int) (hk : k (.one (.sl 0 0 0 none)) [ints true 0 g]) : ACall Try.prog W0 65 [.one .nils, .one (.int .i64 s)] [] k := by
  refine m_body tab_ok (fn := Try.f65) (by kernel_rfl) rfl ?_
  intro X hX
  cbv
  refine m_cond_f hX (by subst hX; have := hs.eq; simp [std, cmpS]; omega) ?_
  cbv
  refine m_cap tab_ok hX 0 rfl rfl rfl rfl rfl rfl (.inl ⟨rfl, rfl⟩) ?_
  cbv
  refine m_cond hX (fun h => ?_) (fun h => ?_) <;> cbv
  · refine m_cap tab_ok hX 0 rfl rfl rfl rfl rfl rfl (.inl ⟨rfl, rfl⟩) ?_
    cbv
    refine m_sliceNil tab_ok hX rfl rfl rfl rfl rfl rfl rfl ?_
    cbv
    refine m_zeros tab_ok hX n rfl rfl rfl rfl rfl rfl rfl rfl (by decide) rfl rfl ?_ ?_ ?_
    · subst hX
      have := hs.eq
      subst this
      simp [std, binS, wrap_zero]
      exact wrap_eq (by omega) (by omega)
    · exact ⟨by show n * 8 ≤ _; omega, by omega⟩
    cbv
    subst hX
    refine ⟨⟨by decide, by decide⟩, by show (0 : Int) ≤ (n : Int); omega, _, _, [some 0], ?_, rfl, rfl, ?_, hk⟩
    · simp [MH, MB]
    · simp [MV, MC, std]
  · refine ⟨_, _, [none], ?_, rfl, rfl, ?_, hk⟩
    · simp [MH]
    · simp [MV, MC]
end Go.Proofs.Ytnfoibgafmeenaa.AM
