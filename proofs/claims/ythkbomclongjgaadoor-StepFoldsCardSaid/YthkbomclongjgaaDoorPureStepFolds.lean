/- The pure statement of StepFolds: the steps one after another leave what their plain telling leaves. No condition beyond the statement's own. -/
import Derived.Test.YthkbomclongjgaaDoorPStepFoldsx2
import Derived.Test.YthkbomclongjgaaDoorPkStep
namespace Go.Proofs.YthkbomclongjgaaDoor.Pure
open Go.RowKit Go.Proofs.YthkbomclongjgaaDoor.PStepFolds Go.Proofs.YthkbomclongjgaaDoorW.PrintWords Go.Proofs.YthkbomclongjgaaDoorW.PrintLast Go.Proofs.YthkbomclongjgaaDoor.Pk Go.Proofs.YthkbomclongjgaaDoor.PkStep
set_option linter.unusedSimpArgs false
set_option linter.unusedVariables false

theorem stepFolds_alive (k : Nat) : gatherumlaw11_alive.f (k + 1) = some true := by
  unfold gatherumlaw11_alive.f
  rw [after k 4 1 1 2 false (by unfold In64; omega) (by unfold In64; omega), put_step k 2 1 true (by unfold In64; omega) (by unfold In64; omega)]
  rw [aft_ok 4 1 1 2 (by unfold In64; omega) (by unfold In64; omega)]
  simp only [Option.bind_some, mk_toList]
  kernel_rfl
/-- The steps, one after another. -/
def steps (c r : Int) : List S33 → Int × Int × Bool
  | [] => (c, r, true)
  | x :: l => if (aft c r x.f0 x.f1).2.2 = true then steps (aft c r x.f0 x.f1).1 (aft c r x.f0 x.f1).2.1 l else (0, 0, false)
theorem rd_at (p : List S33) (x : S33) (l : List S33) (i : Int) (h : i = p.length) : rd_T33 (p ++ x :: l) i = x := by
  subst h; simp [rd_T33]
theorem aft_in {c r s n : Int} (hc : In64 c) (hr : In64 r) (h1 : 1 ≤ c) (h2 : 1 ≤ r) (h : (aft c r s n).2.2 = true) :
    In64 (aft c r s n).1 ∧ In64 (aft c r s n).2.1 ∧ 1 ≤ (aft c r s n).1 ∧ 1 ≤ (aft c r s n).2.1 := by
  rw [aft_ok c r s n hc hr] at h ⊢
  unfold In64 at *
  by_cases q : okStep s n = true ∧ 1 ≤ c ∧ 1 ≤ r ∧ (s ≤ 2 ∧ 2 * n ≤ c ∨ 2 < s ∧ 2 * n ≤ r)
  · rw [if_pos q]
    obtain ⟨ho, q⟩ := q
    unfold okStep at ho
    simp only [decide_eq_true_eq] at ho
    split <;> (simp only []; omega)
  · rw [if_neg q] at h; simp at h
theorem all_loop (l : List S33) : ∀ (p t : List S33) (c r : Int), l = p ++ t → l.length ≤ 1000 → (∀ x ∈ l, ok33 x) →
    Ev (fun k => step_All.l0 k c r l true p.length) (steps c r t) := by
  intro p t
  induction t generalizing p with
  | nil =>
    intro c r e hl hx
    refine ev_end (fun k => ?_)
    simp only [step_All.l0, if_true]
    rw [if_neg (by subst e; simp)]; rfl
  | cons x t ih =>
    intro c r e hl hx
    have hxx := hx x (by subst e; simp)
    obtain ⟨w2, w3, _⟩ := hxx
    have hs := wf_i64 w2
    have hn := wf_i64 w3
    have hlen : (p.length : Int) < (l.length : Int) := by subst e; simp <;> omega
    have hw : wrap64 ((p.length : Int) + 1) = ((p ++ [x]).length : Int) := by rw [wr (by omega) (by omega)]; simp
    have hrd : rd_T33 l p.length = x := by rw [e]; exact rd_at p x t _ rfl
    have e2 : l = (p ++ [x]) ++ t := by rw [e]; simp
    cases ho : (aft c r x.f0 x.f1).2.2 with
    | true =>
      have h2 := ih (p ++ [x]) (aft c r x.f0 x.f1).1 (aft c r x.f0 x.f1).2.1 e2 hl hx
      obtain ⟨K, h2⟩ := h2
      refine ⟨K + 2, fun n hn2 => ?_⟩
      obtain ⟨m, rfl⟩ : ∃ m, n = m + 2 := ⟨n - 2, by omega⟩
      have h3 := h2 (m + 1) (by omega)
      simp only [step_All.l0, if_true]
      rw [if_pos hlen, if_pos (by omega), hrd, after m c r x.f0 x.f1 x.f2 hs hn]
      simp only [Option.bind_some]
      rw [ho, hw]
      simp only [steps]
      rw [if_pos ho]
      exact h3
    | false =>
      refine ⟨2, fun n hn2 => ?_⟩
      obtain ⟨m, rfl⟩ : ∃ m, n = m + 2 := ⟨n - 2, by omega⟩
      simp only [step_All.l0, if_true]
      rw [if_pos hlen, if_pos (by omega), hrd, after m c r x.f0 x.f1 x.f2 hs hn]
      simp only [Option.bind_some]
      rw [ho]
      simp [step_All.l0, steps, ho]
theorem ref_loop (l : List S33) : ∀ (p t : List S33) (c r : Int), l = p ++ t → l.length ≤ 1000 → (∀ x ∈ l, ok33 x) → In64 c → In64 r → 1 ≤ c → 1 ≤ r →
    Ev (fun k => gatherumref11_After.l0 k c r l p.length) (steps c r t) := by
  intro p t
  induction t generalizing p with
  | nil =>
    intro c r e hl hx hc hr c1 r1
    refine ev_end (fun k => ?_)
    simp only [gatherumref11_After.l0]
    rw [if_neg (by subst e; simp)]; rfl
  | cons x t ih =>
    intro c r e hl hx hc hr c1 r1
    have hxx := hx x (by subst e; simp)
    obtain ⟨w2, w3, _⟩ := hxx
    have hs := wf_i64 w2
    have hn := wf_i64 w3
    have hlen : (p.length : Int) < (l.length : Int) := by subst e; simp <;> omega
    have hw : wrap64 ((p.length : Int) + 1) = ((p ++ [x]).length : Int) := by rw [wr (by omega) (by omega)]; simp
    have hrd : rd_T33 l p.length = x := by rw [e]; exact rd_at p x t _ rfl
    have e2 : l = (p ++ [x]) ++ t := by rw [e]; simp
    have hin : gatherumref11_Right.f x.f0 x.f1 x.f2 = some (okStep x.f0 x.f1) := by
      unfold gatherumref11_Right.f gatherumref01_In.f okStep
      by_cases q : x.f0 ≥ 1
      · rw [if_pos q]
        by_cases q2 : x.f0 ≤ 4
        · by_cases q3 : x.f1 ≥ 1
          · simp [q, q2, q3] <;> omega
          · simp [q, q2, q3] <;> omega
        · simp [q, q2] <;> omega
      · simp [q] <;> omega
    have ha := aft_ok c r x.f0 x.f1 hc hr
    unfold In64 at hc hr
    cases ho : okStep x.f0 x.f1 with
    | false =>
      refine ev_end (fun k => ?_)
      simp only [gatherumref11_After.l0]
      rw [if_pos hlen, if_pos (by omega), hrd, hin, ho]
      rw [ho] at ha
      simp [steps, ha]
    | true =>
      have ho' := ho
      unfold okStep at ho'
      simp only [decide_eq_true_eq] at ho'
      rw [ho] at ha
      by_cases q : x.f0 ≤ 2
      · rw [if_pos q] at ha
        by_cases q2 : 2 * x.f1 ≤ c
        · rw [if_pos ⟨rfl, c1, r1, by omega⟩] at ha
          refine ev_step (ih (p ++ [x]) (c - x.f1) r e2 hl hx (by unfold In64; omega) hr (by omega) r1) (fun k h => ?_)
          simp only [gatherumref11_After.l0]
          rw [if_pos hlen, if_pos (by omega), hrd, hin, ho]
          simp only [Option.bind_some, if_true]
          rw [if_pos q, wr (by omega) (by omega), if_neg (by omega), hw, h]
          simp [steps, ha]
        · rw [if_neg (by omega)] at ha
          refine ev_end (fun k => ?_)
          simp only [gatherumref11_After.l0]
          rw [if_pos hlen, if_pos (by omega), hrd, hin, ho]
          simp only [Option.bind_some, if_true]
          rw [if_pos q, wr (by omega) (by omega), if_pos (by omega)]
          simp [steps, ha]
      · rw [if_neg q] at ha
        by_cases q2 : 2 * x.f1 ≤ r
        · rw [if_pos ⟨rfl, c1, r1, by omega⟩] at ha
          refine ev_step (ih (p ++ [x]) c (r - x.f1) e2 hl hx hc (by unfold In64; omega) c1 (by omega)) (fun k h => ?_)
          simp only [gatherumref11_After.l0]
          rw [if_pos hlen, if_pos (by omega), hrd, hin, ho]
          simp only [Option.bind_some, if_true]
          rw [if_neg q, wr (by omega) (by omega), if_neg (by omega), hw, h]
          simp [steps, ha]
        · rw [if_neg (by omega)] at ha
          refine ev_end (fun k => ?_)
          simp only [gatherumref11_After.l0]
          rw [if_pos hlen, if_pos (by omega), hrd, hin, ho]
          simp only [Option.bind_some, if_true]
          rw [if_neg q, wr (by omega) (by omega), if_pos (by omega)]
          simp [steps, ha]
/-- What all the steps leave. -/
def allSteps (c r : Int) (l : List S33) : Int × Int × Bool := if 1 ≤ c ∧ 1 ≤ r then steps c r l else (0, 0, false)
theorem all_steps (c r : Int) (l : List S33) (hl : l.length ≤ 1000) (hx : ∀ x ∈ l, ok33 x) : Ev (fun k => step_All.f k c r l) (allSteps c r l) := by
  unfold allSteps
  by_cases h : 1 ≤ c ∧ 1 ≤ r
  · rw [if_pos h]
    refine ev_step (all_loop l [] l c r rfl hl hx) (fun k h2 => ?_)
    simp only [step_All.f]
    rw [if_pos h.1, decide_eq_true h.2]
    exact h2
  · rw [if_neg h]
    refine ⟨2, fun n hn => ?_⟩
    obtain ⟨m, rfl⟩ : ∃ m, n = m + 2 := ⟨n - 2, by omega⟩
    simp only [step_All.f]
    by_cases h1 : c ≥ 1
    · rw [if_pos h1, decide_eq_false (by omega)]; simp [step_All.j0, step_All.l0]
    · rw [if_neg h1]; simp [step_All.j0, step_All.l0]
theorem ref_steps (c r : Int) (l : List S33) (hl : l.length ≤ 1000) (hx : ∀ x ∈ l, ok33 x) (hc : In64 c) (hr : In64 r) : Ev (fun k => gatherumref11_After.f k c r l) (allSteps c r l) := by
  unfold allSteps
  by_cases h : 1 ≤ c ∧ 1 ≤ r
  · rw [if_pos h]
    refine ev_step (ref_loop l [] l c r rfl hl hx hc hr h.1 h.2) (fun k h2 => ?_)
    simp only [gatherumref11_After.f]
    rw [if_neg (by omega), decide_eq_false (by omega)]
    exact h2
  · rw [if_neg h]
    refine ev_end (fun m => ?_)
    simp only [gatherumref11_After.f]
    by_cases h1 : c < 1
    · rw [if_pos h1]; simp [gatherumref11_After.j0]
    · rw [if_neg h1, decide_eq_true (by omega)]; simp [gatherumref11_After.j0]

theorem StepFolds : gatherumlaw11_StepFolds.Pure := by
  intro c r l w0 w1 ⟨_, _, hx⟩
  have hc := wf_i64 w0
  have hr := wf_i64 w1
  by_cases hl : (l.length : Int) > 100
  · refine ⟨1, ?_⟩
    unfold gatherumlaw11_StepFolds.f
    rw [stepFolds_alive]
    simp only [Option.bind_some, if_true, if_pos hl]
  · have hl2 : l.length ≤ 1000 := by omega
    obtain ⟨K, hA⟩ := all_steps c r l hl2 hx
    obtain ⟨M, hB⟩ := ref_steps c r l hl2 hx hc hr
    refine ⟨K + M + 2, ?_⟩
    unfold gatherumlaw11_StepFolds.f
    rw [stepFolds_alive]
    simp only [Option.bind_some, if_true, if_neg hl]
    rw [show step_All.f (K + M + 2) c r l = _ from hA _ (by omega), show gatherumref11_After.f (K + M + 2) c r l = _ from hB _ (by omega)]
    simp only [Option.bind_some, if_true]
    rw [show K + M + 2 = (K + M + 1) + 1 from rfl]
    simp only [gatherumlaw11_StepFolds.j0, bne_self_eq_false, Bool.false_eq_true, if_false]
    by_cases h1 : (l.length : Int) = 1
    · rw [if_pos h1, if_pos (by omega)]
      match l, h1, hx with
      | [x], _, hx =>
        obtain ⟨w2, w3, _⟩ := hx x (by simp)
        rw [show rd_T33 [x] 0 = x from rfl, after (K + M) c r x.f0 x.f1 x.f2 (wf_i64 w2) (wf_i64 w3)]
        simp only [Option.bind_some]
        have ha := aft_ok c r x.f0 x.f1 hc hr
        have e : allSteps c r [x] = aft c r x.f0 x.f1 := by
          unfold allSteps
          by_cases h : 1 ≤ c ∧ 1 ≤ r
          · rw [if_pos h]
            simp only [steps]
            by_cases q : (aft c r x.f0 x.f1).2.2 = true
            · rw [if_pos q]
              rw [← q]
            · rw [if_neg q]
              rw [ha] at q ⊢
              split
              · rename_i z; rw [if_pos z] at q; split at q <;> simp at q
              · rfl
          · rw [if_neg h, ha, if_neg (fun q => h ⟨q.2.1, q.2.2.1⟩)]
        rw [e]; simp
    · rw [if_neg h1]
end Go.Proofs.YthkbomclongjgaaDoor.Pure
