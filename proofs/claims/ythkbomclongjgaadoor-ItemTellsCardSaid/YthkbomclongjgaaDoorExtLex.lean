/- The contract of lex.Lines (strings.Split at one line feed), out of the shelf's contract of strings.Split: it returns the text's lines, in new memory. Its one condition: the text is shorter than 4294967281 bytes, and the library's variable MaxLen holds a number. -/
import Derived.Test.YthkbomclongjgaaDoorProg
import Derived.Test.YthkbomclongjgaaDoorShelfLex
import Derived.WalkKit
import Derived.Below
import Derived.OwnWalk
import Derived.KernelRfl
import Derived.Test.YthkbomclongjgaaDoorWWords
import Derived.Test.YthkbomclongjgaaDoorWMore
import Derived.Lib.SplitLaws
import Derived.ProofKit
import Derived.Handed
import GoSem.ClaimJoined
namespace Go.Proofs.YthkbomclongjgaaDoor.ExtLex
open Go.RowKit Go.Proofs.YthkbomclongjgaaDoorW.PrintWords Go.Proofs.YthkbomclongjgaaDoorW.PrintMore
set_option linter.unusedVariables false
set_option linter.unusedSimpArgs false

/-- What is asked of the library's variables. -/
structure GL (w : World) : Prop where
  max : ∃ m, w.cell? ⟨3, 0, none⟩ = some (.int .i64 m)

theorem GL.below {w w' : World} (h : GL w) (hb : Below w.heap.size w w') : GL w' := by
  obtain ⟨m, hm⟩ := h.max
  exact ⟨m, pw_cell_below hb hm⟩

theorem R_scalars {α : Type} (enc : α → Value) (h1 : ∀ x, (enc x).oneCell' = true) (w : World) (xs : List α) (t : Nat) (hm : xs.length ≤ maxLen) :
    Kd.R (Kd.scalar enc h1) t (w.alloc (.cells (xs.map enc).toArray t)) w.heap.size (fun _ => True) (.slice (some ⟨w.heap.size, 0, none⟩) xs.length xs.length) xs := by
  refine ⟨fun _ _ => trivial, xs.map enc, ⟨by simp [Kd.scalar], .inr ⟨w.heap.size, xs.length, _, rfl, Nat.le_refl _, blk_new w _, Nat.le_refl _, hm, by simp [Kd.scalar], ?_⟩⟩, by simp [Kd.scalar], ?_⟩
  · simp only [Kd.scalar, Nat.mul_one, List.toList_toArray]
    rw [List.take_of_length_le (by simp)]
  · intro j p hj
    show ((xs.map enc).drop (j * 1)).take 1 = [enc p]
    have hlt : j < xs.length := (List.getElem?_eq_some_iff.1 hj).1
    have hp : xs[j] = p := (List.getElem?_eq_some_iff.1 hj).2
    rw [Nat.mul_one, List.drop_eq_getElem_cons (by simpa using hlt)]
    simp [hp]

def lex_Lines.f (a0 : ByteArray) : Option (List ByteArray) :=
  if a0.size < 4294967281 then some (Lib.splitB ⟨#[10]⟩ 0 (Lib.countB a0 ⟨#[10]⟩) a0) else none

theorem lex_Lines.calls (a0 : ByteArray) (r : List ByteArray) (w : World) (hG : GL w) (h : lex_Lines.f a0 = some r) :
    Calls Tryd.prog 16 #[.string a0] w fun e w' => ∃ v0_ : Value, e = .returned v0_ ∧ Kd.R Kd.string 9 w' w.heap.size (fun _ => True) v0_ r ∧ Below w.heap.size w w' := by
  unfold lex_Lines.f at h
  split at h
  · rename_i hs
    obtain rfl := Option.some.inj h
    clear h
    obtain ⟨m, hm⟩ := hG.max
    go_enter Tryd.func16, Tryd.ntmps16
    go_wp2_with (go_at_call 53; refine (Tryd.strings_Split a0 ⟨#[10]⟩ m _ hs hm (by decide)).mono ?_; rintro e w' ⟨rfl, rfl⟩)
    go_ret
    have hl := Lib.splitB_all ⟨#[10]⟩ (by decide) 0 _ a0 rfl
    rw [← hl]
    exact ⟨_, rfl, R_scalars Value.string (fun _ => rfl) w _ 9 (by rw [hl]; have := Lib.countB_le ⟨#[10]⟩ (by decide) a0.size a0 (Nat.le_refl _); unfold maxLen; omega), below_alloc (Below.refl _ _) _⟩
  · cases h

/-- The row's wrap, with the condition on the listed variables and the first world's shape handed on. -/
theorem returnsInHanded_laid_shaped {H : Type} {enc : TypeId × Value → H} {a : Assume} {C : Checked} {os : Os} {f : FuncId} {fn : Func} {s : ChangeSpec} {conds : List PathCond} {apart fresh handsOn again : Bool} {X : World → Array Value → Prop}
    (hX : ∀ (w w' : World) (args : Array Value), w.heap = w'.heap → X w args → X w' args)
    (own : ownKnob C.prog.godebug = none) (started : os.Started) (noInit : C.prog.inits.idxOf? f = none) (hfn : C.prog.funcs[f]? = some fn)
    (witness : ∃ (w : World) (tape : Tape) (i : Input), w.os = os ∧ (w.forCall tape i).Shaped C.prog ∧ i.vars = [] ∧ Input.okWide C.prog (w.forCall tape i) .any w.heap.size f i ∧
      ((s.pre enc C.prog fn conds apart (w.forCall tape i).memory i.args ∧ X (w.forCall tape i).memory i.args) ∧ sizedMet enc C.prog fn (OpenSpec.ofChange s) apart (w.forCall tape i).memory i.args) ∧ a.holds C.prog (lone (Frame.enter C.prog f i.args .normal) [] (w.forCall tape i)))
    (contract : ∀ (W : World) (base : Nat) (args : Array Value) (ds gs : List (DataW H)) (before : List MemPlace),
      (∀ (j : Nat) t v, fn.params[j]? = some t → args[j]? = some v → Value.okWide C.prog W .any base t v) →
      DataW.Whole enc C.prog fn.params.toList s.vars apart W args.toList ds gs before →
      conds.all (PathCond.test C.prog ⟨fn.params.toList, ds, s.plain.varTypes C.prog, gs⟩) = true →
      (DataW.weightsEach C.prog (fn.params.toList ++ s.plain.varTypes C.prog) (ds ++ gs)).all (· ≤ reachBytes) = true → X W args →
      W.ShapedOpen C.prog →
      a.holds C.prog (lone (Frame.enter C.prog f args .normal) [] W) →
      Calls C.prog f args W fun e W' => ∃ v, e = .returned v ∧ s.post enc C.prog fn apart fresh handsOn again W args v W') :
    ReturnsInHanded a C os f .any (fun w args => (s.pre enc C.prog fn conds apart w args ∧ X w args) ∧ sizedMet enc C.prog fn (OpenSpec.ofChange s) apart w args) (s.post enc C.prog fn apart fresh handsOn again) := by
  refine returnsInHanded_of_calls own started noInit witness ?_
  intro w tape i _ hsh _ hok hpre hholds
  obtain ⟨_, _, _, fn', hfn', _, _, _, _, hval⟩ := hok
  have e : fn' = fn := Option.some.inj (hfn'.symm.trans hfn)
  subst e
  obtain ⟨⟨⟨ds, gs, before, hw, hc⟩, hx⟩, hz⟩ := hpre
  have hw' := DataW.Whole.of_heap (w' := w.forCall tape i) (by rfl) hw
  refine (contract (w.forCall tape i) w.heap.size i.args ds gs before hval hw' hc (hz.weights hw) (hX _ _ _ (by rfl) hx) hsh hholds).mono fun e W' ⟨v, he, hp⟩ => ?_
  subst he
  exact ChangeSpec.post_blind hp

theorem GL.mk_ (W : World) {l : List (String × DataW Unit)} (_ : laidMetH Tryd.prog l W) (hsh : W.ShapedOpen Tryd.prog) : GL W :=
  ⟨(Tryd.laysM143).s1_3 W hsh⟩
end Go.Proofs.YthkbomclongjgaaDoor.ExtLex
