/- Lex returns what the reference returns: for every automaton and text the law LexerLexMatchesReference returns true, and its arguments read as before. No condition. -/
import Derived.Test.YtepjegfhlglajaaRows
import Derived.Test.YtepjegfhlglajaaQOpen
import Derived.Test.YtepjegfhlglajaaQEvalC
import Derived.Test.YtepjegfhlglajaaQF3
import Derived.WalkKit
import Derived.ProofKit
import Derived.OpenShut
import Derived.ShutString
import Derived.ChangeOld
import Derived.Below
import Derived.SizedLaws
namespace Go.Proofs.Ytepjegfhlglajaa.Q
open Go.RowKit Go.Proofs.YtepjegfhlglajaaW.PrintWords Go.Proofs.YtepjegfhlglajaaW.PrintLast Go.Proofs.YtepjegfhlglajaaW.PrintMore
theorem LexMatches_pure (c : List Int) (n : List (List Int)) (a : List Int) (s : ByteArray) (hrows : ∀ s : Int, 0 ≤ s → s < (n.length : Int) → (rd_L3 n s).length ≤ 9223372036854775807) :
    ∃ k, emendatelaw12_LexerLexMatchesReference.f k c n a s = some true := by
  refine Ev.rounds (g := fun k => emendatelaw12_LexerLexMatchesReference.f k c n a s) (behind_awake (behind_light hrows (fun hv hs => ?_) (Ev.now true)))
  refine Ev.bind (Lex_ev hv s (by omega)) (Ev.bind (rLex_ev hv s (by omega)) (Ev.bind (Same_ev rfl ?_) (Ev.now _)))
  exact lx_len c n a s (by omega)
end Go.Proofs.Ytepjegfhlglajaa.Q
namespace Go.Proofs.Ytepjegfhlglajaa.LexerLexMatchesReferenceRow
open Go.ChangeShapes Go.WideShapes Go.ChangeAt Go.RowKit Go.Proofs.Ytepjegfhlglajaa.Q
open Go.ChangeMaps (open_string shut_string)
set_option linter.unusedVariables false
theorem own : ownKnob Try.prog.godebug = none := by kernel_rfl
theorem laidOut : laidOutB Try.prog = true := by kernel_rfl
set_option maxRecDepth 100000 in
theorem lifted (os : Os) (started : os.Started) (H : Type) (enc : TypeId × Value → H) :
    ReturnsInHanded {} Try.checked os 3 .any (Rows.lexerLexMatchesReferenceSpec.pre6 enc Try.prog Try.f3 Rows.lexerLexMatchesReferenceRow.domain false) (Rows.lexerLexMatchesReferenceSpec.post enc Try.prog Try.f3 false true false false) := by
  refine returnsInHanded_of_change_sized (C := Try.checked) own started (by kernel_rfl) Try.func3
    (ChangeSpec.witness6 (enc := enc) (C := Try.checked) false ⟨#[], #[.agg #[.slice none 0 0, .slice none 0 0, .slice none 0 0], .string ByteArray.empty], []⟩ 8 (by kernel_rfl) (by kernel_rfl) (by kernel_rfl) (by kernel_rfl)) ?_
  intro W base args ds gs before hval0 hW hcnd hsz0 _
  have hsz : (DataW.weightsEach Try.prog (Try.f3.params.toList ++ Rows.lexerLexMatchesReferenceSpec.plain.varTypes Try.prog) (ds ++ gs)).all (· ≤ reachBytes) = true := hsz0
  have hval : ∀ (j : Nat) t v, Try.f3.params[j]? = some t → args[j]? = some v → Value.okWide Try.prog W .any base t v := hval0
  have hW' := hW
  obtain ⟨p, q, hA0, hV, rfl, hfz, hnd⟩ := hW
  have hA : DataW.TrodAll enc Try.prog W 0 (fun _ => true) true Try.f3.params.toList args.toList ds p := hA0
  rw [Try.params3] at hA hval hsz
  obtain ⟨v0, vs0, d0, ds0, p0, q0, hargs, rfl, rfl, h0, r0⟩ := trodAll_cons hA
  obtain ⟨v1, vs1, d1, ds1, p1, q1, rfl, rfl, rfl, h1, r1⟩ := trodAll_cons r0
  obtain ⟨rfl, rfl, rfl⟩ := trodAll_nil r1
  obtain rfl : args = #[v0, v1] := by cases args; simp_all
  obtain ⟨rfl, rfl⟩ := trodVars_none hV
  have k0 := h0
  have lt0 : ∀ x ∈ p0, x.block < W.heap.size := by obtain ⟨m, hm⟩ := k0; exact DataW.trod_lt m _ _ _ hm
  obtain ⟨A0_0, c0_0, l0_0, A0_1, c0_1, l0_1, A0_2, c0_2, l0_2, rfl, hr0_0, hc0_0, hr0_1, hc0_1, hr0_2, hc0_2⟩ := open_dfa (hval 0 25 v0 rfl rfl) h0
  obtain ⟨a1, rfl, rfl, rfl, y1⟩ := open_string Try.underlying9 (hval 1 9 v1 rfl rfl) h1
  clear hA0 hval0 hsz0 hsz
  obtain ⟨k, h⟩ := LexMatches_pure l0_0 l0_1 l0_2 a1 (rows_bound hr0_1)
  refine (emendatelaw12_LexerLexMatchesReference.calls k _ _ l0_0 _ _ l0_1 _ _ l0_2 a1 true W hr0_0 hc0_0 hr0_1 hc0_1 hr0_2 hc0_2 h).mono fun e W' ⟨he, bel⟩ => ?_
  subst he
  exact ⟨_, rfl, _, _, _, [], _, [], hW', trodAll_mk1 (shut_bool Try.underlying4 _), (trodAll_cons_mk (Below.trod laidOut (by kernel_rfl) (of_decide_eq_true (by kernel_rfl)) k0 bel lt0) (trodAll_cons_mk (shut_string Try.underlying9 y1) trodAll_mk0)), rfl, bel.frame _, fun h => by cases h⟩
theorem over : Rows.lexerLexMatchesReferenceRow.holds Try.pinned (OpenSpec.ofChange Rows.lexerLexMatchesReferenceSpec) :=
  OpenClaim.holds_of_wide 3 Try.f3 rfl rfl rfl rfl rfl rfl rfl ⟨rfl, rfl, rfl, rfl, rfl⟩ rfl rfl rfl rfl rfl (by kernel_rfl) Try.func3 (by kernel_rfl)
    (of_decide_eq_true (by kernel_rfl)) (by unfold Func.isWrapper; first | (rw [if_pos (by decide +kernel)]; kernel_rfl) | (rw [if_neg (by decide +kernel)]; exact ⟨rfl, rfl⟩))
    (fun os started H enc _ => lifted os started H enc)
theorem proved : Rows.LexerLexMatchesReferenceSaid := over
#print axioms proved
end Go.Proofs.Ytepjegfhlglajaa.LexerLexMatchesReferenceRow
namespace Go.Proofs.Ytepjegfhlglajaa
/-- The row, under a short name, for the claim. -/
theorem lexerLexMatchesReference_holds : Rows.LexerLexMatchesReferenceSaid := LexerLexMatchesReferenceRow.proved
end Go.Proofs.Ytepjegfhlglajaa
