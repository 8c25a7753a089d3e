/- The other arguments opened: lists of tokens and of edits, a lexical specification, an automaton with a text and an edit, a pair of bytes. No condition. -/
import Derived.Test.YtepjegfhlglajaaMQOpen
namespace Go.Proofs.Ytepjegfhlglajaa.Q
set_option linter.unusedVariables false
open Go.WideShapes Go.ChangeShapes Go.RowKit Go.Proofs.YtepjegfhlglajaaW.PrintWords Go.Proofs.YtepjegfhlglajaaW.PrintLast Go.Proofs.YtepjegfhlglajaaW.PrintMore
theorem Opn.imp {α : Type} {P : Program} {t : TypeId} {d : Kd α} {ok ok' : α → Prop} (h : Opn P t d ok) (hi : ∀ y, ok y → ok' y) : Opn P t d ok' := by
  intro H enc w base spare held fuel cs x hx
  obtain ⟨y, hK, hok⟩ := h enc w base spare held fuel cs x hx
  exact ⟨y, hK, fun hw => hi y (hok hw)⟩
/-- An edit whose numbers are whole numbers of 64 bits and whose text is within the reach. -/
def EditOk (x : S45) : Prop := (Lit.int .i64 x.f0).wf = true ∧ (Lit.int .i64 x.f1).wf = true ∧ x.f2.size ≤ 140737488351232
theorem opn_edit : Opn Try.prog 45 k45 EditOk :=
  opn_iso (fun x : S45 => (x.f0, x.f1, x.f2)) (fun y => ⟨y.1, y.2.1, y.2.2⟩) (fun _ => rfl)
    (opn_struct (L := 3) Try.underlying45 (by kernel_rfl) (opnfs_cons (L := 3) (opn_int Try.underlying3) rfl (by kernel_rfl) (opnfs_cons (L := 3) (opn_int Try.underlying3) rfl (by kernel_rfl) (opnfs_last (L := 3) (opn_string Try.underlying9) rfl (by kernel_rfl) rfl) rfl) rfl))
def kAsk : Kd (DFA × ByteArray × S45) := Kd.pair kDFA (Kd.pair Kd.string k45)
theorem opn_ask : Opn Try.prog 48 kAsk (fun y => y.2.1.size ≤ 140737488351232 ∧ EditOk y.2.2) :=
  Opn.imp (opn_struct (L := 7) Try.underlying48 (by kernel_rfl) (opnfs_cons (L := 7) opn_dfa rfl (by kernel_rfl) (opnfs_cons (L := 7) (opn_string Try.underlying9) rfl (by kernel_rfl) (opnfs_last (L := 7) opn_edit rfl (by kernel_rfl) rfl) rfl) rfl)) (fun y h => h.2)
theorem open_ask {H : Type} {enc : TypeId × Value → H} {w : World} {base b0 : Nat} {r : Reach} {spare : Nat → Bool} {held : Bool} {v : Value} {x : DataW H} {ps : List MemPlace} (hv : Value.okWide Try.prog w r b0 48 v) (ht : DataW.Trod enc Try.prog w base spare held 48 v x ps) :
    ∃ (A0 : Option Addr) (c0 : Nat) (l0 : List Int) (A1 : Option Addr) (c1 : Nat) (l1 : List (List Int)) (A2 : Option Addr) (c2 : Nat) (l2 : List Int) (a3 : ByteArray) (a4 a5 : Int) (a6 : ByteArray), v = .agg #[.slice A0 l0.length c0, .slice A1 l1.length c1, .slice A2 l2.length c2, .string a3, .int .i64 a4, .int .i64 a5, .string a6] ∧
      Kd.C (Kd.int .i64) w A0 l0.length l0 ∧ l0.length ≤ c0 ∧ Kd.C (Kd.slice 3 (Kd.int .i64)) w A1 l1.length l1 ∧ l1.length ≤ c1 ∧ Kd.C (Kd.int .i64) w A2 l2.length l2 ∧ l2.length ≤ c2 ∧
      ((∀ n ∈ x.weights Try.prog 48, n ≤ reachBytes) → a3.size ≤ 140737488351232 ∧ EditOk ⟨a4, a5, a6⟩) := by
  obtain ⟨cs, rfl, hsz⟩ := okWide_struct Try.underlying48 hv
  obtain ⟨⟨⟨l0, l1, l2⟩, a3, ⟨a4, a5, a6⟩⟩, ⟨_, _, e, ⟨_, _, rfl, ⟨A0, c0, rfl, h0, r0⟩, ⟨_, _, rfl, ⟨A1, c1, rfl, h1, r1⟩, ⟨A2, c2, rfl, h2, r2⟩⟩⟩, ⟨_, _, rfl, rfl, ⟨_, _, rfl, rfl, ⟨_, _, rfl, rfl, rfl⟩⟩⟩⟩, hok⟩ := opn_ask.arg ht
  refine ⟨A0, c0, l0, A1, c1, l1, A2, c2, l2, a3, a4, a5, a6, ?_, r0, h0, r1, h1, r2, h2, hok⟩
  have e2 : cs.toList = [.slice A0 l0.length c0, .slice A1 l1.length c1, .slice A2 l2.length c2, .string a3, .int .i64 a4, .int .i64 a5, .string a6] := e
  have e3 : cs = #[.slice A0 l0.length c0, .slice A1 l1.length c1, .slice A2 l2.length c2, .string a3, .int .i64 a4, .int .i64 a5, .string a6] := by
    cases cs; simpa using e2
  rw [e3]
end Go.Proofs.Ytepjegfhlglajaa.Q
