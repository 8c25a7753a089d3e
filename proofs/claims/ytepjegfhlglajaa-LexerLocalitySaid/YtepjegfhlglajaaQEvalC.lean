/- The examples of the document hold (awake), and a light input has a valid automaton and a short text. No condition. -/
import Derived.Test.YtepjegfhlglajaaQEvalB
import Derived.Test.YtepjegfhlglajaaQF16
import Derived.Test.YtepjegfhlglajaaQF17
namespace Go.Proofs.Ytepjegfhlglajaa.Q
set_option linter.unusedVariables false
open Go.RowKit Go.Proofs.YtepjegfhlglajaaW.PrintWords Go.Proofs.YtepjegfhlglajaaW.PrintLast Go.Proofs.YtepjegfhlglajaaW.PrintMore

theorem light_ev (c : List Int) (n : List (List Int)) (a : List Int) (s : ByteArray) (hrows : ∀ s : Int, 0 ≤ s → s < (n.length : Int) → (rd_L3 n s).length ≤ 9223372036854775807) :
    EvB (fun k => emendatelaw12_light.f k c n a s) (VD c n a ∧ s.size ≤ 60) := by
  by_cases h1 : (n.length : Int) ≤ 60
  · by_cases h2 : (s.size : Int) ≤ 60
    · refine EvB.congr (f := fun k => emendateref10_Valid.f k c n a) (fun k => ?_) ((Valid_ev c n a hrows).imp fun h => ⟨h.1, by omega⟩)
      simp only [emendatelaw12_light.f]
      rw [if_pos h1, if_pos h2]
      cases emendateref10_Valid.f k c n a <;> rfl
    · exact EvB.congr (fun k => by simp only [emendatelaw12_light.f]; rw [if_pos h1, if_neg h2]) (EvB.no _)
  · exact EvB.congr (fun k => by simp only [emendatelaw12_light.f]; rw [if_neg h1]) (EvB.no _)

def exC : List Int := (((List.replicate 256 0 : List Int).set 97 1).set 98 2)
def exN : List (List Int) := [[-1, 1, -1], [-1, 2, 3], [-1, 2, -1], [-1, -1, -1]]
def exA : List Int := [-1, 0, 0, 1]
theorem ex_f : emendatelaw12_example.f = some (exC, exN, exA) := by kernel_rfl
theorem vd_of_nat {c : List Int} {n : List (List Int)} {a : List Int} (h0 : c.length = 256) (h1 : 1 ≤ n.length) (h2 : a.length = n.length)
    (h3 : ∀ b : Nat, b < 256 → 0 ≤ rd c (b : Int) ∧ rd c (b : Int) < ((rd_L3 n 0).length : Int))
    (h4 : ∀ s : Nat, s < n.length → (rd_L3 n (s : Int)).length = (rd_L3 n 0).length ∧ -1 ≤ rd a (s : Int) ∧ ∀ k : Nat, k < (rd_L3 n 0).length → -1 ≤ rd (rd_L3 n (s : Int)) (k : Int) ∧ rd (rd_L3 n (s : Int)) (k : Int) < (n.length : Int)) : VD c n a := by
  refine ⟨h0, h1, h2, fun b b0 b1 => ?_, fun s s0 s1 => ?_⟩
  · obtain ⟨b, rfl⟩ := Int.eq_ofNat_of_zero_le b0
    exact h3 b (by omega)
  · obtain ⟨s, rfl⟩ := Int.eq_ofNat_of_zero_le s0
    obtain ⟨r1, r2, r3⟩ := h4 s (by omega)
    refine ⟨r1, r2, fun k k0 k1 => ?_⟩
    obtain ⟨k, rfl⟩ := Int.eq_ofNat_of_zero_le k0
    exact r3 k (by omega)
theorem ex_vd : VD exC exN exA := vd_of_nat (by decide +kernel) (by decide) (by decide) (by decide +kernel) (by decide +kernel)
theorem ex_lx1 : lx exC exN exA [97, 97, 97, 98, 120] 0 = [⟨0, 0, [97, 97, 97], 4⟩, ⟨-1, 3, [98], 1⟩, ⟨-1, 4, [120], 1⟩] := by decide +kernel
theorem ex_lx2 : lx exC exN exA [97, 98] 0 = [⟨1, 0, [97, 98], 3⟩] := by decide +kernel

theorem awake_ev : Ev (fun k => emendatelaw12_awake.f k) true := by
  have l1 := Lex_ev ex_vd ⟨#[97, 97, 97, 98, 120]⟩ (by decide)
  have l2 := Lex_ev ex_vd ⟨#[97, 98]⟩ (by decide)
  rw [show L (⟨#[97, 97, 97, 98, 120]⟩ : ByteArray) = [97, 97, 97, 98, 120] from rfl, ex_lx1] at l1
  rw [show L (⟨#[97, 98]⟩ : ByteArray) = [97, 98] from rfl, ex_lx2] at l2
  have q1 : Ev (fun k => emendateref12_Same.f k (List.map Tk.s [⟨0, 0, [97, 97, 97], 4⟩, ⟨-1, 3, [98], 1⟩, ⟨-1, 4, [120], 1⟩]) ([(⟨0, 0, (⟨#[97, 97, 97]⟩ : ByteArray), 4⟩ : S32), (⟨(-1), 3, (⟨#[98]⟩ : ByteArray), 1⟩ : S32), (⟨(-1), 4, (⟨#[120]⟩ : ByteArray), 1⟩ : S32)] : List (S32))) true := Same_ev rfl (by decide)
  have q2 : Ev (fun k => emendateref12_Same.f k (List.map Tk.s [⟨1, 0, [97, 98], 3⟩]) ([(⟨1, 0, (⟨#[97, 98]⟩ : ByteArray), 3⟩ : S32)] : List (S32))) true := Same_ev rfl (by decide)
  have q3 := Text_ev (List.map Tk.s [⟨0, 0, [97, 97, 97], 4⟩, ⟨-1, 3, [98], 1⟩, ⟨-1, 4, [120], 1⟩]) (by decide) (by decide)
  refine Ev.congr (f := fun k => (lexer_Lex.f k exC exN exA (⟨#[97, 97, 97, 98, 120]⟩ : ByteArray)).bind fun t155 => ((lexer_Lex.f k exC exN exA (⟨#[97, 98]⟩ : ByteArray)).bind fun t167 => ((emendateref12_Same.f k t155 (([(⟨0, 0, (⟨#[97, 97, 97]⟩ : ByteArray), 4⟩ : S32), (⟨(-1), 3, (⟨#[98]⟩ : ByteArray), 1⟩ : S32), (⟨(-1), 4, (⟨#[120]⟩ : ByteArray), 1⟩ : S32)] : List (S32)))).bind fun t173 => (if t173 = true then ((emendateref12_Same.f k t167 (([(⟨1, 0, (⟨#[97, 98]⟩ : ByteArray), 3⟩ : S32)] : List (S32)))).bind fun t177 => (if t177 = true then ((lexer_Text.f k t155).bind fun t178 => (some (t178.toList == ([97, 97, 97, 98, 120] : List UInt8)))) else (some false))) else (some false))))) (fun k => ?_) ?_
  · simp only [emendatelaw12_awake.f, ex_f, Option.bind_some]
  · refine Ev.bind l1 (Ev.bind l2 (Ev.bind q1 ?_))
    refine Ev.congr (fun k => if_pos rfl) (Ev.bind q2 ?_)
    refine Ev.congr (fun k => if_pos rfl) (Ev.bind q3 ?_)
    have e : ((S (cat (List.map Tk.s [⟨0, 0, [97, 97, 97], 4⟩, ⟨-1, 3, [98], 1⟩, ⟨-1, 4, [120], 1⟩]))).toList == ([97, 97, 97, 98, 120] : List UInt8)) = true := by
      rw [ByteArray.toList_eq]; decide
    exact Ev.congr (fun k => by rw [e]) (Ev.now true)

/-- Behind awake. -/
theorem behind_awake {g : Nat → Option Bool} {r : Bool} (h : Ev g r) : Ev (fun k => (emendatelaw12_awake.f k).bind fun t => if t = true then g k else some false) r :=
  Ev.bind awake_ev (Ev.congr (fun k => if_pos rfl) h)
/-- Behind light: where the input is not light, true; else what follows from its being light. -/
theorem behind_light {c : List Int} {n : List (List Int)} {a : List Int} {s : ByteArray} (hrows : ∀ s : Int, 0 ≤ s → s < (n.length : Int) → (rd_L3 n s).length ≤ 9223372036854775807)
    {g h : Nat → Option Bool} (hg : VD c n a → s.size ≤ 60 → Ev g true) (hh : Ev h true) : Ev (fun k => (emendatelaw12_light.f k c n a s).bind fun t => if t = true then g k else h k) true := by
  obtain ⟨b, h1, h2⟩ := light_ev c n a s hrows
  refine Ev.bind h1 ?_
  cases b with
  | true => exact Ev.congr (fun k => if_pos rfl) (hg (h2 rfl).1 (h2 rfl).2)
  | false => exact Ev.congr (fun k => if_neg (by simp)) hh
end Go.Proofs.Ytepjegfhlglajaa.Q
