/- The guards of the relex laws. The size of the text is the condition, told in each law. -/
import Derived.Test.YtepjegfhlglajaaKQRelex
import Derived.Test.YtepjegfhlglajaaKQAwake
import Derived.Test.YtepjegfhlglajaaKQF23
import Derived.Test.YtepjegfhlglajaaKQF27
import Derived.OpenShut
namespace Go.Proofs.Ytepjegfhlglajaa.Q
set_option linter.unusedVariables false
open Go.RowKit Go.Proofs.YtepjegfhlglajaaW.PrintWords Go.Proofs.YtepjegfhlglajaaW.PrintLast Go.Proofs.YtepjegfhlglajaaW.PrintMore
section
variable {c : List Int} {n : List (List Int)} {a : List Int}
theorem small_ev (hrows : ∀ s : Int, 0 ≤ s → s < (n.length : Int) → (rd_L3 n s).length ≤ 9223372036854775807) : EvB (fun k => emendateref10_Small.f k c n a 40 20) (VD c n a) := by
  obtain ⟨b, h1, h2⟩ := Valid_ev c n a hrows
  cases b with
  | false => exact ⟨false, Ev.bind h1 (Ev.congr (fun k => if_neg (by simp)) (Ev.now _)), by simp⟩
  | true =>
    have hv := (h2 rfl).1
    have hn : 0 < n.length := hv.2.1
    by_cases h3 : (n.length : Int) ≤ 40
    · refine ⟨decide (((rd_L3 n 0).length : Int) ≤ 20), Ev.bind h1 (Ev.congr (fun k => ?_) (Ev.now _)), fun _ => hv⟩
      rw [if_pos rfl, if_pos h3, if_pos (show (0 : Int) < (n.length : Int) from Int.ofNat_lt.2 hn)]
    · refine ⟨false, Ev.bind h1 (Ev.congr (fun k => ?_) (Ev.now _)), by simp⟩
      rw [if_pos rfl, if_neg h3]
theorem may_ev (hrows : ∀ s : Int, 0 ≤ s → s < (n.length : Int) → (rd_L3 n s).length ≤ 9223372036854775807) (s : ByteArray) (x y : Int) (I : ByteArray) : EvB (fun k => emendatelaw13_may.f k c n a s x y I) (VD c n a ∧ s.size ≤ 100 ∧ I.size ≤ 30) := by
  obtain ⟨b, h1, h2⟩ := small_ev (c := c) (a := a) hrows
  cases b with
  | false => exact ⟨false, Ev.bind h1 (Ev.congr (fun k => if_neg (by simp)) (Ev.now _)), by simp⟩
  | true =>
    have hv := h2 rfl
    by_cases h3 : (s.size : Int) ≤ 100
    · refine ⟨decide ((I.size : Int) ≤ 30), Ev.bind h1 (Ev.congr (fun k => ?_) (Ev.now _)), fun h => ⟨hv, by omega, by have := of_decide_eq_true h; omega⟩⟩
      rw [if_pos rfl, if_pos h3]
    · refine ⟨false, Ev.bind h1 (Ev.congr (fun k => ?_) (Ev.now _)), by simp⟩
      rw [if_pos rfl, if_neg h3]
theorem awake_some : Ev (fun k => (emendatelaw13_awake.f k).bind fun t => some t) true := Ev.bind awake13_ev (Ev.now _)
theorem behind_awake13 {g : Nat → Option Bool} {r : Bool} (h : Ev g r) : Ev (fun k => (emendatelaw13_awake.f k).bind fun t => if t = true then g k else some false) r :=
  Ev.bind awake13_ev (Ev.congr (fun k => if_pos rfl) h)
theorem rLexs_ev (hv : VD c n a) (s : ByteArray) (hs : s.size ≤ 3000) : Ev (fun k => emendateref12_Lex.f k c n a s) (lxs c n a s) := rLex_ev hv s (by omega)
theorem fits_nat {sz : Nat} {x y : Int} (h : fitsP sz x y) : ∃ A D : Nat, x = A ∧ y = D ∧ A + D ≤ sz := by
  obtain ⟨h1, h2, h3, h4⟩ := h
  obtain ⟨A, rfl⟩ := Int.eq_ofNat_of_zero_le h1
  obtain ⟨D, rfl⟩ := Int.eq_ofNat_of_zero_le h2
  exact ⟨A, D, rfl, rfl, by omega⟩
/-- The reference's Update, where the edit fits. -/
theorem rUpdate_ev (hv : VD c n a) (s I : ByteArray) (A D : Nat) (hs : s.size ≤ 1000) (hI : I.size ≤ 500) (hAD : A + D ≤ s.size) {fr i j p q : Nat} (U : Upd c n a s (edt s A D I) A D I.size fr i j p q) (hp : Ev (fun k => emendateref13_prefix.f k (lxs c n a s) (A : Int)) (fr : Int)) :
    Ev (fun k => emendateref13_Update.f k c n a (lxs c n a s) (A : Int) (D : Int) I) (lxs c n a (edt s A D I), (fr : Int), (j : Int) - fr, (i : Int) - fr, 0) := by
  have hsz := edt_size s A D I hAD
  have happ := (apply_f s (by omega) A D I (by omega) hAD).2
  have hl := rup_l0 rfl hs hI hAD hsz U (i - fr) fr (Nat.le_refl _) (Nat.le_refl _) U.fi
  refine Ev.congr (fun k => ?_) (Ev.bind (text13_ev (c := c) (n := n) (a := a) s (by omega)) (f := fun k t524 => ((emendateref01_Replace.f t524 (A : Int) (D : Int) I).bind fun bt525 => (if bt525.2 = 0 then ((emendateref12_Lex.f k c n a bt525.1).bind fun t527 => ((emendateref13_prefix.f k (lxs c n a s) (A : Int)).bind fun t530 => (emendateref13_Update.l0 k (lxs c n a s) t524 bt525.1 t527 (wrap64 ((I.size : Int) - (D : Int))) t530 (A : Int) (D : Int) I t530 0 0))) else (some (([] : List (S32)), 0, 0, 0, bt525.2))))) ?_)
  · rfl
  · refine Ev.congr (fun k => ?_) (Ev.bind (rLexs_ev hv (edt s A D I) (by omega)) (f := fun k t527 => ((emendateref13_prefix.f k (lxs c n a s) (A : Int)).bind fun t530 => (emendateref13_Update.l0 k (lxs c n a s) s (edt s A D I) t527 (wrap64 ((I.size : Int) - (D : Int))) t530 (A : Int) (D : Int) I t530 0 0))) (Ev.bind hp ?_))
    · rw [happ]; rfl
    · refine Ev.congr (fun k => ?_) hl
      rw [wr ((I.size : Int) - (D : Int)) (by omega) (by omega)]
theorem rUpdate_no (s I : ByteArray) (x y : Int) (hs : s.size ≤ 1000) (h : ¬ fitsP s.size x y) :
    Ev (fun k => emendateref13_Update.f k c n a (lxs c n a s) x y I) ([], 0, 0, 0, 2) := by
  have happ := (apply_no s (by omega) x y I h).2
  refine Ev.congr (fun k => ?_) (Ev.bind (text13_ev (c := c) (n := n) (a := a) s (by omega)) (f := fun k t524 => ((emendateref01_Replace.f t524 x y I).bind fun bt525 => (if bt525.2 = 0 then ((emendateref12_Lex.f k c n a bt525.1).bind fun t527 => ((emendateref13_prefix.f k (lxs c n a s) x).bind fun t530 => (emendateref13_Update.l0 k (lxs c n a s) t524 bt525.1 t527 (wrap64 ((I.size : Int) - y)) t530 x y I t530 0 0))) else (some (([] : List (S32)), 0, 0, 0, bt525.2))))) ?_)
  · rfl
  · refine Ev.congr (fun k => ?_) (Ev.now _)
    rw [happ]
    rfl
end
end Go.Proofs.Ytepjegfhlglajaa.Q
