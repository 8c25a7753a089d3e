/- An index is that of its text, as far as lines and offsets show; and what an edit does to an index. No condition. -/
import Derived.Test.YtbdfeckgffmgpaaQEval
import Derived.Test.YtbdfeckgffmgpaaQF14
import Derived.Test.YtbdfeckgffmgpaaQF20
import Derived.Test.YtbdfeckgffmgpaaQF21
namespace Go.Proofs.Ytbdfeckgffmgpaa.Q
set_option linter.unusedVariables false
open Go.RowKit Go.Proofs.YtbdfeckgffmgpaaW.PrintWords Go.Proofs.YtbdfeckgffmgpaaW.PrintLast Go.Proofs.YtbdfeckgffmgpaaW.PrintMore

theorem same_l1 (s : ByteArray) (hs : s.size ≤ 1000000) : ∀ (m i : Nat), s.size + 1 - i ≤ m → Ev (fun k => emendatelaw04_same.l1 k s i s (I (st (L s)))) true := by
  have hend : ∀ i : Nat, s.size < i → Ev (fun k => emendatelaw04_same.l1 k s i s (I (st (L s)))) true := by
    intro i h
    refine Ev.step (f := fun _ => some true) (fun k => ?_) (Ev.now _)
    simp only [emendatelaw04_same.l1]
    rw [if_neg (by omega), wrap_id (by omega) (by omega), Position_out s _ (.inr (by omega))]
    rfl
  intro m
  induction m with
  | zero => intro i h; exact hend i (by omega)
  | succ m ih =>
    intro i h
    by_cases hi : s.size < i
    · exact hend i hi
    · have hnext := ih (i + 1) (by omega)
      have hw : wrap64 ((i : Int) + 1) = ((i + 1 : Nat) : Int) := by rw [wrap_id (by omega) (by omega)]; norm_cast
      refine Ev.step (f := fun k => (emendateref04_Position.f k s i).bind fun bt196 => (if (0 : Int) = bt196.2.2 then (if (!((cn (L s) i : Int) == bt196.1) || (!(((i - frm (L s) (cn (L s) i) : Nat) : Int) == bt196.2.1))) = true then (some false) else (emendatelaw04_same.l1 k s ((i + 1 : Nat) : Int) s (I (st (L s))))) else (some false))) (fun k => ?_) (Ev.bind (rPosition_ev s (by omega) (by omega)) ?_)
      · simp only [emendatelaw04_same.l1]
        rw [if_pos (by omega), Position_f s (by omega) (by omega), hw]
        rfl
      · exact Ev.congr (fun k => by rw [if_pos rfl, if_neg (by simp)]) hnext
theorem same_l0 (s : ByteArray) (hs : s.size ≤ 1000000) : ∀ (m i : Nat), (LS s).length - i ≤ m → i ≤ (LS s).length → Ev (fun k => emendatelaw04_same.l0 k s (LS s) i s (I (st (L s)))) true := by
  have hst := st_len_le (L s)
  rw [L_length] at hst
  have hend : ∀ i : Nat, i = (LS s).length → Ev (fun k => emendatelaw04_same.l0 k s (LS s) i s (I (st (L s)))) true := by
    intro i h
    refine Ev.step (fun k => ?_) (same_l1 s hs (s.size + 1) 0 (by omega))
    simp only [emendatelaw04_same.l0]
    rw [if_neg (by omega)]
    rfl
  intro m
  induction m with
  | zero => intro i h1 h2; exact hend i (by omega)
  | succ m ih =>
    intro i h1 h2
    by_cases he : i = (LS s).length
    · exact hend i he
    · have hnext := ih (i + 1) (by omega) (by omega)
      have hl := LS_length s
      have hw : wrap64 ((i : Int) + 1) = ((i + 1 : Nat) : Int) := by rw [wrap_id (by omega) (by omega)]; norm_cast
      refine Ev.step (fun k => ?_) hnext
      simp only [emendatelaw04_same.l0]
      rw [if_pos (by omega), Line_f s (by omega) (by omega)]
      simp only [Option.bind_some]
      rw [if_pos trivial, if_pos (by omega), LS_get (by omega), if_pos rfl, hw]
theorem same_ev (s : ByteArray) (hs : s.size ≤ 1000000) : Ev (fun k => emendatelaw04_same.f k s (I (st (L s))) s) true := by
  refine Ev.bind (rLines_ev s (by omega)) (Ev.congr (fun k => ?_) (same_l0 s hs (LS s).length 0 (by omega) (by omega)))
  rw [Lines_f s (by omega)]
  simp only [Option.bind_some]
  rw [if_pos (by rw [LS_length])]
  rfl

/-- The text behind an edit that fits. -/
def edit (s : ByteArray) (at_ del : Int) (ins : ByteArray) : ByteArray := S ((L s).take at_.toNat ++ L ins ++ (L s).drop (at_.toNat + del.toNat))
def fits (s : ByteArray) (at_ del : Int) : Prop := 0 ≤ at_ ∧ 0 ≤ del ∧ at_ ≤ (s.size : Int) ∧ del ≤ (s.size : Int) - at_
instance (s : ByteArray) (at_ del : Int) : Decidable (fits s at_ del) := by unfold fits; infer_instance
theorem apply_text {s : ByteArray} {at_ del : Int} {ins : ByteArray} (h : fits s at_ del) : ((s.extract 0 at_.toNat) ++ ins) ++ (s.extract (at_ + del).toNat s.size) = edit s at_ del ins := by
  obtain ⟨h0, h1, h2, h3⟩ := h
  apply L_inj
  rw [L_append, L_append, L_extract, L_extract, edit, L_S, show (at_ + del).toNat = at_.toNat + del.toNat from by omega, List.drop_zero, Nat.sub_zero]
  congr 1
  rw [List.take_of_length_le (by rw [List.length_drop, L_length]; omega)]
theorem Apply_f (s : ByteArray) (hs : s.size ≤ 1048576) (at_ del : Int) (ins : ByteArray) (hi : ins.size ≤ 1048576) :
    textedit_Apply.f s at_ del ins = some (if fits s at_ del then (edit s at_ del ins, 0) else (⟨#[]⟩, 2)) := by
  by_cases h : fits s at_ del
  · rw [if_pos h]
    have h' := h
    obtain ⟨h0, h1, h2, h3⟩ := h
    have e0 : textedit_fits.f (s.size : Int) at_ del ins = some true := by
      unfold textedit_fits.f
      rw [if_pos h0, if_pos h1, if_pos h2, wrap_id (by omega) (by omega), decide_eq_true h3]
    have z0 : (s.extract 0 at_.toNat).size ≤ 1048576 := by rw [← L_length, L_extract, List.length_take, List.length_drop, L_length]; omega
    have z1 : (s.extract (at_ + del).toNat s.size).size ≤ 1048576 := by rw [← L_length, L_extract, List.length_take, List.length_drop, L_length]; omega
    have z2 : ((s.extract 0 at_.toNat) ++ ins).size = (s.extract 0 at_.toNat).size + ins.size := by rw [← L_length, L_append, List.length_append, L_length, L_length]
    unfold textedit_Apply.f
    rw [e0]
    simp only [Option.bind_some]
    rw [if_pos trivial, if_pos h0, if_pos h2, if_pos (by omega), wrap_id (x := at_ + del) (by omega) (by omega), if_pos (by omega), if_pos (by omega), if_pos (by omega), apply_text h']
  · rw [if_neg h]
    have e0 : textedit_fits.f (s.size : Int) at_ del ins = some false := by
      unfold textedit_fits.f
      by_cases h0 : at_ ≥ 0
      · by_cases h1 : del ≥ 0
        · by_cases h2 : at_ ≤ (s.size : Int)
          · rw [if_pos h0, if_pos h1, if_pos h2, wrap_id (by omega) (by omega), decide_eq_false (fun h3 => h ⟨h0, h1, h2, h3⟩)]
          · rw [if_pos h0, if_pos h1, if_neg h2]
        · rw [if_pos h0, if_neg h1]
      · rw [if_neg h0]
    unfold textedit_Apply.f
    rw [e0]
    rfl
theorem rUpdate_f (s : ByteArray) (hs : s.size ≤ 1048576) (at_ del : Int) (ins : ByteArray) (hi : ins.size ≤ 1048576) :
    emendateref04_Update.f s at_ del ins = some (if fits s at_ del then (edit s at_ del ins, 0) else (⟨#[]⟩, 2)) := by
  have e : emendateref01_Replace.f s at_ del ins = textedit_Apply.f s at_ del ins := rfl
  unfold emendateref04_Update.f
  rw [e, Apply_f s hs at_ del ins hi]
  rfl
theorem edit_size {s : ByteArray} {at_ del : Int} {ins : ByteArray} (h : fits s at_ del) : ((edit s at_ del ins).size : Int) = (s.size : Int) + ins.size - del := by
  obtain ⟨h0, h1, h2, h3⟩ := h
  unfold edit
  rw [S_size, List.length_append, List.length_append, List.length_take, List.length_drop, L_length, L_length]
  omega
theorem Update_ev (s : ByteArray) (hs : s.size ≤ 524288) (at_ del : Int) (ins : ByteArray) (hi : ins.size ≤ 524288) :
    Ev (fun k => lineindex_Index_Update.f k s (I (st (L s))) at_ del ins) (if fits s at_ del then (edit s at_ del ins, I (st (L (edit s at_ del ins))), 0) else (⟨#[]⟩, [], 2)) := by
  have ha := Apply_f s (by omega) at_ del ins (by omega)
  by_cases h : fits s at_ del
  · rw [if_pos h] at ha ⊢
    have hsz := edit_size (ins := ins) h
    have h2 := h.2.1
    refine Ev.congr (f := fun k => (lineindex_New.f k (edit s at_ del ins)).bind fun bt259 => (some (bt259.1, bt259.2, 0))) (fun k => ?_) (Ev.bind (New_ev (edit s at_ del ins) (by omega)) (Ev.now _))
    unfold lineindex_Index_Update.f
    rw [ha]
    rfl
  · rw [if_neg h] at ha ⊢
    refine Ev.congr (fun k => ?_) (Ev.now _)
    unfold lineindex_Index_Update.f
    rw [ha]
    rfl
end Go.Proofs.Ytbdfeckgffmgpaa.Q
