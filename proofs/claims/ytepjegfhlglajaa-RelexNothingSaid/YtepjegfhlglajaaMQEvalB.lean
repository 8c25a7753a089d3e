/- What the two lexers, the concatenations of texts, the comparison of lists of tokens and the check of an automaton compute. No condition. -/
import Derived.Test.YtepjegfhlglajaaMQEvalA
import Derived.Test.YtepjegfhlglajaaMQF18
import Derived.Test.YtepjegfhlglajaaMQF19
import Derived.Test.YtepjegfhlglajaaMQF20
import Derived.Test.YtepjegfhlglajaaMQF21
import Derived.Test.YtepjegfhlglajaaMQF36
namespace Go.Proofs.Ytepjegfhlglajaa.Q
set_option linter.unusedVariables false
open Go.RowKit Go.Proofs.YtepjegfhlglajaaW.PrintWords Go.Proofs.YtepjegfhlglajaaW.PrintLast Go.Proofs.YtepjegfhlglajaaW.PrintMore
section
variable {c : List Int} {n : List (List Int)} {a : List Int}
theorem drop_tk (s : ByteArray) (i : Nat) : ((L s).drop i).drop (tk c n a ((L s).drop i) i).tx.length = (L s).drop (i + (tk c n a ((L s).drop i) i).tx.length) := by rw [List.drop_drop]
theorem lex_l0 (hv : VD c n a) (s : ByteArray) (hs : s.size ≤ 1048576) : ∀ (m i : Nat) (out : List S32), s.size - i ≤ m → i ≤ s.size → out.length ≤ i →
    Ev (fun k => lexer_Lex.l0 k s out i c n a) (out ++ (lx c n a ((L s).drop i) i).map Tk.s) := by
  intro m
  induction m with
  | zero =>
    intro i out hm hi ho
    have he : (L s).drop i = [] := List.drop_of_length_le (by rw [L_length]; omega)
    rw [he]
    refine Ev.step (f := fun _ => some out) (fun k => by simp only [lexer_Lex.l0]; rw [if_neg (by omega)]) ?_
    simpa [lx, toks] using Ev.now out
  | succ m ih =>
    intro i out hm hi ho
    by_cases he : i = s.size
    · have he' : (L s).drop i = [] := List.drop_of_length_le (by rw [L_length]; omega)
      rw [he']
      refine Ev.step (f := fun _ => some out) (fun k => by simp only [lexer_Lex.l0]; rw [if_neg (by omega)]) ?_
      simpa [lx, toks] using Ev.now out
    · have hlt : i < s.size := by omega
      have hne : (L s).drop i ≠ [] := by
        intro h0
        have := congrArg List.length h0
        rw [List.length_drop, L_length, List.length_nil] at this
        omega
      have htl := tk_len c n a hne i
      have hdl : ((L s).drop i).length = s.size - i := by rw [List.length_drop, L_length]
      refine Ev.step (f := fun k => (lexer_one.f k c n a s i).bind fun bt111 => (if out.length < 3518437208883 then (lexer_Lex.l0 k s (out ++ [(⟨bt111.1, bt111.2.1, bt111.2.2.1, bt111.2.2.2⟩ : S32)]) (wrap64 ((i : Int) + (bt111.2.2.1.size : Int))) c n a) else (none))) (fun k => by simp only [lexer_Lex.l0]; rw [if_pos (by omega)]) ?_
      refine Ev.bind (one_ev hv s i hlt (by omega)) ?_
      rw [lx_step c n a hne i, drop_tk]
      have := ih (i + (tk c n a ((L s).drop i) i).tx.length) (out ++ [(tk c n a ((L s).drop i) i).s]) (by omega) (by omega) (by simp; omega)
      rw [List.append_assoc] at this
      refine Ev.congr (fun k => ?_) this
      rw [if_pos (by omega)]
      simp only [Tk.v, S_size]
      rw [wrap_id (by omega) (by omega)]
      rfl
theorem Lex_ev (hv : VD c n a) (s : ByteArray) (hs : s.size ≤ 1048576) : Ev (fun k => lexer_Lex.f k c n a s) ((lx c n a (L s) 0).map Tk.s) := by
  have := lex_l0 hv s hs s.size 0 [] (by omega) (by omega) (by simp)
  simpa [lexer_Lex.f] using this
theorem rlex_l0 (hv : VD c n a) (s : ByteArray) (hs : s.size ≤ 1048576) : ∀ (m i : Nat) (out : List S32), s.size - i ≤ m → i ≤ s.size → out.length ≤ i →
    Ev (fun k => emendateref12_Lex.l0 k s out i c n a) (out ++ (lx c n a ((L s).drop i) i).map Tk.s) := by
  intro m
  induction m with
  | zero =>
    intro i out hm hi ho
    have he : (L s).drop i = [] := List.drop_of_length_le (by rw [L_length]; omega)
    rw [he]
    refine Ev.step (f := fun _ => some out) (fun k => by simp only [emendateref12_Lex.l0]; rw [if_neg (by omega)]) ?_
    simpa [lx, toks] using Ev.now out
  | succ m ih =>
    intro i out hm hi ho
    by_cases he : i = s.size
    · have he' : (L s).drop i = [] := List.drop_of_length_le (by rw [L_length]; omega)
      rw [he']
      refine Ev.step (f := fun _ => some out) (fun k => by simp only [emendateref12_Lex.l0]; rw [if_neg (by omega)]) ?_
      simpa [lx, toks] using Ev.now out
    · have hlt : i < s.size := by omega
      have hne : (L s).drop i ≠ [] := by
        intro h0
        have := congrArg List.length h0
        rw [List.length_drop, L_length, List.length_nil] at this
        omega
      have htl := tk_len c n a hne i
      have hdl : ((L s).drop i).length = s.size - i := by rw [List.length_drop, L_length]
      refine Ev.step (f := fun k => (emendateref12_At.f k c n a s i).bind fun bt111 => (if out.length < 3518437208883 then (emendateref12_Lex.l0 k s (out ++ [(⟨bt111.1, bt111.2.1, bt111.2.2.1, bt111.2.2.2⟩ : S32)]) (wrap64 ((i : Int) + (bt111.2.2.1.size : Int))) c n a) else (none))) (fun k => by simp only [emendateref12_Lex.l0]; rw [if_pos (by omega)]) ?_
      refine Ev.bind (at_ev hv s i hlt (by omega)) ?_
      rw [lx_step c n a hne i, drop_tk]
      have := ih (i + (tk c n a ((L s).drop i) i).tx.length) (out ++ [(tk c n a ((L s).drop i) i).s]) (by omega) (by omega) (by simp; omega)
      rw [List.append_assoc] at this
      refine Ev.congr (fun k => ?_) this
      rw [if_pos (by omega)]
      simp only [Tk.v, S_size]
      rw [wrap_id (by omega) (by omega)]
      rfl
theorem rLex_ev (hv : VD c n a) (s : ByteArray) (hs : s.size ≤ 1048576) : Ev (fun k => emendateref12_Lex.f k c n a s) ((lx c n a (L s) 0).map Tk.s) := by
  have := rlex_l0 hv s hs s.size 0 [] (by omega) (by omega) (by simp)
  simpa [emendateref12_Lex.f] using this
end
/-- An element of a list of tokens. -/
theorem rdT_get {l : List S32} {i : Nat} {x : S32} (h : l[i]? = some x) : rd_T32 l (i : Int) = x := by
  unfold rd_T32
  rw [Int.toNat_natCast, List.getD_eq_getElem?_getD, h]
  rfl
theorem Same_l0 (l : List S32) (hl : l.length ≤ 1048576) : ∀ (m i : Nat), l.length - i ≤ m → i ≤ l.length → Ev (fun k => emendateref12_Same.l0 k l l i) true := by
  intro m
  induction m with
  | zero =>
    intro i hm hi
    exact Ev.step (f := fun _ => some true) (fun k => by simp only [emendateref12_Same.l0]; rw [if_neg (by omega)]) (Ev.now _)
  | succ m ih =>
    intro i hm hi
    by_cases he : i = l.length
    · exact Ev.step (f := fun _ => some true) (fun k => by simp only [emendateref12_Same.l0]; rw [if_neg (by omega)]) (Ev.now _)
    · refine Ev.step (f := fun k => emendateref12_Same.l0 k l l ((i + 1 : Nat) : Int)) (fun k => ?_) (ih (i + 1) (by omega) (by omega))
      simp only [emendateref12_Same.l0]
      rw [if_pos (by omega), if_pos (by omega), if_pos (by omega), if_neg (by simp), wrap_id (by omega) (by omega)]
      norm_cast
theorem Same_ev {l l' : List S32} (h : l = l') (hl : l.length ≤ 1048576) : Ev (fun k => emendateref12_Same.f k l l') true := by
  subst h
  refine Ev.congr (fun k => ?_) (Same_l0 l hl l.length 0 (by omega) (by omega))
  simp only [emendateref12_Same.f]
  rw [if_pos trivial]
  rfl
/-- The texts of a list of tokens, one behind the other. -/
def cat (l : List S32) : List UInt8 := l.flatMap fun x => L x.f2
theorem cat_append (l l' : List S32) : cat (l ++ l') = cat l ++ cat l' := by simp [cat]
theorem cat_cons (x : S32) (l : List S32) : cat (x :: l) = L x.f2 ++ cat l := rfl
theorem Text_l0 (l : List S32) (hl : l.length ≤ 1048576) (hc : (cat l).length ≤ 1048576) : ∀ (m i : Nat) (acc : ByteArray), l.length - i ≤ m → i ≤ l.length → L acc = cat (l.take i) → Ev (fun k => lexer_Text.l0 k acc l (l.length : Int) i) (S (cat l)) := by
  intro m
  induction m with
  | zero =>
    intro i acc hm hi ha
    rw [List.take_of_length_le (by omega)] at ha
    rw [← ha, S_L]
    exact Ev.step (f := fun _ => some acc) (fun k => by simp only [lexer_Text.l0]; rw [if_neg (by omega)]) (Ev.now _)
  | succ m ih =>
    intro i acc hm hi ha
    by_cases he : i = l.length
    · rw [List.take_of_length_le (by omega)] at ha
      rw [← ha, S_L]
      exact Ev.step (f := fun _ => some acc) (fun k => by simp only [lexer_Text.l0]; rw [if_neg (by omega)]) (Ev.now _)
    · have hlt : i < l.length := by omega
      have hg : l[i]? = some l[i] := List.getElem?_eq_getElem hlt
      have ht : l.take (i + 1) = l.take i ++ [l[i]] := List.take_succ_eq_append_getElem hlt
      have hsz : acc.size + (l[i]).f2.size ≤ 1048576 := by
        have h1 : cat l = cat (l.take (i + 1)) ++ cat (l.drop (i + 1)) := by rw [← cat_append, List.take_append_drop]
        have h2 := congrArg List.length h1
        rw [ht, cat_append, ← ha] at h2
        simp only [List.length_append, L_length, cat, List.flatMap_cons, List.flatMap_nil, List.append_nil] at h2
        unfold cat at hc
        omega
      refine Ev.step (f := fun k => lexer_Text.l0 k (acc ++ (l[i]).f2) l (l.length : Int) ((i + 1 : Nat) : Int)) (fun k => ?_) (ih (i + 1) _ (by omega) (by omega) ?_)
      · simp only [lexer_Text.l0]
        rw [if_pos (by omega), if_pos (by omega), if_pos (by omega), rdT_get hg, if_pos (by omega), wrap_id (by omega) (by omega)]
        norm_cast
      · rw [L_append, ha, ht, cat_append]; simp [cat]
theorem Text_ev (l : List S32) (hl : l.length ≤ 1048576) (hc : (cat l).length ≤ 1048576) : Ev (fun k => lexer_Text.f k l) (S (cat l)) := by
  have := Text_l0 l hl hc l.length 0 ⟨#[]⟩ (by omega) (by omega) rfl
  simpa [lexer_Text.f] using this
/-- A bool that is returned, and what it tells. -/
def EvB (g : Nat → Option Bool) (p : Prop) : Prop := ∃ b, Ev g b ∧ (b = true → p)
theorem EvB.step {g f : Nat → Option Bool} {p : Prop} (h : ∀ k, g (k + 1) = f k) (k : EvB f p) : EvB g p := by
  obtain ⟨b, h1, h2⟩ := k
  exact ⟨b, h1.step h, h2⟩
theorem EvB.no (p : Prop) : EvB (fun _ => some false) p := ⟨false, Ev.now _, by simp⟩
theorem EvB.yes {p : Prop} (h : p) : EvB (fun _ => some true) p := ⟨true, Ev.now _, fun _ => h⟩
theorem EvB.imp {g : Nat → Option Bool} {p q : Prop} (k : EvB g p) (h : p → q) : EvB g q := by
  obtain ⟨b, h1, h2⟩ := k
  exact ⟨b, h1, fun e => h (h2 e)⟩
theorem EvB.congr {g f : Nat → Option Bool} {p : Prop} (h : ∀ k, g k = f k) (k : EvB f p) : EvB g p := by
  obtain ⟨b, h1, h2⟩ := k
  exact ⟨b, h1.congr h, h2⟩
section
variable (c : List Int) (n : List (List Int)) (a : List Int)
def rowOk (kk : Int) (s : Int) : Prop := ((rd_L3 n s).length : Int) = kk ∧ -1 ≤ rd a s ∧ ∀ j : Int, 0 ≤ j → j < kk → -1 ≤ rd (rd_L3 n s) j ∧ rd (rd_L3 n s) j < (n.length : Int)
theorem valid_l2 (kk : Int) (hkk : kk ≤ 9223372036854775807) (s : Int) (hs0 : 0 ≤ s) (hs1 : s < (n.length : Int)) (hs2 : (n.length : Int) ≤ 500) (hrow : ((rd_L3 n s).length : Int) = kk)
    (P : Prop) (hnext : EvB (fun k => emendateref10_Valid.l1 k (n.length : Int) kk (s + 1) c n a) P) :
    ∀ (m : Nat) (j : Int), kk - j ≤ m → 0 ≤ j → EvB (fun k => emendateref10_Valid.l2 k (n.length : Int) kk s j c n a) (P ∧ ∀ i : Int, j ≤ i → i < kk → -1 ≤ rd (rd_L3 n s) i ∧ rd (rd_L3 n s) i < (n.length : Int)) := by
  intro m
  induction m with
  | zero =>
    intro j hm hj
    refine EvB.step (f := fun k => emendateref10_Valid.l1 k (n.length : Int) kk (s + 1) c n a) (fun k => ?_) (hnext.imp fun h => ⟨h, fun i h1 h2 => by omega⟩)
    simp only [emendateref10_Valid.l2]
    rw [if_neg (by omega), wrap_id (by omega) (by omega)]
  | succ m ih =>
    intro j hm hj
    by_cases hjk : j < kk
    · by_cases h1 : rd (rd_L3 n s) j < -1
      · refine EvB.step (f := fun _ => some false) (fun k => ?_) (EvB.no _)
        simp only [emendateref10_Valid.l2]
        rw [if_pos hjk, if_pos hs0, if_pos hs1, if_pos hj, if_pos (by omega), if_pos h1]
      · by_cases h2 : rd (rd_L3 n s) j ≥ (n.length : Int)
        · refine EvB.step (f := fun _ => some false) (fun k => ?_) (EvB.no _)
          simp only [emendateref10_Valid.l2]
          rw [if_pos hjk, if_pos hs0, if_pos hs1, if_pos hj, if_pos (by omega), if_neg h1, if_pos h2]
        · refine EvB.step (f := fun k => emendateref10_Valid.l2 k (n.length : Int) kk s (j + 1) c n a) (fun k => ?_) ((ih (j + 1) (by omega) (by omega)).imp fun h => ⟨h.1, fun i h3 h4 => ?_⟩)
          · simp only [emendateref10_Valid.l2]
            rw [if_pos hjk, if_pos hs0, if_pos hs1, if_pos hj, if_pos (by omega), if_neg h1, if_neg h2, wrap_id (by omega) (by omega)]
          · by_cases he : i = j
            · subst he; omega
            · exact h.2 i (by omega) h4
    · refine EvB.step (f := fun k => emendateref10_Valid.l1 k (n.length : Int) kk (s + 1) c n a) (fun k => ?_) (hnext.imp fun h => ⟨h, fun i h1 h2 => by omega⟩)
      simp only [emendateref10_Valid.l2]
      rw [if_neg (by omega), wrap_id (by omega) (by omega)]
theorem valid_l1 (kk : Int) (hkk : kk ≤ 9223372036854775807) (hs2 : (n.length : Int) ≤ 500) (han : a.length = n.length) :
    ∀ (m : Nat) (s : Int), (n.length : Int) - s ≤ m → 0 ≤ s → EvB (fun k => emendateref10_Valid.l1 k (n.length : Int) kk s c n a) (∀ i : Int, s ≤ i → i < (n.length : Int) → rowOk n a kk i) := by
  intro m
  induction m with
  | zero =>
    intro s hm hs
    refine EvB.step (f := fun _ => some true) (fun k => ?_) (EvB.yes fun i h1 h2 => by omega)
    simp only [emendateref10_Valid.l1]
    rw [if_neg (by omega)]
  | succ m ih =>
    intro s hm hs
    by_cases hsn : s < (n.length : Int)
    · by_cases hrow : ((rd_L3 n s).length : Int) = kk
      · by_cases hacc : rd a s < -1
        · refine EvB.step (f := fun k => emendateref10_Valid.j3 k (n.length : Int) kk s true c n a) (fun k => ?_) (EvB.step (f := fun _ => some false) (fun k => ?_) (EvB.no _))
          · simp only [emendateref10_Valid.l1]
            rw [if_pos hsn, if_pos hs, if_pos hsn, if_pos hrow, if_pos (by omega), decide_eq_true hacc]
          · simp only [emendateref10_Valid.j3]
            rw [if_pos trivial]
        · refine EvB.step (f := fun k => emendateref10_Valid.j3 k (n.length : Int) kk s false c n a) (fun k => ?_) (EvB.step (f := fun k => emendateref10_Valid.l2 k (n.length : Int) kk s 0 c n a) (fun k => ?_) ?_)
          · simp only [emendateref10_Valid.l1]
            rw [if_pos hsn, if_pos hs, if_pos hsn, if_pos hrow, if_pos (by omega), decide_eq_false hacc]
          · simp only [emendateref10_Valid.j3]
            rw [if_neg (by simp)]
          · refine (valid_l2 c n a kk hkk s hs hsn hs2 hrow _ (ih (s + 1) (by omega) (by omega)) kk.toNat 0 (by omega) (by omega)).imp fun h i h1 h2 => ?_
            by_cases he : i = s
            · subst he; exact ⟨hrow, by omega, h.2⟩
            · exact h.1 i (by omega) h2
      · refine EvB.step (f := fun k => emendateref10_Valid.j3 k (n.length : Int) kk s true c n a) (fun k => ?_) (EvB.step (f := fun _ => some false) (fun k => ?_) (EvB.no _))
        · simp only [emendateref10_Valid.l1]
          rw [if_pos hsn, if_pos hs, if_pos hsn, if_neg hrow]
        · simp only [emendateref10_Valid.j3]
          rw [if_pos trivial]
    · refine EvB.step (f := fun _ => some true) (fun k => ?_) (EvB.yes fun i h1 h2 => by omega)
      simp only [emendateref10_Valid.l1]
      rw [if_neg (by omega)]
theorem valid_l0 (kk : Int) (hc : c.length = 256) (P : Prop) (hnext : EvB (fun k => emendateref10_Valid.l1 k (n.length : Int) kk 0 c n a) P) :
    ∀ (m : Nat) (b : Int), 256 - b ≤ m → 0 ≤ b → EvB (fun k => emendateref10_Valid.l0 k (n.length : Int) kk b c n a) (P ∧ ∀ i : Int, b ≤ i → i < 256 → 0 ≤ rd c i ∧ rd c i < kk) := by
  intro m
  induction m with
  | zero =>
    intro b hm hb
    refine EvB.step (f := fun k => emendateref10_Valid.l1 k (n.length : Int) kk 0 c n a) (fun k => ?_) (hnext.imp fun h => ⟨h, fun i h1 h2 => by omega⟩)
    simp only [emendateref10_Valid.l0]
    rw [if_neg (by omega)]
  | succ m ih =>
    intro b hm hb
    by_cases hjk : b < 256
    · by_cases h1 : rd c b < 0
      · refine EvB.step (f := fun _ => some false) (fun k => ?_) (EvB.no _)
        simp only [emendateref10_Valid.l0]
        rw [if_pos hjk, if_pos hb, if_pos (by omega), if_pos h1]
      · by_cases h2 : rd c b ≥ kk
        · refine EvB.step (f := fun _ => some false) (fun k => ?_) (EvB.no _)
          simp only [emendateref10_Valid.l0]
          rw [if_pos hjk, if_pos hb, if_pos (by omega), if_neg h1, if_pos h2]
        · refine EvB.step (f := fun k => emendateref10_Valid.l0 k (n.length : Int) kk (b + 1) c n a) (fun k => ?_) ((ih (b + 1) (by omega) (by omega)).imp fun h => ⟨h.1, fun i h3 h4 => ?_⟩)
          · simp only [emendateref10_Valid.l0]
            rw [if_pos hjk, if_pos hb, if_pos (by omega), if_neg h1, if_neg h2, wrap_id (by omega) (by omega)]
          · by_cases he : i = b
            · subst he; omega
            · exact h.2 i (by omega) h4
    · refine EvB.step (f := fun k => emendateref10_Valid.l1 k (n.length : Int) kk 0 c n a) (fun k => ?_) (hnext.imp fun h => ⟨h, fun i h1 h2 => by omega⟩)
      simp only [emendateref10_Valid.l0]
      rw [if_neg (by omega)]
theorem valid_j0_true (x : Int) : EvB (fun k => emendateref10_Valid.j0 k x true c n a) (VD c n a ∧ (n.length : Int) ≤ 500) := by
  refine EvB.step (f := fun _ => some false) (fun k => ?_) (EvB.no _)
  simp only [emendateref10_Valid.j0]
  rw [if_pos trivial]
theorem Valid_ev (hrows : ∀ s : Int, 0 ≤ s → s < (n.length : Int) → (rd_L3 n s).length ≤ 9223372036854775807) : EvB (fun k => emendateref10_Valid.f k c n a) (VD c n a ∧ (n.length : Int) ≤ 500) := by
  by_cases h0 : (c.length : Int) = 256
  · by_cases h1 : (n.length : Int) < 1
    · exact EvB.congr (fun k => by simp only [emendateref10_Valid.f]; rw [if_pos h0, if_pos h1]) (valid_j0_true c n a _)
    · by_cases h2 : (n.length : Int) > 500
      · exact EvB.congr (fun k => by simp only [emendateref10_Valid.f]; rw [if_pos h0, if_neg h1, if_pos h2]) (valid_j0_true c n a _)
      · by_cases h3 : (a.length : Int) = (n.length : Int)
        · refine EvB.congr (f := fun k => emendateref10_Valid.j0 k (n.length : Int) false c n a) (fun k => by simp only [emendateref10_Valid.f]; rw [if_pos h0, if_neg h1, if_neg h2, bne_eq_false_iff_eq.2 h3]) ?_
          by_cases h4 : ((rd_L3 n 0).length : Int) < 1
          · refine EvB.step (f := fun _ => some false) (fun k => ?_) (EvB.no _)
            simp only [emendateref10_Valid.j0]
            rw [if_neg (by simp), if_pos (by omega), if_pos h4]
          · refine EvB.step (f := fun k => emendateref10_Valid.l0 k (n.length : Int) ((rd_L3 n 0).length : Int) 0 c n a) (fun k => ?_) ?_
            · simp only [emendateref10_Valid.j0]
              rw [if_neg (by simp), if_pos (by omega), if_neg h4]
            · have hk := hrows 0 (by omega) (by omega)
              refine (valid_l0 c n a _ (by omega) _ (valid_l1 c n a _ (by omega) (by omega) (by omega) n.length 0 (by omega) (by omega)) 256 0 (by omega) (by omega)).imp fun h => ⟨⟨by omega, by omega, by omega, h.2, fun s s0 s1 => ?_⟩, by omega⟩
              obtain ⟨r1, r2, r3⟩ := h.1 s s0 s1
              exact ⟨by omega, r2, r3⟩
        · exact EvB.congr (fun k => by simp only [emendateref10_Valid.f]; rw [if_pos h0, if_neg h1, if_neg h2, bne_iff_ne.2 h3]) (valid_j0_true c n a _)
  · exact EvB.congr (fun k => by simp only [emendateref10_Valid.f]; rw [if_neg h0]) (valid_j0_true c n a _)
end
end Go.Proofs.Ytepjegfhlglajaa.Q
