/- What the reading of an argument as data gives: lists, numbers and strings, and the reads of memory that lead to them; for structs, slices and slices of structs alike. No condition. -/
import Derived.Test.YtepjegfhlglajaaMQ0
import Derived.ChangeArms
import Derived.Deep.Slices
import Derived.OpenShut
import Derived.SizedLaws
namespace Go.Proofs.Ytepjegfhlglajaa.Q
set_option linter.unusedVariables false
open Go.WideShapes Go.ChangeShapes Go.RowKit Go.Proofs.YtepjegfhlglajaaW.PrintWords Go.Proofs.YtepjegfhlglajaaW.PrintLast Go.Proofs.YtepjegfhlglajaaW.PrintMore
/-- Whatever reads as data of type t is a y in memory (its cells: d), and y is ok where all weights are within the reach. -/
def Opn {α : Type} (P : Program) (t : TypeId) (d : Kd α) (ok : α → Prop) : Prop :=
  ∀ {H : Type} (enc : TypeId × Value → H) (w : World) (base : Nat) (spare : Nat → Bool) (held : Bool) (fuel : Nat) (cs : List Value) (x : DataW H × List MemPlace),
    DataW.trod enc P w base spare held fuel t cs = some x → ∃ y, d.K w y cs ∧ ((∀ n ∈ x.1.weights P t, n ≤ reachBytes) → ok y)
theorem opn_int {P : Program} {t : TypeId} {k : IntKind} (ht : P.underlying t = some (.int k)) : Opn P t (Kd.int k) (fun n => (Lit.int k n).wf = true) := by
  intro H enc w base spare held fuel cs x h
  obtain ⟨n, rfl, rfl, hw⟩ := DataW.trod_int ht h
  exact ⟨n, rfl, fun _ => hw⟩
theorem opn_string {P : Program} {t : TypeId} (ht : P.underlying t = some .string) : Opn P t Kd.string (fun s => s.size ≤ 140737488351232) := by
  intro H enc w base spare held fuel cs x h
  obtain ⟨s, rfl, rfl, _⟩ := DataW.trod_string ht h
  refine ⟨s, rfl, fun hw => ?_⟩
  have := hw s.data.toList.length (by simp [DataW.weights])
  simpa [reachBytes] using this
theorem weights_mem_all {H : Type} {P : Program} {e : TypeId} : ∀ {ds : List (DataW H)} {d : DataW H}, d ∈ ds → ∀ n ∈ d.weights P e, n ∈ DataW.weightsAll P e ds
  | d0 :: ds, d, hd, n, hn => by
    simp only [DataW.weightsAll, List.mem_append]
    rcases List.mem_cons.1 hd with rfl | hd
    · exact .inl hn
    · exact .inr (weights_mem_all hd n hn)
theorem opn_slice {α : Type} {P : Program} {t e : TypeId} {d : Kd α} {ok : α → Prop} (ht : P.underlying t = some (.slice e)) (hc : P.cellsOf e = d.sz) (he : Opn P e d ok) (a0 : α) :
    Opn P t (Kd.slice e d) (fun xs => xs.length * P.bytesOf e ≤ 140737488351232 ∧ ∀ x ∈ xs, ok x) := by
  intro H enc w base spare held fuel cs x h
  rcases Go.Deep.open_slice ht h with ⟨rfl, rfl⟩ | ⟨a, len, cap, m, n, D, Pl, rfl, hb, hl, hm, hmm, rfl, hx⟩
  · exact ⟨[], ⟨none, 0, rfl, Nat.le_refl _, Kd.C_nil d w⟩, fun _ => ⟨by simp, fun x hx => by simp at hx⟩⟩
  · have hlm : len ≤ m := by rw [hmm]; split <;> omega
    have : Inhabited α := ⟨a0⟩
    obtain ⟨Y, hY⟩ := Go.Deep.choose_lt (α := α) (n := len) (p := fun i y => (∃ cs', cs'.length = d.sz ∧ d.K w y cs' ∧ ∀ j u, cs'[j]? = some u → w.cell? (a.add (i * d.sz + j)) = some u) ∧ ((∀ n ∈ (D i).weights P e, n ≤ reachBytes) → ok y)) (fun i hi => by
      obtain ⟨cs', h1, h2⟩ := hx i (by omega)
      obtain ⟨y, hK, hok⟩ := he enc w base spare held n cs' _ h2
      obtain ⟨_, hlen, hat⟩ := World.cells?_some h1
      rw [hc] at hlen hat
      refine ⟨y, ⟨cs', hlen, hK, fun j u hu => ?_⟩, hok⟩
      have hj : j < d.sz := by have := (List.getElem?_eq_some_iff.1 hu).1; omega
      have := hat j hj
      rw [← Go.Deep.add_add, this, hu])
    refine ⟨(List.range len).map Y, ⟨some a, cap, by simp, by simpa using hl, by simp, by simp; unfold maxLen at hm; omega, fun _ => ⟨a, rfl, fun j p hj => ?_⟩⟩, fun hw => ⟨?_, fun x hxm => ?_⟩⟩
    · rw [List.getElem?_map] at hj
      cases hr : (List.range len)[j]? with
      | none => rw [hr] at hj; simp at hj
      | some q =>
        rw [hr] at hj
        have hjl : j < len := by have := (List.getElem?_eq_some_iff.1 hr).1; simpa using this
        have hq : q = j := by rw [List.getElem?_range hjl] at hr; simpa using hr.symm
        subst hq
        simp only [Option.map_some, Option.some.injEq] at hj
        subst hj
        obtain ⟨⟨cs', h1, h2, h3⟩, _⟩ := hY q hjl
        exact ⟨cs', h1, h2, h3⟩
    · have := hw ((((List.range len).map D).length + ((List.range (m - len)).map fun j => D (len + j)).length) * P.bytesOf e) (by simp [DataW.weights, ht])
      simp only [List.length_map, List.length_range] at this ⊢
      have h2 : len * P.bytesOf e ≤ (len + (m - len)) * P.bytesOf e := Nat.mul_le_mul_right _ (by omega)
      unfold reachBytes at this
      omega
    · obtain ⟨i, hi, rfl⟩ := List.mem_map.1 hxm
      have hil : i < len := by simpa using hi
      refine (hY i hil).2 (fun n hn => hw n ?_)
      simp only [DataW.weights, ht, List.mem_cons, List.mem_append]
      exact .inr (.inl (weights_mem_all (List.mem_map.2 ⟨i, hi, rfl⟩) n hn))
/-- Fields from offset o on. -/
def OpnFs {β : Type} (P : Program) (fs : List Field) (o L : Nat) (d : Kd β) (ok : β → Prop) : Prop :=
  ∀ {H : Type} (enc : TypeId × Value → H) (w : World) (base : Nat) (spare : Nat → Bool) (held : Bool) (fuel : Nat) (cs : List Value) (xs : List (DataW H × List MemPlace)),
    cs.length = L → xs.length = fs.length → (∀ (i : Nat) (f : Field), fs[i]? = some f → DataW.trod enc P w base spare held fuel f.type ((cs.drop f.offset).take (P.cellsOf f.type)) = xs[i]?) →
      ∃ y, d.K w y (cs.drop o) ∧ ((∀ n ∈ DataW.weightsEach P (fs.map (·.type)) (xs.map (·.1)), n ≤ reachBytes) → ok y)
theorem opnfs_last {α : Type} {P : Program} {f : Field} {o L : Nat} {d : Kd α} {ok : α → Prop} (h : Opn P f.type d ok) (ho : f.offset = o) (hc : P.cellsOf f.type = d.sz) (hL : L = o + d.sz) : OpnFs P [f] o L d ok := by
  intro H enc w base spare held fuel cs xs hl hx hf
  match xs, hx with
  | [x], _ =>
    have h0 := hf 0 f rfl
    rw [ho, hc, List.take_of_length_le (by simp; omega)] at h0
    obtain ⟨y, hK, hok⟩ := h enc w base spare held fuel _ x h0
    exact ⟨y, hK, fun hw => hok fun n hn => hw n (by simp [DataW.weightsEach]; exact hn)⟩
theorem opnfs_cons {α β : Type} {P : Program} {f : Field} {fs : List Field} {o o2 L : Nat} {d : Kd α} {d2 : Kd β} {ok : α → Prop} {ok2 : β → Prop} (h : Opn P f.type d ok) (ho : f.offset = o) (hc : P.cellsOf f.type = d.sz) (h2 : OpnFs P fs o2 L d2 ok2) (ho2 : o2 = o + d.sz) :
    OpnFs P (f :: fs) o L (Kd.pair d d2) (fun y => ok y.1 ∧ ok2 y.2) := by
  intro H enc w base spare held fuel cs xs hl hx hf
  match xs, hx with
  | x :: xs, hx =>
    have h0 := hf 0 f rfl
    rw [ho, hc] at h0
    obtain ⟨y, hK, hok⟩ := h enc w base spare held fuel _ x h0
    obtain ⟨y2, hK2, hok2⟩ := h2 enc w base spare held fuel cs xs hl (by simpa using hx) (fun i f' hi => by simpa using hf (i + 1) f' (by simpa using hi))
    refine ⟨(y, y2), ⟨(cs.drop o).take d.sz, cs.drop o2, ?_, hK, hK2⟩, fun hw => ⟨hok fun n hn => hw n ?_, hok2 fun n hn => hw n ?_⟩⟩
    · rw [ho2, ← List.drop_drop, List.take_append_drop]
    · simp only [List.map_cons, DataW.weightsEach, List.mem_append]; exact .inl hn
    · simp only [List.map_cons, DataW.weightsEach, List.mem_append]; exact .inr hn
theorem opn_struct {β : Type} {P : Program} {t : TypeId} {fs : Array Field} {L : Nat} {d : Kd β} {ok : β → Prop} (ht : P.underlying t = some (.struct fs)) (hL : P.cellsOf t = L) (h : OpnFs P fs.toList 0 L d ok) : Opn P t d ok := by
  intro H enc w base spare held fuel cs x hx
  obtain ⟨xs, n, rfl, rfl, hl, hlen, hf⟩ := DataW.trod_struct ht hx
  obtain ⟨y, hK, hok⟩ := h enc w base spare held n cs xs (by omega) (by simpa using hlen) (fun i f hi => hf i f (by simpa using hi))
  exact ⟨y, by simpa using hK, fun hw => hok fun n hn => hw n (by simpa [DataW.weights, ht] using hn)⟩
theorem opn_iso {α β : Type} {P : Program} {t : TypeId} {d : Kd α} {ok : α → Prop} (f : β → α) (g : α → β) (hfg : ∀ y, f (g y) = y) (h : Opn P t d ok) : Opn P t (Kd.iso d f) (fun y => ok (f y)) := by
  intro H enc w base spare held fuel cs x hx
  obtain ⟨y, hK, hok⟩ := h enc w base spare held fuel cs x hx
  exact ⟨g y, by show d.K w (f (g y)) cs; rw [hfg]; exact hK, fun hw => by show ok (f (g y)); rw [hfg]; exact hok hw⟩
/-- An argument. -/
theorem Opn.arg {α : Type} {P : Program} {t : TypeId} {d : Kd α} {ok : α → Prop} (h : Opn P t d ok) {H : Type} {enc : TypeId × Value → H} {w : World} {base : Nat} {spare : Nat → Bool} {held : Bool} {v : Value} {x : DataW H} {ps : List MemPlace}
    (ht : DataW.Trod enc P w base spare held t v x ps) : ∃ y, d.K w y v.cells.toList ∧ ((∀ n ∈ x.weights P t, n ≤ reachBytes) → ok y) := by
  obtain ⟨fuel, hf⟩ := ht
  exact h enc w base spare held fuel _ _ hf
theorem sized_arg {H : Type} {P : Program} {ts : List TypeId} {ds : List (DataW H)} (h : (DataW.weightsEach P ts ds).all (· ≤ reachBytes) = true) {j : Nat} {t : TypeId} {d : DataW H} (ht : ts[j]? = some t) (hd : ds[j]? = some d) : ∀ n ∈ d.weights P t, n ≤ reachBytes :=
  fun n hn => by simpa using List.all_eq_true.1 h _ (DataW.weights_mem_each ht hd n hn)
theorem Opn.weak {α : Type} {P : Program} {t : TypeId} {d : Kd α} {ok : α → Prop} (h : Opn P t d ok) : Opn P t d (fun _ => True) := by
  intro H enc w base spare held fuel cs x hx
  obtain ⟨y, hK, _⟩ := h enc w base spare held fuel cs x hx
  exact ⟨y, hK, fun _ => trivial⟩
abbrev DFA := List Int × List (List Int) × List Int
def kDFA : Kd DFA := Kd.pair (Kd.slice 3 (Kd.int .i64)) (Kd.pair (Kd.slice 22 (Kd.slice 3 (Kd.int .i64))) (Kd.slice 3 (Kd.int .i64)))
theorem opn_ints : Opn Try.prog 22 (Kd.slice 3 (Kd.int .i64)) (fun _ => True) := Opn.weak (opn_slice Try.underlying22 (by kernel_rfl) (opn_int Try.underlying3) 0)
theorem opn_rows : Opn Try.prog 23 (Kd.slice 22 (Kd.slice 3 (Kd.int .i64))) (fun _ => True) := Opn.weak (opn_slice Try.underlying23 (by kernel_rfl) opn_ints [])
theorem opn_dfa : Opn Try.prog 25 kDFA (fun _ => True) :=
  Opn.weak (opn_struct (L := 3) Try.underlying25 (by kernel_rfl) (opnfs_cons (L := 3) opn_ints rfl (by kernel_rfl) (opnfs_cons (L := 3) opn_rows rfl (by kernel_rfl) (opnfs_last (L := 3) opn_ints rfl (by kernel_rfl) rfl) rfl) rfl))
theorem open_dfa {H : Type} {enc : TypeId × Value → H} {w : World} {base b0 : Nat} {r : Reach} {spare : Nat → Bool} {held : Bool} {v : Value} {x : DataW H} {ps : List MemPlace} (hv : Value.okWide Try.prog w r b0 25 v) (ht : DataW.Trod enc Try.prog w base spare held 25 v x ps) :
    ∃ (A0 : Option Addr) (c0 : Nat) (l0 : List Int) (A1 : Option Addr) (c1 : Nat) (l1 : List (List Int)) (A2 : Option Addr) (c2 : Nat) (l2 : List Int), v = .agg #[.slice A0 l0.length c0, .slice A1 l1.length c1, .slice A2 l2.length c2] ∧
      Kd.C (Kd.int .i64) w A0 l0.length l0 ∧ l0.length ≤ c0 ∧ Kd.C (Kd.slice 3 (Kd.int .i64)) w A1 l1.length l1 ∧ l1.length ≤ c1 ∧ Kd.C (Kd.int .i64) w A2 l2.length l2 ∧ l2.length ≤ c2 := by
  obtain ⟨cs, rfl, hsz⟩ := okWide_struct Try.underlying25 hv
  obtain ⟨⟨l0, l1, l2⟩, ⟨_, _, e, ⟨A0, c0, rfl, h0, r0⟩, ⟨_, _, rfl, ⟨A1, c1, rfl, h1, r1⟩, ⟨A2, c2, rfl, h2, r2⟩⟩⟩, _⟩ := opn_dfa.arg ht
  refine ⟨A0, c0, l0, A1, c1, l1, A2, c2, l2, ?_, r0, h0, r1, h1, r2, h2⟩
  have e2 : cs.toList = [.slice A0 l0.length c0, .slice A1 l1.length c1, .slice A2 l2.length c2] := e
  have e3 : cs = #[.slice A0 l0.length c0, .slice A1 l1.length c1, .slice A2 l2.length c2] := by
    cases cs; simpa using e2
  rw [e3]
/-- No row of a table that was read is longer than a slice can be. -/
theorem rows_bound {w : World} {A : Option Addr} {l : List (List Int)} (h : Kd.C (Kd.slice 3 (Kd.int .i64)) w A l.length l) : ∀ s : Int, 0 ≤ s → s < (l.length : Int) → (rd_L3 l s).length ≤ 9223372036854775807 := by
  intro s h0 h1
  obtain ⟨_, _, _, _, _, _, hi⟩ := at_L3 h s h0 h1
  exact Kd.C_max hi
end Go.Proofs.Ytepjegfhlglajaa.Q
