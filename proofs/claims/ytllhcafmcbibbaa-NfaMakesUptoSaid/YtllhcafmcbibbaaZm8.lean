/- Contracts and plain lemmas, part 8. -/
import Derived.Tactics
import Derived.Deep.Quiet
import Derived.Laws.AppendOwn
import Derived.KernelRfl
import Derived.Laws.Entries
import Derived.Laws.Build
import Derived.Below
import Derived.RowKit3
import Derived.StillTail
import Derived.Sort.Grow
import Derived.Deep.Draws
import Derived.Test.YtllhcafmcbibbaaChecked
import Derived.Laws.StructEq
import Derived.MapKept
import Derived.Laws.BytesArg
import Derived.DeepKeys3
import Derived.Defers
import Derived.Recover
import Derived.Shelf.Sort.Plain
import Derived.Shelf.Slices.CompactI
import Derived.Test.YtllhcafmcbibbaaProg
import Derived.Shelf.Small.Bits
import Derived.OpenShut
import Derived.ChangeSlices
import Derived.Test.YtllhcafmcbibbaaRows
import Derived.Test.YtllhcafmcbibbaaZm7
namespace Go.Proofs
open Go Go.Eng
set_option maxRecDepth 100000
section
variable {H : Type} {enc : TypeId × Value → H} {P : Program} {w : World} {base : Nat} {spare : Nat → Bool} {held : Bool}
/-- A slice, if each of its elements is read: with what was read. -/
theorem open_rowsB {t e k fuel : Nat} {cs : List Value} {x : DataW H × List MemPlace} {R : List Value → DataW H → Prop} (ht : P.underlying t = some (.slice e)) (hc : P.cellsOf e = k) (hk : 0 < k)
    (h : DataW.trod enc P w base spare held fuel t cs = some x) (hR : ∀ n cs' y, n < fuel → DataW.trod enc P w base spare held n e cs' = some y → R cs' y.1) :
    ∃ a rows cap, cs = [.slice a rows.length cap] ∧ SlAt w k (.slice a rows.length cap) rows ∧ (∀ r ∈ rows, r.length = k) ∧ rows.length ≤ cap ∧ cap ≤ maxLen ∧
      (rows = [] ∨ ∃ ds sp, x.1 = .slice ds sp ∧ ds.length = rows.length ∧ ∀ (i : Nat) r, rows[i]? = some r → ∃ d, ds[i]? = some d ∧ R r d) := by
  rcases DataW.trod_slice ht h with ⟨rfl, _⟩ | ⟨a, len, cap, elems, rest, n, rfl, rfl, rfl, hb, hl, hm, hlen, hel, _, _⟩
  · exact ⟨none, [], 0, rfl, SlAt.nil _ _ _ _, by simp, by simp, by simp [maxLen], .inl rfl⟩
  · have each : ∀ i, i < len → ∃ cs' y, w.cells? base (a.add (i * k)) k = some cs' ∧ elems[i]? = some y ∧ R cs' y.1 := by
      intro i hi
      have := hel i hi
      rw [List.getElem?_eq_getElem (by omega), hc, Option.bind_eq_some_iff] at this
      obtain ⟨cs', h1, h2⟩ := this
      exact ⟨cs', _, h1, List.getElem?_eq_getElem (by omega), hR n cs' _ (by omega) h2⟩
    have fam : ∀ m, m ≤ len → ∃ rows : List (List Value), rows.length = m ∧ ∀ (i : Nat) r, rows[i]? = some r → w.cells? base (a.add (i * k)) k = some r ∧ ∃ y, elems[i]? = some y ∧ R r y.1 := by
      intro m
      induction m with
      | zero => intro _; exact ⟨[], rfl, by simp⟩
      | succ m ih =>
        intro hm
        obtain ⟨rows, h1, h2⟩ := ih (by omega)
        obtain ⟨cs', y, h3, h4, h5⟩ := each m (by omega)
        refine ⟨rows ++ [cs'], by simp [h1], fun i r hr => ?_⟩
        rcases Nat.lt_or_ge i rows.length with hi | hi
        · rw [List.getElem?_append_left hi] at hr; exact h2 i r hr
        · rw [List.getElem?_append_right hi] at hr
          have hi' := lt_of_get hr
          simp at hi'
          obtain rfl : i = m := by omega
          simp [h1] at hr
          subst hr
          exact ⟨h3, y, h4, h5⟩
    obtain ⟨rows, hrl, hrows⟩ := fam len (Nat.le_refl _)
    have hmax : rows.length ≤ 9223372036854775807 := by simp only [maxLen] at hm; omega
    refine ⟨some a, rows, cap, by rw [hrl], ⟨some a, cap, rfl, hmax, by omega, ?_⟩, ?_, by omega, hm, .inr ⟨elems.map (·.1), rest.map (·.1), rfl, by simp; omega, fun i r hr => ?_⟩⟩
    · rcases Nat.eq_zero_or_pos len with h0 | h0
      · left; exact List.eq_nil_of_length_eq_zero (by omega)
      · right
        obtain ⟨r0, hr0⟩ := get_of_lt (l := rows) (i := 0) (by omega)
        have h1 := (hrows 0 r0 hr0).1
        have hz : a.add (0 * k) = a := by simp [Addr.add]
        rw [hz] at h1
        obtain ⟨b, o, rfl, _, _⟩ := cells_at hk h1
        refine ⟨b, o, rfl, fun i r hr => ?_⟩
        have h2 := (hrows i r hr).1
        rw [Addr.add_lit] at h2
        obtain ⟨b', o', he, _, h3⟩ := cells_at hk h2
        cases he
        exact h3
    · intro r hr
      obtain ⟨i, hi⟩ := List.mem_iff_getElem?.1 hr
      have h2 := hrows i r hi
      obtain ⟨_, _, _, h3, _⟩ := cells_at hk h2.1
      exact h3
    · obtain ⟨_, y, h4, h5⟩ := hrows i r hr
      exact ⟨y.1, by simp [h4], h5⟩
end
section
variable {H : Type} {enc : TypeId × Value → H} {w : World} {base : Nat} {spare : Nat → Bool} {held : Bool}
theorem bulk_get {l : List (DataW H)} {i : Nat} {d : DataW H} (h : l[i]? = some d) : Ytllhcafmcbibbaa.Rows.uptoBulk d ≤ Ytllhcafmcbibbaa.Rows.uptoBulkAll l := by
  induction l generalizing i with
  | nil => simp at h
  | cons x r ih =>
    simp only [Ytllhcafmcbibbaa.Rows.uptoBulkAll]
    cases i with
    | zero => simp at h; subst h; omega
    | succ i => have := ih (i := i) (by simpa using h); omega
theorem res_of_rowsB {b o : Nat} : ∀ {rows : List (List Value)} {ds : List (DataW H)}, ds.length = rows.length → (∀ (i : Nat) r, rows[i]? = some r → CellsAt w b (o + i * 6) r ∧ ∃ d, ds[i]? = some d ∧ ∃ t, ReAt w t r ∧ t.size ≤ Ytllhcafmcbibbaa.Rows.uptoBulk d) → ∃ ts : List Re, ts.length = rows.length ∧ (∀ (i : Nat) t, ts[i]? = some t → ∃ vs, CellsAt w b (o + i * 6) vs ∧ ReAt w t vs) ∧ Re.sizes ts ≤ Ytllhcafmcbibbaa.Rows.uptoBulkAll ds := by
  intro rows ds hl h
  have key : ∀ m, m ≤ rows.length → ∃ ts : List Re, ts.length = m ∧ (∀ (i : Nat) t, ts[i]? = some t → ∃ vs, CellsAt w b (o + i * 6) vs ∧ ReAt w t vs) ∧ Re.sizes ts ≤ Ytllhcafmcbibbaa.Rows.uptoBulkAll (ds.take m) := by
    intro m
    induction m with
    | zero => intro _; exact ⟨[], rfl, by simp, by simp [Re.sizes]⟩
    | succ m ih =>
      intro hm
      obtain ⟨ts, h1, h2, h3⟩ := ih (by omega)
      obtain ⟨r, hr⟩ := get_of_lt (l := rows) (i := m) (by omega)
      obtain ⟨h4, d, hd, t, h5, h6⟩ := h m r hr
      refine ⟨ts ++ [t], by simp [h1], fun i t' ht => ?_, ?_⟩
      · rcases Nat.lt_or_ge i ts.length with hi | hi
        · rw [List.getElem?_append_left hi] at ht; exact h2 i t' ht
        · rw [List.getElem?_append_right hi] at ht
          have hi' := lt_of_get ht
          simp at hi'
          obtain rfl : i = m := by omega
          simp [h1] at ht
          subst ht
          exact ⟨r, h4, h5⟩
      · have happ : ∀ (a c : List (DataW H)), Ytllhcafmcbibbaa.Rows.uptoBulkAll (a ++ c) = Ytllhcafmcbibbaa.Rows.uptoBulkAll a + Ytllhcafmcbibbaa.Rows.uptoBulkAll c := by
          intro a c
          induction a with
          | nil => simp [Ytllhcafmcbibbaa.Rows.uptoBulkAll]
          | cons y a ih2 => simp only [List.cons_append, Ytllhcafmcbibbaa.Rows.uptoBulkAll, ih2]; omega
        rw [List.take_add_one, hd, happ, Re.sizes_append]
        simp only [Option.toList_some, Ytllhcafmcbibbaa.Rows.uptoBulkAll, Re.sizes]
        omega
  obtain ⟨ts, h1, h2, h3⟩ := key rows.length (Nat.le_refl _)
  rw [← hl, List.take_length] at h3
  exact ⟨ts, h1, h2, h3⟩
theorem open_reB : ∀ (fuel : Nat) {cs : List Value} {x : DataW H × List MemPlace}, DataW.trod enc Try.prog w base spare held fuel 25 cs = some x → ∃ t, ReAt w t cs ∧ t.size ≤ Ytllhcafmcbibbaa.Rows.uptoBulk x.1 := by
  intro fuel
  induction fuel using Nat.strongRecOn with
  | _ fuel ih =>
  intro cs x h
  obtain ⟨xs, n, rfl, rfl, hl, hx, hf⟩ := DataW.trod_struct Try.underlying25 h
  rw [cells25] at hl
  match cs, hl with
  | [c0, c1, c2, c3, c4, c5], _ =>
    have h0 : DataW.trod enc Try.prog w base spare held n 3 (([c0, c1, c2, c3, c4, c5].drop 0).take (Try.prog.cellsOf 3)) = xs[0]? := hf 0 _ rfl
    have h1 : DataW.trod enc Try.prog w base spare held n 22 (([c0, c1, c2, c3, c4, c5].drop 1).take (Try.prog.cellsOf 22)) = xs[1]? := hf 1 _ rfl
    have h2 : DataW.trod enc Try.prog w base spare held n 23 (([c0, c1, c2, c3, c4, c5].drop 2).take (Try.prog.cellsOf 23)) = xs[2]? := hf 2 _ rfl
    have h3 : DataW.trod enc Try.prog w base spare held n 3 (([c0, c1, c2, c3, c4, c5].drop 3).take (Try.prog.cellsOf 3)) = xs[3]? := hf 3 _ rfl
    have h4 : DataW.trod enc Try.prog w base spare held n 3 (([c0, c1, c2, c3, c4, c5].drop 4).take (Try.prog.cellsOf 3)) = xs[4]? := hf 4 _ rfl
    have h5 : DataW.trod enc Try.prog w base spare held n 4 (([c0, c1, c2, c3, c4, c5].drop 5).take (Try.prog.cellsOf 4)) = xs[5]? := hf 5 _ rfl
    simp only [cells3, cells4, cells23, cells22, List.drop, List.take] at h0 h1 h2 h3 h4 h5
    have hlen6 : xs.length = 6 := hx
    obtain ⟨y2, hy2⟩ := get_of_lt (l := xs) (i := 2) (by omega)
    have hb2 : Ytllhcafmcbibbaa.Rows.uptoBulk y2.1 ≤ Ytllhcafmcbibbaa.Rows.uptoBulkAll (xs.map (·.1)) := bulk_get (i := 2) (by simp [hy2])
    have hbx : Ytllhcafmcbibbaa.Rows.uptoBulk (DataW.agg (xs.map (·.1))) = Ytllhcafmcbibbaa.Rows.uptoBulkAll (xs.map (·.1)) + 1 := by simp only [Ytllhcafmcbibbaa.Rows.uptoBulk]
    rw [hy2] at h2
    rw [List.getElem?_eq_getElem (by rw [hx]; decide)] at h0 h1 h3 h4 h5
    obtain ⟨k, e0, _⟩ := DataW.trod_int Try.underlying3 h0
    obtain ⟨mn, e3, _⟩ := DataW.trod_int Try.underlying3 h3
    obtain ⟨mx, e4, _⟩ := DataW.trod_int Try.underlying3 h4
    obtain ⟨ng, e5, _⟩ := DataW.trod_bool Try.underlying4 h5
    obtain ⟨sa, set, sc, e1, hs⟩ := open_spans h1
    obtain ⟨aa, rows, ac, e2, ha, hrows, hcap, hmax, hds⟩ := open_rowsB (R := fun cs d => ∃ t, ReAt w t cs ∧ t.size ≤ Ytllhcafmcbibbaa.Rows.uptoBulk d) Try.underlying23 cells25 (by decide) h2 (fun m cs' y hm hy => ih m (by omega) hy)
    simp at e0 e1 e2 e3 e4 e5
    subst e0; subst e1; subst e2; subst e3; subst e4; subst e5
    rcases Nat.eq_zero_or_pos rows.length with hz | hz
    · have : rows = [] := List.eq_nil_of_length_eq_zero hz
      subst this
      refine ⟨.mk k set [] mn mx ng, ReAt.of (args := []) hs ⟨by simp, by simp only [maxLen] at hmax; omega⟩ (.inl rfl), ?_⟩
      simp only [Re.size, Re.sizes]; omega
    · obtain ⟨b, o, rfl, hcells⟩ := SlAt.at ha hz
      rcases hds with rfl | ⟨ds, sp, hy, hdl, hd⟩
      · simp at hz
      obtain ⟨ts, hts, htg, hsz⟩ := res_of_rowsB (w := w) (b := b) (o := o) (rows := rows) hdl fun i r hr => ⟨hcells i r hr, hd i r hr⟩
      refine ⟨.mk k set ts mn mx ng, ?_, ?_⟩
      · rw [← hts]
        exact ReAt.of hs ⟨by omega, by simp only [maxLen] at hmax; omega⟩ (.inr ⟨b, o, rfl, ResAt.mk htg⟩)
      · rw [hy] at hb2
        simp only [Ytllhcafmcbibbaa.Rows.uptoBulk] at hb2
        simp only [Re.size]
        omega
end
end Go.Proofs
