/- How lists of spans that come in are read, with the number of what was read. -/
import Derived.Test.YtpjamnekclkhhaaOpenB
import Derived.Test.YtpjamnekclkhhaaSf
import Derived.SizedLaws
namespace Go.Proofs
open Go Go.Eng
set_option maxRecDepth 100000

section
variable {H : Type} {enc : TypeId × Value → H} {w : World} {base : Nat} {spare : Nat → Bool} {held : Bool}
/-- What was read is a slice of n elements (or nothing was). -/
def Many (d : DataW H) (n : Nat) : Prop := n = 0 ∨ ∃ ds sp, d = .slice ds sp ∧ ds.length = n
theorem open_spansN {fuel : Nat} {cs : List Value} {x : DataW H × List MemPlace} (h : DataW.trod enc Try.prog w base spare held fuel 23 cs = some x) : ∃ a l cap, cs = [.slice a l.length cap] ∧ SpansAt w (.slice a l.length cap) l ∧ Many x.1 l.length := by
  obtain ⟨a, rows, cap, rfl, h1, h2, _, _, h3⟩ := open_rowsB (R := fun cs _ => ∃ s : Int × Int, cs = spanV s) Try.underlying23 cells37 (by decide) h (fun n cs' y _ hy => open_span hy)
  have h4 : ∀ r ∈ rows, ∃ s : Int × Int, r = spanV s := by
    intro r hr
    rcases h3 with rfl | ⟨ds, sp, _, _, h5⟩
    · cases hr
    · obtain ⟨i, hi⟩ := List.mem_iff_getElem?.1 hr
      obtain ⟨_, _, h6⟩ := h5 i r hi
      exact h6
  obtain ⟨l, rfl⟩ := rows_map h4
  refine ⟨a, l, cap, by simp, by simpa [SpansAt] using h1, ?_⟩
  rcases h3 with h5 | ⟨ds, sp, h5, h6, _⟩
  · left; simpa using h5
  · right; exact ⟨ds, sp, h5, by simpa using h6⟩
theorem Many.size {P : Program} {ts : List TypeId} {ds : List (DataW H)} {d : DataW H} {n b j : Nat} {t e : TypeId} (hm : Many d n) (h : (DataW.weightsEach P ts ds).all (· ≤ reachBytes) = true) (ht : ts[j]? = some t) (hd : ds[j]? = some d) (hu : P.underlying t = some (.slice e)) (hb : P.bytesOf e = b) : n * b ≤ 140737488351232 := by
  rcases hm with rfl | ⟨es, sp, rfl, rfl⟩
  · simp
  · have h1 := sized_slice h ht hd hu
    rw [hb] at h1
    have h2 : es.length * b ≤ (es.length + sp.length) * b := Nat.mul_le_mul_right _ (by omega)
    exact Nat.le_trans h2 h1
theorem bulk_le : ∀ (l : List (DataW H)), l.length ≤ Ytpjamnekclkhhaa.Rows.uptoBulkAll l
  | [] => Nat.le_refl _
  | d :: r => by
    have h1 := bulk_le r
    have h2 : 1 ≤ Ytpjamnekclkhhaa.Rows.uptoBulk d := by cases d <;> first | (simp [Ytpjamnekclkhhaa.Rows.uptoBulk]; done) | (rename_i l; cases l <;> simp [Ytpjamnekclkhhaa.Rows.uptoBulk])
    simp only [Ytpjamnekclkhhaa.Rows.uptoBulkAll, List.length_cons]; omega
theorem Many.bulk {d : DataW H} {n : Nat} (hm : Many d n) : n ≤ Ytpjamnekclkhhaa.Rows.uptoBulk d := by
  rcases hm with rfl | ⟨es, sp, rfl, rfl⟩
  · exact Nat.zero_le _
  · have := bulk_le es
    simp only [Ytpjamnekclkhhaa.Rows.uptoBulk]; omega
theorem open_intsN {t e fuel : Nat} {cs : List Value} {x : DataW H × List MemPlace} (ht : (Try.prog).underlying t = some (.slice e)) (he : (Try.prog).underlying e = some (.int .i64)) (hc : (Try.prog).cellsOf e = 1)
    (h : DataW.trod enc Try.prog w base spare held fuel t cs = some x) : ∃ a l cap, cs = [.slice a l.length cap] ∧ IntsAt w (.slice a l.length cap) l ∧ Many x.1 l.length := by
  obtain ⟨a, rows, cap, rfl, h1, h2, _, _, h3⟩ := open_rowsB (R := fun cs _ => ∃ n : Int, cs = intV n) ht hc (by decide) h (fun n cs' y _ hy => by obtain ⟨m, rfl, _⟩ := DataW.trod_int he hy; exact ⟨m, rfl⟩)
  have h4 : ∀ r ∈ rows, ∃ s : Int, r = intV s := by
    intro r hr
    rcases h3 with rfl | ⟨ds, sp, _, _, h5⟩
    · cases hr
    · obtain ⟨i, hi⟩ := List.mem_iff_getElem?.1 hr
      obtain ⟨_, _, h6⟩ := h5 i r hi
      exact h6
  obtain ⟨l, rfl⟩ := rows_map h4
  refine ⟨a, l, cap, by simp, by simpa [IntsAt] using h1, ?_⟩
  rcases h3 with h5 | ⟨ds, sp, h5, h6, _⟩
  · left; simpa using h5
  · right; exact ⟨ds, sp, h5, by simpa using h6⟩
theorem Many.bulk1 {d : DataW H} {n : Nat} (hm : Many d n) : n + 1 ≤ Ytpjamnekclkhhaa.Rows.uptoBulk d := by
  have h2 : 1 ≤ Ytpjamnekclkhhaa.Rows.uptoBulk d := by cases d <;> first | (simp [Ytpjamnekclkhhaa.Rows.uptoBulk]; done) | (rename_i l; cases l <;> simp [Ytpjamnekclkhhaa.Rows.uptoBulk])
  rcases hm with rfl | ⟨es, sp, rfl, rfl⟩
  · exact h2
  · have := bulk_le es
    simp only [Ytpjamnekclkhhaa.Rows.uptoBulk]; omega
def spsR (w : World) (cs : List Value) (d : DataW H) : Prop := ∃ a l cap, cs = [.slice a (List.length (α := Sp) l) cap] ∧ SpansAt w (.slice a l.length cap) l ∧ Many d l.length
theorem spss_rows : ∀ (rows : List (List Value)) (ds : List (DataW H)), ds.length = rows.length → (∀ (i : Nat) r, rows[i]? = some r → ∃ d, ds[i]? = some d ∧ spsR w r d) →
    ∃ (vs : List Value) (ll : List (List Sp)), rows = vs.map (fun x => [x]) ∧ vs.length = ll.length ∧ (∀ (i : Nat) u l, vs[i]? = some u → ll[i]? = some l → SpansAt w u l) ∧ ll.flatten.length + ll.length ≤ Ytpjamnekclkhhaa.Rows.uptoBulkAll ds
  | [], _, _, _ => ⟨[], [], rfl, rfl, fun i u l h => by simp at h, Nat.zero_le _⟩
  | r :: rows, [], hl, _ => by cases hl
  | r :: rows, d :: ds, hl, h => by
    obtain ⟨d0, hd0, a, l, cap, rfl, h1, h2⟩ := h 0 r rfl
    simp at hd0
    subst hd0
    obtain ⟨vs, ll, h3, h4, h5, h6⟩ := spss_rows rows ds (by simpa using hl) fun i r hr => h (i + 1) r (by simpa using hr)
    refine ⟨.slice a l.length cap :: vs, l :: ll, by rw [h3]; rfl, by simp [h4], fun i u q hu hq => ?_, ?_⟩
    · cases i with
      | zero => simp at hu hq; subst hu; subst hq; exact h1
      | succ i => exact h5 i u q (by simpa using hu) (by simpa using hq)
    · have := h2.bulk1
      simp only [List.flatten_cons, List.length_append, List.length_cons, Ytpjamnekclkhhaa.Rows.uptoBulkAll]
      omega
theorem open_spssN {fuel : Nat} {cs : List Value} {x : DataW H × List MemPlace} (h : DataW.trod enc Try.prog w base spare held fuel 53 cs = some x) : ∃ a ll cap, cs = [.slice a (List.length (α := List Sp) ll) cap] ∧ SpssAt w (.slice a ll.length cap) ll ∧ ll.flatten.length + ll.length ≤ Ytpjamnekclkhhaa.Rows.uptoBulk x.1 := by
  obtain ⟨a, rows, cap, rfl, h1, h2, _, _, h3⟩ := open_rowsB (R := spsR w) Try.underlying53 cells23 (by decide) h (fun n cs' y _ hy => by
    obtain ⟨a, l, cap, h4, h5, h6⟩ := open_spansN hy
    exact ⟨a, l, cap, h4, h5, h6⟩)
  rcases h3 with rfl | ⟨ds, sp, h4, h5, h6⟩
  · exact ⟨a, [], cap, rfl, ⟨[], h1, rfl, fun i u l h => by simp at h⟩, Nat.zero_le _⟩
  · obtain ⟨vs, ll, rfl, h7, h8, h9⟩ := spss_rows rows ds h5 h6
    refine ⟨a, ll, cap, by simp [h7], ⟨vs, by simpa [h7] using h1, h7, h8⟩, ?_⟩
    rw [h4]
    simp only [Ytpjamnekclkhhaa.Rows.uptoBulk]
    omega
end
end Go.Proofs
