/- Contracts: lists of spans: complements, copies, joined lists. -/
import Derived.Test.YtncmfkibflogkaaSb
import Derived.Test.YtncmfkibflogkaaW6
import Derived.Test.YtncmfkibflogkaaLs
namespace Go.Proofs
open Go Go.Eng
set_option maxRecDepth 100000

theorem own_low {w : World} {base base' e size n : Nat} {v : Value} {xs : List Value} (h : w.ownsRow base e size v n xs) (hb : base' ≤ base) : w.ownsRow base' e size v n xs := by
  obtain ⟨h1, h2⟩ := h
  refine ⟨h1, h2.imp id ?_⟩
  rintro ⟨g, cap, cur, a, b, r⟩
  exact ⟨g, cap, cur, a, Nat.le_trans hb b, r⟩
theorem own_le {w : World} {base e size n c : Nat} {a : Option Addr} {xs : List Value} (h : w.ownsRow base e size (.slice a n c) n xs) : n ≤ c := by
  rcases h.2 with ⟨h1, h2⟩ | ⟨g, cap, cur, hv, _, _, hnc, _⟩
  · omega
  · simp only [Value.slice.injEq] at hv
    obtain ⟨_, _, rfl⟩ := hv
    exact hnc
theorem spanV_snoc (l : List Sp) (s : Sp) : ((l ++ [s]).map spanV).flatten = (l.map spanV).flatten ++ [.int .i64 s.1, .int .i64 s.2] := by simp [spanV]

/-- One append of whatever slice, an empty one too. -/
theorem s_appendAny {P : Program} {N : Nat} {Q : Post} {σ : Env} {w : World} {K : Env → World → Prop} {ops : Array Oper} {rest : List Oper} {d : Nat} {ty : TypeId} {pos : String} {af : Array Edge} {t : TypeId} {s x : Operand}
    {base e size bytes n m c : Nat} {ax : Option Addr} {z v : Value} {xs news : List Value} (hN : d < N) (hu : P.underlying t = some (.slice e)) (hsz : Siz P e size) (hby : Byt P e bytes) (hz : Zer P e z) (hzs : z.cells.size = size) (h0 : 0 < size)
    (hs : ev σ s = v) (hown : w.ownsRow base e size v n xs) (hx : ev σ x = .slice ax m c) (hl : news.length = m * size) (hany : (m = 0 ∧ news = []) ∨ ∃ bx ox, ax = some ⟨bx, ox, none⟩ ∧ CellsAt w bx ox news) (h1 : ∀ u ∈ news, u.oneCell' = true)
    (h63 : n + m ≤ maxLen) (hbytes : (n + m) * bytes ≤ 140737488355328) (hbase : base ≤ w.heap.size)
    (k : ∀ v' w', w'.ownsRow base e size v' (n + m) (xs ++ news) → Chg (fun x => v.ownBlock = some x) w w' → (∀ k, v'.ownBlock = some k → v.ownBlock = some k ∨ w.heap.size ≤ k) → WpL P N ops K Q rest (upd σ d v') w') :
    WpL P N ops K Q (⟨some d, .call ⟨.builtin .append, #[s, x], #[t, t]⟩, ty, pos, af, none⟩ :: rest) σ w := by
  rcases hany with ⟨rfl, rfl⟩ | ⟨bx, ox, rfl, hc⟩
  · obtain ⟨a, c', rfl⟩ := own_form hown
    refine WpL_val rfl rfl hN (r_append0 hu hsz hs (own_le hown) hx) (k _ w (by simpa using hown) (Chg.refl _ _) fun _ h => .inl h)
  · exact s_append hN hu hsz hby hz hzs h0 hs hown hx hl hc h1 h63 hbytes hbase k
theorem spans_any {w : World} {a : Option Addr} {n c : Nat} {l : List Sp} (h : SpansAt w (.slice a n c) l) : (n = 0 ∧ (l.map spanV).flatten = []) ∨ ∃ b o, a = some ⟨b, o, none⟩ ∧ CellsAt w b o (l.map spanV).flatten := by
  have hn : n = l.length := by have := (SlAt.cap h).2; simpa using this.symm
  rcases Nat.eq_zero_or_pos n with h0 | h0
  · left; exact ⟨h0, by rw [List.eq_nil_of_length_eq_zero (show l.length = 0 by omega)]; rfl⟩
  · right
    obtain ⟨b, o, ha, hc⟩ := spans_cells h h0
    exact ⟨b, o, ha, spans_flat hc⟩
theorem ints_any {w : World} {a : Option Addr} {n c : Nat} {l : List Int} (h : IntsAt w (.slice a n c) l) : (n = 0 ∧ l.map (Value.int .i64) = []) ∨ ∃ b o, a = some ⟨b, o, none⟩ ∧ CellsAt w b o (l.map (Value.int .i64)) := by
  have hn : n = l.length := by have := (SlAt.cap h).2; simpa using this.symm
  rcases Nat.eq_zero_or_pos n with h0 | h0
  · left; exact ⟨h0, by rw [List.eq_nil_of_length_eq_zero (show l.length = 0 by omega)]; rfl⟩
  · right
    obtain ⟨b, o, ha, hc⟩ := ints_cells h h0
    exact ⟨b, o, ha, fun i u hu => by rw [List.getElem?_map, Option.map_eq_some_iff] at hu; obtain ⟨x, hx, rfl⟩ := hu; exact hc i x hx⟩
/-! Growing a slice that is nil; joined lists. -/
theorem s_appendZ {P : Program} {N : Nat} {Q : Post} {σ : Env} {w : World} {K : Env → World → Prop} {ops : Array Oper} {rest : List Oper} {d : Nat} {ty : TypeId} {pos : String} {af : Array Edge} {t ti : TypeId} {s x : Operand} {ik : IntKind}
    {base e size bytes n : Nat} {z : Value} (hN : d < N) (hu : P.underlying t = some (.slice e)) (hti : P.underlying ti = some (.int ik)) (hsz : Siz P e size) (hby : Byt P e bytes) (hz : Zer P e z) (hzs : z.cells.size = size) (h0 : 0 < size)
    (hs : ev σ s = .slice none 0 0) (hx : ev σ x = .int .i64 ((n : Nat) : Int)) (hn : 0 < n) (hbytes : n * bytes ≤ 140737488355328 ∧ n ≤ 8796093022208) (hbase : base ≤ w.heap.size)
    (k : ∀ cc w', Ext w w' → w'.ownsRow base e size (.slice (some ⟨w.heap.size, 0, none⟩) 0 cc) 0 [] → n ≤ cc → WpL P N ops K Q rest (upd σ d (.slice (some ⟨w.heap.size, 0, none⟩) n cc)) w') :
    WpL P N ops K Q (⟨some d, .call ⟨.builtin .append, #[s, x], #[t, ti]⟩, ty, pos, af, none⟩ :: rest) σ w := by
  unfold Siz at hsz; unfold Byt at hby; unfold Zer at hz
  cases hi : P.info? e with
  | none => rw [hi] at hsz; simp at hsz
  | some i =>
  rw [hi] at hsz hby hz
  simp at hsz hby hz
  subst hsz; subst hby
  have hge := grownCap_ge w n 0 e
  have hcm := grownCap_le_maxLen w n 0 e (by simp only [maxLen]; omega)
  refine WpL_val (v := .slice (some ⟨w.heap.size, 0, none⟩) n (grownCap w n 0 e)) (w' := w.drew.alloc (.cells (Builtin.zeroCells z.cells n ++ Builtin.zeroCells z.cells (grownCap w n 0 e - n)) e)) rfl rfl hN ?_ (k _ _ ?_ ?_ hge)
  · have hn0 : n ≠ 0 := by omega
    have h1 : IntKind.i64.wrap ((n : Nat) : Int) = n := wI64 (by omega)
    have h2 : ¬ ((n : Int) < 0) := by omega
    have h3 : ¬ ((281474976710656 : Int) < (n : Int) * (i.bytes : Int)) := by
      have : ((n * i.bytes : Nat) : Int) = (n : Int) * (i.bytes : Int) := by simp
      omega
    have h4 : ¬ (9223372036854775807 < (n : Int)) := by omega
    have h5 : ¬ (281474976710656 < Builtin.nextslicecap n 0 * i.bytes) := by rw [nextslicecap_zero hn]; omega
    have h6 : ¬ (n * i.size = 0) := fun h => by rcases Nat.mul_eq_zero.1 h with h | h <;> omega
    have h7 : i.size ≠ 0 := by omega
    simp [execOp, resolve, invoke, builtin, hs, hx, Builtin.append_, run_underlying hu, run_underlying hti, sizeOf, typeInfo, zeroValue, hi, hz, hn0, h1, h2, h3, h4, h5, h7, asInt, asIntOf, Question.forced, run_firstCells_none, newRow, grownCap]
    exact fun h => absurd h h6
  · exact ⟨rfl, rfl, rfl, Nat.le_succ _, by simp, fun b hb _ => heap_alloc_old w.drew _ b hb⟩
  · refine ⟨by simp, .inr ⟨w.heap.size, _, _, rfl, hbase, heap_alloc_new w.drew _, Nat.zero_le _, hcm, ?_, by simp⟩⟩
    simp only [Array.size_append, size_zeroCells, hzs, ← Nat.add_mul]
    congr 1
    omega
theorem r_capSlice {P : Program} {σ : Env} {w : World} {dst : Option Tmp} {ty : TypeId} {pos : String} {af : Array Edge} {g : Option (Nat × Bool)} {t e : TypeId} {x : Operand} {ad : Option Addr} {n cap : Nat} (hu : P.underlying t = some (.slice e)) (hx : ev σ x = .slice ad n cap) :
    (execOp (ev σ) ⟨dst, .call ⟨.builtin .cap, #[x], #[t]⟩, ty, pos, af, g⟩).run P w = .ok (.value (.int .i64 cap)) w := by
  simp only [execOp, resolve, List.map_toArray, List.map_cons, List.map_nil, hx]
  simp [invoke, builtin, Builtin.cap_, run_underlying hu, goInt]
def SpssAt (w : World) (v : Value) (ll : List (List Sp)) : Prop := ∃ vs : List Value, SlAt w 1 v (vs.map fun x => [x]) ∧ vs.length = ll.length ∧ ∀ (i : Nat) (u : Value) (l : List Sp), vs[i]? = some u → ll[i]? = some l → SpansAt w u l
theorem SpssAt.ext {w w' : World} {v : Value} {ll : List (List Sp)} (h : SpssAt w v ll) (e : Ext w w') : SpssAt w' v ll := by
  obtain ⟨vs, h1, h2, h3⟩ := h
  exact ⟨vs, h1.ext e, h2, fun i u l hu hl => (h3 i u l hu hl).ext e⟩
theorem SpssAt.form {w : World} {v : Value} {ll : List (List Sp)} (h : SpssAt w v ll) : ∃ a c, v = .slice a ll.length c ∧ ll.length ≤ c ∧ ll.length ≤ 9223372036854775807 := by
  obtain ⟨vs, h1, h2, _⟩ := h
  obtain ⟨a, c, rfl⟩ := h1.form
  have := h1.cap
  have := h1.le
  simp only [List.length_map] at *
  rw [h2] at *
  exact ⟨a, c, rfl, by omega, by omega⟩
theorem spss_cells {w : World} {a : Option Addr} {n c : Nat} {ll : List (List Sp)} (h : SpssAt w (.slice a n c) ll) (hn : 0 < n) :
    ∃ b o, a = some ⟨b, o, none⟩ ∧ ∀ i l, ll[i]? = some l → ∃ ra rc, w.cell? ⟨b, o + i, none⟩ = some (.slice ra l.length rc) ∧ SpansAt w (.slice ra l.length rc) l := by
  obtain ⟨vs, h1, h2, h3⟩ := h
  obtain ⟨b, o, ha, hc⟩ := SlAt.at h1 hn
  refine ⟨b, o, ha, fun i l hl => ?_⟩
  have hi : i < vs.length := by have := lt_of_get hl; omega
  have hu : vs[i]? = some vs[i] := List.getElem?_eq_getElem hi
  have h4 := h3 i vs[i] l hu hl
  obtain ⟨ra, rc, hf⟩ := SlAt.form h4
  simp only [List.length_map] at hf
  have h5 := hc i [vs[i]] (by simp [hu]) 0 _ rfl
  rw [Nat.mul_one, Nat.add_zero, hf] at h5
  rw [hf] at h4
  exact ⟨ra, rc, h5, h4⟩
def lens (ll : List (List Sp)) : Nat := ll.flatten.length
theorem lens_take {ll : List (List Sp)} {k : Nat} {l : List Sp} (h : ll[k]? = some l) : (ll.take (k + 1)).flatten = (ll.take k).flatten ++ l := by
  rw [List.take_add_one, h]; simp
theorem lens_le (ll : List (List Sp)) (k : Nat) : (ll.take k).flatten.length ≤ ll.flatten.length := by
  have h : ll.flatten = (ll.take k).flatten ++ (ll.drop k).flatten := by rw [← List.flatten_append, List.take_append_drop]
  rw [h, List.length_append]; omega
theorem spanV_append (a b : List Sp) : ((a ++ b).map spanV).flatten = (a.map spanV).flatten ++ (b.map spanV).flatten := by simp
end Go.Proofs
