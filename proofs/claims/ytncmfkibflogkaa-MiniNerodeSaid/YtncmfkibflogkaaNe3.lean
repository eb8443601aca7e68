/- Contracts and plain lemmas, part 3. -/
import Derived.Tactics
import Derived.Deep.Quiet
import Derived.Laws.AppendOwn
import Derived.KernelRfl
import Derived.Laws.Entries
import Derived.Laws.Build
import Derived.Below
import Derived.RowKit3
import Derived.StillTail
import Derived.Sort.Grow
import Derived.Deep.Draws
import Derived.Test.YtncmfkibflogkaaChecked
import Derived.Laws.StructEq
import Derived.MapKept
import Derived.Laws.BytesArg
import Derived.Laws.CopyRow
import Derived.DeepKeys3
import Derived.Shelf.Sort.Plain
import Derived.Shelf.Slices.CompactI
import Derived.Test.YtncmfkibflogkaaProg
import Derived.Test.YtncmfkibflogkaaNe2
namespace Go.Proofs
open Go Go.Eng Go.Sort
def EntP (d : Dfa) (p : List Int) (st : List Int) (s : Int) (x : Nat) (y : Int) : Prop := (y = -1 ∧ ptD p (toD d s x) < 0) ∨ ∃ (j : Nat) (t : Int), y = ((j : Nat) : Int) ∧ st[j]? = some t ∧ ptD p t = ptD p (toD d s x) ∧ 0 ≤ ptD p t
theorem EntP.mono {d : Dfa} {p st : List Int} {s y : Int} {x : Nat} (h : EntP d p st s x y) (u : List Int) : EntP d p (st ++ u) s x y := by
  rcases h with h | ⟨j, t, h1, h2, h3⟩
  · exact .inl h
  · exact .inr ⟨j, t, h1, by rw [List.getElem?_append_left (lt_of_get h2)]; exact h2, h3⟩
structure CanP (n c : Nat) (d : Dfa) (p : List Int) (rows : List (List Int)) (row st : List Int) : Prop where
  s0 : st[0]? = some d.start
  sl : ∀ s ∈ st, 0 ≤ s ∧ s < n ∧ 0 ≤ ptD p s
  inj : ∀ (i j : Nat) s t, st[i]? = some s → st[j]? = some t → ptD p s = ptD p t → i = j
  len : ∀ r ∈ rows, r.length = c
  ent : ∀ (i x : Nat) r y s, rows[i]? = some r → r[x]? = some y → st[i]? = some s → EntP d p st s x y
  cur : ∀ (x : Nat) y s, row[x]? = some y → st[rows.length]? = some s → EntP d p st s x y
  ord : ∀ (k : Nat) y, (rows.flatten ++ row)[k]? = some y → y ≤ mxL ((rows.flatten ++ row).take k) + 1
  mx : mxL (rows.flatten ++ row) + 1 = st.length
  rch : ∀ i : Nat, i < rows.length → ((i : Nat) : Int) ≤ mxL (rows.take i).flatten
theorem CanP.start {n c : Nat} {d : Dfa} {p : List Int} (hs : 0 ≤ d.start ∧ d.start < n) (hp : 0 ≤ ptD p d.start) : CanP n c d p [] [] [d.start] := by
  refine ⟨rfl, fun s h => by rw [List.mem_singleton] at h; subst h; exact ⟨hs.1, hs.2, hp⟩, fun i j s t h1 h2 _ => ?_, fun r h => absurd h List.not_mem_nil, fun i x r y s h => by simp at h, fun x y s h => by simp at h, fun k y h => by simp at h, by simp [mxL], fun i h => by simp at h⟩
  have a := lt_of_get h1
  have b := lt_of_get h2
  simp at a b
  omega
theorem ord_snoc {F : List Int} {y : Int} (h : ∀ (k : Nat) z, F[k]? = some z → z ≤ mxL (F.take k) + 1) (hy : y ≤ mxL F + 1) : ∀ (k : Nat) z, (F ++ [y])[k]? = some z → z ≤ mxL ((F ++ [y]).take k) + 1 := by
  intro k z hz
  rcases snoc_get hz with h1 | ⟨h1, h2⟩
  · rw [List.take_append_of_le_length (by have := lt_of_get h1; omega)]
    exact h k z h1
  · rw [h1, h2, List.take_append_of_le_length (Nat.le_refl _), List.take_length]
    exact hy
theorem CanP.add {n c : Nat} {d : Dfa} {p : List Int} {rows : List (List Int)} {row st : List Int} {s y : Int} (h : CanP n c d p rows row st) (hs : st[rows.length]? = some s) (hE : EntP d p st s row.length y) : CanP n c d p rows (row ++ [y]) st := by
  have hy : y ≤ mxL (rows.flatten ++ row) := by
    have hm := h.mx
    have hl := List.length_pos_of_mem (List.mem_of_getElem? h.s0)
    rcases hE with ⟨h1, _⟩ | ⟨j, t, h1, h2, _⟩
    · omega
    · have := lt_of_get h2; omega
  refine ⟨h.s0, h.sl, h.inj, h.len, h.ent, fun x z q hx hq => ?_, ?_, ?_, h.rch⟩
  · rcases snoc_get hx with h1 | ⟨h1, h2⟩
    · exact h.cur x z q h1 hq
    · rw [hs] at hq; cases hq
      rw [h1, h2]; exact hE
  · rw [← List.append_assoc]; exact ord_snoc h.ord (by omega)
  · rw [← List.append_assoc, mxL_snoc]; have := h.mx; omega
theorem CanP.new {n c : Nat} {d : Dfa} {p : List Int} {rows : List (List Int)} {row st : List Int} {s : Int} (h : CanP n c d p rows row st) (hs : st[rows.length]? = some s) (ht : 0 ≤ toD d s row.length ∧ toD d s row.length < n) (hp : 0 ≤ ptD p (toD d s row.length)) (hnew : ∀ t ∈ st, ptD p t ≠ ptD p (toD d s row.length)) :
    CanP n c d p rows (row ++ [((st.length : Nat) : Int)]) (st ++ [toD d s row.length]) := by
  have hsl := lt_of_get hs
  have hE : EntP d p (st ++ [toD d s row.length]) s row.length ((st.length : Nat) : Int) := .inr ⟨st.length, _, rfl, by rw [List.getElem?_append_right (Nat.le_refl _), Nat.sub_self]; rfl, rfl, hp⟩
  refine ⟨by rw [List.getElem?_append_left (lt_of_get h.s0)]; exact h.s0, fun q hq => ?_, fun i j q r hi hj he => ?_, h.len, fun i x r y q hr hy hq => ?_, fun x z q hx hq => ?_, ?_, ?_, h.rch⟩
  · rcases List.mem_append.1 hq with h1 | h1
    · exact h.sl q h1
    · rw [List.mem_singleton] at h1; subst h1; exact ⟨ht.1, ht.2, hp⟩
  · rcases snoc_get hi with h1 | ⟨h1, h2⟩ <;> rcases snoc_get hj with h3 | ⟨h3, h4⟩
    · exact h.inj i j q r h1 h3 he
    · exact absurd (by rw [he, h4]) (hnew q (List.mem_of_getElem? h1))
    · exact absurd (by rw [← he, h2]) (hnew r (List.mem_of_getElem? h3))
    · omega
  · rcases snoc_get hq with h1 | ⟨h1, _⟩
    · exact (h.ent i x r y q hr hy h1).mono _
    · have := lt_of_get hr; omega
  · have hq2 : q = s := by
      rw [List.getElem?_append_left hsl, hs] at hq
      exact (Option.some.inj hq).symm
    subst hq2
    rcases snoc_get hx with h1 | ⟨h1, h2⟩
    · exact (h.cur x z q h1 hs).mono _
    · rw [h1, h2]; exact hE
  · rw [← List.append_assoc]; exact ord_snoc h.ord (by have := h.mx; omega)
  · rw [← List.append_assoc, mxL_snoc]; have := h.mx; simp; omega
theorem CanP.row {n c : Nat} {d : Dfa} {p : List Int} {rows : List (List Int)} {row st : List Int} (h : CanP n c d p rows row st) (hl : row.length = c) (hr : ((rows.length : Nat) : Int) ≤ mxL rows.flatten) : CanP n c d p (rows ++ [row]) [] st := by
  have hf : (rows ++ [row]).flatten ++ [] = rows.flatten ++ row := by simp
  refine ⟨h.s0, h.sl, h.inj, fun r hm => ?_, fun i x r y s h1 h2 h3 => ?_, fun x y s h1 => by simp at h1, by rw [hf]; exact h.ord, by rw [hf]; exact h.mx, fun i hi => ?_⟩
  · rcases List.mem_append.1 hm with h1 | h1
    · exact h.len r h1
    · rw [List.mem_singleton] at h1; rw [h1]; exact hl
  · rcases snoc_get h1 with h4 | ⟨h4, h5⟩
    · exact h.ent i x r y s h4 h2 h3
    · subst h5; rw [h4] at h3; exact h.cur x y s h2 h3
  · simp at hi
    rcases Nat.lt_or_ge i rows.length with h1 | h1
    · rw [List.take_append_of_le_length (by omega)]; exact h.rch i h1
    · have : i = rows.length := by omega
      rw [this, List.take_append_of_le_length (Nat.le_refl _), List.take_length]; exact hr
theorem flat_take {c : Nat} : ∀ {L : List (List Int)} {i : Nat}, (∀ r ∈ L, r.length = c) → i ≤ L.length → L.flatten.take (i * c) = (L.take i).flatten
  | [], i, _, _ => by simp
  | q :: L, 0, _, _ => by simp
  | q :: L, i + 1, h, hi => by
    have hq := h q List.mem_cons_self
    rw [List.flatten_cons, List.take_succ_cons, List.flatten_cons, show (i + 1) * c = q.length + i * c by rw [hq, Nat.add_mul]; omega, List.take_append, Nat.add_sub_cancel_left, flat_take (fun r hr => h r (List.mem_cons_of_mem _ hr)) (by simpa using hi), List.take_of_length_le (by omega)]
theorem CanP.done {n c : Nat} {d : Dfa} {p : List Int} {rows : List (List Int)} {st : List Int} (h : CanP n c d p rows [] st) (ok : OkD n c d) (hP : PartsOf n c d p) (hl : rows.length = st.length) : CanOf c (beh d d.start) ⟨0, st.map (atD d), rows⟩ := by
  have hmx := h.mx
  rw [List.append_nil] at hmx
  have hm0 := List.length_pos_of_mem (List.mem_of_getElem? h.s0)
  have hgs : ∀ i : Nat, i < rows.length → ∃ s, st[i]? = some s := fun i hi => get_of_lt (by omega)
  have hrow : ∀ r ∈ rows, r.length = c ∧ ∀ y ∈ r, -1 ≤ y ∧ y < st.length := fun r hr => by
    refine ⟨h.len r hr, fun y hy => ?_⟩
    obtain ⟨i, hi⟩ := List.getElem?_of_mem hr
    obtain ⟨x, hx⟩ := List.getElem?_of_mem hy
    obtain ⟨s, hs⟩ := hgs i (lt_of_get hi)
    rcases h.ent i x r y s hi hx hs with ⟨h1, _⟩ | ⟨j, t, h1, h2, _⟩
    · omega
    · have := lt_of_get h2; omega
  have okC : OkD st.length c ⟨0, st.map (atD d), rows⟩ := ⟨hl, by simp, ⟨Int.le_refl _, by show (0 : Int) < _; omega⟩, fun x hx => by
    obtain ⟨s, _, h1⟩ := List.mem_map.1 hx
    rw [← h1]; exact ok.at', hrow⟩
  have hb : Bfs st.length c ⟨0, st.map (atD d), rows⟩ := by
    refine ⟨okC, rfl, fun k y hk => ?_, fun i hi => ?_, ?_⟩
    · have := h.ord k y (by rw [List.append_nil]; exact hk)
      rwa [List.append_nil] at this
    · show _ ≤ mxL (rows.flatten.take (i * c))
      rw [flat_take h.len (by omega)]
      exact h.rch i (by omega)
    · show mxL rows.flatten = _
      omega
  refine canOf_states ok hb rfl h.s0 (fun i j s t hi hj he => ?_) (fun i s hs => ?_) fun i x s hs hx => ?_
  · have a := h.sl s (List.mem_of_getElem? hi)
    have b := h.sl t (List.mem_of_getElem? hj)
    exact h.inj i j s t hi hj ((hP.iff s t ⟨by omega, a.2.1⟩ ⟨by omega, b.2.1⟩).2 he)
  · exact atD_get (by rw [List.getElem?_map, hs]; rfl)
  · obtain ⟨r, hr⟩ := get_of_lt (l := rows) (i := i) (by have := lt_of_get hs; omega)
    have hrl := h.len r (List.mem_of_getElem? hr)
    obtain ⟨y, hy⟩ := get_of_lt (l := r) (i := x) (by omega)
    have hto : toD ⟨0, st.map (atD d), rows⟩ ((i : Nat) : Int) x = y := toD_get hr hy
    have hrg := ok.to (s := s) (x := x)
    rcases h.ent i x r y s hr hy hs with ⟨h1, h2⟩ | ⟨j, t, h1, h2, h3, h4⟩
    · left
      refine ⟨by rw [hto]; exact h1, fun hl => ?_⟩
      have := (hP.live _ hrg).1.2 hl
      omega
    · right
      have b := h.sl t (List.mem_of_getElem? h2)
      exact ⟨j, t, by rw [hto]; exact h1, h2, (hP.iff t _ ⟨by omega, b.2.1⟩ hrg).1 h3, (hP.live t ⟨by omega, b.2.1⟩).1.1 h4⟩
/-- Nothing is accepted. -/
theorem canOf_dead {n c : Nat} {d : Dfa} (ok : OkD n c d) (hd : ¬ liveD c d d.start) : CanOf c (beh d d.start) ⟨0, [-1], [List.replicate c (-1)]⟩ := by
  have hto : ∀ (s : Int) (x : Nat), toD ⟨0, [-1], [List.replicate c (-1)]⟩ s x = -1 := fun s x => by
    unfold toD
    split
    · rfl
    · rw [List.getD_eq_getElem?_getD, List.getD_eq_getElem?_getD]
      cases h : ([List.replicate c (-1 : Int)])[s.toNat]? with
      | none => simp
      | some r =>
        have := List.mem_of_getElem? h
        rw [List.mem_singleton] at this
        subst this
        simp only [Option.getD_some, List.getElem?_replicate]
        split <;> rfl
  have hmx : mxL ([List.replicate c (-1 : Int)]).flatten = 0 := by
    simp only [List.flatten_cons, List.flatten_nil, List.append_nil]
    induction c with
    | zero => rfl
    | succ c ih => 
      have e : ∀ k, mxL (List.replicate k (-1 : Int)) = 0 := fun k => by
        induction k with
        | zero => rfl
        | succ k ih2 => rw [List.replicate_succ', mxL_snoc, ih2]; decide
      exact e _
  have okC : OkD 1 c ⟨0, [-1], [List.replicate c (-1)]⟩ := ⟨rfl, rfl, ⟨Int.le_refl _, by show (0 : Int) < 1; decide⟩, fun x hx => by rw [List.mem_singleton] at hx; rw [hx]; exact Int.le_refl _, fun r hr => by
    rw [List.mem_singleton] at hr
    subst hr
    exact ⟨by simp, fun x hx => by rw [(List.mem_replicate.1 hx).2]; decide⟩⟩
  have hbeh : ∀ (w : List Nat), beh ⟨0, [-1], [List.replicate c (-1)]⟩ 0 w = -1 := fun w => by
    cases w with
    | nil => rfl
    | cons x w => simp only [beh]; rw [hto]; exact beh_neg (by decide)
  refine ⟨1, ⟨okC, rfl, fun k x hk => ?_, fun i hi => ?_, by rw [hmx]; rfl⟩, fun w hw => by rw [hbeh, ok.dead hd hw], fun s t h1 h2 h3 h4 _ => by omega, fun s x _ h => by rw [hto] at h; exact absurd h (by decide)⟩
  · have h1 := List.mem_of_getElem? hk
    simp at h1
    have := mxL_nn ((([List.replicate c (-1 : Int)]).flatten).take k)
    have h2 : x = -1 := h1.2
    show x ≤ mxL ((([List.replicate c (-1 : Int)]).flatten).take k) + 1
    omega
  · have : i = 0 := by omega
    rw [this]; exact mxL_nn _
def keysC : List Int → Nat → List (Int × Int)
  | [], _ => []
  | m :: ks, n => (m, ((n : Nat) : Int)) :: keysC ks (n + 1)
theorem keysC_snoc : ∀ (ks : List Int) (m : Int) (n : Nat), keysC (ks ++ [m]) n = keysC ks n ++ [(m, (((n + ks.length : Nat) : Nat) : Int))]
  | [], m, n => rfl
  | x :: ks, m, n => by
    show (x, _) :: keysC (ks ++ [m]) (n + 1) = (x, _) :: (keysC ks (n + 1) ++ _)
    rw [keysC_snoc ks m (n + 1), List.length_cons, show n + 1 + ks.length = n + (ks.length + 1) by omega]
theorem keysC_mem : ∀ {ks : List Int} {n : Nat} {q : Int × Int}, q ∈ keysC ks n → ∃ (j : Nat) (m : Int), ks[j]? = some m ∧ q = (m, (((n + j : Nat) : Nat) : Int))
  | [], _, _, h => by cases h
  | x :: ks, n, q, h => by
    rcases List.mem_cons.1 h with h | h
    · exact ⟨0, x, rfl, h⟩
    · obtain ⟨j, m, h1, h2⟩ := keysC_mem h
      exact ⟨j + 1, m, h1, by rw [h2]; congr 2; omega⟩
theorem keysC_key : ∀ {ks : List Int} {n : Nat} {m : Int}, m ∈ ks → m ∈ (keysC ks n).map (·.1)
  | x :: ks, n, m, h => by
    rcases List.mem_cons.1 h with rfl | h
    · exact List.mem_cons_self
    · exact List.mem_cons_of_mem _ (keysC_key (n := n + 1) h)
theorem keysC_get {ks : List Int} {m v : Int} (h : getM (keysC ks 0) m = some v) : ∃ j : Nat, v = ((j : Nat) : Int) ∧ ks[j]? = some m := by
  obtain ⟨j, m', h1, h2⟩ := keysC_mem (getM_some_mem h)
  simp only [Prod.mk.injEq, Nat.zero_add] at h2
  exact ⟨j, h2.2, by rw [h1, h2.1]⟩
theorem keysC_none {ks : List Int} {m : Int} (h : getM (keysC ks 0) m = none) : m ∉ ks ∧ putM (keysC ks 0) m ((ks.length : Nat) : Int) = keysC (ks ++ [m]) 0 := by
  refine ⟨fun hm => ?_, ?_⟩
  · have := getM_isSome.2 (keysC_key (n := 0) hm)
    rw [h] at this; cases this
  · rw [putM_none _ h, keysC_snoc, Nat.zero_add]
end Go.Proofs
namespace Go.Proofs
open Go Go.Eng Go.Sort
set_option maxRecDepth 100000
theorem run_copyOp {P : Program} {σ : Env} {w : World} {dst : Option Tmp} {ty : TypeId} {pos : String} {af : Array Edge} {g0 : Option (Nat × Bool)} {t e : TypeId} {x y : Operand} {g o dl dc sb so sl sc : Nat} {cur c' : Array Value} {T : TypeId} {cs : List Value} (hu : P.underlying t = some (.slice e)) (hs : Siz P e 1) (hx : ev σ x = .slice (some ⟨g, o, none⟩) dl dc) (hy : ev σ y = .slice (some ⟨sb, so, none⟩) sl sc)
    (hB : Blk w g cur T) (hcs : CellsAt w sb so cs) (hn : cs.length = Nat.min sl dl) (hfit : o + cs.length ≤ cur.size) (h1 : ∀ v ∈ cs, v.oneCell' = true) (hc : (cur.toList.take o ++ cs ++ cur.toList.drop (o + cs.length)).toArray = c') :
    (execOp (ev σ) ⟨dst, .call ⟨.builtin .copy, #[x, y], #[t, t]⟩, ty, pos, af, g0⟩).run P w = .ok (.value (.int .i64 ((cs.length : Nat) : Int))) (w.setRow g c') := by
  subst hc
  have hr := run_copy_row (P := P) w t t ty e g o dl dc ⟨sb, so, none⟩ sl sc cur T cs hu hs hB hn (fun j v hj => by rw [Addr.add_lit]; exact hcs j v hj) hfit h1
  simp [execOp, resolve, invoke, builtin, hx, hy, hr, goInt]
theorem s_copy {P : Program} {N : Nat} {Q : Post} {σ : Env} {w : World} {K : Env → World → Prop} {ops : Array Oper} {rest : List Oper} {d : Nat} {ty : TypeId} {pos : String} {af : Array Edge} {t e : TypeId} {x y : Operand} {g o dl dc sb so sl sc : Nat} {cur c' : Array Value} {T : TypeId} {cs : List Value} (hN : d < N) (hu : P.underlying t = some (.slice e)) (hs : Siz P e 1) (hx : ev σ x = .slice (some ⟨g, o, none⟩) dl dc) (hy : ev σ y = .slice (some ⟨sb, so, none⟩) sl sc)
    (hB : Blk w g cur T) (hcs : CellsAt w sb so cs) (hn : cs.length = Nat.min sl dl) (hfit : o + cs.length ≤ cur.size) (h1 : ∀ v ∈ cs, v.oneCell' = true) (hc : (cur.toList.take o ++ cs ++ cur.toList.drop (o + cs.length)).toArray = c')
    (k : ∀ w', Put w w' g c' T → WpL P N ops K Q rest (upd σ d (.int .i64 ((cs.length : Nat) : Int))) w') : WpL P N ops K Q (⟨some d, .call ⟨.builtin .copy, #[x, y], #[t, t]⟩, ty, pos, af, none⟩ :: rest) σ w :=
  WpL_val rfl rfl hN (run_copyOp hu hs hx hy hB hcs hn hfit h1 hc) (k _ (Put.of_setRow hB _))
theorem DoesT_copy {P : Program} {N : Nat} {σ : Env} {w : World} {M : Nat → Prop} {R : Fct} {dst : Option Tmp} {ty : TypeId} {pos : String} {af : Array Edge} {g0 : Option (Nat × Bool)} {t e : TypeId} {x y : Operand} {g o dl dc sb so sl sc : Nat} {cur c' : Array Value} {T : TypeId} {cs : List Value} (hu : P.underlying t = some (.slice e)) (hs : Siz P e 1) (hx : ev σ x = .slice (some ⟨g, o, none⟩) dl dc) (hy : ev σ y = .slice (some ⟨sb, so, none⟩) sl sc)
    (hB : Blk w g cur T) (hcs : CellsAt w sb so cs) (hn : cs.length = Nat.min sl dl) (hfit : o + cs.length ≤ cur.size) (h1 : ∀ v ∈ cs, v.oneCell' = true) (hc : (cur.toList.take o ++ cs ++ cur.toList.drop (o + cs.length)).toArray = c') (hM : M g)
    (hR : ∀ w', Blk w' g c' T → R (.int .i64 ((cs.length : Nat) : Int)) w') : DoesT M P N ⟨dst, .call ⟨.builtin .copy, #[x, y], #[t, t]⟩, ty, pos, af, g0⟩ R σ w := by
  have hp := Put.of_setRow hB c'
  exact DoesT_val (run_copyOp hu hs hx hy hB hcs hn hfit h1 hc) (hp.chg.mono fun z _ h => by subst h; exact hM) (hR _ hp.blk)
theorem ofInt64 (m : Nat) (h : m < 18446744073709551616) : (BitVec.ofInt 64 (m : Int)).toNat = m := by
  rw [BitVec.toNat_ofInt]; omega
theorem and64 {P : Program} {w : World} (m : Nat) (hm : m < 4294967296) : (Op.intBits .and .u64 (m : Int) 4294967295).run P w = .ok (.int .u64 (m : Int)) w := by
  have h1 : m &&& 4294967295 = m := by
    have := Nat.and_two_pow_sub_one_eq_mod m 32
    rw [show (2 : Nat) ^ 32 - 1 = 4294967295 by decide] at this
    rw [this]; omega
  show Result.ok (Value.int .u64 (IntKind.u64.wrap ((BitVec.ofInt 64 (m : Int) &&& BitVec.ofInt 64 (((4294967295 : Nat) : Nat) : Int) : BitVec 64).toNat : Int))) w = _
  rw [BitVec.toNat_and, ofInt64 m (by omega), ofInt64 _ (by decide), h1, wU64 (by omega)]
theorem shr32 {n : Int} (h : 0 ≤ n ∧ n < 4294967296) : n.fdiv (2 ^ min (Int.toNat 32) IntKind.u64.bits) = 0 := by
  show n.fdiv 4294967296 = 0
  rw [Int.fdiv_eq_ediv_of_nonneg n (by decide)]
  omega
theorem mul64_c (w0 : World) (m n : Nat) (hm : m ≤ 60000) (hn : n ≤ 60000) : Ret Try.prog 115 #[.int .u64 (m : Int), .int .u64 (n : Int)] w0 fun r w => r = .tuple #[.int .u64 0, .int .u64 ((m * n : Nat) : Int)] ∧ Ext w0 w := by
  have hmn : m * n ≤ 60000 * 60000 := Nat.mul_le_mul hm hn
  have hc : ((m : Int) * (n : Int)) = ((m * n : Nat) : Int) := by simp
  refine Ret_of Try.func115 rfl Try.ntmps115 (Nat.le_of_ble_eq_true rfl) ?_
  have E : Chg none1 w0 w0 := Chg.refl _ _
  refine Wp_seq_region ?_
  refine WpL_val rfl rfl (by decide) (r_assign (v := (.int .u64 0)) rfl) ?_
  refine WpL_val rfl rfl (by decide) (r_assign (v := (.int .u64 0)) rfl) ?_
  refine WpL_nil ?_
  refine Wp_seq_region ?_
  refine WpL_val rfl rfl (by decide) (r_move (v := (.int .u64 ((m : Nat) : Int))) rfl) ?_
  refine WpL_val rfl rfl (by decide) (r_bits (k := .u64) (a := ((m : Nat) : Int)) (b := 4294967295) (v := .int .u64 ((m : Nat) : Int)) rfl rfl (by simp) (and64 m (by omega))) ?_
  refine WpL_val rfl rfl (by decide) (r_assign (v := (.int .u64 ((m : Nat) : Int))) rfl) ?_
  refine WpL_nil ?_
  refine Wp_seq_region ?_
  refine WpL_val rfl rfl (by decide) (r_move (v := (.int .u64 ((m : Nat) : Int))) rfl) ?_
  refine WpL_val rfl rfl (by decide) (r_shr (k := .u64) (a := ((m : Nat) : Int)) (b := 32) (c := 0) (k' := .u64) rfl rfl (by omega) (shr32 (by omega))) ?_
  refine WpL_val rfl rfl (by decide) (r_assign (v := (.int .u64 0)) rfl) ?_
  refine WpL_nil ?_
  refine Wp_seq_region ?_
  refine WpL_val rfl rfl (by decide) (r_move (v := (.int .u64 ((n : Nat) : Int))) rfl) ?_
  refine WpL_val rfl rfl (by decide) (r_bits (k := .u64) (a := ((n : Nat) : Int)) (b := 4294967295) (v := .int .u64 ((n : Nat) : Int)) rfl rfl (by simp) (and64 n (by omega))) ?_
  refine WpL_val rfl rfl (by decide) (r_assign (v := (.int .u64 ((n : Nat) : Int))) rfl) ?_
  refine WpL_nil ?_
  refine Wp_seq_region ?_
  refine WpL_val rfl rfl (by decide) (r_move (v := (.int .u64 ((n : Nat) : Int))) rfl) ?_
  refine WpL_val rfl rfl (by decide) (r_shr (k := .u64) (a := ((n : Nat) : Int)) (b := 32) (c := 0) (k' := .u64) rfl rfl (by omega) (shr32 (by omega))) ?_
  refine WpL_val rfl rfl (by decide) (r_assign (v := (.int .u64 0)) rfl) ?_
  refine WpL_nil ?_
  refine Wp_seq_region ?_
  refine WpL_val rfl rfl (by decide) (r_move (v := (.int .u64 ((m : Nat) : Int))) rfl) ?_
  refine WpL_val rfl rfl (by decide) (r_move (v := (.int .u64 ((n : Nat) : Int))) rfl) ?_
  refine WpL_val rfl rfl (by decide) (r_mul (k := .u64) (a := ((m : Nat) : Int)) (b := ((n : Nat) : Int)) (c := ((m * n : Nat) : Int)) rfl rfl (by rw [hc]; exact wU64 (by omega))) ?_
  refine WpL_val rfl rfl (by decide) (r_assign (v := (.int .u64 ((m * n : Nat) : Int))) rfl) ?_
  refine WpL_nil ?_
  refine Wp_seq_region ?_
  refine WpL_val rfl rfl (by decide) (r_move (v := (.int .u64 0)) rfl) ?_
  refine WpL_val rfl rfl (by decide) (r_move (v := (.int .u64 ((n : Nat) : Int))) rfl) ?_
  refine WpL_val rfl rfl (by decide) (r_mul (k := .u64) (a := 0) (b := ((n : Nat) : Int)) (c := 0) rfl rfl (by rw [Int.zero_mul]; rfl)) ?_
  refine WpL_val rfl rfl (by decide) (r_move (v := (.int .u64 ((m * n : Nat) : Int))) rfl) ?_
  refine WpL_val rfl rfl (by decide) (r_shr (k := .u64) (a := ((m * n : Nat) : Int)) (b := 32) (c := 0) (k' := .u64) rfl rfl (by omega) (shr32 (by omega))) ?_
  refine WpL_val rfl rfl (by decide) (r_add (k := .u64) (a := 0) (b := 0) (c := 0) rfl rfl (by rfl)) ?_
  refine WpL_val rfl rfl (by decide) (r_assign (v := (.int .u64 0)) rfl) ?_
  refine WpL_nil ?_
  refine Wp_seq_region ?_
  refine WpL_val rfl rfl (by decide) (r_move (v := (.int .u64 0)) rfl) ?_
  refine WpL_val rfl rfl (by decide) (r_bits (k := .u64) (a := 0) (b := 4294967295) (v := .int .u64 0) rfl rfl (by simp) (and64 0 (by decide))) ?_
  refine WpL_val rfl rfl (by decide) (r_assign (v := (.int .u64 0)) rfl) ?_
  refine WpL_nil ?_
  refine Wp_seq_region ?_
  refine WpL_val rfl rfl (by decide) (r_move (v := (.int .u64 0)) rfl) ?_
  refine WpL_val rfl rfl (by decide) (r_shr (k := .u64) (a := 0) (b := 32) (c := 0) (k' := .u64) rfl rfl (by omega) (shr32 (by omega))) ?_
  refine WpL_val rfl rfl (by decide) (r_assign (v := (.int .u64 0)) rfl) ?_
  refine WpL_nil ?_
  refine Wp_seq_region ?_
  refine WpL_val rfl rfl (by decide) (r_move (v := (.int .u64 0)) rfl) ?_
  refine WpL_val rfl rfl (by decide) (r_move (v := (.int .u64 ((m : Nat) : Int))) rfl) ?_
  refine WpL_val rfl rfl (by decide) (r_move (v := (.int .u64 0)) rfl) ?_
  refine WpL_val rfl rfl (by decide) (r_mul (k := .u64) (a := ((m : Nat) : Int)) (b := 0) (c := 0) rfl rfl (by rw [Int.mul_zero]; rfl)) ?_
  refine WpL_val rfl rfl (by decide) (r_add (k := .u64) (a := 0) (b := 0) (c := 0) rfl rfl (by rfl)) ?_
  refine WpL_val rfl rfl (by decide) (r_assign (v := (.int .u64 0)) rfl) ?_
  refine WpL_nil ?_
  refine Wp_seq_region ?_
  refine WpL_val rfl rfl (by decide) (r_move (v := (.int .u64 0)) rfl) ?_
  refine WpL_val rfl rfl (by decide) (r_move (v := (.int .u64 0)) rfl) ?_
  refine WpL_val rfl rfl (by decide) (r_mul (k := .u64) (a := 0) (b := 0) (c := 0) rfl rfl (by rfl)) ?_
  refine WpL_val rfl rfl (by decide) (r_move (v := (.int .u64 0)) rfl) ?_
  refine WpL_val rfl rfl (by decide) (r_add (k := .u64) (a := 0) (b := 0) (c := 0) rfl rfl (by rfl)) ?_
  refine WpL_val rfl rfl (by decide) (r_move (v := (.int .u64 0)) rfl) ?_
  refine WpL_val rfl rfl (by decide) (r_shr (k := .u64) (a := 0) (b := 32) (c := 0) (k' := .u64) rfl rfl (by omega) (shr32 (by omega))) ?_
  refine WpL_val rfl rfl (by decide) (r_add (k := .u64) (a := 0) (b := 0) (c := 0) rfl rfl (by rfl)) ?_
  refine WpL_val rfl rfl (by decide) (r_assign (v := (.int .u64 0)) rfl) ?_
  refine WpL_nil ?_
  refine Wp_seq_region ?_
  refine WpL_val rfl rfl (by decide) (r_move (v := (.int .u64 ((m : Nat) : Int))) rfl) ?_
  refine WpL_val rfl rfl (by decide) (r_move (v := (.int .u64 ((n : Nat) : Int))) rfl) ?_
  refine WpL_val rfl rfl (by decide) (r_mul (k := .u64) (a := ((m : Nat) : Int)) (b := ((n : Nat) : Int)) (c := ((m * n : Nat) : Int)) rfl rfl (by rw [hc]; exact wU64 (by omega))) ?_
  refine WpL_val rfl rfl (by decide) (r_assign (v := (.int .u64 ((m * n : Nat) : Int))) rfl) ?_
  refine WpL_nil ?_
  refine Wp_ret ?_
  refine fin_tmp2 Try.results115 (v := (.int .u64 0)) (v' := (.int .u64 ((m * n : Nat) : Int))) rfl rfl ?_
  exact ⟨rfl, E⟩
theorem mul_c (w0 : World) (m n : Nat) (hm : m ≤ 60000) (hn : n ≤ 60000) : Ret Try.prog 90 #[.int .u64 (m : Int), .int .u64 (n : Int)] w0 fun r w => r = .tuple #[.int .u64 0, .int .u64 ((m * n : Nat) : Int)] ∧ Ext w0 w := by
  refine Ret_of Try.func90 rfl Try.ntmps90 (Nat.le_of_ble_eq_true rfl) ?_
  have E : Chg none1 w0 w0 := Chg.refl _ _
  refine Wp_seq_region ?_
  refine WpL_val rfl rfl (by decide) (r_assign (v := (.int .u64 0)) rfl) ?_
  refine WpL_val rfl rfl (by decide) (r_assign (v := (.int .u64 0)) rfl) ?_
  refine WpL_nil ?_
  refine Wp_seq ?_
  refine Wp_cond_false rfl ?_
  refine Wp_skip ?_
  refine thn_normal ?_
  refine Wp_seq_region ?_
  refine WpL_val rfl rfl (by decide) (r_move (v := (.int .u64 ((m : Nat) : Int))) rfl) ?_
  refine WpL_val rfl rfl (by decide) (r_move (v := (.int .u64 ((n : Nat) : Int))) rfl) ?_
  refine WpL_enter rfl rfl (by decide) (r_callF (vs := [(.int .u64 ((m : Nat) : Int)), (.int .u64 ((n : Nat) : Int))]) Try.func115 nm115 bd115 rfl) (mul64_c _ m n hm hn) ?_
  rintro _ w9 ⟨rfl, X9⟩
  replace E := E.ext X9
  refine WpL_val rfl rfl (by decide) (r_move (v := (.tuple #[(.int .u64 0), (.int .u64 ((m * n : Nat) : Int))])) rfl) ?_
  refine WpL_val rfl rfl (by decide) (r_extract (vs := #[(.int .u64 0), (.int .u64 ((m * n : Nat) : Int))]) (v := (.int .u64 0)) rfl rfl) ?_
  refine WpL_val rfl rfl (by decide) (r_extract (vs := #[(.int .u64 0), (.int .u64 ((m * n : Nat) : Int))]) (v := (.int .u64 ((m * n : Nat) : Int))) rfl rfl) ?_
  refine WpL_val rfl rfl (by decide) (r_assign (v := (.int .u64 0)) rfl) ?_
  refine WpL_val rfl rfl (by decide) (r_assign (v := (.int .u64 ((m * n : Nat) : Int))) rfl) ?_
  refine WpL_nil ?_
  refine Wp_seq_region ?_
  refine WpL_val rfl rfl (by decide) (r_move (v := (.int .u64 0)) rfl) ?_
  refine WpL_val rfl rfl (by decide) (r_move (v := (.int .u64 ((m * n : Nat) : Int))) rfl) ?_
  refine WpL_val rfl rfl (by decide) (r_assign (v := (.int .u64 0)) rfl) ?_
  refine WpL_val rfl rfl (by decide) (r_assign (v := (.int .u64 ((m * n : Nat) : Int))) rfl) ?_
  refine WpL_nil ?_
  refine Wp_ret ?_
  refine fin_tmp2 Try.results90 (v := (.int .u64 0)) (v' := (.int .u64 ((m * n : Nat) : Int))) rfl rfl ?_
  exact ⟨rfl, E⟩
def repV (y : Int) (m n : Nat) : List Value := (List.replicate m y ++ List.replicate (n - m) 0).map (Value.int .i64)
theorem repV_take (y : Int) {m n k : Nat} (h : k ≤ m) : (repV y m n).take k = List.replicate k (Value.int .i64 y) := by
  simp only [repV, List.map_append, List.map_replicate]
  rw [List.take_append_of_le_length (by simp; omega), List.take_replicate, Nat.min_eq_left h]
theorem repV_copy (y : Int) {m n k : Nat} (h : m + k ≤ n) : ((repV y m n).toArray.toList.take m ++ List.replicate k (Value.int .i64 y) ++ (repV y m n).toArray.toList.drop (m + k)).toArray = (repV y (m + k) n).toArray := by
  have e1 := repV_take y (m := m) (n := n) (k := m) (Nat.le_refl _)
  have e2 : (repV y m n).drop (m + k) = List.replicate (n - (m + k)) (Value.int .i64 0) := by
    simp only [repV, List.map_append, List.map_replicate]
    rw [List.drop_append, List.drop_of_length_le (by simp), List.length_replicate, List.drop_replicate, List.nil_append]
    congr 1; omega
  show ((repV y m n).take m ++ List.replicate k (Value.int .i64 y) ++ (repV y m n).drop (m + k)).toArray = _
  rw [e1, e2]
  simp only [repV, List.map_append, List.map_replicate, List.replicate_append_replicate]
set_option maxHeartbeats 1000000 in
theorem repeat_c (w0 : World) (b sc n : Nat) (y : Int) (T : TypeId) (hB : Blk w0 b #[.int .i64 y] T) (h1 : 1 ≤ n) (hn : n ≤ 60000) :
    Ret Try.prog 55 #[.slice (some ⟨b, 0, none⟩) 1 sc, .int .i64 ((n : Nat) : Int)] w0 fun r w => (∃ g, r = .slice (some ⟨g, 0, none⟩) n n ∧ w0.heap.size ≤ g ∧ Blk w g ((List.replicate n y).map (Value.int .i64)).toArray 3) ∧ Ext w0 w := by
  have hbl := hB.lt
  refine Ret_of Try.func55 rfl Try.ntmps55 (Nat.le_of_ble_eq_true rfl) ?_
  have E : Chg none1 w0 w0 := Chg.refl _ _
  refine Wp_seq_region ?_
  refine WpL_val rfl rfl (by decide) (r_assign (v := (.slice none 0 0)) rfl) ?_
  refine WpL_nil ?_
  refine Wp_seq ?_
  refine Wp_seq_region ?_
  refine WpL_val rfl rfl (by decide) (r_move (v := (.int .i64 ((n : Nat) : Int))) rfl) ?_
  refine WpL_val rfl rfl (by decide) (r_lss (k := .i64) (a := ((n : Nat) : Int)) (b := 0) rfl rfl) ?_
  refine WpL_nil ?_
  have hc1 : (decide ((((n : Nat) : Int) : Int) < 0)) = false := decide_eq_false (by omega)
  refine Wp_cond_false (congrArg Value.bool hc1) ?_
  refine Wp_skip ?_
  refine thn_normal ?_
  refine Wp_seq_region ?_
  refine WpL_val rfl rfl (by decide) (r_move (v := (.slice (some ⟨b, 0, none⟩) 1 sc)) rfl) ?_
  refine WpL_val rfl rfl (by decide) (r_lenSlice (ad := some ⟨b, 0, none⟩) (n := 1) (cap := sc) Try.underlying22 rfl) ?_
  refine WpL_val rfl rfl (by decide) (r_convInt (k := .i64) (k' := .u64) (n := 1) (c := ((1 : Nat) : Int)) ⟨_, Try.underlying3⟩ Try.underlying106 rfl (rfl)) ?_
  refine WpL_val rfl rfl (by decide) (r_move (v := (.int .i64 ((n : Nat) : Int))) rfl) ?_
  refine WpL_val rfl rfl (by decide) (r_convInt (k := .i64) (k' := .u64) (n := ((n : Nat) : Int)) (c := ((n : Nat) : Int)) ⟨_, Try.underlying3⟩ Try.underlying106 rfl (wU64 (by omega))) ?_
  refine WpL_enter rfl rfl (by decide) (r_callF (vs := [(.int .u64 ((1 : Nat) : Int)), (.int .u64 ((n : Nat) : Int))]) Try.func90 nm90 bd90 rfl) (mul_c _ 1 n (by decide) hn) ?_
  rintro _ w9 ⟨rfl, X9⟩
  replace hB := X9.keep hB
  replace E := E.ext X9
  refine WpL_val rfl rfl (by decide) (r_move (v := (.tuple #[(.int .u64 0), (.int .u64 ((1 * n : Nat) : Int))])) rfl) ?_
  refine WpL_val rfl rfl (by decide) (r_extract (vs := #[(.int .u64 0), (.int .u64 ((1 * n : Nat) : Int))]) (v := (.int .u64 0)) rfl rfl) ?_
  refine WpL_val rfl rfl (by decide) (r_extract (vs := #[(.int .u64 0), (.int .u64 ((1 * n : Nat) : Int))]) (v := (.int .u64 ((1 * n : Nat) : Int))) rfl rfl) ?_
  refine WpL_val rfl rfl (by decide) (r_assign (v := (.int .u64 0)) rfl) ?_
  refine WpL_val rfl rfl (by decide) (r_assign (v := (.int .u64 ((1 * n : Nat) : Int))) rfl) ?_
  refine WpL_nil ?_
  refine Wp_seq ?_
  refine Wp_seq_region ?_
  refine WpL_val rfl rfl (by decide) (r_move (v := (.int .u64 0)) rfl) ?_
  refine WpL_val rfl rfl (by decide) (r_gtr (k := .u64) (a := 0) (b := 0) rfl rfl) ?_
  refine WpL_val rfl rfl (by decide) (r_move (v := (.bool false)) rfl) ?_
  refine WpL_guard_yes (oj := _) rfl rfl (by decide) rfl ?_
  refine WpL_val rfl rfl (by decide) (r_move (v := (.int .u64 ((1 * n : Nat) : Int))) rfl) ?_
  refine WpL_guard_yes (oj := _) rfl rfl (by decide) rfl ?_
  obtain ⟨e2, he2⟩ : ∃ e, (decide ((9223372036854775807 : Int) < ((1 * n : Nat) : Int))) = e := ⟨_, rfl⟩
  refine WpL_val rfl rfl (by decide) ((r_gtr (k := .u64) (a := ((1 * n : Nat) : Int)) (b := 9223372036854775807) rfl rfl).trans (by rw [he2]; try rfl)) ?_
  refine WpL_val rfl rfl (by decide) (r_pick (b := false) (v := (.bool e2)) rfl rfl) ?_
  refine WpL_nil ?_
  subst he2
  have hc3 : ((decide ((9223372036854775807 : Int) < ((1 * n : Nat) : Int)))) = false := decide_eq_false (by omega)
  refine Wp_cond_false (congrArg Value.bool hc3) ?_
  refine Wp_skip ?_
  refine thn_normal ?_
  refine Wp_seq_region ?_
  refine WpL_val rfl rfl (by decide) (r_move (v := (.int .u64 ((1 * n : Nat) : Int))) rfl) ?_
  refine WpL_val rfl rfl (by decide) (r_convInt (k := .u64) (k' := .i64) (n := ((1 * n : Nat) : Int)) (c := ((n : Nat) : Int)) ⟨_, Try.underlying106⟩ Try.underlying3 rfl ((wI64 (by omega)).trans (by omega))) ?_
  refine s_make (n := n) (z := (.int .i64 0)) (bytes := 8) (by decide) Try.underlying22 siz3 byt3 zer3 rfl rfl rfl (by omega) (by omega) ?_
  intro bz wz Nz
  have Fz := Nz.ge E
  have Oz_b := Nz.lt hB
  replace hB := Nz.keep hB
  replace E := E.ext Nz.ext
  have Bz := Nz.blk
  refine WpL_val rfl rfl (by decide) (r_assign (v := (.slice (some ⟨bz, 0, none⟩) n n)) rfl) ?_
  refine WpL_nil ?_
  refine Wp_seq_region ?_
  refine WpL_val rfl rfl (by decide) (r_move (v := (.slice (some ⟨bz, 0, none⟩) n n)) rfl) ?_
  refine WpL_val rfl rfl (by decide) (r_move (v := (.slice (some ⟨b, 0, none⟩) 1 sc)) rfl) ?_
  rw [show List.replicate n (Value.int .i64 0) = repV y 0 n by simp [repV]] at Bz
  refine s_copy (g := bz) (o := 0) (cs := [Value.int .i64 y]) (c' := (repV y 1 n).toArray) (by decide) Try.underlying22 siz3 rfl rfl Bz (hB.cells rfl) (by show 1 = Nat.min 1 n; simp only [Nat.min_def]; split <;> omega) (by simp [repV]; omega) (by simp [Value.oneCell']) (repV_copy y (m := 0) (k := 1) (by omega)) ?_
  intro w4 S4
  replace hB := S4.keep (by omega) hB
  replace E := S4.step E (by first | exact Or.inl (by omega) | exact Or.inr rfl | exact Or.inr (by assumption) | exact Or.inr (by simp) | exact Or.inr (by omega) | exact Or.inr (by dsimp only; omega))
  replace Bz := S4.blk
  refine WpL_val rfl rfl (by decide) (r_assign (v := (.int .i64 1)) rfl) ?_
  refine WpL_nil ?_
  refine Wp_seq ?_
  refine Wp_block ?_
  refine Wp_loop (fun nn_ σ W5 => ∃ (m : Nat), (∃ jj_, σ = upds jj_ [(7, (.slice (some ⟨bz, 0, none⟩) n n)), (8, (.int .i64 ((m : Nat) : Int)))]) ∧ Chg none1 w0 W5 ∧ Blk W5 b #[(.int .i64 y)] T ∧ Blk W5 bz ((repV y m n).toArray) 3 ∧ (1 ≤ m ∧ m ≤ n) ∧ nn_ = n - m) (n := n - 1) ?_ ?_
  · exact ⟨1, Fits.out ⟨rfl, rfl, trivial⟩, E, hB, Bz, ⟨Nat.le_refl _, h1⟩, rfl⟩
  · clear E hB Bz
    rintro _ _ W5 ⟨m, ⟨j5, rfl⟩, E, hB, Bz, hm, rfl⟩
    refine Wp_seq ?_
    refine Wp_seq_region ?_
    refine WpL_val rfl rfl (by decide) (r_move (v := (.int .i64 ((m : Nat) : Int))) rfl) ?_
    refine WpL_val rfl rfl (by decide) (r_move (v := (.slice (some ⟨bz, 0, none⟩) n n)) rfl) ?_
    refine WpL_val rfl rfl (by decide) (r_lenSlice (ad := some ⟨bz, 0, none⟩) (n := n) (cap := n) Try.underlying22 rfl) ?_
    refine WpL_val rfl rfl (by decide) (r_lss (k := .i64) (a := ((m : Nat) : Int)) (b := ((n : Nat) : Int)) rfl rfl) ?_
    refine WpL_nil ?_
    refine Wp_cond (b := decide ((((m : Nat) : Int) : Int) < ((n : Nat) : Int))) rfl (fun hlt => ?_) (fun hlt => ?_)
    · have khlt := hlt
      replace hlt := of_decide_eq_true hlt
      obtain ⟨k, hk⟩ : ∃ k, k = Nat.min m (n - m) := ⟨_, rfl⟩
      have hk1 : 1 ≤ k ∧ k ≤ m ∧ m + k ≤ n := by rw [hk]; simp only [Nat.min_def]; split <;> omega
      refine Wp_skip ?_
      refine thn_normal ?_
      refine Wp_block ?_
      obtain ⟨Fs7, hFs7⟩ : ∃ Fs : List (FactT ((fun q => q = bz))), Fs = [.eq (.int .i64 ((m : Nat) : Int)), .eq (.slice (some ⟨bz, 0, none⟩) n n), .eq (.int .i64 ((m : Nat) : Int)), .eq (.slice (some ⟨bz, m, none⟩) (n - m) (n - m)), .eq (.slice (some ⟨bz, 0, none⟩) n n), .eq (.int .i64 ((m : Nat) : Int)), .eq (.slice (some ⟨bz, 0, none⟩) m n), .own (fun v w => v = .int .i64 ((k : Nat) : Int) ∧ Blk w bz (repV y (m + k) n).toArray 3) (fun _ _ _ e h => ⟨h.1, Ext.keep e h.2⟩), .eq (.int .i64 (((m : Nat) : Int) + ((k : Nat) : Int)))] := ⟨_, rfl⟩
      refine Wp_dagT ((fun q => q = bz)) 9 7 [38, 39, 40, 41, 42, 43, 44, 45, 46] [[], [], [], [1, 2], [], [], [4, 5], [3, 6], [0, 7]] Fs7 hFs7 rfl mixed (by kernel_rfl) (by kernel_rfl) (by kernel_rfl) ?_ ?_
      · intro wd X0
        refine DagStepsT.cons (fun s' w' X U H => ?_) ?_
        · exact DoesT_val (r_move (v := (.int .i64 ((m : Nat) : Int))) (U 8 rfl)) (Chg.refl _ _) rfl
        refine DagStepsT.cons (fun s' w' X U H => ?_) ?_
        · exact DoesT_val (r_move (v := (.slice (some ⟨bz, 0, none⟩) n n)) (U 7 rfl)) (Chg.refl _ _) rfl
        refine DagStepsT.cons (fun s' w' X U H => ?_) ?_
        · exact DoesT_val (r_move (v := (.int .i64 ((m : Nat) : Int))) (U 8 rfl)) (Chg.refl _ _) rfl
        refine DagStepsT.cons (fun s' w' X U H => ?_) ?_
        · have e39 : s' 39 = (.slice (some ⟨bz, 0, none⟩) n n) := H 1 rfl 39 (.eq (.slice (some ⟨bz, 0, none⟩) n n)) rfl (by rw [hFs7]; rfl)
          have e40 : s' 40 = (.int .i64 ((m : Nat) : Int)) := H 2 rfl 40 (.eq (.int .i64 ((m : Nat) : Int))) rfl (by rw [hFs7]; rfl)
          exact DoesT_val (r_sliceLo (a := some ⟨bz, 0, none⟩) (len := n) (cap := n) (lo := m) (l := ((m : Nat) : Int)) (n' := n - m) (c' := n - m) Try.underlying22 siz3 e39 e40 rfl (by omega) (by rw [if_neg (by omega)]; simp only [Option.map_some, Addr.add_lit, Nat.mul_one, Nat.zero_add]) rfl rfl) (Chg.refl _ _) rfl
        refine DagStepsT.cons (fun s' w' X U H => ?_) ?_
        · exact DoesT_val (r_move (v := (.slice (some ⟨bz, 0, none⟩) n n)) (U 7 rfl)) (Chg.refl _ _) rfl
        refine DagStepsT.cons (fun s' w' X U H => ?_) ?_
        · exact DoesT_val (r_move (v := (.int .i64 ((m : Nat) : Int))) (U 8 rfl)) (Chg.refl _ _) rfl
        refine DagStepsT.cons (fun s' w' X U H => ?_) ?_
        · have e42 : s' 42 = (.slice (some ⟨bz, 0, none⟩) n n) := H 4 rfl 42 (.eq (.slice (some ⟨bz, 0, none⟩) n n)) rfl (by rw [hFs7]; rfl)
          have e43 : s' 43 = (.int .i64 ((m : Nat) : Int)) := H 5 rfl 43 (.eq (.int .i64 ((m : Nat) : Int))) rfl (by rw [hFs7]; rfl)
          exact DoesT_val (r_sliceHi (a := some ⟨bz, 0, none⟩) (len := n) (cap := n) (hi := m) (l := ((m : Nat) : Int)) Try.underlying22 siz3 e42 e43 rfl (by omega) (by rw [if_neg (by omega)]; simp only [Option.map_some, Addr.add_lit, Nat.zero_mul, Nat.add_zero])) (Chg.refl _ _) rfl
        refine DagStepsT.cons (fun s' w' X U H => ?_) ?_
        · have e41 : s' 41 = (.slice (some ⟨bz, m, none⟩) (n - m) (n - m)) := H 3 rfl 41 (.eq (.slice (some ⟨bz, m, none⟩) (n - m) (n - m))) rfl (by rw [hFs7]; rfl)
          have e44 : s' 44 = (.slice (some ⟨bz, 0, none⟩) m n) := H 6 rfl 44 (.eq (.slice (some ⟨bz, 0, none⟩) m n)) rfl (by rw [hFs7]; rfl)
          exact DoesT_copy (cs := List.replicate k (Value.int .i64 y)) (c' := (repV y (m + k) n).toArray) Try.underlying22 siz3 e41 e44 (Ext.keep X (X0.keep Bz)) (Blk.cells (Ext.keep X (X0.keep Bz)) (by show ((repV y m n).drop 0).take _ = _; rw [List.drop_zero, List.length_replicate, repV_take y hk1.2.1])) (by rw [List.length_replicate]; exact hk) (by rw [List.length_replicate]; simp [repV]; omega) (by intro v hv; rw [(List.mem_replicate.1 hv).2]; rfl) (by rw [List.length_replicate]; exact repV_copy y hk1.2.2) rfl (fun w9 hb9 => ⟨by show Value.int .i64 (((List.replicate k (Value.int .i64 y)).length : Nat) : Int) = _; rw [List.length_replicate], hb9⟩)
        refine DagStepsT.cons (fun s' w' X U H => ?_) ?_
        · have e38 : s' 38 = (.int .i64 ((m : Nat) : Int)) := H 0 rfl 38 (.eq (.int .i64 ((m : Nat) : Int))) rfl (by rw [hFs7]; rfl)
          obtain ⟨e45, B45⟩ := (show (.own (fun v w => v = .int .i64 ((k : Nat) : Int) ∧ Blk w bz (repV y (m + k) n).toArray 3) (fun _ _ _ e h => ⟨h.1, Ext.keep e h.2⟩) : FactT ((fun q => q = bz))).In (s' 45) w' from H 7 rfl 45 (.own (fun v w => v = .int .i64 ((k : Nat) : Int) ∧ Blk w bz (repV y (m + k) n).toArray 3) (fun _ _ _ e h => ⟨h.1, Ext.keep e h.2⟩)) rfl (by rw [hFs7]; rfl))
          exact DoesT_val (r_add (k := .i64) (a := ((m : Nat) : Int)) (b := ((k : Nat) : Int)) (c := ((m : Nat) : Int) + ((k : Nat) : Int)) e38 e45 (wI64 (by omega))) (Chg.refl _ _) rfl
        exact DagStepsT.nil
      · intro s' wd7 w7 X0 X7 U H
        obtain ⟨e45, B45⟩ := (show (.own (fun v w => v = .int .i64 ((k : Nat) : Int) ∧ Blk w bz (repV y (m + k) n).toArray 3) (fun _ _ _ e h => ⟨h.1, Ext.keep e h.2⟩) : FactT ((fun q => q = bz))).In (s' 45) w7 from H 7 45 (.own (fun v w => v = .int .i64 ((k : Nat) : Int) ∧ Blk w bz (repV y (m + k) n).toArray 3) (fun _ _ _ e h => ⟨h.1, Ext.keep e h.2⟩)) rfl (by rw [hFs7]; rfl))
        have e46 : s' 46 = (.int .i64 (((m : Nat) : Int) + ((k : Nat) : Int))) := H 8 46 (.eq (.int .i64 (((m : Nat) : Int) + ((k : Nat) : Int)))) rfl (by rw [hFs7]; rfl)
        obtain ⟨j7, rfl⟩ := Fits.out (σ := s') (l := [(7, (.slice (some ⟨bz, 0, none⟩) n n)), (46, (.int .i64 (((m : Nat) : Int) + ((k : Nat) : Int))))]) ⟨U 7 rfl, e46, trivial⟩
        clear U H
        replace hB := Chg.keep X7 (fun h => by have h' : b = bz := h; omega) (X0.keep hB)
        replace E := (E.ext X0).step X7 (fun q hq h => by have h' : q = bz := h; omega)
        refine WpL_val rfl rfl (by decide) (r_assign (v := (.int .i64 (((m : Nat) : Int) + ((k : Nat) : Int)))) rfl) ?_
        refine WpL_nil ?_
        refine inB_normal ?_
        refine thn_normal ?_
        exact ⟨n - (m + k), by omega, m + k, Fits.out ⟨rfl, rfl, trivial⟩, E, hB, B45, (by omega), rfl⟩
    · have khlt := hlt
      replace hlt := of_decide_eq_false hlt
      have hmn : m = n := by omega
      refine Wp_exit ?_
      refine thn_exit ?_
      refine thn_exit ?_
      refine inB_here ?_
      refine thn_normal ?_
      refine Wp_seq_region ?_
      refine WpL_val rfl rfl (by decide) (r_move (v := (.slice (some ⟨bz, 0, none⟩) n n)) rfl) ?_
      refine WpL_val rfl rfl (by decide) (r_assign (v := (.slice (some ⟨bz, 0, none⟩) n n)) rfl) ?_
      refine WpL_nil ?_
      refine Wp_ret ?_
      refine fin_tmp Try.results55 (v := (.slice (some ⟨bz, 0, none⟩) n n)) rfl ?_
      rw [hmn, show repV y n n = (List.replicate n y).map (Value.int .i64) by simp [repV]] at Bz
      exact ⟨⟨bz, rfl, by omega, Bz⟩, E⟩
end Go.Proofs
namespace Go.Eng
open Go
def two (c1 c2 : Nat) (M1 M2 : Nat → Prop) (p : Nat) : Nat → Prop := bif Nat.beq p c1 then M1 else bif Nat.beq p c2 then M2 else none1
/-- An operation that is sure to be yet to come when operation i is done. -/
def gone (wss : List (List Nat)) (i j : Nat) : Bool := Nat.beq j i || (wss.getD j []).contains i
def Past (wss : List (List Nat)) (Ms : Nat → Nat → Prop) (i : Nat) : Nat → Prop := fun y => ∃ j, gone wss i j = false ∧ Ms j y
theorem two_or {c1 c2 : Nat} {M1 M2 : Nat → Prop} {p y : Nat} (h : two c1 c2 M1 M2 p y) : (p = c1 ∧ M1 y) ∨ (p = c2 ∧ M2 y) := by
  unfold two at h
  cases h1 : Nat.beq p c1 with
  | true => rw [h1] at h; exact .inl ⟨Nat.eq_of_beq_eq_true h1, h⟩
  | false =>
    rw [h1] at h
    cases h2 : Nat.beq p c2 with
    | true => rw [h2] at h; exact .inr ⟨Nat.eq_of_beq_eq_true h2, h⟩
    | false => rw [h2] at h; exact h.elim
section
variable {wss : List (List Nat)} {c1 c2 i y : Nat} {M1 M2 : Nat → Prop}
theorem Past.or (h : Past wss (two c1 c2 M1 M2) i y) : M1 y ∨ M2 y := by
  obtain ⟨j, _, h2⟩ := h
  rcases two_or h2 with h | h
  · exact .inl h.2
  · exact .inr h.2
theorem Past.fst (hg : gone wss i c2 = true) (h : Past wss (two c1 c2 M1 M2) i y) : M1 y := by
  obtain ⟨j, h1, h2⟩ := h
  rcases two_or h2 with h | h
  · exact h.2
  · rw [h.1, hg] at h1; cases h1
theorem Past.none (hg : gone wss i c1 = true) (hg2 : gone wss i c2 = true) (h : Past wss (two c1 c2 M1 M2) i y) : False := by
  obtain ⟨j, h1, h2⟩ := h
  rcases two_or h2 with h | h
  · rw [h.1, hg] at h1; cases h1
  · rw [h.1, hg2] at h1; cases h1
theorem two_ext {p : Nat} {w w' : World} (h : Chg (two c1 c2 M1 M2 p) w w') : (p = c1 ∧ Chg M1 w w') ∨ (p = c2 ∧ Chg M2 w w') ∨ Ext w w' := by
  unfold two at h
  cases h1 : Nat.beq p c1 with
  | true => rw [h1] at h; exact .inl ⟨Nat.eq_of_beq_eq_true h1, h⟩
  | false =>
    rw [h1] at h
    cases h2 : Nat.beq p c2 with
    | true => rw [h2] at h; exact .inr (.inl ⟨Nat.eq_of_beq_eq_true h2, h⟩)
    | false => rw [h2] at h; exact .inr (.inr h)
end
/-- A fact of a value that may also speak of the values of the operations ahead of it. -/
abbrev FctE := Env → Fct
def HoldsX (ds : List Nat) (Fs : List FctE) (j : Nat) (σ : Env) (w : World) : Prop := ∀ d F, ds[j]? = some d → Fs[j]? = some F → F σ (σ d) w
def DagStepX (P : Program) (N : Nat) (ds : List Nat) (Fs : List FctE) (σ : Env) (w : World) (Ms : Nat → Nat → Prop) (all : List (List Nat)) (i : Nat) (o : Oper) (ws : List Nat) (F : FctE) : Prop :=
  ∀ σ' w', Chg (Past all Ms i) w w' → (∀ t, ds.contains t = false → σ' t = σ t) → (∀ j, ws.contains j = true → HoldsX ds Fs j σ' w') → DoesT (Ms i) P N o (fun v w => F σ' (Go.Eng.valOf o v) w) σ' w'
def StabX (Ms : Nat → Nat → Prop) (i : Nat) (ws : List Nat) (F : FctE) : Prop := ∀ p, p ≠ i → ws.contains p = false → ∀ σ v w w', Chg (Ms p) w w' → F σ v w → F σ v w'
def LocX (ds : List Nat) (ws : List Nat) (F : FctE) : Prop := ∀ σ1 σ2 : Env, (∀ j d, ws.contains j = true → ds[j]? = some d → σ2 d = σ1 d) → ∀ v w, F σ1 v w → F σ2 v w
theorem StabX.eq {Ms : Nat → Nat → Prop} {i : Nat} {ws : List Nat} {u : Value} : StabX Ms i ws (fun _ v _ => v = u) := fun _ _ _ _ _ _ _ _ h => h
theorem LocX.const {ds ws : List Nat} {G : Fct} : LocX ds ws (fun _ => G) := fun _ _ _ _ _ h => h
inductive DagStepsX (P : Program) (N : Nat) (ds : List Nat) (Fs : List FctE) (σ : Env) (w : World) (Ms : Nat → Nat → Prop) (all : List (List Nat)) : Nat → List Oper → List (List Nat) → List FctE → Prop where
  | nil {i : Nat} : DagStepsX P N ds Fs σ w Ms all i [] [] []
  | cons {i : Nat} {o : Oper} {l : List Oper} {ws : List Nat} {wss : List (List Nat)} {F : FctE} {Gs : List FctE} (s : StabX Ms i ws F) (lc : LocX ds ws F) (h : DagStepX P N ds Fs σ w Ms all i o ws F) (t : DagStepsX P N ds Fs σ w Ms all (i + 1) l wss Gs) : DagStepsX P N ds Fs σ w Ms all i (o :: l) (ws :: wss) (F :: Gs)
theorem DagStepsX.get {P : Program} {N : Nat} {ds : List Nat} {Fs : List FctE} {σ : Env} {w : World} {Ms : Nat → Nat → Prop} {all : List (List Nat)} : ∀ {i : Nat} {l : List Oper} {wss : List (List Nat)} {Gs : List FctE}, DagStepsX P N ds Fs σ w Ms all i l wss Gs → ∀ {j : Nat} {o : Oper}, l[j]? = some o → ∃ ws F, wss[j]? = some ws ∧ Gs[j]? = some F ∧ StabX Ms (i + j) ws F ∧ LocX ds ws F ∧ DagStepX P N ds Fs σ w Ms all (i + j) o ws F
  | _, _, _, _, .nil, j, o, h => by simp at h
  | i, _, _, _, .cons s lc h t, 0, o, ho => by
    simp at ho; subst ho
    exact ⟨_, _, rfl, rfl, s, lc, h⟩
  | i, _, _, _, .cons s lc h t, j + 1, o, ho => by
    simp at ho
    obtain ⟨ws, F, h1, h2, h3, h5, h4⟩ := DagStepsX.get t ho
    exact ⟨ws, F, by simpa using h1, by simpa using h2, by rw [show i + (j + 1) = i + 1 + j from by omega]; exact h3, h5, by rw [show i + (j + 1) = i + 1 + j from by omega]; exact h4⟩
/-- Waits that follow from the given ones. -/
def closB1 (wss cl : List (List Nat)) (i : Nat) : Bool := (cl.getD i []).all fun c => (wss.getD i []).contains c || (wss.getD i []).any fun e => (cl.getD e []).contains c
def closB (wss cl : List (List Nat)) : Bool := (List.range wss.length).all (closB1 wss cl)
theorem closB_get {wss cl : List (List Nat)} (h : closB wss cl = true) {i c : Nat} {ws : List Nat} (hw : wss[i]? = some ws) (hc : (cl.getD i []).contains c = true) : c ∈ ws ∨ ∃ e ∈ ws, (cl.getD e []).contains c = true := by
  have h1 := List.all_eq_true.1 h i (List.mem_range.2 (lt_of_get hw))
  have h2 := List.all_eq_true.1 h1 c (by simpa using hc)
  rw [List.getD_eq_getElem?_getD, hw, Option.getD_some, Bool.or_eq_true] at h2
  rcases h2 with h2 | h2
  · exact .inl (by simpa using h2)
  · obtain ⟨e, he, h3⟩ := List.any_eq_true.1 h2
    exact .inr ⟨e, he, h3⟩
theorem Wp_dagX {P : Program} {N : Nat} {Q : Post} {σ : Env} {w : World} {id : Nat} {l : List Oper} (Ms : Nat → Nat → Prop) (n : Nat) (ds : List Nat) (wss cl : List (List Nat)) (Fs : List FctE) {Gs : List FctE} (hG : Fs = Gs) (hC : closB wss cl = true) (hm : P.follows .mixedOrders = true) (hB : dagBT N 0 (l.take n) ds wss = true) (hn : nodupB ds = true)
    (hT : (decide (n < l.length) && Region.sinkB .any l.toArray n && Region.chainB .any l.toArray n && Region.seqB .any l.toArray (l.length - n) n (headDone n l.length)) = true)
    (steps : ∀ w1, Ext w w1 → DagStepsX P N ds Fs σ w1 Ms cl 0 (l.take n) cl Gs)
    (k : ∀ σ' w1 w', Ext w w1 → Chg (fun y => ∃ j, Ms j y) w1 w' → (∀ t, ds.contains t = false → σ' t = σ t) → (∀ j, HoldsX ds Fs j σ' w') → WpL P N l.toArray (Q .normal) Q (l.drop n) σ' w') : Wp P N (.region id l.toArray true) Q σ w := by
  intro a ha he
  have eQ : lift N (thn (Q .normal) Q) = lift N Q := by funext e a w; cases e <;> rfl
  refine wp_region_any hm ?_
  obtain ⟨w1, hw1⟩ : ∃ w1 : World, w1 = { w with drawn := w.drawn + 1 } := ⟨_, rfl⟩
  have hE1 : Ext w w1 := by rw [hw1]; exact drew_ext w
  rw [← hw1]
  have hst := steps w1 hE1
  rw [← hG] at hst
  simp only [Bool.and_eq_true, decide_eq_true_eq] at hT
  obtain ⟨⟨⟨hnl, hs⟩, hc⟩, hseq⟩ := hT
  have hlen : ds.length = n := by rw [dagBT_len hB]; simp; omega
  have key : ∀ (m : Nat) (listed : Array Bool) (a : Act) (w' : World), (listed.toList.take n).count false = m → HeadInv .any l.toArray n listed → Ok N a → Chg (fun y => ∃ j, listed.getD j false = true ∧ Ms j y) w1 w' → (∀ t, ds.contains t = false → env a t = σ t) → (∀ j, listed.getD j false = true → HoldsX ds Fs j (env a) w') →
      wpAny P .any l.toArray (lift N Q) (m + (l.length - n)) listed a w' := by
    intro m
    induction m with
    | zero =>
      intro listed a w' hc0 inv ha hx hu hh
      have hsz : listed.size = l.length := by simpa using inv.size
      have hl : listed = headDone n l.length := by
        apply Array.ext'
        rw [headDone]
        have := head_all (l := listed.toList) (n := n) (by simp; omega) hc0 (by
          intro t h1 h2
          have h2' : t < listed.size := by simpa using h2
          have := inv.tail t h1 (by simpa [hsz] using h2')
          simp only [Array.getD_eq_getD_getElem?, Array.getElem?_eq_getElem h2', Option.getD_some] at this
          simp [h2', this])
        rw [this]; simp [hsz]
      rw [Nat.zero_add]
      have h1 := k (env a) w1 w' hE1 (hx.mono fun y _ h => by obtain ⟨j, _, h⟩ := h; exact ⟨j, h⟩) hu (fun j d F hd hF => by
        have hj : j < n := by have := lt_of_get hd; omega
        exact hh j (by
          rw [hl, headDone]
          simp [Array.getD_eq_getD_getElem?, List.getElem?_append_left, hj]) d F hd hF) a ha rfl
      rw [eQ] at h1
      have := wpAny_of_seq (P := P) (md := .any) (ops := l.toArray) (Q' := lift N Q) (l.drop n) n listed a w' (fun j => by simp [List.getElem?_drop]) (by rw [List.length_drop, hl]; exact hseq) h1
      rwa [List.length_drop] at this
    | succ m ih =>
      intro listed a w' hcm inv ha hx hu hh
      have hsz : listed.size = l.length := by simpa using inv.size
      obtain ⟨i0, hi0n, hi0⟩ : ∃ i, i < n ∧ listed.getD i true = false := by
        have : 0 < (listed.toList.take n).count false := by omega
        rw [List.count_pos_iff] at this
        obtain ⟨i, hi, he⟩ := List.getElem_of_mem this
        have hin : i < n := by simp at hi; omega
        refine ⟨i, hin, ?_⟩
        have hil : i < listed.size := by simp at hi; omega
        simp only [Array.getD_eq_getD_getElem?, Array.getElem?_eq_getElem hil, Option.getD_some]
        simpa using he
      rw [show m + 1 + (l.length - n) = (m + (l.length - n)) + 1 by omega]
      refine ⟨fun hr => ?_, fun i hi => ?_⟩
      · exfalso
        have hall : ∀ i, i < n → listed.getD i true = true := by
          intro i
          induction i using Nat.strongRecOn with
          | _ i ihi =>
            intro hi
            cases hv : listed.getD i true with
            | true => rfl
            | false =>
              exfalso
              obtain ⟨o, ho⟩ := get_of_lt (l := l) (i := i) (by omega)
              have ho' : (l.take n)[i]? = some o := by rw [List.getElem?_take_of_lt hi]; exact ho
              obtain ⟨d, ws, _, _, h3⟩ := dagBT_get hB ho'
              have : i ∈ Region.ready .any l.toArray listed := by
                refine mem_ready.2 ⟨hv, o, by simpa using ho, fun e he hb => ?_⟩
                simp only [dagOneT, Bool.and_eq_true, Array.all_eq_true_iff_forall_mem, Bool.or_eq_true, Bool.not_eq_true', Nat.zero_add] at h3
                have := (h3.1.1.2 e he).resolve_left (by simp [hb])
                have hlt : e.on < i := by simpa [Nat.blt_eq] using this
                have h4 := ihi e.on hlt (by omega)
                have hj : e.on < listed.size := by omega
                simpa only [Array.getD_eq_getD_getElem?, Array.getElem?_eq_getElem hj, Option.getD_some] using h4
              rw [hr] at this
              cases this
        rw [hall i0 hi0n] at hi0
        cases hi0
      · have hin : i < n := by
          rcases Nat.lt_or_ge i n with h | h
          · exact h
          · exact absurd hi (tail_waits hs hc (by simpa using hnl) inv _ i0 rfl hi0n hi0 i h)
        obtain ⟨h1, o, h2, h3⟩ := mem_ready.1 hi
        have hil : i < listed.size := by omega
        have ho : l[i]? = some o := by simpa using h2
        have ho' : (l.take n)[i]? = some o := by rw [List.getElem?_take_of_lt hin]; exact ho
        obtain ⟨d, ws, hd, hws, h4⟩ := dagBT_get hB ho'
        obtain ⟨ws', F, hws', hF, hstab, hloc, hstep⟩ := hst.get ho'
        simp only [Nat.zero_add] at hstep hstab
        simp only [dagOneT, Bool.and_eq_true, List.all_eq_true, Array.any_eq_true', Array.all_eq_true_iff_forall_mem, Bool.or_eq_true, Bool.not_eq_true', Nat.zero_add] at h4
        obtain ⟨⟨⟨hdst, _⟩, hwait⟩, hgd⟩ := h4
        have hgd : o.guard = none := by simpa using hgd
        have hcl : ∀ j, listed.getD j false = true → ∀ c, (cl.getD j []).contains c = true → listed.getD c false = true := by
          intro j
          induction j using Nat.strongRecOn with
          | _ j ihj =>
            intro hlj c hc
            have hcn : j < n := by
              rcases Nat.lt_or_ge j n with h | h
              · exact h
              · rcases Nat.lt_or_ge j l.length with h' | h'
                · have := getD_both (inv.tail j h (by simpa using h')); rw [this] at hlj; cases hlj
                · simp [Array.getElem?_eq_none (show listed.size ≤ j by omega)] at hlj
            obtain ⟨oc, hoc⟩ := get_of_lt (l := l) (i := j) (by omega)
            have hoc' : (l.take n)[j]? = some oc := by rw [List.getElem?_take_of_lt hcn]; exact hoc
            obtain ⟨dc, wsc, _, hwsc, h5⟩ := dagBT_get hB hoc'
            simp only [dagOneT, Bool.and_eq_true, List.all_eq_true, Array.any_eq_true', Array.all_eq_true_iff_forall_mem, Bool.or_eq_true, Bool.not_eq_true', Nat.zero_add] at h5
            have hdir : ∀ e' ∈ wsc, listed.getD e' false = true ∧ e' < j := by
              intro e' he'
              obtain ⟨e, he, hb1, hb2⟩ := h5.1.2 e' he'
              have hei : e.on = e' := Nat.eq_of_beq_eq_true hb2
              have h6 := inv.closed j oc (by simpa using hoc) hlj e he hb1
              have h7 := (h5.1.1.2 e he).resolve_left (by simp [hb1])
              rw [hei] at h6 h7
              exact ⟨h6, by simpa [Nat.blt_eq] using h7⟩
            rcases closB_get hC hwsc hc with h6 | ⟨e', he', h6⟩
            · exact (hdir c h6).1
            · exact ihj e' (hdir e' he').2 (hdir e' he').1 c h6
        have hgone : ∀ j, listed.getD j false = true → gone cl i j = false := by
          intro j hlj
          cases hg : gone cl i j with
          | false => rfl
          | true =>
            exfalso
            simp only [gone, Bool.or_eq_true] at hg
            rcases hg with hg | hg
            · have : j = i := Nat.eq_of_beq_eq_true hg
              rw [this, getD_both h1] at hlj; cases hlj
            · have := hcl j hlj i hg
              rw [getD_both h1] at this; cases this
        have hclo : ∀ j, ws'.contains j = true → listed.getD j false = true := by
          intro j hj
          have hj' : (cl.getD i []).contains j = true := by rw [List.getD_eq_getElem?_getD, hws', Option.getD_some]; exact hj
          have hdir : ∀ e' ∈ ws, listed.getD e' false = true := by
            intro e' he'
            obtain ⟨e, he, hb1, hb2⟩ := hwait e' he'
            have : e.on = e' := Nat.eq_of_beq_eq_true hb2
            exact this ▸ h3 e he hb1
          rcases closB_get hC hws hj' with h6 | ⟨e', he', h6⟩
          · exact hdir j h6
          · exact hcl e' (hdir e' he') j h6
        have hH : ∀ j, ws'.contains j = true → HoldsX ds Fs j (env a) w' := fun j hj => hh j (hclo j hj)
        have hstep2 : ∀ w2, Chg (Ms i) w' w2 → Chg (fun y => ∃ j, (listed.setIfInBounds i true).getD j false = true ∧ Ms j y) w1 w2 := by
          intro w2 hx2
          have hg : (listed.setIfInBounds i true).getD i false = true := by simp [Array.getD_eq_getD_getElem?, hil]
          refine Chg.step (hx.mono fun y _ h => ?_) hx2 (fun y _ h => ⟨i, hg, h⟩)
          obtain ⟨j, h5, h6⟩ := h
          by_cases hij : j = i
          · exact ⟨i, hg, hij ▸ h6⟩
          · exact ⟨j, by rw [getD_set_ne _ (Ne.symm hij)]; exact h5, h6⟩
        have cont : ∀ v w2, Chg (Ms i) w' w2 → F (env a) (Go.Eng.valOf o v) w2 → wpAny P .any l.toArray (lift N Q) (m + (l.length - n)) (listed.setIfInBounds i true) (a.put o.dst v) w2 := by
          intro v w2 hx2 hv
          have henv : (∀ t, t ≠ d → env (a.put o.dst v) t = env a t) ∧ env (a.put o.dst v) d = Go.Eng.valOf o v := by
            cases hod : o.dst with
            | none =>
              rw [hod] at hdst
              have hNd : N ≤ d := Nat.le_of_ble_eq_true hdst
              refine ⟨fun t _ => rfl, ?_⟩
              simp only [Go.Eng.valOf, hod]
              show a.tmps.getD d undef = undef
              have : a.tmps.size ≤ d := by rw [ha.size]; exact hNd
              simp [Array.getElem?_eq_none this]
            | some d' =>
              rw [hod] at hdst
              simp only [Bool.and_eq_true] at hdst
              have hd1 : d' = d := Nat.eq_of_beq_eq_true hdst.1
              have hd2 : d < N := by simpa [Nat.blt_eq] using hdst.2
              subst hd1
              rw [env_put ha hd2 v]
              refine ⟨fun t ht => ?_, ?_⟩
              · have : Nat.beq t d' = false := by cases hb : Nat.beq t d'; rfl; exact absurd (Nat.eq_of_beq_eq_true hb) ht
                simp [upd, this]
              · simp [upd, Go.Eng.valOf, hod]
          refine ih _ _ _ ?_ (inv.set hi hin) (ha.put _ _) (hstep2 w2 hx2) ?_ ?_
          · have hl : listed.toList[i]? = some false := by
              simp only [Array.getD_eq_getD_getElem?, Array.getElem?_eq_getElem hil, Option.getD_some] at h1
              simp [hil, h1]
            have := count_take_set (l := listed.toList) hin (by simp; omega) hl
            rw [Array.toList_setIfInBounds]
            omega
          · intro t ht
            rw [henv.1 t (fun h => by
              subst h
              have := List.mem_of_getElem? hd
              simp [this] at ht), hu t ht]
          · intro j hj d' F' hd' hF'
            by_cases hij : j = i
            · subst hij
              rw [hd] at hd'; cases hd'
              rw [hF] at hF'; cases hF'
              rw [henv.2]
              refine hloc (env a) _ (fun j' d' hj' hd' => henv.1 d' fun he => ?_) _ _ hv
              have := nodupB_get hn (he ▸ hd') hd
              subst this
              have := hclo j' hj'
              rw [getD_both h1] at this
              cases this
            · have hne : d' ≠ d := by
                intro h
                subst h
                exact hij (nodupB_get hn hd' hd)
              rw [henv.1 d' hne]
              rw [getD_set_ne _ (Ne.symm hij)] at hj
              have h6 := hh j hj d' F' hd' hF'
              have hjn : j < n := by have := lt_of_get hd'; omega
              obtain ⟨oj, hoj⟩ := get_of_lt (l := l) (i := j) (by omega)
              have hoj' : (l.take n)[j]? = some oj := by rw [List.getElem?_take_of_lt hjn]; exact hoj
              obtain ⟨dj, wsj, _, hwsj, h5⟩ := dagBT_get hB hoj'
              obtain ⟨wsj', Fj, hwsj', hFj, hsj, hlj, _⟩ := hst.get hoj'
              rw [hF'] at hFj; cases hFj
              simp only [Nat.zero_add] at hsj
              have hci : wsj'.contains i = false := by
                cases hci : wsj'.contains i with
                | false => rfl
                | true =>
                  exfalso
                  have := hgone j hj
                  have hgc : cl.getD j [] = wsj' := by simp [hwsj']
                  simp only [gone, hgc, hci, Bool.or_true] at this
                  cases this
              refine hlj (env a) _ (fun j' d' hj' hd' => henv.1 d' fun he => ?_) _ _ (hsj i (Ne.symm hij) hci _ _ _ _ hx2 h6)
              have := nodupB_get hn (he ▸ hd') hd
              subst this
              rw [hci] at hj'
              cases hj'
        have hx0 : Chg (Past cl Ms i) w1 w' := hx.mono fun y _ h => by
          obtain ⟨j, h5, h6⟩ := h
          exact ⟨j, hgone j h5, h6⟩
        have hdo := hstep (env a) w' hx0 hu hH
        have hw : Region.wanted o (yielded l.toArray a.tmps) = true := by simp [Region.wanted, hgd]
        unfold wpOp
        simp only [h2, hw, if_true]
        exact Or.inl (hdo a ha rfl _ _ cont)
  have inv0 : HeadInv .any l.toArray n (Array.replicate l.toArray.size false) :=
    ⟨by simp, fun j oj _ hl => (by rw [getD_replicate_false] at hl; cases hl), fun t _ ht => getD_in (by simpa using ht) (getD_replicate_false _ _)⟩
  have h1 := key n (Array.replicate l.toArray.size false) a w1 (by simp; omega) inv0 ha (Chg.refl _ _) (fun t _ => by rw [he]) (fun j hj => by rw [getD_replicate_false] at hj; cases hj)
  have e3 : n + (l.length - n) = l.toArray.size := by simp; omega
  rw [e3] at h1
  exact h1
end Go.Eng
namespace Go.Proofs
open Go Go.Eng Go.Sort
set_option maxRecDepth 100000
def OutB (E N : Value) (vs : List Value) (b : Nat) : Prop := E.ownBlock = some b ∨ N.ownBlock = some b ∨ ∃ (i : Nat) (v : Value), vs[i]? = some v ∧ v.ownBlock = some b
structure OutSt (w : World) (base : Nat) (E N : Value) (vs : List Value) (acc : List Int) (rows : List (List Int)) : Prop where
  e : w.ownsRow base TDI 1 E acc.length (acc.map (Value.int .i64))
  n : LSt TDIs TDI 1 w base N vs (rows.map iRow)
  en : ∀ b, E.ownBlock = some b → N.ownBlock ≠ some b
  ei : ∀ (i : Nat) v b, vs[i]? = some v → v.ownBlock = some b → E.ownBlock ≠ some b
theorem OutSt.start (w : World) (base : Nat) : OutSt w base (.slice none 0 0) (.slice none 0 0) [] [] [] :=
  ⟨World.ownsRow_nil _ _ _ _, LSt.start _ _ _ _ _, (fun b h => by cases h), fun i v b h => by simp at h⟩
theorem OutSt.lt {w : World} {base : Nat} {E N : Value} {vs : List Value} {acc : List Int} {rows : List (List Int)} (h : OutSt w base E N vs acc rows) {b : Nat} (hb : OutB E N vs b) : base ≤ b ∧ b < w.heap.size := by
  rcases hb with h1 | h1 | ⟨i, v, h1, h2⟩
  · exact h.e.lt b h1
  · exact h.n.o.lt b h1
  · obtain ⟨p, hp⟩ := get_of_lt (l := rows.map iRow) (i := i) (by have := lt_of_get h1; have := h.n.len; omega)
    exact (h.n.inn i v p h1 hp).lt b h2
theorem OutSt.chg {M : Nat → Prop} {w w' : World} {base : Nat} {E N : Value} {vs : List Value} {acc : List Int} {rows : List (List Int)} (h : OutSt w base E N vs acc rows) (c : Chg M w w') (hM : ∀ b, OutB E N vs b → ¬ M b) : OutSt w' base E N vs acc rows :=
  ⟨own_chg h.e c fun b hb => hM b (.inl hb), ⟨own_chg h.n.o c fun b hb => hM b (.inr (.inl hb)), h.n.len, fun i v p hv hp => own_chg (h.n.inn i v p hv hp) c fun b hb => hM b (.inr (.inr ⟨i, v, hv, hb⟩)), h.n.apo⟩, h.en, h.ei⟩
theorem OutSt.ext {w w' : World} {base : Nat} {E N : Value} {vs : List Value} {acc : List Int} {rows : List (List Int)} (h : OutSt w base E N vs acc rows) (c : Ext w w') : OutSt w' base E N vs acc rows := h.chg c fun _ _ f => f
/-- A row and a result are added. -/
theorem OutSt.push {w w' : World} {base bu m : Nat} {E E' N N' u : Value} {vs : List Value} {acc row : List Int} {rows : List (List Int)} {y : Int} (h : OutSt w base E N vs acc rows) (hu : w.ownsRow bu TDI 1 u m (row.map (Value.int .i64))) (hm : m = row.length) (hb : base ≤ bu) (hbu : ∀ b, OutB E N vs b → b < bu)
    (C : Chg (fun b => N.ownBlock = some b ∨ E.ownBlock = some b) w w') (ON : w'.ownsRow base TDIs 1 N' (rows.length + 1) (vs ++ [u])) (WN : ∀ k, N'.ownBlock = some k → N.ownBlock = some k ∨ w.heap.size ≤ k)
    (OE : w'.ownsRow base TDI 1 E' (acc.length + 1) ((acc ++ [y]).map (Value.int .i64))) (WE : ∀ k, E'.ownBlock = some k → E.ownBlock = some k ∨ w.heap.size ≤ k) (ap : ∀ b, N'.ownBlock = some b → E'.ownBlock ≠ some b) : OutSt w' base E' N' (vs ++ [u]) (acc ++ [y]) (rows ++ [row]) := by
  have hul := fun b (hb' : u.ownBlock = some b) => hu.lt b hb'
  have hold : ∀ (i : Nat) v, (vs ++ [u])[i]? = some v → vs[i]? = some v ∨ (i = vs.length ∧ v = u) := fun i v hv => by
    rcases Nat.lt_or_ge i vs.length with h1 | h1
    · left; rwa [List.getElem?_append_left h1] at hv
    · right
      rw [List.getElem?_append_right h1] at hv
      have h2 := lt_of_get hv
      simp at h2
      rw [show i - vs.length = 0 by omega] at hv
      simp at hv
      exact ⟨by omega, hv.symm⟩
  have hin : ∀ (i : Nat) v b, (vs ++ [u])[i]? = some v → v.ownBlock = some b → N.ownBlock ≠ some b ∧ E.ownBlock ≠ some b ∧ b < w.heap.size := fun i v b hv hb' => by
    rcases hold i v hv with h1 | ⟨_, rfl⟩
    · exact ⟨fun e => h.n.apo i v b h1 hb' e, h.ei i v b h1 hb', (h.lt (.inr (.inr ⟨i, v, h1, hb'⟩))).2⟩
    · have := hul b hb'
      exact ⟨fun e => by have := hbu b (.inr (.inl e)); omega, fun e => by have := hbu b (.inl e); omega, this.2⟩
  have hap2 : ∀ (i : Nat) v b, (vs ++ [u])[i]? = some v → v.ownBlock = some b → N'.ownBlock ≠ some b ∧ E'.ownBlock ≠ some b := fun i v b hv hb' => by
    obtain ⟨h1, h2, h3⟩ := hin i v b hv hb'
    exact ⟨fun e => by rcases WN b e with h4 | h4; exact h1 h4; omega, fun e => by rcases WE b e with h4 | h4; exact h2 h4; omega⟩
  refine ⟨by rw [List.length_append]; exact OE, ⟨by simpa using ON, by simp [h.n.len], fun i v p hv hp => ?_, fun i v b hv hb' => (hap2 i v b hv hb').1⟩, fun b hb' e => ap b e hb', fun i v b hv hb' => (hap2 i v b hv hb').2⟩
  rw [List.map_append] at hp
  rcases hold i v hv with h1 | ⟨h1, rfl⟩
  · rw [List.getElem?_append_left (by have := lt_of_get h1; have := h.n.len; omega)] at hp
    exact own_chg (h.n.inn i v p h1 hp) C fun b hb' hC => by
      obtain ⟨h2, h3, _⟩ := hin i v b hv hb'
      rcases hC with h4 | h4
      · exact h2 h4
      · exact h3 h4
  · have hl := h.n.len
    rw [h1, hl, List.getElem?_append_right (Nat.le_refl _), Nat.sub_self] at hp
    simp [iRow] at hp
    subst hp
    rw [hm] at hu
    exact own_low (own_chg hu C fun b hb' hC => by
      obtain ⟨h2, h3, _⟩ := hin i v b hv hb'
      rcases hC with h4 | h4
      · exact h2 h4
      · exact h3 h4) hb
theorem litF_stab {c1 c2 i e hs : Nat} {M1 M2 : Nat → Prop} {cc : Array Value} {ws : List Nat} (h1 : ∀ y, M1 y → y < hs) (h2 : ∀ y, M2 y → y < hs) : StabX (two c1 c2 M1 M2) i ws (fun _ => litF e cc hs) := by
  rintro p _ _ σ v w w' x ⟨b, h3, h4, h5⟩
  exact ⟨b, h3, x.keep (fun h => by rcases two_or h with h | h; have := h1 b h.2; omega; have := h2 b h.2; omega) h4, h5⟩
theorem appF_st1 {c1 c2 base e size n hs : Nat} {M1 M2 : Nat → Prop} {xs : List Value} {old : Value} {ws : List Nat} (h : ∀ k, (old.ownBlock = some k ∨ hs ≤ k) → ¬ M2 k) : StabX (two c1 c2 M1 M2) c1 ws (fun _ => appF base e size n xs old hs) := by
  rintro p hp _ σ v w w' x ⟨h1, h2, h3⟩
  rcases two_ext x with h4 | h4 | h4
  · exact absurd h4.1 hp
  · exact ⟨h1, own_chg h2 h4.2 (fun k hk => h k (h3 k hk)), h3⟩
  · exact ⟨h1, own_ext h2 h4, h3⟩
theorem appF_st2 {c1 c2 base e size n hs t : Nat} {M1 M2 : Nat → Prop} {xs : List Value} {old : Value} {ws : List Nat} (hw : ws.contains c1 = true) : StabX (two c1 c2 M1 M2) c2 ws (fun s v w => appF base e size n xs old hs v w ∧ ∀ b, (s t).ownBlock = some b → v.ownBlock ≠ some b) := by
  rintro p hp hpw σ v w w' x ⟨⟨h1, h2, h3⟩, h4⟩
  rcases two_ext x with h5 | h5 | h5
  · rw [h5.1, hw] at hpw; cases hpw
  · exact absurd h5.1 hp
  · exact ⟨⟨h1, own_ext h2 h5, h3⟩, h4⟩
theorem DoesT_weakD {M : Nat → Prop} {P : Program} {N : Nat} {o : Oper} {R R' : Fct} {σ : Env} {w : World} (h : DoesT M P N o R σ w) (hr : ∀ v w, R v w → R' v w) : DoesT M P N o R' σ w := fun a ha he Q K hK => h a ha he Q K fun v w2 hx2 h2 => hK v w2 hx2 (hr v w2 h2)
theorem app_two {M : Nat → Prop} {P : Program} {N : Nat} {o : Oper} {σ : Env} {w : World} {b1 e1 s1 n1 b2 e2 s2 n2 hs : Nat} {xs ys : List Value} {old old' u : Value} (h : appF b1 e1 s1 n1 ys old' hs u w) (hd : DoesT M P N o (appF b2 e2 s2 n2 xs old w.heap.size) σ w) (h4 : hs ≤ w.heap.size) (hap : ∀ k, (old'.ownBlock = some k ∨ hs ≤ k) → old.ownBlock ≠ some k) (ho : ∀ v, Go.Eng.valOf o v = v := by intro v; rfl) :
    DoesT M P N o (fun v w => appF b2 e2 s2 n2 xs old hs (Go.Eng.valOf o v) w ∧ ∀ b, u.ownBlock = some b → (Go.Eng.valOf o v).ownBlock ≠ some b) σ w := by
  refine DoesT_weakD hd ?_
  rintro v w2 ⟨h1, h2, h3⟩
  rw [ho v]
  refine ⟨⟨h1, h2, fun k hk => (h3 k hk).imp id (fun h => Nat.le_trans h4 h)⟩, fun k hk hv => ?_⟩
  obtain ⟨_, h5, h6⟩ := h
  rcases h3 k hv with h7 | h7
  · exact hap k (h6 k hk) h7
  · have := (h5.lt k hk).2; omega
theorem own_exact {w : World} {b base n : Nat} {row : List Int} (h : Blk w b (row.map (Value.int .i64)).toArray TDI) (hb : base ≤ b) (hn : row.length = n) (hl : n ≤ 9223372036854775807 := by omega) : w.ownsRow base TDI 1 (.slice (some ⟨b, 0, none⟩) n n) n (row.map (Value.int .i64)) :=
  ⟨by simp [hn], .inr ⟨b, n, _, rfl, hb, h, Nat.le_refl _, hl, by simp [hn], by simp only [Nat.mul_one]; exact List.take_of_length_le (by simp [hn])⟩⟩
theorem OutSt.intss {w : World} {base : Nat} {E N : Value} {vs : List Value} {acc : List Int} {rows : List (List Int)} (h : OutSt w base E N vs acc rows) : IntssAt w N rows := by
  have hl : vs.length = rows.length := by simpa using h.n.len
  refine ⟨vs, ?_, hl, fun i u l hu hl => ?_⟩
  · have ho := h.n.o
    rw [show vs = (vs.map fun x => [x]).flatten by simp [List.flatten_eq_flatMap, List.flatMap_map]] at ho
    exact own_slat ho (by intro r hr; simp only [List.mem_map] at hr; obtain ⟨x, _, rfl⟩ := hr; rfl) (by simp [hl]) (by decide)
  · exact own_intsD (h.n.inn i u (iRow l) hu (by rw [List.getElem?_map, hl]; rfl)) rfl
end Go.Proofs
namespace Go.Proofs
open Go Go.Eng Go.Sort
set_option maxRecDepth 100000
theorem ints_at_blk {w : World} {b : Nat} {l : List Int} {T : Nat} (h : Blk w b (l.map (Value.int .i64)).toArray T) {i : Nat} {x : Int} (hx : l[i]? = some x) : w.cell? ⟨b, 0 + i, none⟩ = some (.int .i64 x) := h.cell (by simp [hx])
theorem ptD_cell {p : List Int} {t : Nat} {n : Nat} (hl : p.length = n) (ht : t < n) : p[t]? = some (ptD p ((t : Nat) : Int)) := by
  have h1 : p[t]? = some (p[t]'(by omega)) := List.getElem?_eq_getElem _
  rw [h1, ptD_get h1]
theorem dead_dfa {w : World} {be bh bg c : Nat} {T T' : Nat} (he : Blk w be #[.int .i64 (-1)] T) (hh : Blk w bh #[.slice (some ⟨bg, 0, none⟩) c c] T') (hg : Blk w bg ((List.replicate c (-1 : Int)).map (Value.int .i64)).toArray TDI) (hc : c ≤ 60000) : DfaAt w ⟨0, [-1], [List.replicate c (-1)]⟩ [.int .i64 0, .slice (some ⟨be, 0, none⟩) 1 1, .slice (some ⟨bh, 0, none⟩) 1 1] := by
  refine ⟨_, 1, _, 1, rfl, ints_of_blk [-1] he (by simp) (by simp), [.slice (some ⟨bg, 0, none⟩) c c], ⟨some ⟨bh, 0, none⟩, 1, rfl, show (1 : Nat) ≤ 9223372036854775807 by decide, Nat.le_refl 1, .inr ⟨bh, 0, rfl, ?_⟩⟩, rfl, ?_⟩
  · intro i r hr j u hu
    rcases i with _ | i <;> simp at hr
    subst hr
    cases j with
    | zero => simp at hu; subst hu; exact hh.cell rfl
    | succ j => simp at hu
  · intro i u l hu hl
    rcases i with _ | i <;> simp at hu hl
    subst hu; subst hl
    exact blk_ints hg (by simp)
theorem out_push {E E' N N' : Value} {vs : List Value} {b bq n4 c : Nat} (h : ¬ OutB E N vs b ∧ b ≠ bq) (hb : b < n4) (DN : ∀ k, N'.ownBlock = some k → N.ownBlock = some k ∨ n4 ≤ k) (DE : ∀ k, E'.ownBlock = some k → E.ownBlock = some k ∨ n4 ≤ k) (ho : OutB E' N' (vs ++ [.slice (some ⟨bq, 0, none⟩) c c]) b) : False := by
  rcases ho with h1 | h1 | ⟨i, v, h1, h2⟩
  · rcases DE b h1 with h3 | h3
    · exact h.1 (.inl h3)
    · omega
  · rcases DN b h1 with h3 | h3
    · exact h.1 (.inr (.inl h3))
    · omega
  · rcases snoc_get h1 with h3 | ⟨_, h3⟩
    · exact h.1 (.inr (.inr ⟨i, v, h3, h2⟩))
    · subst h3
      cases h2
      exact h.2 rfl
theorem take_snoc' {α : Type} {l : List α} {k : Nat} {x : α} (h : l[k]? = some x) : l.take (k + 1) = l.take k ++ [x] := by rw [List.take_add_one, h]; rfl
theorem CanP.st_le {n c : Nat} {d : Dfa} {p : List Int} {rows : List (List Int)} {row st : List Int} (h : CanP n c d p rows row st) : st.length ≤ n := by
  have hd : (st.map Int.toNat).Nodup := by
    rw [List.nodup_iff_pairwise_ne, List.pairwise_iff_getElem]
    intro i j hi hj hij he
    simp only [List.length_map] at hi hj
    simp only [List.getElem_map] at he
    have a := List.getElem?_eq_getElem hi
    have b := List.getElem?_eq_getElem hj
    have h1 := h.sl _ (List.mem_of_getElem? a)
    have h2 := h.sl _ (List.mem_of_getElem? b)
    have e : st[i] = st[j] := by omega
    have := h.inj i j _ _ a b (by rw [e])
    omega
  have := nodup_leN (m := List.range n) hd fun x hx => by
    obtain ⟨s, hs, rfl⟩ := List.mem_map.1 hx
    have := h.sl s hs
    exact List.mem_range.2 (by omega)
  simpa using this
/-- An automaton in blocks that are not below m. -/
def DfaNew (m : Nat) (w : World) (d : Dfa) (vs : List Value) : Prop := ∀ (M : Nat → Prop) w', Chg M w w' → (∀ b, M b → b < m) → DfaAt w' d vs
theorem DfaNew.at' {m : Nat} {w : World} {d : Dfa} {vs : List Value} (h : DfaNew m w d vs) : DfaAt w d vs := h none1 w (Chg.refl _ _) fun _ f => f.elim
theorem DfaNew.chg {M : Nat → Prop} {m : Nat} {w w' : World} {d : Dfa} {vs : List Value} (h : DfaNew m w d vs) (c : Chg M w w') (hM : ∀ b, M b → b < m) : DfaNew m w' d vs := fun M2 w2 c2 h2 =>
  h (fun b => M b ∨ M2 b) w2 (Chg.trans (c.mono fun b _ hb => .inl hb) (c2.mono fun b _ hb => .inr hb)) fun b hb => hb.elim (hM b) (h2 b)
theorem DfaNew.low {m m' : Nat} {w : World} {d : Dfa} {vs : List Value} (h : DfaNew m w d vs) (hm : m' ≤ m) : DfaNew m' w d vs := fun M w' c hM => h M w' c fun b hb => by have := hM b hb; omega
set_option maxHeartbeats 8000000 in
theorem canon_c (w0 : World) (n c : Nat) (d : Dfa) (dv : List Value) (ok : OkD n c d) (h : DfaAt w0 d dv) (hn : n ≤ 20000 ∧ 1 ≤ c ∧ c ≤ 16) (hac : ∀ x ∈ d.accept, x < 2147483648) :
    Ret Try.prog 56 #[.agg dv.toArray] w0 fun r w => (∃ C cv, CanOf c (beh d d.start) C ∧ C.next.length ≤ n ∧ (∀ x ∈ C.accept, x < 2147483648) ∧ r = .agg cv.toArray ∧ DfaNew w0.heap.size w C cv) ∧ Ext w0 w := by
  obtain ⟨dv0, hdv0⟩ : ∃ x, x = dv := ⟨_, rfl⟩
  have hdfa := h
  rw [← hdv0] at hdfa
  obtain ⟨aa, ac, na, nc, rfl, hacc, hnxt⟩ := h
  have hnl := ok.nl
  have hal := ok.al
  have hst := ok.st
  rw [hal, hnl] at hdv0 ⊢
  rw [hal] at hacc
  rw [hnl] at hnxt
  have hdw : ∀ w, Ext w0 w → DfaAt w d [.int .i64 d.start, .slice aa n ac, .slice na n nc] := fun w e => by rw [hdv0] at hdfa; exact hdfa.ext e
  obtain ⟨nb, no, rfl, hnx⟩ := intss_cells (n := n) hnxt (by omega)
  obtain ⟨ab, ao, rfl, hax⟩ := ints_cells (n := n) hacc (by omega)
  obtain ⟨s0, hs0⟩ := Int.eq_ofNat_of_zero_le hst.1
  have habl : ab < w0.heap.size := World.block_lt_of_cell? w0 _ (hax s0 _ (acc_at ok (show s0 < n by omega)))
  have hrowc : ∀ (s : Nat), s < n → ∃ row ra rc, d.next[s]? = some row ∧ row.length = c ∧ w0.cell? ⟨nb, no + s, none⟩ = some (.slice ra c rc) ∧ IntsAt w0 (.slice ra c rc) row := fun s hs => by
    obtain ⟨row, hrow⟩ := get_of_lt (l := d.next) (i := s) (by omega)
    have hrl := (ok.row row (List.mem_of_getElem? hrow)).1
    obtain ⟨ra, rc, h1, h2⟩ := hnx s row hrow
    rw [hrl] at h1 h2
    exact ⟨row, ra, rc, hrow, hrl, h1, h2⟩
  obtain ⟨row0, ra0, rc0, hrow0, hrl0, hcell0, hri0⟩ := hrowc 0 (by omega)
  refine Ret_of Try.func56 rfl Try.ntmps56 (Nat.le_of_ble_eq_true rfl) ?_
  have E : Chg none1 w0 w0 := Chg.refl _ _
  refine Wp_seq_region ?_
  refine s_box (v := (.agg #[(.int .i64 d.start), (.slice (some ⟨ab, ao, none⟩) n ac), (.slice (some ⟨nb, no, none⟩) n nc)])) (c := #[(.int .i64 d.start), (.slice (some ⟨ab, ao, none⟩) n ac), (.slice (some ⟨nb, no, none⟩) n nc)]) (by decide) rfl rfl ?_
  intro bd wd Nd
  have Fd := Nd.ge E
  replace E := E.ext Nd.ext
  have Bd := Nd.blk
  refine s_alloc (c := #[(.int .i64 0), (.slice none 0 0), (.slice none 0 0)]) (by decide) zer25 rfl ?_
  intro bo wo No
  have Fo := No.ge E
  have Oo_bd := No.lt Bd
  replace Bd := No.keep Bd
  replace E := E.ext No.ext
  have Bo := No.blk
  refine WpL_nil ?_
  refine Wp_seq_region ?_
  refine WpL_val rfl rfl (by decide) (r_loadAgg (vs := [(.int .i64 d.start), (.slice (some ⟨ab, ao, none⟩) n ac), (.slice (some ⟨nb, no, none⟩) n nc)]) rfl agg25 siz25 rfl (Bd.cells rfl)) ?_
  have hbol := Bo.lt
  have hbdl := Bd.lt
  refine WpL_enter rfl rfl (by decide) (r_callF (vs := [(.agg #[(.int .i64 d.start), (.slice (some ⟨ab, ao, none⟩) n ac), (.slice (some ⟨nb, no, none⟩) n nc)])]) Try.func71 nm71 bd71 rfl) (parts_c _ n c d _ ok (hdw _ E) (by omega) hac) ?_
  rintro _ w9 ⟨⟨p, b1, hPt, rfl, hb1, hPB⟩, X9⟩
  replace Bd := X9.keep Bd
  replace Bo := X9.keep Bo
  replace E := E.ext X9
  refine WpL_val rfl rfl (by decide) (r_assign (v := (.slice (some ⟨b1, 0, none⟩) n n)) rfl) ?_
  refine WpL_nil ?_
  refine Wp_seq_region ?_
  refine WpL_val rfl rfl (by decide) (r_fieldAddr (b := bd) (o := 0) (o' := 2) rfl Try.underlying25 rfl siz23 rfl) ?_
  refine WpL_val rfl rfl (by decide) (r_load (v := (.slice (some ⟨nb, no, none⟩) n nc)) rfl flat23 (Bd.cell rfl)) ?_
  refine WpL_val rfl rfl (by decide) (r_indexSlice (b := nb) (o := no) (len := n) (cap := nc) (i := 0) (o' := no + 0) rfl rfl rfl Try.underlying23 siz22 (by omega) (by omega)) ?_
  refine WpL_val rfl rfl (by decide) (r_load (v := (.slice ra0 c rc0)) rfl flat22 (E.cell (fun f => f) (by rw [Nat.add_zero] at *; exact hcell0))) ?_
  have hb1l := hPB.lt
  have hps := ptD_cell hPt.len (show s0 < n by omega)
  refine WpL_val rfl rfl (by decide) (r_lenSlice (ad := ra0) (n := c) (cap := rc0) Try.underlying22 rfl) ?_
  refine WpL_val rfl rfl (by decide) (r_assign (v := (.int .i64 ((c : Nat) : Int))) rfl) ?_
  refine WpL_nil ?_
  refine Wp_seq ?_
  refine Wp_seq_region ?_
  refine WpL_val rfl rfl (by decide) (r_move (v := (.slice (some ⟨b1, 0, none⟩) n n)) rfl) ?_
  refine WpL_val rfl rfl (by decide) (r_fieldAddr (b := bd) (o := 0) (o' := 0) rfl Try.underlying25 rfl siz3 rfl) ?_
  refine WpL_val rfl rfl (by decide) (r_load (v := (.int .i64 d.start)) rfl flat3 (Bd.cell rfl)) ?_
  refine WpL_val rfl rfl (by decide) (r_indexSlice (b := b1) (o := 0) (len := n) (cap := n) (i := s0) (o' := 0 + s0) rfl rfl (by omega) Try.underlying22 siz3 (by omega) (by omega)) ?_
  refine WpL_val rfl rfl (by decide) (r_load (v := (.int .i64 (ptD p d.start))) rfl flat3 (by rw [hs0]; exact ints_at_blk hPB hps)) ?_
  refine WpL_val rfl rfl (by decide) (r_lss (k := .i64) (a := ptD p d.start) (b := 0) rfl rfl) ?_
  refine WpL_nil ?_
  refine Wp_cond (b := decide ((ptD p d.start : Int) < 0)) rfl (fun hdead => ?_) (fun hdead => ?_)
  · have khdead := hdead
    replace hdead := of_decide_eq_true hdead
    have hnl0 : ¬ liveD c d d.start := fun hl => by have := (hPt.live d.start ⟨by omega, hst.2⟩).1.2 hl; omega
    refine Wp_seq_region ?_
    refine s_buildSlice (ps := [(0, (.int .i64 (-1)))]) (c := #[(.int .i64 (-1))]) (by decide) rfl Try.underlying22 siz3 zer3 (by decide) (by decide) (by kernel_rfl) ?_
    intro be we Ne
    have Fe := Ne.ge E
    have Oe_bd := Ne.lt Bd
    have Oe_bo := Ne.lt Bo
    have Oe_b1 := Ne.lt hPB
    replace Bd := Ne.keep Bd
    replace Bo := Ne.keep Bo
    replace hPB := Ne.keep hPB
    replace E := E.ext Ne.ext
    have Be := Ne.blk
    refine s_buildSlice (ps := [(0, (.int .i64 (-1)))]) (c := #[(.int .i64 (-1))]) (by decide) rfl Try.underlying22 siz3 zer3 (by decide) (by decide) (by kernel_rfl) ?_
    intro bf wf Nf
    have Ff := Nf.ge E
    have Of_bd := Nf.lt Bd
    have Of_bo := Nf.lt Bo
    have Of_b1 := Nf.lt hPB
    have Of_be := Nf.lt Be
    replace Bd := Nf.keep Bd
    replace Bo := Nf.keep Bo
    replace hPB := Nf.keep hPB
    replace Be := Nf.keep Be
    replace E := E.ext Nf.ext
    have Bf := Nf.blk
    refine WpL_val rfl rfl (by decide) (r_move (v := (.int .i64 ((c : Nat) : Int))) rfl) ?_
    have hbfl := Bf.lt
    refine WpL_enter rfl rfl (by decide) (r_callF (vs := [(.slice (some ⟨bf, 0, none⟩) 1 1), (.int .i64 ((c : Nat) : Int))]) Try.func55 nm55 bd55 rfl) (repeat_c _ bf 1 c (-1) _ Bf hn.2.1 (by omega)) ?_
    rintro _ w19 ⟨⟨g, rfl, hg, hG⟩, X19⟩
    replace Bd := X19.keep Bd
    replace Bo := X19.keep Bo
    replace hPB := X19.keep hPB
    replace Be := X19.keep Be
    replace Bf := X19.keep Bf
    replace E := E.ext X19
    refine s_buildSlice (ps := [(0, (.slice (some ⟨g, 0, none⟩) c c))]) (c := #[(.slice (some ⟨g, 0, none⟩) c c)]) (by decide) rfl Try.underlying23 siz22 zer22 (by decide) (by decide) (by kernel_rfl) ?_
    intro bh wh Nh
    have Fh := Nh.ge E
    have Oh_bd := Nh.lt Bd
    have Oh_bo := Nh.lt Bo
    have Oh_b1 := Nh.lt hPB
    have Oh_be := Nh.lt Be
    have Oh_bf := Nh.lt Bf
    have Oh_g := Nh.lt hG
    replace Bd := Nh.keep Bd
    replace Bo := Nh.keep Bo
    replace hPB := Nh.keep hPB
    replace Be := Nh.keep Be
    replace Bf := Nh.keep Bf
    replace hG := Nh.keep hG
    replace E := E.ext Nh.ext
    have Bh := Nh.blk
    refine WpL_val rfl rfl (by decide) (r_build (ps := [(1, (.slice (some ⟨be, 0, none⟩) 1 1)), (2, (.slice (some ⟨bh, 0, none⟩) 1 1))]) (v := (.agg #[(.int .i64 0), (.slice (some ⟨be, 0, none⟩) 1 1), (.slice (some ⟨bh, 0, none⟩) 1 1)])) rfl (by kernel_rfl)) ?_
    refine s_storeAgg (b := bo) (o := 0) (c' := #[(.int .i64 0), (.slice (some ⟨be, 0, none⟩) 1 1), (.slice (some ⟨bh, 0, none⟩) 1 1)]) rfl rfl (by simp [Value.oneCell']) siz25 rfl Bo (by simp) rfl ?_
    intro w2 S2
    replace Bd := S2.keep (by omega) Bd
    replace hPB := S2.keep (by omega) hPB
    replace Be := S2.keep (by omega) Be
    replace Bf := S2.keep (by omega) Bf
    replace hG := S2.keep (by omega) hG
    replace Bh := S2.keep (by omega) Bh
    replace E := S2.step E (by first | exact Or.inl (by omega) | exact Or.inr rfl | exact Or.inr (by assumption) | exact Or.inr (by simp) | exact Or.inr (by omega) | exact Or.inr (by dsimp only; omega))
    replace Bo := S2.blk
    refine WpL_nil ?_
    refine Wp_ret ?_
    refine thn_ret ?_
    refine fin_agg Try.results56 (vs := [(.int .i64 0), (.slice (some ⟨be, 0, none⟩) 1 1), (.slice (some ⟨bh, 0, none⟩) 1 1)]) (b := bo) rfl agg25 siz25 rfl (Bo.cells rfl) ?_
    exact ⟨⟨⟨0, [-1], [List.replicate c (-1)]⟩, _, canOf_dead ok hnl0, by show 1 ≤ n; omega, fun x hx => by rw [List.mem_singleton] at hx; rw [hx]; decide, rfl, fun M w' ch hM => dead_dfa (ch.keep (fun h => by have := hM _ h; omega) Be) (ch.keep (fun h => by have := hM _ h; omega) Bh) (ch.keep (fun h => by have := hM _ h; omega) hG) (by omega)⟩, E⟩
  · have khdead := hdead
    replace hdead := of_decide_eq_false hdead
    have hlive0 : 0 ≤ ptD p d.start := by omega
    refine Wp_skip ?_
    refine thn_normal ?_
    refine Wp_seq_region ?_
    refine s_alloc (c := #[(.int .i64 0), (.slice none 0 0), (.slice none 0 0)]) (by decide) zer25 rfl ?_
    intro br wr Nr
    have Fr := Nr.ge E
    have Or_bd := Nr.lt Bd
    have Or_bo := Nr.lt Bo
    have Or_b1 := Nr.lt hPB
    replace Bd := Nr.keep Bd
    replace Bo := Nr.keep Bo
    replace hPB := Nr.keep hPB
    replace E := E.ext Nr.ext
    have Br := Nr.blk
    refine WpL_nil ?_
    refine Wp_seq_region ?_
    refine s_makeMap kInt kInt (by decide) ?_
    intro bm wm Nm
    have Fm := Nm.ge E
    have Om_bd := Nm.lt Bd
    have Om_bo := Nm.lt Bo
    have Om_b1 := Nm.lt hPB
    have Om_br := Nm.lt Br
    replace Bd := Nm.keep Bd
    replace Bo := Nm.keep Bo
    replace hPB := Nm.keep hPB
    replace Br := Nm.keep Br
    replace E := E.ext Nm.ext
    intro Mm
    refine WpL_val rfl rfl (by decide) (r_move (v := (.slice (some ⟨b1, 0, none⟩) n n)) rfl) ?_
    refine WpL_val rfl rfl (by decide) (r_fieldAddr (b := bd) (o := 0) (o' := 0) rfl Try.underlying25 rfl siz3 rfl) ?_
    refine WpL_val rfl rfl (by decide) (r_load (v := (.int .i64 d.start)) rfl flat3 (Bd.cell rfl)) ?_
    refine WpL_val rfl rfl (by decide) (r_indexSlice (b := b1) (o := 0) (len := n) (cap := n) (i := s0) (o' := 0 + s0) rfl rfl (by omega) Try.underlying22 siz3 (by omega) (by omega)) ?_
    refine WpL_val rfl rfl (by decide) (r_load (v := (.int .i64 (ptD p d.start))) rfl flat3 (by rw [hs0]; exact ints_at_blk hPB hps)) ?_
    refine s_insert (k := (ptD p d.start)) (v := 0) Try.underlying101 (keyInt Try.underlying3) Mm rfl rfl rfl ?_
    intro w3 S3 H3
    replace Bd := S3.keep (by omega) Bd
    replace Bo := S3.keep (by omega) Bo
    replace hPB := S3.keep (by omega) hPB
    replace Br := S3.keep (by omega) Br
    replace E := S3.step E (by first | exact Or.inl (by omega) | exact Or.inr rfl | exact Or.inr (by assumption) | exact Or.inr (by simp) | exact Or.inr (by omega) | exact Or.inr (by dsimp only; omega))
    replace Mm := H3
    refine WpL_val rfl rfl (by decide) (r_move (v := (.map (some bm))) rfl) ?_
    refine WpL_val rfl rfl (by decide) (r_assign (v := (.map (some bm))) rfl) ?_
    refine WpL_nil ?_
    refine Wp_seq_region ?_
    refine WpL_val rfl rfl (by decide) (r_fieldAddr (b := bd) (o := 0) (o' := 0) rfl Try.underlying25 rfl siz3 rfl) ?_
    refine WpL_val rfl rfl (by decide) (r_load (v := (.int .i64 d.start)) rfl flat3 (Bd.cell rfl)) ?_
    refine s_buildSlice (ps := [(0, (.int .i64 d.start))]) (c := #[(.int .i64 d.start)]) (by decide) rfl Try.underlying22 siz3 zer3 (by decide) (by decide) (by kernel_rfl) ?_
    intro bs ws Ns
    have Fs := Ns.ge E
    have Os_bd := Ns.lt Bd
    have Os_bo := Ns.lt Bo
    have Os_b1 := Ns.lt hPB
    have Os_br := Ns.lt Br
    have Os_bm := Ns.ltM Mm
    replace Bd := Ns.keep Bd
    replace Bo := Ns.keep Bo
    replace hPB := Ns.keep hPB
    replace Br := Ns.keep Br
    replace Mm := Ns.keepM Mm
    replace E := E.ext Ns.ext
    have Bs := Ns.blk
    refine WpL_val rfl rfl (by decide) (r_assign (v := (.slice (some ⟨bs, 0, none⟩) 1 1)) rfl) ?_
    refine WpL_nil ?_
    refine Wp_seq ?_
    refine Wp_seq_region ?_
    refine WpL_val rfl rfl (by decide) (r_assign (v := (.int .i64 0)) rfl) ?_
    refine WpL_nil ?_
    refine Wp_block ?_
    obtain ⟨n1, hn1e⟩ : ∃ n1, n1 = bs := ⟨_, rfl⟩
    have hbsn : bs < ws.heap.size := Bs.lt
    have hS0 := own_lit1 (base := n1) Bs (by omega)
    have hC0 := CanP.start (c := c) hst hlive0
    refine Wp_loop (fun nn_ σ W4 => ∃ (i : Nat) (rows : List (List Int)) (st acc : List Int) (vs : List Value) (sa ea na2 : Option Addr) (sc2 sn ec nc2 : Nat), (∃ jj_, σ = upds jj_ [(1, (.pointer (some ⟨bd, 0, none⟩))), (2, (.pointer (some ⟨bo, 0, none⟩))), (3, (.slice (some ⟨b1, 0, none⟩) n n)), (4, (.int .i64 ((c : Nat) : Int))), (5, (.pointer (some ⟨br, 0, none⟩))), (6, (.map (some bm))), (8, (.int .i64 ((i : Nat) : Int))), (7, (.slice sa sn sc2))]) ∧ Chg none1 w0 W4 ∧ Blk W4 bd #[(.int .i64 d.start), (.slice (some ⟨ab, ao, none⟩) n ac), (.slice (some ⟨nb, no, none⟩) n nc)] 25 ∧ Blk W4 bo #[(.int .i64 0), (.slice none 0 0), (.slice none 0 0)] 25 ∧ Blk W4 b1 ((p.map (Value.int .i64)).toArray) 3 ∧ Blk W4 br (#[Value.int .i64 0, .slice ea i ec, .slice na2 i nc2]) 25 ∧ MapAt W4 bm kInt kInt (keysC (st.map (ptD p)) 0) ∧ (CanP n c d p rows [] st) ∧ (rows.length = i) ∧ (sn = st.length) ∧ (i ≤ sn) ∧ (acc = (st.take i).map (atD d)) ∧ (W4.ownsRow n1 TDI 1 (.slice sa sn sc2) sn (st.map (Value.int .i64))) ∧ (OutSt W4 n1 (.slice ea i ec) (.slice na2 i nc2) vs acc rows) ∧ (∀ b, (Value.slice sa sn sc2).ownBlock = some b → ¬ OutB (.slice ea i ec) (.slice na2 i nc2) vs b) ∧ (n1 ≤ W4.heap.size) ∧ nn_ = n - i) (n := n - 0) ?_ ?_
    · exact ⟨0, [], [d.start], [], [], some ⟨bs, 0, none⟩, none, none, 1, 1, 0, 0, Fits.out ⟨rfl, rfl, rfl, rfl, rfl, rfl, rfl, rfl, trivial⟩, E, Bd, Bo, hPB, Br, Mm, hC0, rfl, rfl, (by omega), rfl, hS0, OutSt.start _ _, (fun b _ h => by rcases h with h | h | ⟨i, v, h, _⟩; cases h; cases h; simp at h), (by omega), rfl⟩
    · clear E Bd Bo hPB Br Mm
      rintro _ _ W4 ⟨i, rows, st, acc, vs, sa, ea, na2, sc2, sn, ec, nc2, ⟨j4, rfl⟩, E, Bd, Bo, hPB, Br, Mm, hC, hir, hsn, hisn, hacc2, hS, hO, hap, hsz, rfl⟩
      refine Wp_seq ?_
      refine Wp_seq_region ?_
      refine WpL_val rfl rfl (by decide) (r_move (v := (.int .i64 ((i : Nat) : Int))) rfl) ?_
      refine WpL_val rfl rfl (by decide) (r_move (v := (.slice sa sn sc2)) rfl) ?_
      refine WpL_val rfl rfl (by decide) (r_lenSlice (ad := sa) (n := sn) (cap := sc2) Try.underlying22 rfl) ?_
      refine WpL_val rfl rfl (by decide) (r_lss (k := .i64) (a := ((i : Nat) : Int)) (b := ((sn : Nat) : Int)) rfl rfl) ?_
      refine WpL_nil ?_
      refine Wp_cond (b := decide ((((i : Nat) : Int) : Int) < ((sn : Nat) : Int))) rfl (fun hlt => ?_) (fun hlt => ?_)
      · have khlt := hlt
        replace hlt := of_decide_eq_true hlt
        obtain ⟨s, hsi⟩ := get_of_lt (l := st) (i := i) (by omega)
        obtain ⟨hs0', hsn', hsp'⟩ := hC.sl s (List.mem_of_getElem? hsi)
        obtain ⟨sN, hsN⟩ := Int.eq_ofNat_of_zero_le hs0'
        obtain ⟨row, ra, rc, hrow, hrl, hcell, hri⟩ := hrowc sN (by omega)
        have hle := hC.st_le
        have hrch : ((rows.length : Nat) : Int) ≤ mxL rows.flatten := by have := hC.mx; rw [List.append_nil] at this; omega
        obtain ⟨sb, rfl, hsb1, hsc⟩ := own_cells hS (by omega)
        obtain ⟨z0, hz0⟩ : ∃ z0, z0 = (W4).heap.size := ⟨_, rfl⟩
        have hnz : n1 ≤ z0 := by omega
        have hOz : ∀ b, OutB (.slice ea i ec) (.slice na2 i nc2) vs b → b < z0 := fun b hb => by have := (hO.lt hb).2; omega
        have hSz : ∀ b, (Value.slice (some ⟨sb, 0, none⟩) sn sc2).ownBlock = some b → b < z0 := fun b hb => by have := (hS.lt b hb).2; omega
        refine Wp_skip ?_
        refine thn_normal ?_
        refine Wp_seq ?_
        refine Wp_block ?_
        refine Wp_seq_region ?_
        refine WpL_val rfl rfl (by decide) (r_move (v := (.int .i64 ((c : Nat) : Int))) rfl) ?_
        refine s_make (n := c) (z := (.int .i64 0)) (bytes := 8) (by decide) Try.underlying22 siz3 byt3 zer3 rfl rfl rfl (by omega) (by omega) ?_
        intro bq wq Nq
        have Fq := Nq.ge E
        have Oq_bd := Nq.lt Bd
        have Oq_bo := Nq.lt Bo
        have Oq_b1 := Nq.lt hPB
        have Oq_br := Nq.lt Br
        have Oq_bm := Nq.ltM Mm
        replace Bd := Nq.keep Bd
        replace Bo := Nq.keep Bo
        replace hPB := Nq.keep hPB
        replace Br := Nq.keep Br
        replace Mm := Nq.keepM Mm
        replace hS := own_ext hS Nq.ext
        replace hO := hO.ext Nq.ext
        replace hsz := Nat.le_trans hsz Nq.ext.size
        replace hsc := hsc.ext Nq.ext
        replace E := E.ext Nq.ext
        have Bq := Nq.blk
        refine WpL_val rfl rfl (by decide) (r_assign (v := (.slice (some ⟨bq, 0, none⟩) c c)) rfl) ?_
        refine WpL_nil ?_
        refine Wp_seq ?_
        refine Wp_seq ?_
        obtain ⟨Fs6, hFs6⟩ : ∃ Fs : List Fact, Fs = [.eq (.pointer (some ⟨bd, 2, none⟩)), .eq (.slice (some ⟨nb, no, none⟩) n nc), .eq (.slice (some ⟨sb, 0, none⟩) sn sc2), .eq (.int .i64 ((i : Nat) : Int)), .eq (.pointer (some ⟨sb, 0 + i, none⟩)), .eq (.int .i64 s), .eq (.pointer (some ⟨nb, no + sN, none⟩)), .eq (.slice ra c rc), .eq (.int .i64 ((c : Nat) : Int)), .eq (.int .i64 0)] := ⟨_, rfl⟩
        refine Wp_dag [51, 52, 53, 54, 55, 56, 57, 58, 59, 60] [[], [0], [], [], [2, 3], [4], [1, 5], [6], [7], []] Fs6 hFs6 mixed (by kernel_rfl) (by kernel_rfl) ?_ ?_
        · intro wd X0
          refine DagSteps.cons (fun s' w' X U H => Or.inl ⟨?_, ?_⟩) ?_
          · exact Guarded_none rfl
          · exact Does_val (r_fieldAddr (b := bd) (o := 0) (o' := 2) (U 1 rfl) Try.underlying25 rfl siz23 rfl) (Ext.refl _) rfl
          refine DagSteps.cons (fun s' w' X U H => Or.inl ⟨?_, ?_⟩) ?_
          · exact Guarded_none rfl
          · have e51 : s' 51 = (.pointer (some ⟨bd, 2, none⟩)) := H 0 rfl 51 (.eq (.pointer (some ⟨bd, 2, none⟩))) rfl (by rw [hFs6]; rfl)
            exact Does_val (r_load (v := (.slice (some ⟨nb, no, none⟩) n nc)) e51 flat23 (((X0.trans X).keep Bd).cell rfl)) (Ext.refl _) rfl
          refine DagSteps.cons (fun s' w' X U H => Or.inl ⟨?_, ?_⟩) ?_
          · exact Guarded_none rfl
          · exact Does_val (r_move (v := (.slice (some ⟨sb, 0, none⟩) sn sc2)) (U 7 rfl)) (Ext.refl _) rfl
          refine DagSteps.cons (fun s' w' X U H => Or.inl ⟨?_, ?_⟩) ?_
          · exact Guarded_none rfl
          · exact Does_val (r_move (v := (.int .i64 ((i : Nat) : Int))) (U 8 rfl)) (Ext.refl _) rfl
          refine DagSteps.cons (fun s' w' X U H => Or.inl ⟨?_, ?_⟩) ?_
          · exact Guarded_none rfl
          · have e53 : s' 53 = (.slice (some ⟨sb, 0, none⟩) sn sc2) := H 2 rfl 53 (.eq (.slice (some ⟨sb, 0, none⟩) sn sc2)) rfl (by rw [hFs6]; rfl)
            have e54 : s' 54 = (.int .i64 ((i : Nat) : Int)) := H 3 rfl 54 (.eq (.int .i64 ((i : Nat) : Int))) rfl (by rw [hFs6]; rfl)
            exact Does_val (r_indexSlice (b := sb) (o := 0) (len := sn) (cap := sc2) (i := i) (o' := 0 + i) e53 e54 rfl Try.underlying22 siz3 (by omega) (by omega)) (Ext.refl _) rfl
          refine DagSteps.cons (fun s' w' X U H => Or.inl ⟨?_, ?_⟩) ?_
          · exact Guarded_none rfl
          · have e55 : s' 55 = (.pointer (some ⟨sb, 0 + i, none⟩)) := H 4 rfl 55 (.eq (.pointer (some ⟨sb, 0 + i, none⟩))) rfl (by rw [hFs6]; rfl)
            exact Does_val (r_load (v := (.int .i64 s)) e55 flat3 ((X0.trans X).cell (hsc i _ (by rw [List.getElem?_map, hsi]; rfl)))) (Ext.refl _) rfl
          refine DagSteps.cons (fun s' w' X U H => Or.inl ⟨?_, ?_⟩) ?_
          · exact Guarded_none rfl
          · have e52 : s' 52 = (.slice (some ⟨nb, no, none⟩) n nc) := H 1 rfl 52 (.eq (.slice (some ⟨nb, no, none⟩) n nc)) rfl (by rw [hFs6]; rfl)
            have e56 : s' 56 = (.int .i64 s) := H 5 rfl 56 (.eq (.int .i64 s)) rfl (by rw [hFs6]; rfl)
            exact Does_val (r_indexSlice (b := nb) (o := no) (len := n) (cap := nc) (i := sN) (o' := no + sN) e52 e56 (by omega) Try.underlying23 siz22 (by omega) (by omega)) (Ext.refl _) rfl
          refine DagSteps.cons (fun s' w' X U H => Or.inl ⟨?_, ?_⟩) ?_
          · exact Guarded_none rfl
          · have e57 : s' 57 = (.pointer (some ⟨nb, no + sN, none⟩)) := H 6 rfl 57 (.eq (.pointer (some ⟨nb, no + sN, none⟩))) rfl (by rw [hFs6]; rfl)
            exact Does_val (r_load (v := (.slice ra c rc)) e57 flat22 ((Chg.ext E (X0.trans X)).cell (fun f => f) hcell)) (Ext.refl _) rfl
          refine DagSteps.cons (fun s' w' X U H => Or.inl ⟨?_, ?_⟩) ?_
          · exact Guarded_none rfl
          · have e58 : s' 58 = (.slice ra c rc) := H 7 rfl 58 (.eq (.slice ra c rc)) rfl (by rw [hFs6]; rfl)
            exact Does_val (r_lenSlice (ad := ra) (n := c) (cap := rc) Try.underlying22 e58) (Ext.refl _) rfl
          refine DagSteps.cons (fun s' w' X U H => Or.inl ⟨?_, ?_⟩) ?_
          · exact Guarded_none rfl
          · exact Does_val (r_move (v := (.int .i64 0)) rfl) (Ext.refl _) rfl
          exact DagSteps.nil
        · intro s' w6 X6 U H
          obtain ⟨j6, rfl⟩ := Fits.out (σ := s') (l := [(1, (.pointer (some ⟨bd, 0, none⟩))), (2, (.pointer (some ⟨bo, 0, none⟩))), (3, (.slice (some ⟨b1, 0, none⟩) n n)), (4, (.int .i64 ((c : Nat) : Int))), (5, (.pointer (some ⟨br, 0, none⟩))), (6, (.map (some bm))), (7, (.slice (some ⟨sb, 0, none⟩) sn sc2)), (8, (.int .i64 ((i : Nat) : Int))), (9, (.slice (some ⟨bq, 0, none⟩) c c)), (58, (.slice ra c rc)), (59, (.int .i64 ((c : Nat) : Int))), (60, (.int .i64 0))]) ⟨U 1 rfl, U 2 rfl, U 3 rfl, U 4 rfl, U 5 rfl, U 6 rfl, U 7 rfl, U 8 rfl, U 9 rfl, (show s' 58 = (.slice ra c rc) from H 7 58 (.eq (.slice ra c rc)) rfl (by rw [hFs6]; rfl)), (show s' 59 = (.int .i64 ((c : Nat) : Int)) from H 8 59 (.eq (.int .i64 ((c : Nat) : Int))) rfl (by rw [hFs6]; rfl)), (show s' 60 = (.int .i64 0) from H 9 60 (.eq (.int .i64 0)) rfl (by rw [hFs6]; rfl)), trivial⟩
          clear U H
          replace Bd := X6.keep Bd
          replace Bo := X6.keep Bo
          replace hPB := X6.keep hPB
          replace Br := X6.keep Br
          replace Mm := X6.keepM Mm
          replace Bq := X6.keep Bq
          replace hS := own_ext hS X6
          replace hO := hO.ext X6
          replace hsz := Nat.le_trans hsz X6.size
          replace hsc := hsc.ext X6
          replace E := E.ext X6
          have hqz : z0 ≤ bq := by have := Nq.eq; omega
          rw [show List.replicate c (Value.int .i64 0) = (List.replicate c (0 : Int)).map (Value.int .i64) by simp] at Bq
          refine thn_normal ?_
          refine Wp_block ?_
          refine Wp_loop (fun nn_ σ W7 => ∃ (x : Nat) (R : List Int) (st : List Int) (sa : Option Addr) (sc2 sn : Nat), (∃ jj_, σ = upds jj_ [(1, (.pointer (some ⟨bd, 0, none⟩))), (2, (.pointer (some ⟨bo, 0, none⟩))), (3, (.slice (some ⟨b1, 0, none⟩) n n)), (4, (.int .i64 ((c : Nat) : Int))), (5, (.pointer (some ⟨br, 0, none⟩))), (6, (.map (some bm))), (8, (.int .i64 ((i : Nat) : Int))), (9, (.slice (some ⟨bq, 0, none⟩) c c)), (58, (.slice ra c rc)), (59, (.int .i64 ((c : Nat) : Int))), (60, (.int .i64 ((x : Nat) : Int))), (7, (.slice sa sn sc2))]) ∧ Chg none1 w0 W7 ∧ Blk W7 bd #[(.int .i64 d.start), (.slice (some ⟨ab, ao, none⟩) n ac), (.slice (some ⟨nb, no, none⟩) n nc)] 25 ∧ Blk W7 bo #[(.int .i64 0), (.slice none 0 0), (.slice none 0 0)] 25 ∧ Blk W7 b1 ((p.map (Value.int .i64)).toArray) 3 ∧ Blk W7 br (#[Value.int .i64 0, .slice ea i ec, .slice na2 i nc2]) 25 ∧ MapAt W7 bm kInt kInt (keysC (st.map (ptD p)) 0) ∧ Blk W7 bq ((R.map (Value.int .i64)).toArray) 3 ∧ (x ≤ c) ∧ (R.length = c) ∧ (CanP n c d p rows (R.take x) st) ∧ (st[i]? = some s) ∧ (sn = st.length) ∧ ((st.take i).map (atD d) = acc) ∧ (W7.ownsRow n1 TDI 1 (.slice sa sn sc2) sn (st.map (Value.int .i64))) ∧ (OutSt W7 n1 (.slice ea i ec) (.slice na2 i nc2) vs acc rows) ∧ (∀ b, (Value.slice sa sn sc2).ownBlock = some b → ¬ OutB (.slice ea i ec) (.slice na2 i nc2) vs b ∧ b ≠ bq) ∧ (n1 ≤ W7.heap.size) ∧ nn_ = c - x) (n := c - 0) ?_ ?_
          · exact ⟨0, List.replicate c 0, st, some ⟨sb, 0, none⟩, sc2, sn, Fits.out ⟨rfl, rfl, rfl, rfl, rfl, rfl, rfl, rfl, rfl, rfl, rfl, rfl, trivial⟩, E, Bd, Bo, hPB, Br, Mm, Bq, Nat.zero_le _, (by simp), (by simpa using hC), hsi, hsn, hacc2.symm, hS, hO, (fun b hb => ⟨hap b hb, fun e => by have := hSz b hb; omega⟩), hsz, rfl⟩
          · clear E Bd Bo hPB Br Mm Bq
            rintro _ _ W7 ⟨x, R, st, sa, sc2, sn, ⟨j7, rfl⟩, E, Bd, Bo, hPB, Br, Mm, Bq, hx, hRl, hC, hsi, hsn, hta, hS, hO, hap, hsz, rfl⟩
            refine Wp_seq_region ?_
            refine WpL_val rfl rfl (by decide) (r_lss (k := .i64) (a := ((x : Nat) : Int)) (b := ((c : Nat) : Int)) rfl rfl) ?_
            refine WpL_nil ?_
            refine Wp_seq ?_
            refine Wp_cond (b := decide ((((x : Nat) : Int) : Int) < ((c : Nat) : Int))) rfl (fun hlt2 => ?_) (fun hlt2 => ?_)
            · have khlt2 := hlt2
              replace hlt2 := of_decide_eq_true hlt2
              obtain ⟨t, ht⟩ := get_of_lt (l := row) (i := x) (by omega)
              obtain ⟨rb, ro, rfl, hrc⟩ := ints_cells (n := c) hri (by omega)
              obtain ⟨htk, _, _, hxl, hxh⟩ := toD_row ok hrow ht
              rw [← hsN] at htk
              have hxl2 : (R.take x).length = x := by simp; omega
              have hsr : st[rows.length]? = some s := by rw [hir]; exact hsi
              have hts := take_set_succ (L := R) (s := x) (x := -1) (by omega)
              refine Wp_skip ?_
              refine thn_normal ?_
              refine Wp_seq ?_
              refine Wp_block ?_
              refine Wp_seq_region ?_
              refine WpL_val rfl rfl (by decide) (r_move (v := (.int .i64 ((x : Nat) : Int))) rfl) ?_
              refine WpL_val rfl rfl (by decide) (r_indexSlice (b := rb) (o := ro) (len := c) (cap := rc) (i := x) (o' := ro + x) rfl rfl rfl Try.underlying22 siz3 (by omega) (by omega)) ?_
              refine WpL_val rfl rfl (by decide) (r_load (v := (.int .i64 t)) rfl flat3 (E.cell (fun f => f) (hrc x t ht))) ?_
              refine WpL_val rfl rfl (by decide) (r_assign (v := (.int .i64 ((x : Nat) : Int))) rfl) ?_
              refine WpL_val rfl rfl (by decide) (r_assign (v := (.int .i64 t)) rfl) ?_
              refine WpL_nil ?_
              refine Wp_seq ?_
              refine Wp_seq_region ?_
              refine WpL_val rfl rfl (by decide) (r_move (v := (.slice (some ⟨bq, 0, none⟩) c c)) rfl) ?_
              refine WpL_val rfl rfl (by decide) (r_move (v := (.int .i64 ((x : Nat) : Int))) rfl) ?_
              refine WpL_val rfl rfl (by decide) (r_indexSlice (b := bq) (o := 0) (len := c) (cap := c) (i := x) (o' := 0 + x) rfl rfl rfl Try.underlying22 siz3 (by omega) (by omega)) ?_
              refine s_store (b := bq) (o := 0 + x) (c' := ((R.set x (-1)).map (Value.int .i64)).toArray) (v := (.int .i64 (-1))) rfl rfl rfl siz3 Bq (by simp; omega) (ints_setD _) ?_
              intro w9 S9
              replace hS := own_chg hS S9.chg fun b hb h => (hap b hb).2 h
              replace hO := hO.chg S9.chg fun b hb h => by have := hOz b hb; have h' : b = bq := h; omega
              replace hsz := Nat.le_trans hsz S9.chg.size
              replace Bd := S9.keep (by omega) Bd
              replace Bo := S9.keep (by omega) Bo
              replace hPB := S9.keep (by omega) hPB
              replace Br := S9.keep (by omega) Br
              replace Mm := S9.keepM (by omega) Mm
              replace E := S9.step E (by first | exact Or.inl (by omega) | exact Or.inr rfl | exact Or.inr (by assumption) | exact Or.inr (by simp) | exact Or.inr (by omega) | exact Or.inr (by dsimp only; omega))
              replace Bq := S9.blk
              refine WpL_nil ?_
              refine Wp_seq_region ?_
              refine WpL_val rfl rfl (by decide) (r_move (v := (.int .i64 t)) rfl) ?_
              refine WpL_val rfl rfl (by decide) (r_lss (k := .i64) (a := t) (b := 0) rfl rfl) ?_
              refine WpL_val rfl rfl (by decide) (r_move (v := (.bool (decide ((t : Int) < 0)))) rfl) ?_
              rcases Bool.eq_false_or_eq_true (decide ((t : Int) < 0)) with hneg | hneg
              · have khneg := hneg
                replace khneg := of_decide_eq_true khneg
                have hEd : EntP d p st s (R.take x).length (-1) := .inl ⟨rfl, by rw [hxl2, htk, ptD_neg khneg]; decide⟩
                refine WpL_guard_no (oj := _) rfl rfl (by decide) (v := .bool true) (congrArg Value.bool hneg) (Or.inl rfl) ?_
                refine WpL_guard_no (oj := _) rfl rfl (by decide) (v := .bool true) (congrArg Value.bool hneg) (Or.inl rfl) ?_
                refine WpL_guard_no (oj := _) rfl rfl (by decide) (v := .bool true) (congrArg Value.bool hneg) (Or.inl rfl) ?_
                refine WpL_guard_no (oj := _) rfl rfl (by decide) (v := .bool true) (congrArg Value.bool hneg) (Or.inl rfl) ?_
                refine WpL_guard_no (oj := _) rfl rfl (by decide) (v := .bool true) (congrArg Value.bool hneg) (Or.inl rfl) ?_
                refine WpL_val rfl rfl (by decide) (r_pick (b := decide ((t : Int) < 0)) (v := (.bool true)) rfl (by rw [hneg]; rfl)) ?_
                refine WpL_nil ?_
                refine Wp_cond_true rfl ?_
                refine Wp_exit ?_
                refine thn_exit ?_
                refine inB_here ?_
                refine thn_normal ?_
                refine Wp_region ?_
                refine WpL_val rfl rfl (by decide) (r_add (k := .i64) (a := ((x : Nat) : Int)) (b := 1) (c := ((x : Nat) : Int) + 1) rfl rfl (wI64 (by omega))) ?_
                refine WpL_val rfl rfl (by decide) (r_move (v := (.int .i64 (((x : Nat) : Int) + 1))) rfl) ?_
                refine WpL_nil ?_
                refine thn_normal ?_
                exact ⟨c - (x + 1), by omega, x + 1, R.set x (-1), st, sa, sc2, sn, Fits.out ⟨rfl, rfl, rfl, rfl, rfl, rfl, rfl, rfl, rfl, rfl, rfl, rfl, trivial⟩, E, Bd, Bo, hPB, Br, Mm, Bq, (by omega), (by simp [hRl]), (by rw [hts]; exact hC.add hsr hEd), hsi, hsn, hta, hS, hO, hap, hsz, rfl⟩
              · have khneg := hneg
                replace khneg := of_decide_eq_false khneg
                obtain ⟨tN, htN⟩ := Int.eq_ofNat_of_zero_le (show 0 ≤ t by omega)
                have hpt := ptD_cell hPt.len (show tN < n by omega)
                refine WpL_guard_yes (oj := _) rfl rfl (by decide) (congrArg Value.bool hneg) ?_
                refine WpL_val rfl rfl (by decide) (r_move (v := (.slice (some ⟨b1, 0, none⟩) n n)) rfl) ?_
                refine WpL_guard_yes (oj := _) rfl rfl (by decide) (congrArg Value.bool hneg) ?_
                refine WpL_val rfl rfl (by decide) (r_move (v := (.int .i64 t)) rfl) ?_
                refine WpL_guard_yes (oj := _) rfl rfl (by decide) (congrArg Value.bool hneg) ?_
                refine WpL_val rfl rfl (by decide) (r_indexSlice (b := b1) (o := 0) (len := n) (cap := n) (i := tN) (o' := 0 + tN) rfl rfl (by omega) Try.underlying22 siz3 (by omega) (by omega)) ?_
                refine WpL_guard_yes (oj := _) rfl rfl (by decide) (congrArg Value.bool hneg) ?_
                refine WpL_val rfl rfl (by decide) (r_load (v := (.int .i64 (ptD p t))) rfl flat3 (by rw [htN]; exact ints_at_blk hPB hpt)) ?_
                refine WpL_guard_yes (oj := _) rfl rfl (by decide) (congrArg Value.bool hneg) ?_
                refine WpL_val rfl rfl (by decide) (r_lss (k := .i64) (a := ptD p t) (b := 0) rfl rfl) ?_
                refine WpL_val rfl rfl (by decide) (r_pick (b := decide ((t : Int) < 0)) (v := (.bool (decide ((ptD p t : Int) < 0)))) rfl (by rw [hneg]; rfl)) ?_
                refine WpL_nil ?_
                refine Wp_cond (b := decide ((ptD p t : Int) < 0)) rfl (fun hdt => ?_) (fun hdt => ?_)
                · have khdt := hdt
                  replace hdt := of_decide_eq_true hdt
                  have hEd : EntP d p st s (R.take x).length (-1) := .inl ⟨rfl, by rw [hxl2, htk]; omega⟩
                  refine Wp_exit ?_
                  refine thn_exit ?_
                  refine inB_here ?_
                  refine thn_normal ?_
                  refine Wp_region ?_
                  refine WpL_val rfl rfl (by decide) (r_add (k := .i64) (a := ((x : Nat) : Int)) (b := 1) (c := ((x : Nat) : Int) + 1) rfl rfl (wI64 (by omega))) ?_
                  refine WpL_val rfl rfl (by decide) (r_move (v := (.int .i64 (((x : Nat) : Int) + 1))) rfl) ?_
                  refine WpL_nil ?_
                  refine thn_normal ?_
                  exact ⟨c - (x + 1), by omega, x + 1, R.set x (-1), st, sa, sc2, sn, Fits.out ⟨rfl, rfl, rfl, rfl, rfl, rfl, rfl, rfl, rfl, rfl, rfl, rfl, trivial⟩, E, Bd, Bo, hPB, Br, Mm, Bq, (by omega), (by simp [hRl]), (by rw [hts]; exact hC.add hsr hEd), hsi, hsn, hta, hS, hO, hap, hsz, rfl⟩
                · have khdt := hdt
                  replace hdt := of_decide_eq_false hdt
                  refine Wp_skip ?_
                  refine thn_normal ?_
                  refine Wp_seq_region ?_
                  refine WpL_val rfl rfl (by decide) (r_move (v := (.map (some bm))) rfl) ?_
                  refine WpL_val rfl rfl (by decide) (r_move (v := (.slice (some ⟨b1, 0, none⟩) n n)) rfl) ?_
                  refine WpL_val rfl rfl (by decide) (r_move (v := (.int .i64 t)) rfl) ?_
                  refine WpL_val rfl rfl (by decide) (r_indexSlice (b := b1) (o := 0) (len := n) (cap := n) (i := tN) (o' := 0 + tN) rfl rfl (by omega) Try.underlying22 siz3 (by omega) (by omega)) ?_
                  refine WpL_val rfl rfl (by decide) (r_load (v := (.int .i64 (ptD p t))) rfl flat3 (by rw [htN]; exact ints_at_blk hPB hpt)) ?_
                  refine WpL_val (v := (.tuple #[(.int .i64 ((getM (keysC (st.map (ptD p)) 0) (ptD p t)).getD 0)), (.bool ((getM (keysC (st.map (ptD p)) 0) (ptD p t)).isSome))])) rfl rfl (by decide) (r_lookup2 (k := (ptD p t)) (z := 0) Try.underlying101 (keyInt Try.underlying3) zer3 Mm rfl rfl) ?_
                  refine WpL_val rfl rfl (by decide) (r_move (v := (.tuple #[(.int .i64 ((getM (keysC (st.map (ptD p)) 0) (ptD p t)).getD 0)), (.bool ((getM (keysC (st.map (ptD p)) 0) (ptD p t)).isSome))])) rfl) ?_
                  refine WpL_val rfl rfl (by decide) (r_extract (vs := #[(.int .i64 ((getM (keysC (st.map (ptD p)) 0) (ptD p t)).getD 0)), (.bool ((getM (keysC (st.map (ptD p)) 0) (ptD p t)).isSome))]) (v := (.int .i64 ((getM (keysC (st.map (ptD p)) 0) (ptD p t)).getD 0))) rfl rfl) ?_
                  refine WpL_val rfl rfl (by decide) (r_extract (vs := #[(.int .i64 ((getM (keysC (st.map (ptD p)) 0) (ptD p t)).getD 0)), (.bool ((getM (keysC (st.map (ptD p)) 0) (ptD p t)).isSome))]) (v := (.bool ((getM (keysC (st.map (ptD p)) 0) (ptD p t)).isSome))) rfl rfl) ?_
                  refine WpL_val rfl rfl (by decide) (r_assign (v := (.int .i64 ((getM (keysC (st.map (ptD p)) 0) (ptD p t)).getD 0))) rfl) ?_
                  refine WpL_val rfl rfl (by decide) (r_assign (v := (.bool ((getM (keysC (st.map (ptD p)) 0) (ptD p t)).isSome))) rfl) ?_
                  refine WpL_nil ?_
                  refine Wp_cut (fun σ W12 => ∃ (st1 : List Int) (j : Nat) (sa1 : Option Addr) (sc1 sn1 : Nat), (∃ jj_, σ = upds jj_ [(1, (.pointer (some ⟨bd, 0, none⟩))), (2, (.pointer (some ⟨bo, 0, none⟩))), (3, (.slice (some ⟨b1, 0, none⟩) n n)), (4, (.int .i64 ((c : Nat) : Int))), (5, (.pointer (some ⟨br, 0, none⟩))), (6, (.map (some bm))), (8, (.int .i64 ((i : Nat) : Int))), (9, (.slice (some ⟨bq, 0, none⟩) c c)), (10, (.int .i64 ((x : Nat) : Int))), (58, (.slice (some ⟨rb, ro, none⟩) c rc)), (59, (.int .i64 ((c : Nat) : Int))), (60, (.int .i64 ((x : Nat) : Int))), (7, (.slice sa1 sn1 sc1)), (12, (.int .i64 ((j : Nat) : Int)))]) ∧ Chg none1 w0 W12 ∧ Blk W12 bd #[(.int .i64 d.start), (.slice (some ⟨ab, ao, none⟩) n ac), (.slice (some ⟨nb, no, none⟩) n nc)] 25 ∧ Blk W12 bo #[(.int .i64 0), (.slice none 0 0), (.slice none 0 0)] 25 ∧ Blk W12 b1 ((p.map (Value.int .i64)).toArray) 3 ∧ Blk W12 br (#[Value.int .i64 0, .slice ea i ec, .slice na2 i nc2]) 25 ∧ MapAt W12 bm kInt kInt (keysC (st1.map (ptD p)) 0) ∧ Blk W12 bq (((R.set x (-1)).map (Value.int .i64)).toArray) 3 ∧ (CanP n c d p rows (R.take x ++ [((j : Nat) : Int)]) st1) ∧ (st1[i]? = some s) ∧ (sn1 = st1.length) ∧ ((st1.take i).map (atD d) = acc) ∧ (W12.ownsRow n1 TDI 1 (.slice sa1 sn1 sc1) sn1 (st1.map (Value.int .i64))) ∧ (OutSt W12 n1 (.slice ea i ec) (.slice na2 i nc2) vs acc rows) ∧ (∀ b, (Value.slice sa1 sn1 sc1).ownBlock = some b → ¬ OutB (.slice ea i ec) (.slice na2 i nc2) vs b ∧ b ≠ bq) ∧ (n1 ≤ W12.heap.size)) ?_ ?_
                  · skip
                    refine Wp_seq_region ?_
                    refine WpL_val rfl rfl (by decide) (r_move (v := (.bool ((getM (keysC (st.map (ptD p)) 0) (ptD p t)).isSome))) rfl) ?_
                    refine WpL_val rfl rfl (by decide) (r_not (b := (getM (keysC (st.map (ptD p)) 0) (ptD p t)).isSome) rfl) ?_
                    refine WpL_nil ?_
                    refine Wp_cond (b := !((getM (keysC (st.map (ptD p)) 0) (ptD p t)).isSome)) rfl (fun hnew => ?_) (fun hnew => ?_)
                    · have khnew := hnew
                      replace hnew := by simpa using hnew
                      have hgm : getM (keysC (st.map (ptD p)) 0) (ptD p t) = none := by simpa using hnew
                      obtain ⟨hnin, hput⟩ := keysC_none hgm
                      have htk2 : toD d s (R.take x).length = t := by rw [hxl2, htk]
                      have hle2 := hC.st_le
                      refine Wp_seq_region ?_
                      refine WpL_val rfl rfl (by decide) (r_move (v := (.slice sa sn sc2)) rfl) ?_
                      refine WpL_val rfl rfl (by decide) (r_lenSlice (ad := sa) (n := sn) (cap := sc2) Try.underlying22 rfl) ?_
                      refine WpL_val rfl rfl (by decide) (r_assign (v := (.int .i64 ((sn : Nat) : Int))) rfl) ?_
                      refine WpL_nil ?_
                      refine Wp_seq_region ?_
                      refine WpL_val rfl rfl (by decide) (r_move (v := (.map (some bm))) rfl) ?_
                      refine WpL_val rfl rfl (by decide) (r_move (v := (.slice (some ⟨b1, 0, none⟩) n n)) rfl) ?_
                      refine WpL_val rfl rfl (by decide) (r_move (v := (.int .i64 t)) rfl) ?_
                      refine WpL_val rfl rfl (by decide) (r_indexSlice (b := b1) (o := 0) (len := n) (cap := n) (i := tN) (o' := 0 + tN) rfl rfl (by omega) Try.underlying22 siz3 (by omega) (by omega)) ?_
                      refine WpL_val rfl rfl (by decide) (r_load (v := (.int .i64 (ptD p t))) rfl flat3 (by rw [htN]; exact ints_at_blk hPB hpt)) ?_
                      refine WpL_val rfl rfl (by decide) (r_move (v := (.int .i64 ((sn : Nat) : Int))) rfl) ?_
                      refine s_mapUpdate (k := (ptD p t)) (v := ((sn : Nat) : Int)) Try.underlying101 (keyInt Try.underlying3) Mm rfl rfl rfl ?_
                      intro w14 S14 H14
                      replace hS := own_chg hS S14.chg fun b hb h => by have := (hS.lt b hb).1; have h' : b = bm := h; omega
                      replace hO := hO.chg S14.chg fun b hb h => by have := (hO.lt hb).1; have h' : b = bm := h; omega
                      replace hsz := Nat.le_trans hsz S14.chg.size
                      replace Bd := S14.keep (by omega) Bd
                      replace Bo := S14.keep (by omega) Bo
                      replace hPB := S14.keep (by omega) hPB
                      replace Br := S14.keep (by omega) Br
                      replace Bq := S14.keep (by omega) Bq
                      replace E := S14.step E (by first | exact Or.inl (by omega) | exact Or.inr rfl | exact Or.inr (by assumption) | exact Or.inr (by simp) | exact Or.inr (by omega) | exact Or.inr (by dsimp only; omega))
                      replace Mm := H14
                      refine WpL_nil ?_
                      refine Wp_region ?_
                      refine WpL_val rfl rfl (by decide) (r_move (v := (.slice sa sn sc2)) rfl) ?_
                      refine WpL_val rfl rfl (by decide) (r_move (v := (.int .i64 t)) rfl) ?_
                      refine s_buildSlice (ps := [(0, (.int .i64 t))]) (c := #[(.int .i64 t)]) (by decide) rfl Try.underlying22 siz3 zer3 (by decide) (by decide) (by kernel_rfl) ?_
                      intro b15 w15 N15
                      have F15 := N15.ge E
                      have O15_bd := N15.lt Bd
                      have O15_bo := N15.lt Bo
                      have O15_b1 := N15.lt hPB
                      have O15_br := N15.lt Br
                      have O15_bm := N15.ltM Mm
                      have O15_bq := N15.lt Bq
                      replace Bd := N15.keep Bd
                      replace Bo := N15.keep Bo
                      replace hPB := N15.keep hPB
                      replace Br := N15.keep Br
                      replace Mm := N15.keepM Mm
                      replace Bq := N15.keep Bq
                      replace hS := own_ext hS N15.ext
                      replace hO := hO.ext N15.ext
                      replace hsz := Nat.le_trans hsz N15.ext.size
                      replace E := E.ext N15.ext
                      have B15 := N15.blk
                      have hbql := Bq.lt
                      refine s_append (base := n1) (n := sn) (m := 1) (xs := (st.map (Value.int .i64))) (news := [(.int .i64 t)]) (size := 1) (bytes := 8) (v := (.slice sa sn sc2)) (by decide) Try.underlying22 siz3 byt3 zer3 rfl (by decide) rfl hS rfl (rfl) (B15.cells rfl) (by simp [Value.oneCell']) (by unfold maxLen; omega) (by omega) (hsz) ?_
                      intro v7 w59 Ov7 Cv7 Dv7
                      replace Bd := Cv7.keep (fun h => by have := (hS.lt _ h).1; omega) Bd
                      replace Bo := Cv7.keep (fun h => by have := (hS.lt _ h).1; omega) Bo
                      replace hPB := Cv7.keep (fun h => by have := (hS.lt _ h).1; omega) hPB
                      replace Br := Cv7.keep (fun h => by have := (hS.lt _ h).1; omega) Br
                      replace Mm := Cv7.keepM (fun h => by have := (hS.lt _ h).1; omega) Mm
                      replace Bq := Cv7.keep (fun h => (hap _ h).2 rfl) Bq
                      replace E := E.step Cv7 (fun x hx h => absurd (hS.lt x h).1 (by omega))
                      obtain ⟨sa3, sc3, rfl⟩ := own_form Ov7
                      rw [hsn, show ((st.length : Nat) : Int) = (((st.map (ptD p)).length : Nat) : Int) by rw [List.length_map], hput, show st.map (ptD p) ++ [ptD p t] = (st ++ [t]).map (ptD p) by simp] at Mm
                      refine WpL_val rfl rfl (by decide) (r_assign (v := (.slice sa3 (sn + 1) sc3)) rfl) ?_
                      refine WpL_nil ?_
                      refine thn_normal ?_
                      exact ⟨st ++ [t], sn, sa3, sc3, sn + 1, Fits.out ⟨rfl, rfl, rfl, rfl, rfl, rfl, rfl, rfl, rfl, rfl, rfl, rfl, rfl, rfl, trivial⟩, E, Bd, Bo, hPB, Br, Mm, Bq, (by rw [hsn]; have h9 := hC.new hsr (by rw [htk2]; omega) (by rw [htk2]; omega) (fun u hu he => hnin (by rw [← htk2, ← he]; exact List.mem_map.2 ⟨u, hu, rfl⟩)); rw [htk2] at h9; exact h9), (by rw [List.getElem?_append_left (lt_of_get hsi)]; exact hsi), (by simp; omega), (by rw [List.take_append_of_le_length (by have := lt_of_get hsi; omega)]; exact hta), (by rw [List.map_append]; exact Ov7), hO.chg Cv7 (fun b hb h => (hap b h).1 hb), (fun b hb => by rcases Dv7 b hb with h9 | h9; exact hap b h9; exact ⟨fun ho => by have := (hO.lt ho).2; omega, fun e => by omega⟩), Nat.le_trans hsz Cv7.size⟩
                    · have khnew := hnew
                      replace hnew := by simpa using hnew
                      have hgs : (getM (keysC (st.map (ptD p)) 0) (ptD p t)).isSome = true := by simpa using hnew
                      obtain ⟨v9, hv9⟩ := Option.isSome_iff_exists.1 hgs
                      obtain ⟨j9, rfl, hj9⟩ := keysC_get hv9
                      rw [List.getElem?_map] at hj9
                      obtain ⟨u, hu, hut⟩ := Option.map_eq_some_iff.1 hj9
                      rw [show (getM (keysC (st.map (ptD p)) 0) (ptD p t)).getD 0 = ((j9 : Nat) : Int) from by rw [hv9]; rfl]
                      refine Wp_skip ?_
                      refine thn_normal ?_
                      exact ⟨st, j9, sa, sc2, sn, Fits.out ⟨rfl, rfl, rfl, rfl, rfl, rfl, rfl, rfl, rfl, rfl, rfl, rfl, rfl, rfl, trivial⟩, E, Bd, Bo, hPB, Br, Mm, Bq, hC.add hsr (.inr ⟨j9, u, rfl, hu, by rw [hxl2, htk, hut], by rw [hut]; omega⟩), hsi, hsn, hta, hS, hO, hap, hsz⟩
                  · clear E Bd Bo hPB Br Mm Bq
                    rintro _ W12 ⟨st1, j, sa1, sc1, sn1, ⟨j12, rfl⟩, E, Bd, Bo, hPB, Br, Mm, Bq, hC1, hsi1, hsn1, hta1, hS1, hO1, hap1, hsz1⟩
                    have hts2 := take_set_succ (L := R.set x (-1)) (s := x) (x := ((j : Nat) : Int)) (by simp; omega)
                    refine Wp_region ?_
                    refine WpL_val rfl rfl (by decide) (r_move (v := (.slice (some ⟨bq, 0, none⟩) c c)) rfl) ?_
                    refine WpL_val rfl rfl (by decide) (r_move (v := (.int .i64 ((x : Nat) : Int))) rfl) ?_
                    refine WpL_val rfl rfl (by decide) (r_move (v := (.int .i64 ((j : Nat) : Int))) rfl) ?_
                    refine WpL_val rfl rfl (by decide) (r_indexSlice (b := bq) (o := 0) (len := c) (cap := c) (i := x) (o' := 0 + x) rfl rfl rfl Try.underlying22 siz3 (by omega) (by omega)) ?_
                    refine s_store (b := bq) (o := 0 + x) (c' := (((R.set x (-1)).set x ((j : Nat) : Int)).map (Value.int .i64)).toArray) (v := (.int .i64 ((j : Nat) : Int))) rfl rfl rfl siz3 Bq (by simp; omega) (ints_setD _) ?_
                    intro w16 S16
                    replace hS1 := own_chg hS1 S16.chg fun b hb h => (hap1 b hb).2 h
                    replace hO1 := hO1.chg S16.chg fun b hb h => by have := hOz b hb; have h' : b = bq := h; omega
                    replace hsz1 := Nat.le_trans hsz1 S16.chg.size
                    replace Bd := S16.keep (by omega) Bd
                    replace Bo := S16.keep (by omega) Bo
                    replace hPB := S16.keep (by omega) hPB
                    replace Br := S16.keep (by omega) Br
                    replace Mm := S16.keepM (by omega) Mm
                    replace E := S16.step E (by first | exact Or.inl (by omega) | exact Or.inr rfl | exact Or.inr (by assumption) | exact Or.inr (by simp) | exact Or.inr (by omega) | exact Or.inr (by dsimp only; omega))
                    replace Bq := S16.blk
                    refine WpL_nil ?_
                    refine inB_normal ?_
                    refine thn_normal ?_
                    refine Wp_region ?_
                    refine WpL_val rfl rfl (by decide) (r_add (k := .i64) (a := ((x : Nat) : Int)) (b := 1) (c := ((x : Nat) : Int) + 1) rfl rfl (wI64 (by omega))) ?_
                    refine WpL_val rfl rfl (by decide) (r_move (v := (.int .i64 (((x : Nat) : Int) + 1))) rfl) ?_
                    refine WpL_nil ?_
                    refine thn_normal ?_
                    exact ⟨c - (x + 1), by omega, x + 1, (R.set x (-1)).set x ((j : Nat) : Int), st1, sa1, sc1, sn1, Fits.out ⟨rfl, rfl, rfl, rfl, rfl, rfl, rfl, rfl, rfl, rfl, rfl, rfl, trivial⟩, E, Bd, Bo, hPB, Br, Mm, Bq, (by omega), (by simp [hRl]), (by rw [hts2, List.take_set_of_le (Nat.le_refl x)]; exact hC1), hsi1, hsn1, hta1, hS1, hO1, hap1, hsz1, rfl⟩
            · have khlt2 := hlt2
              replace hlt2 := of_decide_eq_false hlt2
              have hxc : x = c := by omega
              rw [hxc, show R.take c = R by rw [← hRl, List.take_length]] at hC
              obtain ⟨n4, hn4⟩ : ∃ n4, n4 = (W7).heap.size := ⟨_, rfl⟩
              obtain ⟨sb2, rfl, _, hsc2⟩ := own_cells hS (by have := lt_of_get hsi; omega)
              have hale : acc.length = i := by rw [← hta, List.length_map, List.length_take]; have := lt_of_get hsi; omega
              have hOe : (W7).ownsRow n1 TDI 1 (.slice ea i ec) i (acc.map (Value.int .i64)) := by have h9 := hO.e; rwa [hale] at h9
              have hOn : (W7).ownsRow n1 TDIs 1 (.slice na2 i nc2) i vs := hO.n.on (by rw [List.length_map]; omega)
              have hle3 := hC.st_le
              have hsil := lt_of_get hsi
              have hat := acc_at ok (show sN < n by omega)
              obtain ⟨yv, hyv⟩ : ∃ y, y = atD d s := ⟨_, rfl⟩
              rw [← hsN, ← hyv] at hat
              have hbql := Bq.lt
              have hUq := own_exact (base := bq) Bq (Nat.le_refl _) hRl
              refine Wp_exit ?_
              refine thn_exit ?_
              refine thn_exit ?_
              refine inB_here ?_
              refine thn_normal ?_
              obtain ⟨Fs17, hFs17⟩ : ∃ Fs : List FctE, Fs = [(fun _ v _ => v = (.pointer (some ⟨br, 2, none⟩))), (fun _ v _ => v = (.slice na2 i nc2)), (fun _ v _ => v = (.slice (some ⟨bq, 0, none⟩) c c)), (fun _ => litF TDIs #[.slice (some ⟨bq, 0, none⟩) c c] n4), (fun _ => appF n1 TDIs 1 (i + 1) (vs ++ [Value.slice (some ⟨bq, 0, none⟩) c c]) (.slice na2 i nc2) n4), (fun _ v _ => v = (.pointer (some ⟨br, 1, none⟩))), (fun _ v _ => v = (.slice ea i ec)), (fun _ v _ => v = (.pointer (some ⟨bd, 1, none⟩))), (fun _ v _ => v = (.slice (some ⟨ab, ao, none⟩) n ac)), (fun _ v _ => v = (.slice (some ⟨sb2, 0, none⟩) sn sc2)), (fun _ v _ => v = (.int .i64 ((i : Nat) : Int))), (fun _ v _ => v = (.pointer (some ⟨sb2, 0 + i, none⟩))), (fun _ v _ => v = (.int .i64 s)), (fun _ v _ => v = (.pointer (some ⟨ab, ao + sN, none⟩))), (fun _ v _ => v = (.int .i64 yv)), (fun _ => litF TDI #[.int .i64 yv] n4), (fun s v w => appF n1 TDI 1 (i + 1) (acc.map (Value.int .i64) ++ [Value.int .i64 yv]) (.slice ea i ec) n4 v w ∧ ∀ b, (s 109).ownBlock = some b → v.ownBlock ≠ some b), (fun _ v _ => v = (.pointer (some ⟨br, 2, none⟩)))] := ⟨_, rfl⟩
              refine Wp_dagX (two 4 16 (fun b => (Value.slice na2 i nc2).ownBlock = some b) (fun b => (Value.slice ea i ec).ownBlock = some b)) 18 [105, 106, 107, 108, 109, 110, 111, 112, 113, 114, 115, 116, 117, 118, 119, 120, 121, 122] [[], [0], [], [2], [1, 3], [], [5], [], [7], [], [], [9, 10], [11], [8, 12], [13], [14], [4, 6, 15], [0, 1, 2, 3, 4, 5, 6]] [[], [0], [], [2], [1, 0, 3, 2], [], [5], [], [7], [], [], [9, 10], [11, 9, 10], [8, 7, 12, 11, 9, 10], [13, 8, 7, 12, 11, 9, 10], [14, 13, 8, 7, 12, 11, 9, 10], [4, 1, 0, 3, 2, 6, 5, 15, 14, 13, 8, 7, 12, 11, 9, 10], [0, 1, 2, 3, 4, 5, 6]] Fs17 hFs17 (by kernel_rfl) mixed (by kernel_rfl) (by kernel_rfl) (by kernel_rfl) ?_ ?_
              · intro wd X0
                refine DagStepsX.cons (StabX.eq) (fun _ _ _ _ _ h => h) (fun s' w' X U H => ?_) ?_
                · exact DoesT_val (r_fieldAddr (b := br) (o := 0) (o' := 2) (U 5 rfl) Try.underlying25 rfl siz23 rfl) (Chg.refl _ _) rfl
                refine DagStepsX.cons (StabX.eq) (fun _ _ _ _ _ h => h) (fun s' w' X U H => ?_) ?_
                · have e105 : s' 105 = (.pointer (some ⟨br, 2, none⟩)) := H 0 rfl 105 ((fun _ v _ => v = (.pointer (some ⟨br, 2, none⟩)))) rfl (by rw [hFs17]; rfl)
                  exact DoesT_val (r_load (v := (.slice na2 i nc2)) e105 flat23 ((Chg.keep X (fun h => (fun h => h.elim (fun h => by have := (hOn.lt _ h).1; omega) (fun h => by have := (hOe.lt _ h).1; omega)) (Past.or h)) (X0.keep Br)).cell rfl)) (Chg.refl _ _) rfl
                refine DagStepsX.cons (StabX.eq) (fun _ _ _ _ _ h => h) (fun s' w' X U H => ?_) ?_
                · exact DoesT_val (r_move (v := (.slice (some ⟨bq, 0, none⟩) c c)) (U 9 rfl)) (Chg.refl _ _) rfl
                refine DagStepsX.cons (litF_stab (fun y h => by have := (hOn.lt y h).2; omega) (fun y h => by have := (hOe.lt y h).2; omega)) (LocX.const) (fun s' w' X U H => ?_) ?_
                · have e107 : s' 107 = (.slice (some ⟨bq, 0, none⟩) c c) := H 2 rfl 107 ((fun _ v _ => v = (.slice (some ⟨bq, 0, none⟩) c c))) rfl (by rw [hFs17]; rfl)
                  exact DoesT_lit (hs := n4) Try.underlying23 siz22 zer22 e107 (by decide) (by decide) (by kernel_rfl) (by have := X0.size; have := X.size; omega)
                refine DagStepsX.cons (appF_st1 (fun k hk hm => hk.elim (fun h => hO.en k hm h) (fun h => by have := (hOe.lt k hm).2; omega))) (LocX.const) (fun s' w' X U H => ?_) ?_
                · have e106 : s' 106 = (.slice na2 i nc2) := H 1 rfl 106 ((fun _ v _ => v = (.slice na2 i nc2))) rfl (by rw [hFs17]; rfl)
                  obtain ⟨b108, e108, B108, g108⟩ := (show ((fun _ => litF TDIs #[.slice (some ⟨bq, 0, none⟩) c c] n4) : FctE) s' (s' 108) w' from H 3 rfl 108 ((fun _ => litF TDIs #[.slice (some ⟨bq, 0, none⟩) c c] n4)) rfl (by rw [hFs17]; rfl))
                  exact DoesT_append (hs := n4) Try.underlying23 siz22 byt22 zer22 rfl (by decide) e106 (own_ext (own_ext hOn X0) (X.mono (fun y _ h => Past.none rfl rfl h))) e108 rfl (B108.cells rfl) (by simp [Value.oneCell']) (by unfold maxLen; omega) (by omega) (by have := X0.size; have := X.size; omega) (fun y h => h) (by have := X0.size; have := X.size; omega)
                refine DagStepsX.cons (StabX.eq) (fun _ _ _ _ _ h => h) (fun s' w' X U H => ?_) ?_
                · exact DoesT_val (r_fieldAddr (b := br) (o := 0) (o' := 1) (U 5 rfl) Try.underlying25 rfl siz22 rfl) (Chg.refl _ _) rfl
                refine DagStepsX.cons (StabX.eq) (fun _ _ _ _ _ h => h) (fun s' w' X U H => ?_) ?_
                · have e110 : s' 110 = (.pointer (some ⟨br, 1, none⟩)) := H 5 rfl 110 ((fun _ v _ => v = (.pointer (some ⟨br, 1, none⟩)))) rfl (by rw [hFs17]; rfl)
                  exact DoesT_val (r_load (v := (.slice ea i ec)) e110 flat22 ((Chg.keep X (fun h => (fun h => h.elim (fun h => by have := (hOn.lt _ h).1; omega) (fun h => by have := (hOe.lt _ h).1; omega)) (Past.or h)) (X0.keep Br)).cell rfl)) (Chg.refl _ _) rfl
                refine DagStepsX.cons (StabX.eq) (fun _ _ _ _ _ h => h) (fun s' w' X U H => ?_) ?_
                · exact DoesT_val (r_fieldAddr (b := bd) (o := 0) (o' := 1) (U 1 rfl) Try.underlying25 rfl siz22 rfl) (Chg.refl _ _) rfl
                refine DagStepsX.cons (StabX.eq) (fun _ _ _ _ _ h => h) (fun s' w' X U H => ?_) ?_
                · have e112 : s' 112 = (.pointer (some ⟨bd, 1, none⟩)) := H 7 rfl 112 ((fun _ v _ => v = (.pointer (some ⟨bd, 1, none⟩)))) rfl (by rw [hFs17]; rfl)
                  exact DoesT_val (r_load (v := (.slice (some ⟨ab, ao, none⟩) n ac)) e112 flat22 ((Chg.keep X (fun h => (fun h => h.elim (fun h => by have := (hOn.lt _ h).1; omega) (fun h => by have := (hOe.lt _ h).1; omega)) (Past.or h)) (X0.keep Bd)).cell rfl)) (Chg.refl _ _) rfl
                refine DagStepsX.cons (StabX.eq) (fun _ _ _ _ _ h => h) (fun s' w' X U H => ?_) ?_
                · exact DoesT_val (r_move (v := (.slice (some ⟨sb2, 0, none⟩) sn sc2)) (U 7 rfl)) (Chg.refl _ _) rfl
                refine DagStepsX.cons (StabX.eq) (fun _ _ _ _ _ h => h) (fun s' w' X U H => ?_) ?_
                · exact DoesT_val (r_move (v := (.int .i64 ((i : Nat) : Int))) (U 8 rfl)) (Chg.refl _ _) rfl
                refine DagStepsX.cons (StabX.eq) (fun _ _ _ _ _ h => h) (fun s' w' X U H => ?_) ?_
                · have e114 : s' 114 = (.slice (some ⟨sb2, 0, none⟩) sn sc2) := H 9 rfl 114 ((fun _ v _ => v = (.slice (some ⟨sb2, 0, none⟩) sn sc2))) rfl (by rw [hFs17]; rfl)
                  have e115 : s' 115 = (.int .i64 ((i : Nat) : Int)) := H 10 rfl 115 ((fun _ v _ => v = (.int .i64 ((i : Nat) : Int)))) rfl (by rw [hFs17]; rfl)
                  exact DoesT_val (r_indexSlice (b := sb2) (o := 0) (len := sn) (cap := sc2) (i := i) (o' := 0 + i) e114 e115 rfl Try.underlying22 siz3 (by omega) (by omega)) (Chg.refl _ _) rfl
                refine DagStepsX.cons (StabX.eq) (fun _ _ _ _ _ h => h) (fun s' w' X U H => ?_) ?_
                · have e116 : s' 116 = (.pointer (some ⟨sb2, 0 + i, none⟩)) := H 11 rfl 116 ((fun _ v _ => v = (.pointer (some ⟨sb2, 0 + i, none⟩)))) rfl (by rw [hFs17]; rfl)
                  exact DoesT_val (r_load (v := (.int .i64 s)) e116 flat3 (Chg.cell X (fun h => (Past.or h).elim (fun h => (hap _ rfl).1 (.inr (.inl h))) (fun h => (hap _ rfl).1 (.inl h))) (X0.cell (hsc2 i _ (by rw [List.getElem?_map, hsi]; rfl))))) (Chg.refl _ _) rfl
                refine DagStepsX.cons (StabX.eq) (fun _ _ _ _ _ h => h) (fun s' w' X U H => ?_) ?_
                · have e113 : s' 113 = (.slice (some ⟨ab, ao, none⟩) n ac) := H 8 rfl 113 ((fun _ v _ => v = (.slice (some ⟨ab, ao, none⟩) n ac))) rfl (by rw [hFs17]; rfl)
                  have e117 : s' 117 = (.int .i64 s) := H 12 rfl 117 ((fun _ v _ => v = (.int .i64 s))) rfl (by rw [hFs17]; rfl)
                  exact DoesT_val (r_indexSlice (b := ab) (o := ao) (len := n) (cap := ac) (i := sN) (o' := ao + sN) e113 e117 (by omega) Try.underlying22 siz3 (by omega) (by omega)) (Chg.refl _ _) rfl
                refine DagStepsX.cons (StabX.eq) (fun _ _ _ _ _ h => h) (fun s' w' X U H => ?_) ?_
                · have e118 : s' 118 = (.pointer (some ⟨ab, ao + sN, none⟩)) := H 13 rfl 118 ((fun _ v _ => v = (.pointer (some ⟨ab, ao + sN, none⟩)))) rfl (by rw [hFs17]; rfl)
                  exact DoesT_val (r_load (v := (.int .i64 yv)) e118 flat3 (Chg.cell X (fun h => (Past.or h).elim (fun h => by have := (hOn.lt ab h).1; omega) (fun h => by have := (hOe.lt ab h).1; omega)) (X0.cell (E.cell (fun f => f) (hax sN _ hat))))) (Chg.refl _ _) rfl
                refine DagStepsX.cons (litF_stab (fun y h => by have := (hOn.lt y h).2; omega) (fun y h => by have := (hOe.lt y h).2; omega)) (LocX.const) (fun s' w' X U H => ?_) ?_
                · have e119 : s' 119 = (.int .i64 yv) := H 14 rfl 119 ((fun _ v _ => v = (.int .i64 yv))) rfl (by rw [hFs17]; rfl)
                  exact DoesT_lit (hs := n4) Try.underlying22 siz3 zer3 e119 (by decide) (by decide) (by kernel_rfl) (by have := X0.size; have := X.size; omega)
                refine DagStepsX.cons (appF_st2 rfl) (fun s1 s2 h v w h2 => ⟨h2.1, by have := h 4 109 rfl rfl; rw [this]; exact h2.2⟩) (fun s' w' X U H => ?_) ?_
                · have e111 : s' 111 = (.slice ea i ec) := H 6 rfl 111 ((fun _ v _ => v = (.slice ea i ec))) rfl (by rw [hFs17]; rfl)
                  obtain ⟨b120, e120, B120, g120⟩ := (show ((fun _ => litF TDI #[.int .i64 yv] n4) : FctE) s' (s' 120) w' from H 15 rfl 120 ((fun _ => litF TDI #[.int .i64 yv] n4)) rfl (by rw [hFs17]; rfl))
                  exact app_two (H 4 rfl 109 _ rfl (by rw [hFs17]; rfl)) (DoesT_append (hs := w'.heap.size) Try.underlying22 siz3 byt3 zer3 rfl (by decide) e111 (own_chg (own_ext hOe X0) (X.mono (fun y _ h => Past.fst rfl h)) (fun k hk hm => hO.en k hk hm)) e120 rfl (B120.cells rfl) (by simp [Value.oneCell']) (by unfold maxLen; omega) (by omega) (by have := X0.size; have := X.size; omega) (fun y h => h) (Nat.le_refl _)) (by have := X0.size; have := X.size; omega) (fun k h1 h2 => h1.elim (fun h => hO.en k h2 h) (fun h => by have := (hOe.lt k h2).2; omega))
                refine DagStepsX.cons (StabX.eq) (fun _ _ _ _ _ h => h) (fun s' w' X U H => ?_) ?_
                · exact DoesT_val (r_fieldAddr (b := br) (o := 0) (o' := 2) (U 5 rfl) Try.underlying25 rfl siz23 rfl) (Chg.refl _ _) rfl
                exact DagStepsX.nil
              · intro s' wd17 w17 X0 X17 U H
                replace X17 := X17.mono (M' := fun y => (fun b => (Value.slice na2 i nc2).ownBlock = some b) y ∨ (fun b => (Value.slice ea i ec).ownBlock = some b) y) (fun y _ h => by obtain ⟨j, h⟩ := h; rcases two_or h with h | h; exact .inl h.2; exact .inr h.2)
                obtain ⟨⟨a109, c109, e109⟩, O109, D109⟩ := (show ((fun _ => appF n1 TDIs 1 (i + 1) (vs ++ [Value.slice (some ⟨bq, 0, none⟩) c c]) (.slice na2 i nc2) n4) : FctE) s' (s' 109) w17 from H 4 109 ((fun _ => appF n1 TDIs 1 (i + 1) (vs ++ [Value.slice (some ⟨bq, 0, none⟩) c c]) (.slice na2 i nc2) n4)) rfl (by rw [hFs17]; rfl))
                obtain ⟨⟨⟨a121, c121, e121⟩, O121, D121⟩, A121⟩ := (show ((fun s v w => appF n1 TDI 1 (i + 1) (acc.map (Value.int .i64) ++ [Value.int .i64 yv]) (.slice ea i ec) n4 v w ∧ ∀ b, (s 109).ownBlock = some b → v.ownBlock ≠ some b) : FctE) s' (s' 121) w17 from H 16 121 ((fun s v w => appF n1 TDI 1 (i + 1) (acc.map (Value.int .i64) ++ [Value.int .i64 yv]) (.slice ea i ec) n4 v w ∧ ∀ b, (s 109).ownBlock = some b → v.ownBlock ≠ some b)) rfl (by rw [hFs17]; rfl))
                have e122 : s' 122 = (.pointer (some ⟨br, 2, none⟩)) := H 17 122 ((fun _ v _ => v = (.pointer (some ⟨br, 2, none⟩)))) rfl (by rw [hFs17]; rfl)
                obtain ⟨j17, rfl⟩ := Fits.out (σ := s') (l := [(1, (.pointer (some ⟨bd, 0, none⟩))), (2, (.pointer (some ⟨bo, 0, none⟩))), (3, (.slice (some ⟨b1, 0, none⟩) n n)), (4, (.int .i64 ((c : Nat) : Int))), (5, (.pointer (some ⟨br, 0, none⟩))), (6, (.map (some bm))), (7, (.slice (some ⟨sb2, 0, none⟩) sn sc2)), (8, (.int .i64 ((i : Nat) : Int))), (109, (.slice a109 (i + 1) c109)), (121, (.slice a121 (i + 1) c121)), (122, (.pointer (some ⟨br, 2, none⟩)))]) ⟨U 1 rfl, U 2 rfl, U 3 rfl, U 4 rfl, U 5 rfl, U 6 rfl, U 7 rfl, U 8 rfl, e109, e121, e122, trivial⟩
                clear U H
                replace Bd := Chg.keep X17 (fun h => h.elim (fun h => by have := (hOn.lt _ h).1; omega) (fun h => by have := (hOe.lt _ h).1; omega)) (X0.keep Bd)
                replace Bo := Chg.keep X17 (fun h => h.elim (fun h => by have := (hOn.lt _ h).1; omega) (fun h => by have := (hOe.lt _ h).1; omega)) (X0.keep Bo)
                replace hPB := Chg.keep X17 (fun h => h.elim (fun h => by have := (hOn.lt _ h).1; omega) (fun h => by have := (hOe.lt _ h).1; omega)) (X0.keep hPB)
                replace Br := Chg.keep X17 (fun h => h.elim (fun h => by have := (hOn.lt _ h).1; omega) (fun h => by have := (hOe.lt _ h).1; omega)) (X0.keep Br)
                replace Mm := Chg.keepM X17 (fun h => h.elim (fun h => by have := (hOn.lt _ h).1; omega) (fun h => by have := (hOe.lt _ h).1; omega)) (X0.keepM Mm)
                replace Bq := Chg.keep X17 (fun h => h.elim (fun h => by have := hOz _ (.inr (.inl h)); omega) (fun h => by have := hOz _ (.inl h); omega)) (X0.keep Bq)
                have hXm := Chg.trans (Ext.chg X0) X17
                replace E := (E.ext X0).step X17 (fun y hy h => h.elim (fun h => by have := (hOn.lt y h).1; omega) (fun h => by have := (hOe.lt y h).1; omega))
                rw [e109] at O109 D109 A121
                rw [e121] at O121 D121 A121
                have hO2 := hO.push (y := yv) (N' := .slice a109 (i + 1) c109) (E' := .slice a121 (i + 1) c121) hUq hRl.symm (by omega) (fun b hb => by have := hOz b hb; omega) hXm (by rw [hir]; exact O109) (fun k hk => by rw [← hn4]; exact D109 k hk) (by rw [hale, List.map_append]; exact O121) (fun k hk => by rw [← hn4]; exact D121 k hk) A121
                have hS2 := own_chg hS hXm (fun b hb h => h.elim (fun h => (hap b hb).1 (.inr (.inl h))) (fun h => (hap b hb).1 (.inl h)))
                have hsz2 := Nat.le_trans hsz hXm.size
                have hap2 : ∀ b, (Value.slice (some ⟨sb2, 0, none⟩) sn sc2).ownBlock = some b → ¬ OutB (.slice a121 (i + 1) c121) (.slice a109 (i + 1) c109) (vs ++ [.slice (some ⟨bq, 0, none⟩) c c]) b := fun b hb ho => out_push (hap b hb) (by have := (hS.lt b hb).2; omega) D109 D121 ho
                refine s_store (b := br) (o := 2) (c' := #[(.int .i64 0), (.slice ea i ec), (.slice a109 (i + 1) c109)]) (v := (.slice a109 (i + 1) c109)) rfl rfl rfl siz23 Br (by simp) rfl ?_
                intro w18 S18
                replace hO2 := hO2.chg S18.chg fun b hb h => by have := (hO2.lt hb).1; have h' : b = br := h; omega
                replace hS2 := own_chg hS2 S18.chg fun b hb h => by have := (hS2.lt b hb).1; have h' : b = br := h; omega
                replace hsz2 := Nat.le_trans hsz2 S18.chg.size
                replace Bd := S18.keep (by omega) Bd
                replace Bo := S18.keep (by omega) Bo
                replace hPB := S18.keep (by omega) hPB
                replace Mm := S18.keepM (by omega) Mm
                replace Bq := S18.keep (by omega) Bq
                replace E := S18.step E (by first | exact Or.inl (by omega) | exact Or.inr rfl | exact Or.inr (by assumption) | exact Or.inr (by simp) | exact Or.inr (by omega) | exact Or.inr (by dsimp only; omega))
                replace Br := S18.blk
                refine WpL_val rfl rfl (by decide) (r_fieldAddr (b := br) (o := 0) (o' := 1) rfl Try.underlying25 rfl siz22 rfl) ?_
                refine s_store (b := br) (o := 1) (c' := #[(.int .i64 0), (.slice a121 (i + 1) c121), (.slice a109 (i + 1) c109)]) (v := (.slice a121 (i + 1) c121)) rfl rfl rfl siz22 Br (by simp) rfl ?_
                intro w19 S19
                replace hO2 := hO2.chg S19.chg fun b hb h => by have := (hO2.lt hb).1; have h' : b = br := h; omega
                replace hS2 := own_chg hS2 S19.chg fun b hb h => by have := (hS2.lt b hb).1; have h' : b = br := h; omega
                replace hsz2 := Nat.le_trans hsz2 S19.chg.size
                replace Bd := S19.keep (by omega) Bd
                replace Bo := S19.keep (by omega) Bo
                replace hPB := S19.keep (by omega) hPB
                replace Mm := S19.keepM (by omega) Mm
                replace Bq := S19.keep (by omega) Bq
                replace E := S19.step E (by first | exact Or.inl (by omega) | exact Or.inr rfl | exact Or.inr (by assumption) | exact Or.inr (by simp) | exact Or.inr (by omega) | exact Or.inr (by dsimp only; omega))
                replace Br := S19.blk
                refine WpL_nil ?_
                refine inB_normal ?_
                refine thn_normal ?_
                refine Wp_region ?_
                refine WpL_val rfl rfl (by decide) (r_move (v := (.int .i64 ((i : Nat) : Int))) rfl) ?_
                refine WpL_val rfl rfl (by decide) (r_add (k := .i64) (a := ((i : Nat) : Int)) (b := 1) (c := ((i : Nat) : Int) + 1) rfl rfl (wI64 (by omega))) ?_
                refine WpL_val rfl rfl (by decide) (r_assign (v := (.int .i64 (((i : Nat) : Int) + 1))) rfl) ?_
                refine WpL_nil ?_
                refine thn_normal ?_
                exact ⟨n - (i + 1), by omega, i + 1, rows ++ [R], st, acc ++ [yv], vs ++ [.slice (some ⟨bq, 0, none⟩) c c], some ⟨sb2, 0, none⟩, a121, a109, sc2, sn, c121, c109, Fits.out ⟨rfl, rfl, rfl, rfl, rfl, rfl, rfl, rfl, trivial⟩, E, Bd, Bo, hPB, Br, Mm, hC.row hRl hrch, (by simp [hir]), hsn, (by omega), (by rw [take_snoc' hsi, List.map_append, hta, hyv]; rfl), hS2, hO2, hap2, hsz2, rfl⟩
      · have khlt := hlt
        replace hlt := of_decide_eq_false hlt
        have hii : i = st.length := by omega
        have hlc := hC.st_le
        refine Wp_exit ?_
        refine thn_exit ?_
        refine thn_exit ?_
        refine inB_here ?_
        refine thn_normal ?_
        refine Wp_seq_region ?_
        refine WpL_val rfl rfl (by decide) (r_loadAgg (vs := [(.int .i64 0), (.slice ea i ec), (.slice na2 i nc2)]) rfl agg25 siz25 rfl (Br.cells rfl)) ?_
        refine s_storeAgg (b := bo) (o := 0) (c' := #[(.int .i64 0), (.slice ea i ec), (.slice na2 i nc2)]) rfl rfl (by simp [Value.oneCell']) siz25 rfl Bo (by simp) rfl ?_
        intro w20 S20
        replace hO := hO.chg S20.chg fun b hb h => by have := (hO.lt hb).1; have h' : b = bo := h; omega
        replace Bd := S20.keep (by omega) Bd
        replace hPB := S20.keep (by omega) hPB
        replace Br := S20.keep (by omega) Br
        replace Mm := S20.keepM (by omega) Mm
        replace E := S20.step E (by first | exact Or.inl (by omega) | exact Or.inr rfl | exact Or.inr (by assumption) | exact Or.inr (by simp) | exact Or.inr (by omega) | exact Or.inr (by dsimp only; omega))
        replace Bo := S20.blk
        refine WpL_nil ?_
        refine Wp_ret ?_
        refine fin_agg Try.results56 (vs := [(.int .i64 0), (.slice ea i ec), (.slice na2 i nc2)]) (b := bo) rfl agg25 siz25 rfl (Bo.cells rfl) ?_
        have hcan := hC.done ok hPt (by omega)
        have hacc3 : acc = st.map (atD d) := by rw [hacc2, hii, List.take_length]
        have hrl3 : rows.length = i := hir
        have hal3 : acc.length = i := by rw [hacc3, List.length_map]; omega
        rw [← hacc3] at hcan
        refine ⟨⟨⟨0, acc, rows⟩, _, hcan, by show rows.length ≤ n; omega, fun x hx => ?_, rfl, fun M w' ch hM => ⟨ea, ec, na2, nc2, by show [_, _, _] = [Value.int .i64 0, .slice ea acc.length ec, .slice na2 rows.length nc2]; rw [hal3, hrl3], ?_, ?_⟩⟩, E⟩
        · rw [hacc3] at hx
          obtain ⟨u, hu, hux⟩ := List.mem_map.1 hx
          have h9 := hC.sl u hu
          obtain ⟨uN, huN⟩ := Int.eq_ofNat_of_zero_le h9.1
          rw [← hux, huN]
          exact hac _ (List.mem_of_getElem? (acc_at ok (show uN < n by omega)))
        · show IntsAt _ (.slice ea acc.length ec) acc
          rw [hal3]
          have h9 := (hO.chg ch fun b hb h => by have := (hO.lt hb).1; have := hM b h; omega).e
          rw [hal3] at h9
          exact own_intsD h9 hal3.symm
        · show IntssAt _ (.slice na2 rows.length nc2) rows
          rw [hrl3]
          exact (hO.chg ch fun b hb h => by have := (hO.lt hb).1; have := hM b h; omega).intss
end Go.Proofs
namespace Go.Proofs
open Go Go.Eng Go.Sort
set_option maxRecDepth 100000
theorem okD_check {n c : Nat} {d : Dfa} (h : OkD n c d) (hn : 1 ≤ n ∧ n ≤ 200) (hc : 1 ≤ c ∧ c ≤ 16) : checkD d = 0 := by
  obtain ⟨h1, h2, h3, h4, h5⟩ := h
  have hne : d.next ≠ [] := fun he => by rw [he] at h1; simp at h1; omega
  have hcol : colsD d = c := by
    unfold colsD
    cases hq : d.next with
    | nil => exact absurd hq hne
    | cons y l => exact (h5 y (by rw [hq]; simp)).1
  unfold checkD
  rw [if_neg (by omega), if_neg (by omega), if_neg (by omega), if_neg, if_neg]
  · rw [Bool.or_eq_true]
    rintro (hb | hb)
    · unfold bad0 at hb
      have hane : d.accept ≠ [] := fun he => by rw [he] at h2; simp at h2; omega
      have := (minL_lt hane (z := -1)).2 (fun x hx => h4 x hx)
      simp only [Bool.or_eq_true, decide_eq_true_eq] at hb
      omega
    · obtain ⟨row, hr, hb⟩ := List.any_eq_true.1 hb
      obtain ⟨hl, hx⟩ := h5 row hr
      have hrne : row ≠ [] := fun he => by rw [he] at hl; simp at hl; omega
      have h6 := (minL_lt hrne (z := -1)).2 (fun x hx' => (hx x hx').1)
      have h7 := (maxL_lt hrne (z := ((n : Nat) : Int))).2 (fun x hx' => (hx x hx').2)
      simp only [badRow, Bool.or_eq_true, decide_eq_true_eq] at hb
      omega
  · intro hb
    obtain ⟨row, hr, hb⟩ := List.any_eq_true.1 hb
    obtain ⟨hl, _⟩ := h5 row hr
    simp only [formRow, Bool.or_eq_true, decide_eq_true_eq] at hb
    omega
def runS (d : Dfa) (s : Int) (w : List Int) : Int := w.foldl (fun s x => toD d s x.toNat) s
theorem beh_run (d : Dfa) : ∀ (w : List Int) (s : Int), beh d s (w.map Int.toNat) = atD d (runS d s w)
  | [], _ => rfl
  | x :: w, s => by simp only [List.map_cons, beh]; rw [beh_run d w]; rfl
theorem runS_succ {d : Dfa} {s : Int} {w : List Int} {k : Nat} {x : Int} (h : w[k]? = some x) : runS d s (w.take (k + 1)) = toD d (runS d s (w.take k)) x.toNat := by
  rw [List.take_add_one, h]; simp [runS, List.foldl_append]
theorem OkD.run {n c : Nat} {d : Dfa} (h : OkD n c d) (w : List Int) : -1 ≤ runS d d.start w ∧ runS d d.start w < n := by
  have hst := h.st
  rcases List.eq_nil_or_concat w with rfl | ⟨w, x, rfl⟩
  · show -1 ≤ d.start ∧ d.start < n; omega
  · simp only [runS, List.concat_eq_append, List.foldl_append, List.foldl_cons, List.foldl_nil]; exact h.to
theorem dfat_c (w0 : World) (d : Dfa) (dv : List Value) (s : Int) (h : DfaAt w0 d dv) (hs : s < d.accept.length) :
    Ret Try.prog 67 #[.agg dv.toArray, .int .i64 s] w0 fun r w => r = .int .i64 (atD d s) ∧ Ext w0 w := by
  obtain ⟨aa, ac, na, nc, rfl, hacc, hnxt⟩ := h
  refine Ret_of Try.func67 rfl Try.ntmps67 (Nat.le_of_ble_eq_true rfl) ?_
  have E : Chg none1 w0 w0 := Chg.refl _ _
  refine Wp_seq_region ?_
  refine s_box (v := (.agg #[(.int .i64 d.start), (.slice aa d.accept.length ac), (.slice na d.next.length nc)])) (c := #[(.int .i64 d.start), (.slice aa d.accept.length ac), (.slice na d.next.length nc)]) (by decide) rfl rfl ?_
  intro bq wq Nq
  have Fq := Nq.ge E
  replace E := E.ext Nq.ext
  have Bq := Nq.blk
  refine WpL_val rfl rfl (by decide) (r_assign (v := (.int .i64 0)) rfl) ?_
  refine WpL_nil ?_
  refine Wp_seq ?_
  refine Wp_seq_region ?_
  refine WpL_val rfl rfl (by decide) (r_move (v := (.int .i64 s)) rfl) ?_
  refine WpL_val rfl rfl (by decide) (r_lss (k := .i64) (a := s) (b := 0) rfl rfl) ?_
  refine WpL_nil ?_
  refine Wp_cond (b := decide ((s : Int) < 0)) rfl (fun hneg => ?_) (fun hneg => ?_)
  · have khneg := hneg
    replace hneg := of_decide_eq_true hneg
    refine Wp_seq_region ?_
    refine WpL_val rfl rfl (by decide) (r_assign (v := (.int .i64 (-1))) rfl) ?_
    refine WpL_nil ?_
    refine Wp_ret ?_
    refine thn_ret ?_
    refine fin_tmp Try.results67 (v := (.int .i64 (-1))) rfl ?_
    exact ⟨int_eq (by unfold atD; rw [if_pos hneg]), E⟩
  · have khneg := hneg
    replace hneg := of_decide_eq_false hneg
    obtain ⟨sN, hsN⟩ := Int.eq_ofNat_of_zero_le (show 0 ≤ s by omega)
    obtain ⟨ab, ao, rfl, hax⟩ := ints_cells hacc (by omega)
    obtain ⟨y, hy⟩ := get_of_lt (l := d.accept) (i := sN) (by omega)
    refine Wp_skip ?_
    refine thn_normal ?_
    refine Wp_seq_region ?_
    refine WpL_val rfl rfl (by decide) (r_fieldAddr (b := bq) (o := 0) (o' := 1) rfl Try.underlying25 rfl siz22 rfl) ?_
    refine WpL_val rfl rfl (by decide) (r_load (v := (.slice (some ⟨ab, ao, none⟩) d.accept.length ac)) rfl flat22 (Bq.cell rfl)) ?_
    refine WpL_val rfl rfl (by decide) (r_move (v := (.int .i64 s)) rfl) ?_
    refine WpL_val rfl rfl (by decide) (r_indexSlice (b := ab) (o := ao) (len := d.accept.length) (cap := ac) (i := sN) (o' := ao + sN) rfl rfl (by omega) Try.underlying22 siz3 (by omega) (by omega)) ?_
    refine WpL_val rfl rfl (by decide) (r_load (v := (.int .i64 y)) rfl flat3 (E.cell (fun f => f) (hax sN _ hy))) ?_
    refine WpL_val rfl rfl (by decide) (r_assign (v := (.int .i64 y)) rfl) ?_
    refine WpL_nil ?_
    refine Wp_ret ?_
    refine fin_tmp Try.results67 (v := (.int .i64 y)) rfl ?_
    exact ⟨int_eq (by rw [hsN, atD_get hy]), E⟩
theorem dfto_c (w0 : World) (n c : Nat) (d : Dfa) (dv : List Value) (s x : Int) (ok : OkD n c d) (h : DfaAt w0 d dv) (hs : s < n) (hx : 0 ≤ x ∧ x < c) :
    Ret Try.prog 66 #[.agg dv.toArray, .int .i64 s, .int .i64 x] w0 fun r w => r = .int .i64 (toD d s x.toNat) ∧ Ext w0 w := by
  obtain ⟨aa, ac, na, nc, rfl, hacc, hnxt⟩ := h
  have hnl := ok.nl
  obtain ⟨xN, rfl⟩ := Int.eq_ofNat_of_zero_le hx.1
  rw [Int.toNat_natCast]
  refine Ret_of Try.func66 rfl Try.ntmps66 (Nat.le_of_ble_eq_true rfl) ?_
  have E : Chg none1 w0 w0 := Chg.refl _ _
  refine Wp_seq_region ?_
  refine s_box (v := (.agg #[(.int .i64 d.start), (.slice aa d.accept.length ac), (.slice na d.next.length nc)])) (c := #[(.int .i64 d.start), (.slice aa d.accept.length ac), (.slice na d.next.length nc)]) (by decide) rfl rfl ?_
  intro bq wq Nq
  have Fq := Nq.ge E
  replace E := E.ext Nq.ext
  have Bq := Nq.blk
  refine WpL_val rfl rfl (by decide) (r_assign (v := (.int .i64 0)) rfl) ?_
  refine WpL_nil ?_
  refine Wp_seq ?_
  refine Wp_seq_region ?_
  refine WpL_val rfl rfl (by decide) (r_move (v := (.int .i64 s)) rfl) ?_
  refine WpL_val rfl rfl (by decide) (r_lss (k := .i64) (a := s) (b := 0) rfl rfl) ?_
  refine WpL_nil ?_
  refine Wp_cond (b := decide ((s : Int) < 0)) rfl (fun hneg => ?_) (fun hneg => ?_)
  · have khneg := hneg
    replace hneg := of_decide_eq_true hneg
    refine Wp_seq_region ?_
    refine WpL_val rfl rfl (by decide) (r_assign (v := (.int .i64 (-1))) rfl) ?_
    refine WpL_nil ?_
    refine Wp_ret ?_
    refine thn_ret ?_
    refine fin_tmp Try.results66 (v := (.int .i64 (-1))) rfl ?_
    exact ⟨int_eq (by rw [toD_neg hneg]), E⟩
  · have khneg := hneg
    replace hneg := of_decide_eq_false hneg
    obtain ⟨sN, hsN⟩ := Int.eq_ofNat_of_zero_le (show 0 ≤ s by omega)
    obtain ⟨nb, no, rfl, hnx⟩ := intss_cells hnxt (by omega)
    obtain ⟨row, hrow⟩ := get_of_lt (l := d.next) (i := sN) (by omega)
    have hrl := (ok.row row (List.mem_of_getElem? hrow)).1
    obtain ⟨ra, rc, hcell, hri⟩ := hnx sN row hrow
    obtain ⟨rb, ro, rfl, hrx⟩ := ints_cells hri (by omega)
    obtain ⟨y, hy⟩ := get_of_lt (l := row) (i := xN) (by omega)
    refine Wp_skip ?_
    refine thn_normal ?_
    refine Wp_seq_region ?_
    refine WpL_val rfl rfl (by decide) (r_fieldAddr (b := bq) (o := 0) (o' := 2) rfl Try.underlying25 rfl siz23 rfl) ?_
    refine WpL_val rfl rfl (by decide) (r_load (v := (.slice (some ⟨nb, no, none⟩) d.next.length nc)) rfl flat23 (Bq.cell rfl)) ?_
    refine WpL_val rfl rfl (by decide) (r_move (v := (.int .i64 s)) rfl) ?_
    refine WpL_val rfl rfl (by decide) (r_indexSlice (b := nb) (o := no) (len := d.next.length) (cap := nc) (i := sN) (o' := no + sN) rfl rfl (by omega) Try.underlying23 siz22 (by omega) (by omega)) ?_
    refine WpL_val rfl rfl (by decide) (r_load (v := (.slice (some ⟨rb, ro, none⟩) row.length rc)) rfl flat22 (E.cell (fun f => f) hcell)) ?_
    refine WpL_val rfl rfl (by decide) (r_move (v := (.int .i64 ((xN : Nat) : Int))) rfl) ?_
    refine WpL_val rfl rfl (by decide) (r_indexSlice (b := rb) (o := ro) (len := row.length) (cap := rc) (i := xN) (o' := ro + xN) rfl rfl rfl Try.underlying22 siz3 (by omega) (by omega)) ?_
    refine WpL_val rfl rfl (by decide) (r_load (v := (.int .i64 y)) rfl flat3 (E.cell (fun f => f) (hrx xN _ hy))) ?_
    refine WpL_val rfl rfl (by decide) (r_assign (v := (.int .i64 y)) rfl) ?_
    refine WpL_nil ?_
    refine Wp_ret ?_
    refine fin_tmp Try.results66 (v := (.int .i64 y)) rfl ?_
    exact ⟨int_eq (by rw [hsN, toD_get hrow hy]), E⟩
theorem dfrun1_c (w0 : World) (b n c : Nat) (d : Dfa) (dv : List Value) (x : Int) (ok : OkD n c d) (h : DfaAt w0 d dv) (hB : Blk w0 b dv.toArray 25) (hn : 1 ≤ n) (hc : c ≤ 16) :
    Ret Try.prog 65 #[.int .i64 x, .pointer (some ⟨b, 0, none⟩)] w0 fun r w => r = .bool (decide (x < 0) || decide ((c : Int) ≤ x)) ∧ Ext w0 w := by
  obtain ⟨aa, ac, na, nc, rfl, hacc, hnxt⟩ := h
  have hnl := ok.nl
  obtain ⟨nb, no, rfl, hnx⟩ := intss_cells hnxt (by omega)
  obtain ⟨row, hrow⟩ := get_of_lt (l := d.next) (i := 0) (by omega)
  have hrl := (ok.row row (List.mem_of_getElem? hrow)).1
  obtain ⟨ra, rc, hcell, hri⟩ := hnx 0 row hrow
  rw [hrl] at hcell hri
  refine Ret_of Try.func65 rfl Try.ntmps65 (Nat.le_of_ble_eq_true rfl) ?_
  have E : Chg none1 w0 w0 := Chg.refl _ _
  refine Wp_seq_region ?_
  refine WpL_val rfl rfl (by decide) (r_assign (v := (.bool false)) rfl) ?_
  refine WpL_nil ?_
  refine Wp_seq_region ?_
  refine WpL_val rfl rfl (by decide) (r_move (v := (.int .i64 x)) rfl) ?_
  refine WpL_val rfl rfl (by decide) (r_lss (k := .i64) (a := x) (b := 0) rfl rfl) ?_
  refine WpL_val rfl rfl (by decide) (r_move (v := (.bool (decide ((x : Int) < 0)))) rfl) ?_
  rcases Bool.eq_false_or_eq_true (decide ((x : Int) < 0)) with hneg | hneg
  · have khneg := hneg
    replace khneg := of_decide_eq_true khneg
    refine WpL_guard_no (oj := _) rfl rfl (by decide) (v := .bool true) (congrArg Value.bool hneg) (Or.inl rfl) ?_
    refine WpL_guard_no (oj := _) rfl rfl (by decide) (v := .bool true) (congrArg Value.bool hneg) (Or.inl rfl) ?_
    refine WpL_guard_no (oj := _) rfl rfl (by decide) (v := .bool true) (congrArg Value.bool hneg) (Or.inl rfl) ?_
    refine WpL_guard_no (oj := _) rfl rfl (by decide) (v := .bool true) (congrArg Value.bool hneg) (Or.inl rfl) ?_
    refine WpL_guard_no (oj := _) rfl rfl (by decide) (v := .bool true) (congrArg Value.bool hneg) (Or.inl rfl) ?_
    refine WpL_guard_no (oj := _) rfl rfl (by decide) (v := .bool true) (congrArg Value.bool hneg) (Or.inl rfl) ?_
    refine WpL_guard_no (oj := _) rfl rfl (by decide) (v := .bool true) (congrArg Value.bool hneg) (Or.inl rfl) ?_
    refine WpL_val rfl rfl (by decide) (r_pick (b := decide ((x : Int) < 0)) (v := (.bool true)) rfl (by rw [hneg]; rfl)) ?_
    refine WpL_val rfl rfl (by decide) (r_assign (v := (.bool true)) rfl) ?_
    refine WpL_nil ?_
    refine Wp_ret ?_
    refine fin_tmp Try.results65 (v := (.bool true)) rfl ?_
    exact ⟨bool_eq (by simp [hneg]), E⟩
  · have khneg := hneg
    replace khneg := of_decide_eq_false khneg
    refine WpL_guard_yes (oj := _) rfl rfl (by decide) (congrArg Value.bool hneg) ?_
    refine WpL_val rfl rfl (by decide) (r_move (v := (.int .i64 x)) rfl) ?_
    refine WpL_guard_yes (oj := _) rfl rfl (by decide) (congrArg Value.bool hneg) ?_
    refine WpL_val rfl rfl (by decide) (r_fieldAddr (b := b) (o := 0) (o' := 2) rfl Try.underlying25 rfl siz23 rfl) ?_
    refine WpL_guard_yes (oj := _) rfl rfl (by decide) (congrArg Value.bool hneg) ?_
    refine WpL_val rfl rfl (by decide) (r_load (v := (.slice (some ⟨nb, no, none⟩) d.next.length nc)) rfl flat23 (hB.cell rfl)) ?_
    refine WpL_guard_yes (oj := _) rfl rfl (by decide) (congrArg Value.bool hneg) ?_
    refine WpL_val rfl rfl (by decide) (r_indexSlice (b := nb) (o := no) (len := d.next.length) (cap := nc) (i := 0) (o' := no + 0) rfl rfl rfl Try.underlying23 siz22 (by omega) (by omega)) ?_
    refine WpL_guard_yes (oj := _) rfl rfl (by decide) (congrArg Value.bool hneg) ?_
    refine WpL_val rfl rfl (by decide) (r_load (v := (.slice ra c rc)) rfl flat22 (E.cell (fun f => f) hcell)) ?_
    refine WpL_guard_yes (oj := _) rfl rfl (by decide) (congrArg Value.bool hneg) ?_
    refine WpL_val rfl rfl (by decide) (r_lenSlice (ad := ra) (n := c) (cap := rc) Try.underlying22 rfl) ?_
    refine WpL_guard_yes (oj := _) rfl rfl (by decide) (congrArg Value.bool hneg) ?_
    refine WpL_val rfl rfl (by decide) (r_geq (k := .i64) (a := x) (b := ((c : Nat) : Int)) rfl rfl) ?_
    refine WpL_val rfl rfl (by decide) (r_pick (b := decide ((x : Int) < 0)) (v := (.bool (decide ((((c : Nat) : Int) : Int) ≤ x)))) rfl (by rw [hneg]; rfl)) ?_
    refine WpL_val rfl rfl (by decide) (r_assign (v := (.bool (decide ((((c : Nat) : Int) : Int) ≤ x)))) rfl) ?_
    refine WpL_nil ?_
    refine Wp_ret ?_
    refine fin_tmp Try.results65 (v := (.bool (decide ((((c : Nat) : Int) : Int) ≤ x)))) rfl ?_
    exact ⟨bool_eq (by simp [hneg]), E⟩
theorem dfflag_c (b : Bool) (w0 : World) : Ret Try.prog 92 #[.bool b] w0 fun r w => r = .int .i64 (if b = true then 0 else -1) ∧ Ext w0 w := by
  refine Ret_of Try.func92 rfl Try.ntmps92 (Nat.le_of_ble_eq_true rfl) ?_
  have E : Chg none1 w0 w0 := Chg.refl _ _
  refine Wp_seq_region ?_
  refine WpL_val rfl rfl (by decide) (r_assign (v := (.int .i64 0)) rfl) ?_
  refine WpL_nil ?_
  refine Wp_seq ?_
  refine Wp_seq_region ?_
  refine WpL_val rfl rfl (by decide) (r_move (v := (.bool b)) rfl) ?_
  refine WpL_nil ?_
  refine Wp_cond (b := b) rfl (fun hb => ?_) (fun hb => ?_)
  · have khb := hb
    refine Wp_seq_region ?_
    refine WpL_val rfl rfl (by decide) (r_assign (v := (.int .i64 0)) rfl) ?_
    refine WpL_nil ?_
    refine Wp_ret ?_
    refine thn_ret ?_
    refine fin_tmp Try.results92 (v := (.int .i64 0)) rfl ?_
    exact ⟨int_eq (by rw [if_pos hb]), E⟩
  · have khb := hb
    refine Wp_skip ?_
    refine thn_normal ?_
    refine Wp_seq_region ?_
    refine WpL_val rfl rfl (by decide) (r_assign (v := (.int .i64 (-1))) rfl) ?_
    refine WpL_nil ?_
    refine Wp_ret ?_
    refine fin_tmp Try.results92 (v := (.int .i64 (-1))) rfl ?_
    exact ⟨int_eq (by rw [hb]; rfl), E⟩
theorem dfrun_c (w0 : World) (n c : Nat) (d : Dfa) (dv : List Value) (v : Value) (l : List Int) (ok : OkD n c d) (h : DfaAt w0 d dv) (hn : 1 ≤ n ∧ n ≤ 200) (hc : 1 ≤ c ∧ c ≤ 16) (hl : IntsAt w0 v l) (hll : l.length ≤ 4000) (hlx : ∀ x ∈ l, 0 ≤ x ∧ x < c) :
    Ret Try.prog 31 #[.agg dv.toArray, v] w0 fun r w => r = .tuple #[.int .i64 (beh d d.start (l.map Int.toNat)), .int .i64 0] ∧ Ext w0 w := by
  have hdfa := h
  obtain ⟨aa, ac, na, nc, rfl, hacc, hnxt⟩ := h
  have hnl := ok.nl
  have hal := ok.al
  have hst := ok.st
  obtain ⟨va, vc, rfl⟩ := SlAt.form hl
  simp only [List.length_map] at hl ⊢
  have hany : (l.any fun x => decide (x < 0) || decide ((c : Int) ≤ x)) = false := by
    rw [List.any_eq_false]
    intro x hx
    have := hlx x hx
    simp only [Bool.or_eq_true, decide_eq_true_eq]; omega
  refine Ret_of Try.func31 rfl Try.ntmps31 (Nat.le_of_ble_eq_true rfl) ?_
  have E : Chg none1 w0 w0 := Chg.refl _ _
  refine Wp_seq_region ?_
  refine s_box (v := (.agg #[(.int .i64 d.start), (.slice aa d.accept.length ac), (.slice na d.next.length nc)])) (c := #[(.int .i64 d.start), (.slice aa d.accept.length ac), (.slice na d.next.length nc)]) (by decide) rfl rfl ?_
  intro bq wq Nq
  have Fq := Nq.ge E
  replace E := E.ext Nq.ext
  have Bq := Nq.blk
  refine WpL_val rfl rfl (by decide) (r_assign (v := (.int .i64 0)) rfl) ?_
  refine WpL_val rfl rfl (by decide) (r_assign (v := (.int .i64 0)) rfl) ?_
  refine WpL_nil ?_
  refine Wp_seq ?_
  refine Wp_seq_region ?_
  refine WpL_val rfl rfl (by decide) (r_loadAgg (vs := [(.int .i64 d.start), (.slice aa d.accept.length ac), (.slice na d.next.length nc)]) rfl agg25 siz25 rfl (Bq.cells rfl)) ?_
  refine WpL_enter rfl rfl (by decide) (r_callF (vs := [(.agg #[(.int .i64 d.start), (.slice aa d.accept.length ac), (.slice na d.next.length nc)])]) Try.func50 nm50 bd50 rfl) (dcheck_c _ d _ (hdfa.ext E)) ?_
  rintro _ w9 ⟨rfl, X9⟩
  replace Bq := X9.keep Bq
  replace E := E.ext X9
  refine WpL_val rfl rfl (by decide) (r_assign (v := (.int .i64 (checkD d))) rfl) ?_
  refine WpL_nil ?_
  refine Wp_seq_region ?_
  refine WpL_val rfl rfl (by decide) (r_move (v := (.int .i64 (checkD d))) rfl) ?_
  refine WpL_val rfl rfl (by decide) (r_neq (k := .i64) (a := checkD d) (b := 0) rfl rfl) ?_
  refine WpL_nil ?_
  have hc1 : (decide ((checkD d : Int) ≠ 0)) = false := decide_eq_false (by rw [okD_check ok hn hc]; decide)
  refine Wp_cond_false (congrArg Value.bool hc1) ?_
  refine Wp_skip ?_
  refine thn_normal ?_
  refine Wp_seq ?_
  refine Wp_seq_region ?_
  refine WpL_val rfl rfl (by decide) (r_move (v := (.slice va l.length vc)) rfl) ?_
  refine WpL_val rfl rfl (by decide) (r_lenSlice (ad := va) (n := l.length) (cap := vc) Try.underlying22 rfl) ?_
  refine WpL_val rfl rfl (by decide) (r_gtr (k := .i64) (a := ((l.length : Nat) : Int)) (b := 4000) rfl rfl) ?_
  refine WpL_nil ?_
  have hc2 : (decide ((4000 : Int) < ((l.length : Nat) : Int))) = false := decide_eq_false (by omega)
  refine Wp_cond_false (congrArg Value.bool hc2) ?_
  refine Wp_skip ?_
  refine thn_normal ?_
  refine Wp_seq ?_
  refine Wp_seq_region ?_
  refine WpL_val rfl rfl (by decide) (r_move (v := (.slice va l.length vc)) rfl) ?_
  refine WpL_val rfl rfl (by decide) (r_makeFunc (vs := []) (us := [(.pointer (some ⟨bq, 0, none⟩))]) rfl rfl) ?_
  refine WpL_enter rfl rfl (by decide) (r_callF (vs := [(.slice va l.length vc), (.func (.func 65) #[] #[(.pointer (some ⟨bq, 0, none⟩))])]) Try.func64 nm64 bd64 rfl) (ints_has_c _ _ _ l (fun x => decide (x < 0) || decide ((c : Int) ≤ x)) (hl.ext E) (fun w x hE _ => CallV.mk (first := #[]) (cap := #[.pointer (some ⟨bq, 0, none⟩)]) Try.func65 nm65 bd65 rfl (dfrun1_c w bq n c d _ x ok (hdfa.ext (E.trans hE)) (hE.keep Bq) hn.1 hc.2))) ?_
  rintro _ w19 ⟨rfl, X19⟩
  replace Bq := X19.keep Bq
  replace E := E.ext X19
  refine WpL_nil ?_
  have hc3 : ((l.any fun x => decide (x < 0) || decide ((c : Int) ≤ x))) = false := hany
  refine Wp_cond_false (congrArg Value.bool hc3) ?_
  refine Wp_skip ?_
  refine thn_normal ?_
  refine Wp_seq_region ?_
  refine WpL_val rfl rfl (by decide) (r_fieldAddr (b := bq) (o := 0) (o' := 0) rfl Try.underlying25 rfl siz3 rfl) ?_
  refine WpL_val rfl rfl (by decide) (r_load (v := (.int .i64 d.start)) rfl flat3 (Bq.cell rfl)) ?_
  refine WpL_val rfl rfl (by decide) (r_assign (v := (.int .i64 d.start)) rfl) ?_
  refine WpL_nil ?_
  refine Wp_seq ?_
  refine Wp_seq_region ?_
  refine WpL_val rfl rfl (by decide) (r_move (v := (.slice va l.length vc)) rfl) ?_
  refine WpL_val rfl rfl (by decide) (r_lenSlice (ad := va) (n := l.length) (cap := vc) Try.underlying22 rfl) ?_
  refine WpL_val rfl rfl (by decide) (r_move (v := (.int .i64 0)) rfl) ?_
  refine WpL_nil ?_
  refine Wp_block ?_
  refine Wp_loop (fun nn_ σ W4 => ∃ (k : Nat) (s : Int), (∃ jj_, σ = upds jj_ [(2, (.pointer (some ⟨bq, 0, none⟩))), (23, (.slice va l.length vc)), (24, (.int .i64 ((l.length : Nat) : Int))), (25, (.int .i64 ((k : Nat) : Int))), (7, (.int .i64 s))]) ∧ Chg none1 w0 W4 ∧ Blk W4 bq #[(.int .i64 d.start), (.slice aa d.accept.length ac), (.slice na d.next.length nc)] 25 ∧ (k ≤ l.length) ∧ (s = runS d d.start (l.take k)) ∧ nn_ = l.length - k) (n := l.length - 0) ?_ ?_
  · exact ⟨0, d.start, Fits.out ⟨rfl, rfl, rfl, rfl, rfl, trivial⟩, E, Bq, Nat.zero_le _, rfl, rfl⟩
  · clear E Bq
    rintro _ _ W4 ⟨k, s, ⟨j4, rfl⟩, E, Bq, hk, hs, rfl⟩
    refine Wp_seq_region ?_
    refine WpL_val rfl rfl (by decide) (r_lss (k := .i64) (a := ((k : Nat) : Int)) (b := ((l.length : Nat) : Int)) rfl rfl) ?_
    refine WpL_nil ?_
    refine Wp_seq ?_
    refine Wp_cond (b := decide ((((k : Nat) : Int) : Int) < ((l.length : Nat) : Int))) rfl (fun hlt => ?_) (fun hlt => ?_)
    · have khlt := hlt
      replace hlt := of_decide_eq_true hlt
      obtain ⟨x, hx⟩ := get_of_lt (l := l) (i := k) (by omega)
      obtain ⟨vb, vo, rfl, hvx⟩ := ints_cells hl (by omega)
      have hsb := ok.run (l.take k)
      refine Wp_skip ?_
      refine thn_normal ?_
      refine Wp_seq ?_
      refine Wp_block ?_
      refine Wp_seq_region ?_
      refine WpL_val rfl rfl (by decide) (r_indexSlice (b := vb) (o := vo) (len := l.length) (cap := vc) (i := k) (o' := vo + k) rfl rfl rfl Try.underlying22 siz3 (by omega) (by omega)) ?_
      refine WpL_val rfl rfl (by decide) (r_load (v := (.int .i64 x)) rfl flat3 (E.cell (fun f => f) (hvx k x hx))) ?_
      refine WpL_val rfl rfl (by decide) (r_assign (v := (.int .i64 x)) rfl) ?_
      refine WpL_nil ?_
      refine Wp_region ?_
      refine WpL_val rfl rfl (by decide) (r_loadAgg (vs := [(.int .i64 d.start), (.slice aa d.accept.length ac), (.slice na d.next.length nc)]) rfl agg25 siz25 rfl (Bq.cells rfl)) ?_
      refine WpL_val rfl rfl (by decide) (r_move (v := (.int .i64 s)) rfl) ?_
      refine WpL_val rfl rfl (by decide) (r_move (v := (.int .i64 x)) rfl) ?_
      refine WpL_enter rfl rfl (by decide) (r_callF (vs := [(.agg #[(.int .i64 d.start), (.slice aa d.accept.length ac), (.slice na d.next.length nc)]), (.int .i64 s), (.int .i64 x)]) Try.func66 nm66 bd66 rfl) (dfto_c _ n c d _ s x ok (hdfa.ext E) (by omega) (hlx x (List.mem_of_getElem? hx))) ?_
      rintro _ w29 ⟨rfl, X29⟩
      replace Bq := X29.keep Bq
      replace E := E.ext X29
      refine WpL_val rfl rfl (by decide) (r_assign (v := (.int .i64 (toD d s x.toNat))) rfl) ?_
      refine WpL_nil ?_
      refine inB_normal ?_
      refine thn_normal ?_
      refine Wp_region ?_
      refine WpL_val rfl rfl (by decide) (r_add (k := .i64) (a := ((k : Nat) : Int)) (b := 1) (c := ((k : Nat) : Int) + 1) rfl rfl (wI64 (by omega))) ?_
      refine WpL_val rfl rfl (by decide) (r_move (v := (.int .i64 (((k : Nat) : Int) + 1))) rfl) ?_
      refine WpL_nil ?_
      refine thn_normal ?_
      exact ⟨l.length - (k + 1), by omega, k + 1, toD d s x.toNat, Fits.out ⟨rfl, rfl, rfl, rfl, rfl, trivial⟩, E, Bq, (by omega), (by rw [runS_succ hx, hs]), rfl⟩
    · have khlt := hlt
      replace hlt := of_decide_eq_false hlt
      have hkk : k = l.length := by omega
      have hsb := ok.run (l.take k)
      refine Wp_exit ?_
      refine thn_exit ?_
      refine thn_exit ?_
      refine inB_here ?_
      refine thn_normal ?_
      refine Wp_seq_region ?_
      refine WpL_val rfl rfl (by decide) (r_loadAgg (vs := [(.int .i64 d.start), (.slice aa d.accept.length ac), (.slice na d.next.length nc)]) rfl agg25 siz25 rfl (Bq.cells rfl)) ?_
      refine WpL_val rfl rfl (by decide) (r_move (v := (.int .i64 s)) rfl) ?_
      refine WpL_enter rfl rfl (by decide) (r_callF (vs := [(.agg #[(.int .i64 d.start), (.slice aa d.accept.length ac), (.slice na d.next.length nc)]), (.int .i64 s)]) Try.func67 nm67 bd67 rfl) (dfat_c _ d _ s (hdfa.ext E) (by omega)) ?_
      rintro _ w39 ⟨rfl, X39⟩
      replace Bq := X39.keep Bq
      replace E := E.ext X39
      refine WpL_val rfl rfl (by decide) (r_assign (v := (.int .i64 (atD d s))) rfl) ?_
      refine WpL_val rfl rfl (by decide) (r_assign (v := (.int .i64 0)) rfl) ?_
      refine WpL_nil ?_
      refine Wp_ret ?_
      refine fin_tmp2 Try.results31 (v := (.int .i64 (atD d s))) (v' := (.int .i64 0)) rfl rfl ?_
      exact ⟨by rw [beh_run, hs, hkk, List.take_length], E⟩
end Go.Proofs
namespace Go.Proofs
open Go Go.Eng Go.Sort
set_option maxRecDepth 100000
--BEGIN
def nt (n : Nat) (t : Int) : Int := if t < 0 then (n : Int) else t
def ntR (n : Nat) (l : List Int) (x : Nat) : List Int := (l.take x).map (nt n) ++ l.drop x
def fl (a : Int) : Int := if a < 0 then 0 else -1
def notD (n c : Nat) (d : Dfa) : Dfa := ⟨d.start, d.accept.map fl ++ [0], d.next.map (fun r => r.map (nt n)) ++ [List.replicate c (n : Int)]⟩
theorem ntR_len (n : Nat) (l : List Int) (x : Nat) : (ntR n l x).length = l.length := by simp [ntR]; omega
theorem ntR_zero (n : Nat) (l : List Int) : ntR n l 0 = l := by simp [ntR]
theorem ntR_all (n : Nat) (l : List Int) : ntR n l l.length = l.map (nt n) := by simp [ntR]
theorem ntR_get {n : Nat} {l : List Int} {x : Nat} {t : Int} (h : l[x]? = some t) : (ntR n l x)[x]? = some t := by
  have hx := lt_of_get h
  rw [ntR, List.getElem?_append_right (by simp; omega)]
  simp only [List.length_map, List.length_take, List.getElem?_drop]
  rw [show x + (x - min x l.length) = x by omega, h]
theorem ntR_split {n : Nat} {l : List Int} {x : Nat} {t : Int} (h : l[x]? = some t) : ntR n l x = (l.take x).map (nt n) ++ t :: l.drop (x + 1) := by
  have hx := lt_of_get h
  have : l[x] = t := by rw [List.getElem?_eq_getElem hx] at h; simpa using h
  rw [ntR, List.drop_eq_getElem_cons hx, this]
theorem ntR_next {n : Nat} {l : List Int} {x : Nat} {t : Int} (h : l[x]? = some t) : ntR n l (x + 1) = (l.take x).map (nt n) ++ nt n t :: l.drop (x + 1) := by
  rw [ntR, List.take_add_one, h]; simp
theorem ntR_same {n : Nat} {l : List Int} {x : Nat} {t : Int} (h : l[x]? = some t) (ht : ¬ t < 0) : ntR n l x = ntR n l (x + 1) := by
  rw [ntR_split h, ntR_next h, nt, if_neg ht]
theorem ntR_set {n : Nat} {l : List Int} {x : Nat} {t : Int} (h : l[x]? = some t) (ht : t < 0) : (ntR n l x).set x (n : Int) = ntR n l (x + 1) := by
  have hx := lt_of_get h
  rw [ntR_split h, ntR_next h, nt, if_pos ht, List.set_append_right _ _ (by simp; omega)]
  simp only [List.length_map, List.length_take]
  rw [show x - min x l.length = 0 by omega]; rfl
theorem nt_rng {n : Nat} {t : Int} (h : -1 ≤ t ∧ t < n) : 0 ≤ nt n t ∧ nt n t < (n + 1 : Nat) := by
  unfold nt; split <;> omega
theorem okNot {n c : Nat} {d : Dfa} (h : OkD n c d) : OkD (n + 1) c (notD n c d) where
  nl := by simp [notD, h.nl]
  al := by simp [notD, h.al]
  st := by have := h.st; show 0 ≤ d.start ∧ d.start < ((n + 1 : Nat) : Int); omega
  acc := fun x hx => by
    simp only [notD, List.mem_append, List.mem_map, List.mem_singleton] at hx
    rcases hx with ⟨a, _, rfl⟩ | rfl
    · unfold fl; split <;> omega
    · decide
  row := fun r hr => by
    simp only [notD, List.mem_append, List.mem_map, List.mem_singleton] at hr
    rcases hr with ⟨q, hq, rfl⟩ | rfl
    · have h1 := h.row q hq
      refine ⟨by simpa using h1.1, fun x hx => ?_⟩
      obtain ⟨t, ht, rfl⟩ := List.mem_map.1 hx
      have := nt_rng (h1.2 t ht)
      omega
    · refine ⟨by simp, fun x hx => ?_⟩
      rw [List.eq_of_mem_replicate hx]
      omega
theorem toD_not {n c : Nat} {d : Dfa} (h : OkD n c d) {s : Int} {x : Nat} (hs : -1 ≤ s ∧ s < n) (hx : x < c) : toD (notD n c d) (nt n s) x = nt n (toD d s x) := by
  have hnl := h.nl
  rcases Int.lt_or_le s 0 with h1 | h1
  · rw [toD_neg h1, show nt n s = ((n : Nat) : Int) by unfold nt; rw [if_pos h1]]
    rw [toD_get (r := List.replicate c (n : Int)) (t := (n : Int)) (by simp [notD, hnl]) (by simp [hx])]
    rfl
  · obtain ⟨sN, rfl⟩ := Int.eq_ofNat_of_zero_le h1
    rw [show nt n ((sN : Nat) : Int) = ((sN : Nat) : Int) by unfold nt; rw [if_neg (by omega)]]
    obtain ⟨row, hrow⟩ := get_of_lt (l := d.next) (i := sN) (by omega)
    have hrl := (h.row row (List.mem_of_getElem? hrow)).1
    obtain ⟨t, ht⟩ := get_of_lt (l := row) (i := x) (by omega)
    rw [toD_get hrow ht, toD_get (r := row.map (nt n)) (t := nt n t)]
    · simp only [notD]
      rw [List.getElem?_append_left (by simp; omega), List.getElem?_map, hrow]; rfl
    · rw [List.getElem?_map, ht]; rfl
theorem atD_not {n c : Nat} {d : Dfa} (h : OkD n c d) {s : Int} (hs : -1 ≤ s ∧ s < n) : atD (notD n c d) (nt n s) = fl (atD d s) := by
  have hal := h.al
  rcases Int.lt_or_le s 0 with h1 | h1
  · rw [show nt n s = ((n : Nat) : Int) by unfold nt; rw [if_pos h1], show atD d s = -1 by unfold atD; rw [if_pos h1]]
    rw [atD_get (t := 0) (by simp [notD, hal])]
    rfl
  · obtain ⟨sN, rfl⟩ := Int.eq_ofNat_of_zero_le h1
    rw [show nt n ((sN : Nat) : Int) = ((sN : Nat) : Int) by unfold nt; rw [if_neg (by omega)]]
    obtain ⟨a, ha⟩ := get_of_lt (l := d.accept) (i := sN) (by omega)
    rw [atD_get ha, atD_get (t := fl a)]
    simp only [notD]
    rw [List.getElem?_append_left (by simp; omega), List.getElem?_map, ha]; rfl
theorem beh_not {n c : Nat} {d : Dfa} (h : OkD n c d) : ∀ {w : List Nat} {s : Int}, inW c w → -1 ≤ s ∧ s < n → beh (notD n c d) (nt n s) w = fl (beh d s w)
  | [], s, _, hs => atD_not h hs
  | x :: w, s, hw, hs => by
    simp only [beh]
    rw [toD_not h hs hw.head]
    exact beh_not h hw.tail h.to
theorem beh_notD {n c : Nat} {d : Dfa} (h : OkD n c d) {w : List Nat} (hw : inW c w) : beh (notD n c d) (notD n c d).start w = fl (beh d d.start w) := by
  have hst := h.st
  have := beh_not h (s := d.start) hw (by omega)
  rwa [show nt n d.start = d.start by unfold nt; rw [if_neg (by omega)]] at this
theorem notD_acc {n c : Nat} {d : Dfa} : ∀ x ∈ (notD n c d).accept, x < 2147483648 := fun x hx => by
  simp only [notD, List.mem_append, List.mem_map, List.mem_singleton] at hx
  rcases hx with ⟨a, _, rfl⟩ | rfl
  · unfold fl; split <;> omega
  · decide
theorem CanOf.congr {c : Nat} {f g : List Nat → Int} {C : Dfa} (h : CanOf c f C) (e : ∀ w, inW c w → f w = g w) : CanOf c g C := by
  obtain ⟨m, h1, h2, h3, h4⟩ := h
  exact ⟨m, h1, fun w hw => (h2 w hw).trans (e w hw), h3, h4⟩
--END
def cloF (l : List Int) (hs : Nat) (r : Value) (w : World) : Prop := ∃ b rest k, r = .slice (some ⟨b, 0, none⟩) l.length k ∧ hs ≤ b ∧ Blk w b (l.map (Value.int .i64) ++ rest).toArray TDI ∧ l.length + rest.length = k ∧ k ≤ 9223372036854775807
set_option maxHeartbeats 400000 in
theorem cloneo_c (w0 : World) (v : Value) (l : List Int) (h : IntsAt w0 v l) (hl : l.length ≤ 2000000) (h1 : 0 < l.length) :
    Ret Try.prog 74 #[v] w0 fun r w => cloF l w0.heap.size r w ∧ Ext w0 w := by
  obtain ⟨a, c, rfl⟩ := SlAt.form h
  simp only [List.length_map] at h ⊢
  obtain ⟨base, hbase⟩ : ∃ base, base = w0.heap.size := ⟨_, rfl⟩
  obtain ⟨b, o, rfl, hcl⟩ := ints_cells h h1
  refine Ret_of Try.func74 rfl Try.ntmps74 (Nat.le_of_ble_eq_true rfl) ?_
  have E : Chg none1 w0 w0 := Chg.refl _ _
  refine Wp_seq_region ?_
  refine WpL_val rfl rfl (by decide) (r_assign (v := (.slice none 0 0)) rfl) ?_
  refine WpL_nil ?_
  refine Wp_seq ?_
  refine Wp_seq_region ?_
  refine WpL_val rfl rfl (by decide) (r_move (v := (.slice (some ⟨b, o, none⟩) l.length c)) rfl) ?_
  refine WpL_val (v := (.bool ((some (⟨b, o, none⟩ : Addr)).isNone))) rfl rfl (by decide) (r_eqlNil Try.underlying22 rfl rfl) ?_
  refine WpL_nil ?_
  have hc1 : ((some (⟨b, o, none⟩ : Addr)).isNone) = false := rfl
  refine Wp_cond_false (congrArg Value.bool hc1) ?_
  refine Wp_skip ?_
  refine thn_normal ?_
  refine Wp_seq_region ?_
  refine s_build0 (by decide) Try.underlying22 siz3 ?_
  intro bq wq Nq
  have Fq := Nq.ge E
  replace E := E.ext Nq.ext
  have Bq := Nq.blk
  refine WpL_val rfl rfl (by decide) (r_move (v := (.slice (some ⟨b, o, none⟩) l.length c)) rfl) ?_
  have hown := own_empty (base := base) (size := 1) Bq (by omega)
  have hbs : base ≤ wq.heap.size := by have := Nq.ext.size; omega
  refine s_append (base := base) (n := 0) (m := l.length) (xs := []) (news := l.map (Value.int .i64)) (size := 1) (bytes := 8) (v := (.slice (some ⟨bq, 0, none⟩) 0 0)) (by decide) Try.underlying22 siz3 byt3 zer3 rfl (by decide) rfl hown rfl (by simp) (fun i u hu => by rw [List.getElem?_map, Option.map_eq_some_iff] at hu; obtain ⟨x, hx, rfl⟩ := hu; exact Nq.ext.cell (hcl i x hx)) (by simp [Value.oneCell']) (by unfold maxLen; omega) (by omega) (hbs) ?_
  intro v9 w29 Ov9 Cv9 Dv9
  replace E := E.step Cv9 (fun x hx h => absurd (hown.lt x h).1 (by omega))
  obtain ⟨la, lc, rfl⟩ := own_form Ov9
  refine WpL_val rfl rfl (by decide) (r_assign (v := (.slice la (0 + l.length) lc)) rfl) ?_
  refine WpL_nil ?_
  refine Wp_ret ?_
  refine fin_tmp Try.results74 (v := (.slice la (0 + l.length) lc)) rfl ?_
  simp only [Nat.zero_add, List.nil_append] at Ov9
  simp only [Nat.zero_add]
  rcases Ov9.2 with ⟨_, h2⟩ | ⟨g, cap, cur, h1, h2, h3, h4, h5, h6, h7⟩
  · omega
  · simp only [Value.slice.injEq] at h1
    obtain ⟨rfl, _, rfl⟩ := h1
    have e9 : (l.map (Value.int .i64) ++ cur.toList.drop (l.length * 1)).toArray = cur := by rw [← h7, List.take_append_drop]
    refine ⟨⟨g, cur.toList.drop (l.length * 1), lc, rfl, by omega, by rw [e9]; exact h3, ?_, h5⟩, E⟩
    have e8 := congrArg Array.size e9
    simp only [List.size_toArray, List.length_append, List.length_map] at e8
    omega
theorem own_cap {w : World} {b base k : Nat} {l : List Int} {rest : List Value} (h : Blk w b (l.map (Value.int .i64) ++ rest).toArray TDI) (hb : base ≤ b) (hk : l.length + rest.length = k) (hm : k ≤ 9223372036854775807) : w.ownsRow base TDI 1 (.slice (some ⟨b, 0, none⟩) l.length k) l.length (l.map (Value.int .i64)) :=
  ⟨by simp, .inr ⟨b, k, _, rfl, hb, h, by omega, hm, by simp; omega, by simp [List.take_append_of_le_length]⟩⟩
end Go.Proofs
