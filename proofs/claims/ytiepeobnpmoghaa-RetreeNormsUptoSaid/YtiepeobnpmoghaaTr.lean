/- Expressions in memory that nobody else holds: the blocks of their arguments are all different. -/
import Derived.Test.YtiepeobnpmoghaaOwn
import Derived.Test.YtiepeobnpmoghaaDagT
namespace Go.Eng
open Go

abbrev TRe : Nat := 25
mutual
def Tree (Z : Nat → Prop) (w : World) : Re → List Value → (Nat → Prop) → Prop
  | .mk k set args mn mx ng, vs, L => ∃ sa sc aa ac, vs = [.int .i64 k, .slice sa set.length sc, .slice aa args.length ac, .int .i64 mn, .int .i64 mx, .bool ng] ∧ SlIn Z w 2 (.slice sa set.length sc) (set.map spanV) ∧ (args.length ≤ ac ∧ ac ≤ 9223372036854775807) ∧
      (args = [] ∨ ∃ b rows rest L', L b ∧ aa = some ⟨b, 0, none⟩ ∧ Blk w b (rows.flatten ++ rest).toArray TRe ∧ (∀ r ∈ rows, r.length = 6) ∧ Trees Z w args rows L' ∧ (∀ x, L' x → L x ∧ x ≠ b))
def Trees (Z : Nat → Prop) (w : World) : List Re → List (List Value) → (Nat → Prop) → Prop
  | [], rows, _ => rows = []
  | t :: ts, rows, L => ∃ vs rs L1 L2, rows = vs :: rs ∧ Tree Z w t vs L1 ∧ Trees Z w ts rs L2 ∧ (∀ x, L1 x → L x ∧ ¬ L2 x) ∧ (∀ x, L2 x → L x)
end
mutual
theorem Tree.chg {Z M : Nat → Prop} {w w' : World} (c : Chg M w w') (hz : ∀ b, Z b → ¬ M b) : ∀ (t : Re) {vs : List Value} {L : Nat → Prop}, (∀ b, L b → ¬ M b) → Tree Z w t vs L → Tree Z w' t vs L
  | .mk k set args mn mx ng, vs, L, hl, h => by
    simp only [Tree] at h ⊢
    obtain ⟨sa, sc, aa, ac, hv, hs, hn, ha⟩ := h
    refine ⟨sa, sc, aa, ac, hv, hs.chg c hz, hn, ?_⟩
    rcases ha with h | ⟨b, rows, rest, L', h1, h2, h3, h4, h5, h6⟩
    · exact .inl h
    · exact .inr ⟨b, rows, rest, L', h1, h2, c.keep (hl b h1) h3, h4, Trees.chg c hz args (fun x hx => hl x (h6 x hx).1) h5, h6⟩
theorem Trees.chg {Z M : Nat → Prop} {w w' : World} (c : Chg M w w') (hz : ∀ b, Z b → ¬ M b) : ∀ (ts : List Re) {rows : List (List Value)} {L : Nat → Prop}, (∀ b, L b → ¬ M b) → Trees Z w ts rows L → Trees Z w' ts rows L
  | [], _, _, _, h => by simp only [Trees] at h ⊢; exact h
  | t :: ts, rows, L, hl, h => by
    simp only [Trees] at h ⊢
    obtain ⟨vs, rs, L1, L2, h1, h2, h3, h4, h5⟩ := h
    exact ⟨vs, rs, L1, L2, h1, Tree.chg c hz t (fun x hx => hl x (h4 x hx).1) h2, Trees.chg c hz ts (fun x hx => hl x (h5 x hx)) h3, h4, h5⟩
end
theorem Tree.ext {Z : Nat → Prop} {w w' : World} (e : Ext w w') (t : Re) {vs : List Value} {L : Nat → Prop} (h : Tree Z w t vs L) : Tree Z w' t vs L := Tree.chg e (fun _ _ f => f) t (fun _ _ f => f) h
theorem Trees.ext {Z : Nat → Prop} {w w' : World} (e : Ext w w') (ts : List Re) {rows : List (List Value)} {L : Nat → Prop} (h : Trees Z w ts rows L) : Trees Z w' ts rows L := Trees.chg e (fun _ _ f => f) ts (fun _ _ f => f) h
mutual
theorem Tree.mono {Z Z' : Nat → Prop} {w : World} (hz : ∀ b, Z b → Z' b) : ∀ (t : Re) {vs : List Value} {L L' : Nat → Prop}, (∀ b, L b → L' b) → Tree Z w t vs L → Tree Z' w t vs L'
  | .mk k set args mn mx ng, vs, L, L', hl, h => by
    simp only [Tree] at h ⊢
    obtain ⟨sa, sc, aa, ac, hv, hs, hn, ha⟩ := h
    refine ⟨sa, sc, aa, ac, hv, hs.mono hz, hn, ?_⟩
    rcases ha with h | ⟨b, rows, rest, K, h1, h2, h3, h4, h5, h6⟩
    · exact .inl h
    · exact .inr ⟨b, rows, rest, K, hl b h1, h2, h3, h4, Trees.mono hz args (fun _ h => h) h5, fun x hx => ⟨hl x (h6 x hx).1, (h6 x hx).2⟩⟩
theorem Trees.mono {Z Z' : Nat → Prop} {w : World} (hz : ∀ b, Z b → Z' b) : ∀ (ts : List Re) {rows : List (List Value)} {L L' : Nat → Prop}, (∀ b, L b → L' b) → Trees Z w ts rows L → Trees Z' w ts rows L'
  | [], _, _, _, _, h => by simp only [Trees] at h ⊢; exact h
  | t :: ts, rows, L, L', hl, h => by
    simp only [Trees] at h ⊢
    obtain ⟨vs, rs, L1, L2, h1, h2, h3, h4, h5⟩ := h
    exact ⟨vs, rs, L1, L2, h1, Tree.mono hz t (fun _ h => h) h2, Trees.mono hz ts (fun _ h => h) h3, fun x hx => ⟨hl x (h4 x hx).1, (h4 x hx).2⟩, fun x hx => hl x (h5 x hx)⟩
end
theorem Tree.form {Z : Nat → Prop} {w : World} {t : Re} {vs : List Value} {L : Nat → Prop} (h : Tree Z w t vs L) : ∃ sa sc aa ac, vs = [.int .i64 t.kind, .slice sa t.set.length sc, .slice aa t.args.length ac, .int .i64 t.mn, .int .i64 t.mx, .bool t.neg] ∧ SlIn Z w 2 (.slice sa t.set.length sc) (t.set.map spanV) ∧ (t.args.length ≤ ac ∧ ac ≤ 9223372036854775807) ∧
      (t.args = [] ∨ ∃ b rows rest L', L b ∧ aa = some ⟨b, 0, none⟩ ∧ Blk w b (rows.flatten ++ rest).toArray TRe ∧ (∀ r ∈ rows, r.length = 6) ∧ Trees Z w t.args rows L' ∧ (∀ x, L' x → L x ∧ x ≠ b)) := by
  cases t; simp only [Tree] at h; exact h
theorem Tree.len {Z : Nat → Prop} {w : World} {t : Re} {vs : List Value} {L : Nat → Prop} (h : Tree Z w t vs L) : vs.length = 6 := by
  obtain ⟨_, _, _, _, rfl, _⟩ := h.form; rfl
theorem Tree.one {Z : Nat → Prop} {w : World} {t : Re} {vs : List Value} {L : Nat → Prop} (h : Tree Z w t vs L) : ∀ u ∈ vs, u.oneCell' = true := by
  obtain ⟨_, _, _, _, rfl, _⟩ := h.form
  simp [Value.oneCell']
theorem Trees.len {Z : Nat → Prop} {w : World} : ∀ {ts : List Re} {rows : List (List Value)} {L : Nat → Prop}, Trees Z w ts rows L → rows.length = ts.length
  | [], _, _, h => by simp only [Trees] at h; subst h; rfl
  | t :: ts, rows, L, h => by
    simp only [Trees] at h
    obtain ⟨vs, rs, L1, L2, rfl, _, h3, _⟩ := h
    simp [Trees.len h3]
theorem Trees.six {Z : Nat → Prop} {w : World} : ∀ {ts : List Re} {rows : List (List Value)} {L : Nat → Prop}, Trees Z w ts rows L → ∀ r ∈ rows, r.length = 6
  | [], _, _, h => by simp only [Trees] at h; subst h; simp
  | t :: ts, rows, L, h => by
    simp only [Trees] at h
    obtain ⟨vs, rs, L1, L2, rfl, h2, h3, _⟩ := h
    intro r hr
    rcases List.mem_cons.1 hr with rfl | hr
    · exact h2.len
    · exact Trees.six h3 r hr
theorem Trees.snoc {Z : Nat → Prop} {w : World} {t : Re} {vs : List Value} {K : Nat → Prop} (ht : Tree Z w t vs K) : ∀ {ts : List Re} {rows : List (List Value)} {L : Nat → Prop}, Trees Z w ts rows L → (∀ x, L x → ¬ K x) → Trees Z w (ts ++ [t]) (rows ++ [vs]) (fun x => L x ∨ K x)
  | [], rows, L, h, hd => by
    simp only [Trees] at h
    subst h
    simp only [List.nil_append, Trees]
    exact ⟨vs, [], K, fun _ => False, rfl, ht, rfl, fun x hx => ⟨.inr hx, fun f => f⟩, fun x f => f.elim⟩
  | u :: ts, rows, L, h, hd => by
    simp only [Trees] at h
    obtain ⟨us, rs, L1, L2, rfl, h2, h3, h4, h5⟩ := h
    have := Trees.snoc ht h3 fun x hx => hd x (h5 x hx)
    simp only [List.cons_append, Trees]
    exact ⟨us, rs ++ [vs], L1, _, rfl, h2, this, fun x hx => ⟨.inl (h4 x hx).1, fun hh => hh.elim (h4 x hx).2 (hd x (h4 x hx).1)⟩, fun x hx => hx.elim (fun h => .inl (h5 x h)) .inr⟩

/-! Rows one after the other. -/
theorem rows_cells {rows : List (List Value)} {rest : List Value} {k : Nat} (hk : ∀ r ∈ rows, r.length = k) : ∀ {i : Nat} {r : List Value}, rows[i]? = some r → ∀ (j : Nat) (u : Value), r[j]? = some u → (rows.flatten ++ rest)[i * k + j]? = some u := by
  induction rows with
  | nil => intro i r h; simp at h
  | cons x rs ih =>
    intro i r hr j u hu
    have hx : x.length = k := hk x (by simp)
    cases i with
    | zero =>
      simp at hr; subst hr
      have hj := lt_of_get hu
      simp only [List.flatten_cons, Nat.zero_mul, Nat.zero_add, List.append_assoc]
      rw [List.getElem?_append_left hj]; exact hu
    | succ i =>
      simp at hr
      simp only [List.flatten_cons, List.append_assoc]
      rw [List.getElem?_append_right (by rw [hx, Nat.succ_mul]; omega)]
      rw [show (i + 1) * k + j - x.length = i * k + j from by rw [hx, Nat.succ_mul]; omega]
      exact ih (fun r hr => hk r (by simp [hr])) hr j u hu
theorem rows_at {w : World} {b T k : Nat} {rows : List (List Value)} {rest : List Value} (h : Blk w b (rows.flatten ++ rest).toArray T) (hk : ∀ r ∈ rows, r.length = k) {i : Nat} {r : List Value} (hr : rows[i]? = some r) : CellsAt w b (i * k) r := by
  intro j u hu
  exact h.cell (by simpa using rows_cells hk hr j u hu)
theorem rows_set {k : Nat} {v : List Value} (hv : v.length = k) : ∀ {rows : List (List Value)} {rest : List Value} {i : Nat}, (∀ r ∈ rows, r.length = k) → i < rows.length → (rows.flatten ++ rest).take (i * k) ++ v ++ (rows.flatten ++ rest).drop (i * k + k) = (rows.set i v).flatten ++ rest
  | [], _, _, _, hi => by simp at hi
  | x :: rs, rest, 0, hk, hi => by
    have hx : x.length = k := hk x (by simp)
    simp only [List.flatten_cons, Nat.zero_mul, List.take_zero, Nat.zero_add, List.set_cons_zero, List.nil_append, List.append_assoc]
    rw [List.drop_append_of_le_length (by omega), List.drop_of_length_le (by omega)]; simp
  | x :: rs, rest, i + 1, hk, hi => by
    have hx : x.length = k := hk x (by simp)
    have ih := rows_set hv (rows := rs) (rest := rest) (i := i) (fun r hr => hk r (by simp [hr])) (by simpa using hi)
    simp only [List.flatten_cons, List.set_cons_succ, List.append_assoc] at ih ⊢
    rw [← ih, Nat.succ_mul]
    have e1 : ∀ (A : List Value) (m : Nat), (x ++ A).take (x.length + m) = x ++ A.take m := fun A m => by rw [List.take_append, List.take_of_length_le (by omega), Nat.add_sub_cancel_left]
    have e2 : ∀ (A : List Value) (m : Nat), (x ++ A).drop (x.length + m) = A.drop m := fun A m => by rw [List.drop_append, List.drop_of_length_le (by omega), Nat.add_sub_cancel_left, List.nil_append]
    rw [show i * k + k = x.length + i * k from by omega, e1, show x.length + i * k + k = x.length + (i * k + k) from by omega, e2]
    rw [List.append_assoc, show x.length + i * k = i * k + k from by omega]
theorem rows_len {k : Nat} : ∀ {rows : List (List Value)}, (∀ r ∈ rows, r.length = k) → rows.flatten.length = rows.length * k
  | [], _ => by simp
  | x :: rs, h => by
    have := rows_len (rows := rs) (fun r hr => h r (by simp [hr]))
    have hx : x.length = k := h x (by simp)
    simp only [List.flatten_cons, List.length_append, List.length_cons, this, hx, Nat.succ_mul]; omega
theorem resin_of {S : Nat → Prop} {w : World} {b : Nat} : ∀ {ts : List Re} {o : Nat}, (∀ i t, ts[i]? = some t → ∃ vs, CellsAt w b (o + i * 6) vs ∧ ReIn S w t vs) → ResIn S w b o ts
  | [], _, _ => by simp only [ResIn]
  | t :: ts, o, h => by
    simp only [ResIn]
    refine ⟨by simpa using h 0 t rfl, resin_of fun i u hu => ?_⟩
    have := h (i + 1) u (by simpa using hu)
    rwa [show o + (i + 1) * 6 = o + 6 + i * 6 from by omega] at this
end Go.Eng
