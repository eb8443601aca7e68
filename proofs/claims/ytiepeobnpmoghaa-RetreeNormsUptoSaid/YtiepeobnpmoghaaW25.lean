/- Contracts: copies of sets and of expressions. -/
import Derived.Test.YtiepeobnpmoghaaW24
namespace Go.Proofs
open Go Go.Eng
set_option maxRecDepth 100000

section
variable {P : Program} {σ : Env} {w : World} {dst : Option Tmp} {ty : TypeId} {pos : String} {af : Array Edge} {g : Option (Nat × Bool)} {t t' e : TypeId} {x y : Operand}
theorem r_eqlNil {a : Option Addr} {n c n' c' : Nat} (hu : P.underlying t = some (.slice e)) (hx : ev σ x = .slice a n c) (hy : ev σ y = .slice none n' c') :
    (execOp (ev σ) ⟨dst, .binOp .eql t x y t', ty, pos, af, g⟩).run P w = .ok (.value (.bool a.isNone)) w := by
  have h : (Op.equalIn 10000 t (.slice a n c) (.slice none n' c')).run P w = .ok a.isNone w := by
    rw [Op.equalIn]
    cases a <;> simp [run_underlying hu]
  cases a <;> simp_all [execOp, eqGuard, binOp, Op.equal, Op.maxDepth]
theorem r_append0 {s : Operand} {a a' : Option Addr} {n c c' size : Nat} (hu : P.underlying t = some (.slice e)) (hs : Siz P e size) (hx : ev σ s = .slice a n c) (hn : n ≤ c) (hy : ev σ x = .slice a' 0 c') :
    (execOp (ev σ) ⟨dst, .call ⟨.builtin .append, #[s, x], #[t, t]⟩, ty, pos, af, g⟩).run P w = .ok (.value (.slice a n c)) w := by
  have hz : size * 0 = 0 := Nat.mul_zero _
  cases a <;> cases a' <;> simp [execOp, resolve, invoke, builtin, Builtin.append_, hx, hy, run_underlying hu, hs.run, Builtin.lenOf, Builtin.firstCells, loadCells, loadCellsFrom, storeCells, hn]
theorem s_build0 {N : Nat} {Q : Post} {K : Env → World → Prop} {ops : Array Oper} {rest : List Oper} {d size : Nat} (hN : d < N) (hu : P.underlying t = some (.slice e)) (hs : Siz P e size)
    (k : ∀ b w', New w w' b #[] e → WpL P N ops K Q rest (upd σ d (.slice (some ⟨b, 0, none⟩) 0 0)) w') : WpL P N ops K Q (⟨some d, .buildSlice t 0 #[], ty, pos, af, none⟩ :: rest) σ w := by
  refine WpL_val (v := .slice (some ⟨w.heap.size, 0, none⟩) 0 0) (w' := { w with heap := w.heap.push (.cells #[] e (0, 0)) }) rfl rfl hN ?_ (k _ _ (New.mk' w #[] e))
  have h0 : Array.range 0 = #[] := rfl
  simp [execOp, Instr.buildSlice, run_underlying hu, hs.run, Instr.fill, newRow, h0]
end

theorem own_empty {w : World} {b e base size : Nat} (h : Blk w b #[] e) (hb : base ≤ b) : w.ownsRow base e size (.slice (some ⟨b, 0, none⟩) 0 0) 0 [] :=
  ⟨by simp, .inr ⟨b, 0, #[], rfl, hb, h, Nat.le_refl _, by simp [maxLen], by simp, by simp⟩⟩
theorem spans_flat {w : World} {b o : Nat} {l : List (Int × Int)} (h : ∀ i s, l[i]? = some s → CellsAt w b (o + i * 2) [.int .i64 s.1, .int .i64 s.2]) : CellsAt w b o (l.map spanV).flatten := by
  induction l generalizing o with
  | nil => intro i v hv; simp at hv
  | cons s l ih =>
    have h0 := h 0 s rfl
    have h1 := ih (o := o + 2) (fun i u hu => by have := h (i + 1) u (by simpa using hu); rwa [show o + (i + 1) * 2 = o + 2 + i * 2 from by omega] at this)
    intro i v hv
    simp only [List.map_cons, List.flatten_cons] at hv
    have hl : (spanV s).length = 2 := rfl
    rcases Nat.lt_or_ge i 2 with hi | hi
    · rw [List.getElem?_append_left (by omega)] at hv
      have := h0 i v hv
      simpa using this
    · rw [List.getElem?_append_right (by omega)] at hv
      have := h1 (i - 2) v (by rw [hl] at hv; exact hv)
      rwa [show o + 2 + (i - 2) = o + i from by omega] at this
theorem spans_six (l : List (Int × Int)) : (l.map spanV).flatten.length = l.length * 2 := by
  induction l with
  | nil => rfl
  | cons s l ih => simp only [List.map_cons, List.flatten_cons, List.length_append, ih, List.length_cons]; have : (spanV s).length = 2 := rfl; omega
theorem spans_one (l : List (Int × Int)) : ∀ u ∈ (l.map spanV).flatten, u.oneCell' = true := by
  intro u hu
  simp only [List.mem_flatten, List.mem_map] at hu
  obtain ⟨r, ⟨s, _, rfl⟩, hu⟩ := hu
  simp [spanV] at hu
  rcases hu with rfl | rfl <;> rfl

set_option maxHeartbeats 400000 in
theorem clone_c (w0 : World) (v : Value) (l : List (Int × Int)) (h : SpansAt w0 v l) (hl : l.length ≤ 2000000) :
    Ret Try.prog 23 #[v] w0 fun r w => ∃ a c, r = .slice a l.length c ∧ SlIn (fun b => w0.heap.size ≤ b ∧ b < w.heap.size) w 2 r (l.map spanV) ∧ Ext w0 w := by
  obtain ⟨a, c, rfl⟩ := SlAt.form h
  simp only [List.length_map] at h ⊢
  obtain ⟨base, hbase⟩ : ∃ base, base = w0.heap.size := ⟨_, rfl⟩
  refine Ret_of Try.func23 rfl Try.ntmps23 (Nat.le_of_ble_eq_true rfl) ?_
  have E : Chg none1 w0 w0 := Chg.refl _ _
  refine Wp_seq_region ?_
  refine WpL_val rfl rfl (by decide) (r_assign (v := (.slice none 0 0)) rfl) ?_
  refine WpL_nil ?_
  refine Wp_seq ?_
  refine Wp_seq_region ?_
  refine WpL_val rfl rfl (by decide) (r_move (v := (.slice a l.length c)) rfl) ?_
  refine WpL_val (v := (.bool a.isNone)) rfl rfl (by decide) (r_eqlNil Try.underlying22 rfl rfl) ?_
  refine WpL_nil ?_
  refine Wp_cond (b := a.isNone) rfl (fun hn => ?_) (fun hn => ?_)
  · have khn := hn
    have hl0 : l.length = 0 := by rcases Nat.eq_zero_or_pos l.length with h0 | h0; exact h0; obtain ⟨b, o, rfl, _⟩ := spans_cells h h0; simp at hn
    have hl1 : l = [] := List.eq_nil_of_length_eq_zero hl0
    refine Wp_seq_region ?_
    refine WpL_val rfl rfl (by decide) (r_assign (v := (.slice none 0 0)) rfl) ?_
    refine WpL_nil ?_
    refine Wp_ret ?_
    refine thn_ret ?_
    refine fin_tmp Try.results23 (v := (.slice none 0 0)) rfl ?_
    exact ⟨none, 0, by rw [hl0], by subst hl1; exact SlIn.nil _ _ _ _ _, E⟩
  · have khn := hn
    rcases Bool.eq_false_or_eq_true (decide (l.length = 0)) with hz | hz
    · have khz := hz
      replace khz := of_decide_eq_true khz
      refine Wp_skip ?_
      refine thn_normal ?_
      refine Wp_seq_region ?_
      refine s_build0 (by decide) Try.underlying22 siz36 ?_
      intro bq wq Nq
      have Fq := Nq.ge E
      replace E := E.ext Nq.ext
      have Bq := Nq.blk
      refine WpL_val rfl rfl (by decide) (r_move (v := (.slice a l.length c)) rfl) ?_
      refine WpL_val rfl rfl (by decide) (r_append0 Try.underlying22 siz36 (a' := a) (c' := c) rfl (Nat.le_refl _) (by show Value.slice a l.length c = _; rw [khz])) ?_
      refine WpL_val rfl rfl (by decide) (r_assign (v := (.slice (some ⟨bq, 0, none⟩) 0 0)) rfl) ?_
      refine WpL_nil ?_
      refine Wp_ret ?_
      refine fin_tmp Try.results23 (v := (.slice (some ⟨bq, 0, none⟩) 0 0)) rfl ?_
      have hl1 : l = [] := List.eq_nil_of_length_eq_zero khz
      exact ⟨some ⟨bq, 0, none⟩, 0, by rw [khz], by subst hl1; exact SlIn.nil _ _ _ _ _, E⟩
    · have khz := hz
      replace khz := of_decide_eq_false khz
      obtain ⟨b, o, rfl, hcl⟩ := spans_cells h (by omega)
      refine Wp_skip ?_
      refine thn_normal ?_
      refine Wp_seq_region ?_
      refine s_build0 (by decide) Try.underlying22 siz36 ?_
      intro bq wq Nq
      have Fq := Nq.ge E
      replace E := E.ext Nq.ext
      have Bq := Nq.blk
      refine WpL_val rfl rfl (by decide) (r_move (v := (.slice (some ⟨b, o, none⟩) l.length c)) rfl) ?_
      have hown := own_empty (base := base) (size := 2) Bq (by omega)
      have hbs : base ≤ wq.heap.size := by have := Nq.ext.size; omega
      refine s_append (base := base) (n := 0) (m := l.length) (xs := []) (news := (l.map spanV).flatten) (size := 2) (bytes := 16) (v := (.slice (some ⟨bq, 0, none⟩) 0 0)) (by decide) Try.underlying22 siz36 byt36 zer36 rfl (by decide) rfl hown rfl (spans_six l) ((spans_flat hcl).ext Nq.ext) (spans_one l) (by unfold maxLen; omega) (by omega) (hbs) ?_
      intro v9 w29 Ov9 Cv9 Dv9
      replace E := E.step Cv9 (fun x hx h => absurd (hown.lt x h).1 (by omega))
      obtain ⟨la, lc, rfl⟩ := own_form Ov9
      refine WpL_val rfl rfl (by decide) (r_assign (v := (.slice la (0 + l.length) lc)) rfl) ?_
      refine WpL_nil ?_
      refine Wp_ret ?_
      refine fin_tmp Try.results23 (v := (.slice la (0 + l.length) lc)) rfl ?_
      simp only [Nat.zero_add, List.nil_append] at Ov9
      have hsl := own_slat Ov9 (by intro r hr; simp only [List.mem_map] at hr; obtain ⟨p, _, rfl⟩ := hr; rfl) (by simp) (by decide)
      obtain ⟨gq, rfl, hgq, _⟩ := own_cells Ov9 (by omega)
      simp only [Nat.zero_add]
      exact ⟨some ⟨gq, 0, none⟩, lc, rfl, SlIn.mk hsl ⟨by omega, (Ov9.lt gq rfl).2⟩, E⟩

/-! Copies of expressions. -/
mutual
def setsOk : Re → Prop
  | .mk _ set args _ _ _ => set.length ≤ 2000000 ∧ setsOks args
def setsOks : List Re → Prop
  | [] => True
  | t :: ts => setsOk t ∧ setsOks ts
end
theorem setsOk_set {t : Re} (h : setsOk t) : t.set.length ≤ 2000000 := by cases t; simp only [setsOk] at h; exact h.1
theorem setsOk_arg {t : Re} (h : setsOk t) {i : Nat} {x : Re} (hx : t.args[i]? = some x) : setsOk x := by
  cases t with
  | mk k set args mn mx ng =>
  simp only [setsOk] at h
  replace h := h.2
  simp only [Re.args] at hx
  induction args generalizing i with
  | nil => simp at hx
  | cons u us ih =>
    simp only [setsOks] at h
    cases i with
    | zero => simp at hx; subst hx; exact h.1
    | succ i => simp at hx; exact ih hx h.2
def copyF (n0 : Nat) (t : Re) : Fct := fun v w => ∃ vs Z L, v = .agg vs.toArray ∧ Tree Z w t vs L ∧ (∀ x, Z x → ¬ L x) ∧ (∀ x, Z x ∨ L x → n0 ≤ x ∧ x < w.heap.size)
theorem copyF_ext (n0 : Nat) (t : Re) : ∀ v w w', Chg none1 w w' → copyF n0 t v w → copyF n0 t v w' := by
  rintro v w w' e ⟨vs, Z, L, h1, h2, h3, h4⟩
  exact ⟨vs, Z, L, h1, Tree.ext e t h2, h3, fun x hx => ⟨(h4 x hx).1, Nat.lt_of_lt_of_le (h4 x hx).2 e.size⟩⟩
def copyG (n0 : Nat) (t : Re) : Fct := fun v w => ∃ b vs Z L, v = .slice (some ⟨b, 0, none⟩) 1 1 ∧ Blk w b vs.toArray TRe ∧ Tree Z w t vs L ∧ (∀ x, Z x → ¬ L x) ∧ (∀ x, Z x ∨ L x → n0 ≤ x ∧ x < w.heap.size)
theorem copyG_ext (n0 : Nat) (t : Re) : ∀ v w w', Chg none1 w w' → copyG n0 t v w → copyG n0 t v w' := by
  rintro v w w' e ⟨b, vs, Z, L, h0, h1, h2, h3, h4⟩
  exact ⟨b, vs, Z, L, h0, Ext.keep e h1, Tree.ext e t h2, h3, fun x hx => ⟨(h4 x hx).1, Nat.lt_of_lt_of_le (h4 x hx).2 e.size⟩⟩
theorem DoesT_one {N n0 : Nat} {σ : Env} {w : World} {dst : Option Tmp} {ty : TypeId} {pos : String} {af : Array Edge} {g : Option (Nat × Bool)} {x : Operand} {t : Re} {vs : List Value} {Z L : Nat → Prop} (hx : ev σ x = .agg vs.toArray) (h2 : Tree Z w t vs L) (h3 : ∀ x, Z x → ¬ L x) (h4 : ∀ x, Z x ∨ L x → n0 ≤ x ∧ x < w.heap.size) :
    DoesT none1 Try.prog N ⟨dst, .buildSlice 23 1 #[(0, x)], ty, pos, af, g⟩ (copyG n0 t) σ w := by
  have h2' := h2
  obtain ⟨sa, sc, aa, ac, rfl, _⟩ := h2.form
  have hn := New.mk' w #[.int .i64 t.kind, .slice sa t.set.length sc, .slice aa t.args.length ac, .int .i64 t.mn, .int .i64 t.mx, .bool t.neg] TRe
  refine DoesT_val (run_buildSlice (parts := [(0, x)]) (ps := [(0, .agg #[.int .i64 t.kind, .slice sa t.set.length sc, .slice aa t.args.length ac, .int .i64 t.mn, .int .i64 t.mx, .bool t.neg])]) (by simp only [List.map, hx]) Try.underlying23 siz25 zer25 (by decide) (by decide) (by kernel_rfl)) hn.ext ?_
  exact ⟨_, _, Z, L, rfl, hn.blk, Tree.ext hn.ext t h2', h3, fun x hx => ⟨(h4 x hx).1, Nat.lt_of_lt_of_le (h4 x hx).2 hn.ext.size⟩⟩
theorem copy_step {w1 w2 w3 : World} {base n1 b3 : Nat} {v v' : Value} {x : Re} {vs : List Value} {ts : List Re} {rows : List (List Value)} {Z L Z1 L1 : Nat → Prop}
    (hTs : Trees Z w1 ts rows L) (hT : Tree Z1 w1 x vs L1) (hd1 : ∀ y, Z y → ¬ L y) (hd2 : ∀ y, Z y ∨ L y → base ≤ y ∧ y < n1) (hd3 : ∀ q, v.ownBlock = some q → (¬ Z q ∧ ¬ L q) ∧ (base ≤ q ∧ q < n1)) (he1 : ∀ y, Z1 y → ¬ L1 y) (he2 : ∀ y, Z1 y ∨ L1 y → n1 ≤ y ∧ y < w1.heap.size)
    (C : Chg (fun y => v.ownBlock = some y) w1 w2) (hD : ∀ q, v'.ownBlock = some q → v.ownBlock = some q ∨ w1.heap.size ≤ q) (C3 : Chg (fun y => y = b3) w2 w3) (hb3 : b3 < base) (hbn : base ≤ n1) (hnw : n1 ≤ w1.heap.size) :
    Trees (fun y => Z y ∨ Z1 y) w3 (ts ++ [x]) (rows ++ [vs]) (fun y => L y ∨ L1 y) ∧ (∀ y, (Z y ∨ Z1 y) → ¬ (L y ∨ L1 y)) ∧ (∀ y, (Z y ∨ Z1 y) ∨ (L y ∨ L1 y) → base ≤ y ∧ y < w3.heap.size) ∧ (∀ q, v'.ownBlock = some q → ¬ (Z q ∨ Z1 q) ∧ ¬ (L q ∨ L1 q)) := by
  have hs2 := C.size
  have hs3 := C3.size
  have kz : ∀ y, Z y → ¬ v.ownBlock = some y := fun y hy h => (hd3 y h).1.1 hy
  have kl : ∀ y, L y → ¬ v.ownBlock = some y := fun y hy h => (hd3 y h).1.2 hy
  have kz1 : ∀ y, Z1 y → ¬ v.ownBlock = some y := fun y hy h => by have := (hd3 y h).2; have := he2 y (.inl hy); omega
  have kl1 : ∀ y, L1 y → ¬ v.ownBlock = some y := fun y hy h => by have := (hd3 y h).2; have := he2 y (.inr hy); omega
  have mz : ∀ y, Z y → ¬ y = b3 := fun y hy h => by have := hd2 y (.inl hy); omega
  have ml : ∀ y, L y → ¬ y = b3 := fun y hy h => by have := hd2 y (.inr hy); omega
  have mz1 : ∀ y, Z1 y → ¬ y = b3 := fun y hy h => by have := he2 y (.inl hy); omega
  have ml1 : ∀ y, L1 y → ¬ y = b3 := fun y hy h => by have := he2 y (.inr hy); omega
  have h1 := Trees.chg C3 mz ts ml (Trees.chg C kz ts kl hTs)
  have h2 := Tree.chg C3 mz1 x ml1 (Tree.chg C kz1 x kl1 hT)
  refine ⟨Trees.snoc (Tree.mono (fun _ h => .inr h) x (fun _ h => h) h2) (Trees.mono (fun _ h => .inl h) ts (fun _ h => h) h1) (fun y a b => by have := hd2 y (.inr a); have := he2 y (.inr b); omega), ?_, ?_, ?_⟩
  · rintro y (a | a) (b | b)
    · exact hd1 y a b
    · have := hd2 y (.inl a); have := he2 y (.inr b); omega
    · have := hd2 y (.inr b); have := he2 y (.inl a); omega
    · exact he1 y a b
  · rintro y ((a | a) | (a | a))
    · have := hd2 y (.inl a); omega
    · have := he2 y (.inl a); omega
    · have := hd2 y (.inr a); omega
    · have := he2 y (.inr a); omega
  · intro q hq
    rcases hD q hq with h | h
    · refine ⟨?_, ?_⟩
      · rintro (a | a); exact kz q a h; exact kz1 q a h
      · rintro (a | a); exact kl q a h; exact kl1 q a h
    · refine ⟨?_, ?_⟩
      · rintro (a | a); have := hd2 q (.inl a); omega; have := he2 q (.inl a); omega
      · rintro (a | a); have := hd2 q (.inr a); omega; have := he2 q (.inr a); omega
theorem copy_done {w : World} {base n0 sc lc : Nat} {t : Re} {sa la : Option Addr} {rows : List (List Value)} {Z L Z0 : Nat → Prop} (hown : w.ownsRow base TRe 6 (.slice la t.args.length lc) t.args.length rows.flatten) (hTs : Trees Z w t.args rows L)
    (hset : SlIn Z0 w 2 (.slice sa t.set.length sc) (t.set.map spanV)) (hd1 : ∀ x, Z x → ¬ L x) (hd2 : ∀ x, Z x ∨ L x → base ≤ x ∧ x < w.heap.size) (hd3 : ∀ q, (Value.slice la t.args.length lc).ownBlock = some q → ¬ Z q ∧ ¬ L q) (hz0 : ∀ x, Z0 x → n0 ≤ x ∧ x < base) (hn0 : n0 ≤ base) (hbs : base ≤ w.heap.size) :
    copyF n0 t (.agg #[.int .i64 t.kind, .slice sa t.set.length sc, .slice la t.args.length lc, .int .i64 t.mn, .int .i64 t.mx, .bool t.neg]) w := by
  refine ⟨[.int .i64 t.kind, .slice sa t.set.length sc, .slice la t.args.length lc, .int .i64 t.mn, .int .i64 t.mx, .bool t.neg], fun x => Z x ∨ Z0 x, fun x => L x ∨ (Value.slice la t.args.length lc).ownBlock = some x, rfl, ?_, ?_, ?_⟩
  · have hlt := hown.lt
    cases t with
    | mk k set args mn mx ng =>
    simp only [Re.kind, Re.set, Re.args, Re.mn, Re.mx, Re.neg] at *
    simp only [Tree]
    refine ⟨sa, sc, la, lc, rfl, hset.mono fun _ h => .inr h, ?_, ?_⟩
    · rcases hown.2 with ⟨h1, h2⟩ | ⟨q, cap, cur, h1, h2, h3, h4, h5, h6, h7⟩
      · simp at h1; omega
      · simp only [Value.slice.injEq] at h1
        obtain ⟨_, _, rfl⟩ := h1
        simp only [maxLen] at h5
        exact ⟨h4, by omega⟩
    · rcases hown.2 with ⟨h1, h2⟩ | ⟨q, cap, cur, h1, h2, h3, h4, h5, h6, h7⟩
      · exact .inl (List.eq_nil_of_length_eq_zero h2)
      · simp only [Value.slice.injEq] at h1
        obtain ⟨rfl, _, rfl⟩ := h1
        refine .inr ⟨q, rows, cur.toList.drop (args.length * 6), L, .inr rfl, rfl, ?_, Trees.six hTs, Trees.mono (fun _ h => .inl h) args (fun _ h => h) hTs, fun x hx => ⟨.inl hx, fun h => ?_⟩⟩
        · have : (rows.flatten ++ cur.toList.drop (args.length * 6)).toArray = cur := by rw [← h7, List.take_append_drop]
          rw [this]; exact h3
        · subst h; exact (hd3 x rfl).2 hx
  · rintro x (a | a) (b | b)
    · exact hd1 x a b
    · exact (hd3 x b).1 a
    · have := hz0 x a; have := hd2 x (.inr b); omega
    · have := hz0 x a; have := hown.lt x b; omega
  · rintro x ((a | a) | (a | a))
    · have := hd2 x (.inl a); omega
    · have := hz0 x a; omega
    · have := hd2 x (.inr a); omega
    · have := hown.lt x a; omega

theorem copyF_le {n0 n1 : Nat} (h : n1 ≤ n0) {t : Re} {v : Value} {w : World} (hc : copyF n0 t v w) : copyF n1 t v w := by
  obtain ⟨vs, Z, L, h1, h2, h3, h4⟩ := hc
  exact ⟨vs, Z, L, h1, h2, h3, fun x hx => ⟨Nat.le_trans h (h4 x hx).1, (h4 x hx).2⟩⟩
theorem copyF_chg {n0 b : Nat} {t : Re} {v : Value} {w w' : World} (c : Chg (fun y => y = b) w w') (hb : b < n0) (hc : copyF n0 t v w) : copyF n0 t v w' := by
  obtain ⟨vs, Z, L, h1, h2, h3, h4⟩ := hc
  exact ⟨vs, Z, L, h1, Tree.chg c (fun x hx h => by have := h4 x (.inl hx); omega) t (fun x hx h => by have := h4 x (.inr hx); omega) h2, h3, fun x hx => ⟨(h4 x hx).1, Nat.lt_of_lt_of_le (h4 x hx).2 c.size⟩⟩
set_option maxHeartbeats 2000000 in
theorem copy_c : ∀ (n : Nat) (t : Re) (w0 : World) (vs : List Value), t.size ≤ n → t.size ≤ 1000000 → setsOk t → ReAt w0 t vs →
    Ret Try.prog 11 #[.agg vs.toArray] w0 fun v w => copyF w0.heap.size t v w ∧ Ext w0 w := by
  intro n
  induction n with
  | zero => intro t w0 vs hn; have := t.size_pos; omega
  | succ n ih =>
  intro t w0 vs hn hM hso ht
  have ht0 := ht
  obtain ⟨sa, sc, aa, ac, rfl, hts, hac, _⟩ := ht.form
  have hal : t.args.length ≤ t.size := by
    have h1 := t.size_eq
    have : ∀ ts : List Re, ts.length ≤ Re.sizes ts := by
      intro ts
      induction ts with
      | nil => simp
      | cons x xs ih => have := x.size_pos; simp only [List.length_cons, Re.sizes]; omega
    have := this t.args
    omega
  refine Ret_of Try.func11 rfl Try.ntmps11 (Nat.le_of_ble_eq_true rfl) ?_
  have E : Chg none1 w0 w0 := Chg.refl _ _
  refine Wp_seq_region ?_
  refine s_box (v := (.agg #[(.int .i64 t.kind), (.slice sa t.set.length sc), (.slice aa t.args.length ac), (.int .i64 t.mn), (.int .i64 t.mx), (.bool t.neg)])) (c := #[(.int .i64 t.kind), (.slice sa t.set.length sc), (.slice aa t.args.length ac), (.int .i64 t.mn), (.int .i64 t.mx), (.bool t.neg)]) (by decide) rfl rfl ?_
  intro br wr Nr
  have Fr := Nr.ge E
  replace E := E.ext Nr.ext
  have Br := Nr.blk
  refine s_alloc (c := #[(.int .i64 0), (.slice none 0 0), (.slice none 0 0), (.int .i64 0), (.int .i64 0), (.bool false)]) (by decide) zer25 rfl ?_
  intro bp wp Np
  have Fp := Np.ge E
  have Op_br := Np.lt Br
  replace Br := Np.keep Br
  replace E := E.ext Np.ext
  have Bp := Np.blk
  refine WpL_nil ?_
  refine Wp_seq_region ?_
  refine WpL_val rfl rfl (by decide) (r_loadAgg (vs := [(.int .i64 t.kind), (.slice sa t.set.length sc), (.slice aa t.args.length ac), (.int .i64 t.mn), (.int .i64 t.mx), (.bool t.neg)]) rfl agg25 siz25 rfl (Br.cells rfl)) ?_
  refine s_allocStore (v := (.agg #[(.int .i64 t.kind), (.slice sa t.set.length sc), (.slice aa t.args.length ac), (.int .i64 t.mn), (.int .i64 t.mx), (.bool t.neg)])) (c := #[(.int .i64 t.kind), (.slice sa t.set.length sc), (.slice aa t.args.length ac), (.int .i64 t.mn), (.int .i64 t.mx), (.bool t.neg)]) (n := 6) (by decide) zer25 rfl siz25 rfl rfl rfl (by simp [Value.oneCell']) ?_
  intro bq wq Nq
  have Fq := Nq.ge E
  have Oq_br := Nq.lt Br
  have Oq_bp := Nq.lt Bp
  replace Br := Nq.keep Br
  replace Bp := Nq.keep Bp
  replace E := E.ext Nq.ext
  have Bq := Nq.blk
  refine WpL_nil ?_
  refine Wp_seq_region ?_
  refine WpL_val rfl rfl (by decide) (r_fieldAddr (b := br) (o := 0) (o' := 1) rfl Try.underlying25 rfl siz22 rfl) ?_
  refine WpL_val rfl rfl (by decide) (r_load (v := (.slice sa t.set.length sc)) rfl flat22 (Br.cell rfl)) ?_
  obtain ⟨n3, hn3⟩ : ∃ n3, n3 = wq.heap.size := ⟨_, rfl⟩
  have hq3 := Bq.lt
  refine WpL_enter rfl rfl (by decide) (r_callF (vs := [(.slice sa t.set.length sc)]) Try.func23 nm23 bd23 rfl) (clone_c _ _ t.set (SlAt.ext hts E) (setsOk_set hso)) ?_
  rintro _ w9 ⟨sa3, sc3, rfl, hset, X9⟩
  replace Br := X9.keep Br
  replace Bp := X9.keep Bp
  replace Bq := X9.keep Bq
  replace E := E.ext X9
  obtain ⟨base, hbase⟩ : ∃ base, base = w9.heap.size := ⟨_, rfl⟩
  have hs9 := X9.size
  rw [← hbase, ← hn3] at hset
  have hbs : base ≤ w9.heap.size := by omega
  refine WpL_val rfl rfl (by decide) (r_fieldAddr (b := bq) (o := 0) (o' := 1) rfl Try.underlying25 rfl siz22 rfl) ?_
  refine s_store (b := bq) (o := 1) (c' := #[(.int .i64 t.kind), (.slice sa3 t.set.length sc3), (.slice aa t.args.length ac), (.int .i64 t.mn), (.int .i64 t.mx), (.bool t.neg)]) (v := (.slice sa3 t.set.length sc3)) rfl rfl rfl siz22 Bq (by simp) rfl ?_
  intro w1 S1
  replace hbs := Nat.le_trans hbs S1.chg.size
  replace hset := SlIn.chg hset S1.chg (fun x hx hm => by have hx' := hx; have hm' : x = bq := hm; omega)
  replace Br := S1.keep (by omega) Br
  replace Bp := S1.keep (by omega) Bp
  replace E := S1.step E (by first | exact Or.inl (by omega) | exact Or.inr rfl | exact Or.inr (by assumption) | exact Or.inr (by simp) | exact Or.inr (by omega) | exact Or.inr (by dsimp only; omega))
  replace Bq := S1.blk
  refine WpL_val rfl rfl (by decide) (r_fieldAddr (b := bq) (o := 0) (o' := 2) rfl Try.underlying25 rfl siz23 rfl) ?_
  refine s_store (b := bq) (o := 2) (c' := #[(.int .i64 t.kind), (.slice sa3 t.set.length sc3), (.slice none 0 0), (.int .i64 t.mn), (.int .i64 t.mx), (.bool t.neg)]) (v := (.slice none 0 0)) rfl rfl rfl siz23 Bq (by simp) rfl ?_
  intro w2 S2
  replace hbs := Nat.le_trans hbs S2.chg.size
  replace hset := SlIn.chg hset S2.chg (fun x hx hm => by have hx' := hx; have hm' : x = bq := hm; omega)
  replace Br := S2.keep (by omega) Br
  replace Bp := S2.keep (by omega) Bp
  replace E := S2.step E (by first | exact Or.inl (by omega) | exact Or.inr rfl | exact Or.inr (by assumption) | exact Or.inr (by simp) | exact Or.inr (by omega) | exact Or.inr (by dsimp only; omega))
  replace Bq := S2.blk
  refine WpL_nil ?_
  refine Wp_seq ?_
  refine Wp_seq_region ?_
  refine WpL_val rfl rfl (by decide) (r_fieldAddr (b := br) (o := 0) (o' := 2) rfl Try.underlying25 rfl siz23 rfl) ?_
  refine WpL_val rfl rfl (by decide) (r_load (v := (.slice aa t.args.length ac)) rfl flat23 (Br.cell rfl)) ?_
  refine WpL_val rfl rfl (by decide) (r_lenSlice (ad := aa) (n := t.args.length) (cap := ac) Try.underlying23 rfl) ?_
  refine WpL_val rfl rfl (by decide) (r_move (v := (.int .i64 0)) rfl) ?_
  refine WpL_nil ?_
  refine Wp_block ?_
  refine Wp_loop (fun nn_ σ W3 => ∃ (k : Nat) (la : Option Addr) (lc : Nat) (rows : List (List Value)) (Z : Nat → Prop) (L : Nat → Prop), (∃ jj_, σ = upds jj_ [(2, (.pointer (some ⟨bp, 0, none⟩))), (3, (.pointer (some ⟨bq, 0, none⟩))), (13, (.slice aa t.args.length ac)), (14, (.int .i64 ((t.args.length : Nat) : Int))), (15, (.int .i64 ((k : Nat) : Int)))]) ∧ Chg none1 w0 W3 ∧ Blk W3 br #[(.int .i64 t.kind), (.slice sa t.set.length sc), (.slice aa t.args.length ac), (.int .i64 t.mn), (.int .i64 t.mx), (.bool t.neg)] 25 ∧ Blk W3 bp #[(.int .i64 0), (.slice none 0 0), (.slice none 0 0), (.int .i64 0), (.int .i64 0), (.bool false)] 25 ∧ Blk W3 bq (#[(.int .i64 t.kind), (.slice sa3 t.set.length sc3), (.slice la k lc), (.int .i64 t.mn), (.int .i64 t.mx), (.bool t.neg)]) 25 ∧ (k ≤ t.args.length) ∧ (W3.ownsRow base TRe 6 (.slice la k lc) k rows.flatten) ∧ (Trees Z W3 (t.args.take k) rows L) ∧ (∀ x, Z x → ¬ L x) ∧ (∀ x, Z x ∨ L x → base ≤ x ∧ x < W3.heap.size) ∧ (∀ x, (Value.slice la k lc).ownBlock = some x → ¬ Z x ∧ ¬ L x) ∧ (base ≤ W3.heap.size) ∧ (SlIn (fun b => n3 ≤ b ∧ b < base) W3 2 (.slice sa3 t.set.length sc3) (t.set.map spanV)) ∧ nn_ = t.args.length - k) (n := t.args.length - 0) ?_ ?_
  · exact ⟨0, none, 0, [], (fun _ => False), (fun _ => False), Fits.out ⟨rfl, rfl, rfl, rfl, rfl, trivial⟩, E, Br, Bp, Bq, Nat.zero_le _, World.ownsRow_nil _ _ _ _, (by simp only [List.take_zero, Trees]), (fun _ f _ => f), (by rintro x (f | f) <;> exact f.elim), (by simp [Value.ownBlock]), hbs, hset, rfl⟩
  · clear E Br Bp Bq
    rintro _ _ W3 ⟨k, la, lc, rows, Z, L, ⟨j3, rfl⟩, E, Br, Bp, Bq, hk, hown, hTs, hd1, hd2, hd3, hbs, hset, rfl⟩
    refine Wp_seq_region ?_
    refine WpL_val rfl rfl (by decide) (r_lss (k := .i64) (a := ((k : Nat) : Int)) (b := ((t.args.length : Nat) : Int)) rfl rfl) ?_
    refine WpL_nil ?_
    refine Wp_seq ?_
    refine Wp_cond (b := decide ((((k : Nat) : Int) : Int) < ((t.args.length : Nat) : Int))) rfl (fun hlt => ?_) (fun hlt => ?_)
    · have khlt := hlt
      replace hlt := of_decide_eq_true hlt
      obtain ⟨x, hx⟩ := get_of_lt (l := t.args) (i := k) (by omega)
      obtain ⟨b, o, rfl, hcl⟩ := (ReAt.rs ht0).cells (by omega)
      obtain ⟨xs, hcx, hrx⟩ := hcl k x hx
      have hrx0 := hrx
      obtain ⟨xsa, xsc, xaa, xac, rfl, _, _, _⟩ := hrx.form
      obtain ⟨nk, hnk⟩ : ∃ nk, nk = (W3).heap.size := ⟨_, rfl⟩
      have hnkle : nk ≤ (W3).heap.size := by omega
      have hlt3 := hown.lt
      rw [← hnk] at hd2 hlt3
      refine Wp_skip ?_
      refine thn_normal ?_
      refine Wp_seq ?_
      refine Wp_block ?_
      refine Wp_seq_region ?_
      refine WpL_val rfl rfl (by decide) (r_indexSlice (b := b) (o := o) (len := t.args.length) (cap := ac) (i := k) (o' := o + k * 6) rfl rfl rfl Try.underlying23 siz25 (by omega) (by omega)) ?_
      refine WpL_val rfl rfl (by decide) (r_loadAgg (vs := [(.int .i64 x.kind), (.slice xsa x.set.length xsc), (.slice xaa x.args.length xac), (.int .i64 x.mn), (.int .i64 x.mx), (.bool x.neg)]) rfl agg25 siz25 rfl (hcx.ext E)) ?_
      refine s_allocStore (v := (.agg #[(.int .i64 x.kind), (.slice xsa x.set.length xsc), (.slice xaa x.args.length xac), (.int .i64 x.mn), (.int .i64 x.mx), (.bool x.neg)])) (c := #[(.int .i64 x.kind), (.slice xsa x.set.length xsc), (.slice xaa x.args.length xac), (.int .i64 x.mn), (.int .i64 x.mx), (.bool x.neg)]) (n := 6) (by decide) zer25 rfl siz25 rfl rfl rfl (by simp [Value.oneCell']) ?_
      intro bs ws Ns
      have Fs := Ns.ge E
      have Os_br := Ns.lt Br
      have Os_bp := Ns.lt Bp
      have Os_bq := Ns.lt Bq
      replace Br := Ns.keep Br
      replace Bp := Ns.keep Bp
      replace Bq := Ns.keep Bq
      replace hset := SlIn.chg hset Ns.ext (fun _ _ f => f)
      replace hbs := Nat.le_trans hbs Ns.ext.size
      replace hnkle := Nat.le_trans hnkle Ns.ext.size
      replace hown := own_ext hown Ns.ext
      replace hTs := Trees.ext Ns.ext _ hTs
      replace E := E.ext Ns.ext
      have Bs := Ns.blk
      refine WpL_nil ?_
      obtain ⟨n1, hn1⟩ : ∃ n1, n1 = ws.heap.size := ⟨_, rfl⟩
      have hnk1 : nk ≤ n1 := by rw [hn1]; exact hnkle
      have hn1le : n1 ≤ ws.heap.size := by omega
      have hbn1 : base ≤ n1 := by rw [hn1]; exact hbs
      obtain ⟨Fs5, hFs5⟩ : ∃ Fs : List (FactT (none1)), Fs = [.eq (.pointer (some ⟨bq, 2, none⟩)), .eq (.slice la k lc), .eq (.agg #[(.int .i64 x.kind), (.slice xsa x.set.length xsc), (.slice xaa x.args.length xac), (.int .i64 x.mn), (.int .i64 x.mx), (.bool x.neg)]), .gen (copyF n1 x) (copyF_ext n1 x), .gen (copyG n1 x) (copyG_ext n1 x)] := ⟨_, rfl⟩
      refine Wp_dagT (none1) 5 3 [19, 20, 21, 22, 23] [[], [0], [], [2], [3]] Fs5 hFs5 rfl mixed (by kernel_rfl) (by kernel_rfl) (by kernel_rfl) ?_ ?_
      · intro wd X0
        refine DagStepsT.cons (fun s' w' X U H => ?_) ?_
        · exact DoesT_val (r_fieldAddr (b := bq) (o := 0) (o' := 2) (U 3 rfl) Try.underlying25 rfl siz23 rfl) (Chg.refl _ _) rfl
        refine DagStepsT.cons (fun s' w' X U H => ?_) ?_
        · have e19 : s' 19 = (.pointer (some ⟨bq, 2, none⟩)) := H 0 rfl 19 (.eq (.pointer (some ⟨bq, 2, none⟩))) rfl (by rw [hFs5]; rfl)
          exact DoesT_val (r_load (v := (.slice la k lc)) e19 flat23 ((Chg.keep X (fun f => f) (X0.keep Bq)).cell rfl)) (Chg.refl _ _) rfl
        refine DagStepsT.cons (fun s' w' X U H => ?_) ?_
        · exact DoesT_val (r_loadAgg (vs := [(.int .i64 x.kind), (.slice xsa x.set.length xsc), (.slice xaa x.args.length xac), (.int .i64 x.mn), (.int .i64 x.mx), (.bool x.neg)]) (U 5 rfl) agg25 siz25 rfl ((Chg.keep X (fun f => f) (X0.keep Bs)).cells rfl)) (Chg.refl _ _) rfl
        refine DagStepsT.cons (fun s' w' X U H => ?_) ?_
        · have e21 : s' 21 = (.agg #[(.int .i64 x.kind), (.slice xsa x.set.length xsc), (.slice xaa x.args.length xac), (.int .i64 x.mn), (.int .i64 x.mx), (.bool x.neg)]) := H 2 rfl 21 (.eq (.agg #[(.int .i64 x.kind), (.slice xsa x.set.length xsc), (.slice xaa x.args.length xac), (.int .i64 x.mn), (.int .i64 x.mx), (.bool x.neg)])) rfl (by rw [hFs5]; rfl)
          exact DoesT_enter (r_callF (vs := [(.agg #[(.int .i64 x.kind), (.slice xsa x.set.length xsc), (.slice xaa x.args.length xac), (.int .i64 x.mn), (.int .i64 x.mx), (.bool x.neg)])]) Try.func11 nm11 bd11 (lst1 e21)) ((ih x _ _ (by have := Re.size_arg hx; omega) (by have := Re.size_arg hx; omega) (setsOk_arg hso hx) (ReAt.ext ((Ext.trans E X0).trans X) x hrx0)).mono (fun v w2 h => ⟨copyF_le (by have := X0.size; have := X.size; omega) h.1, h.2⟩))
        refine DagStepsT.cons (fun s' w' X U H => ?_) ?_
        · obtain ⟨v22, Z22, L22, e22, T22, D22, R22⟩ := (show (.gen (copyF n1 x) (copyF_ext n1 x) : FactT (none1)).In (s' 22) _ from H 3 rfl 22 (.gen (copyF n1 x) (copyF_ext n1 x)) rfl (by rw [hFs5]; rfl))
          exact (DoesT_one e22 T22 D22 R22)
        exact DagStepsT.nil
      · intro s' wd5 w5 X0 X5 U H
        have e19 : s' 19 = (.pointer (some ⟨bq, 2, none⟩)) := H 0 19 (.eq (.pointer (some ⟨bq, 2, none⟩))) rfl (by rw [hFs5]; rfl)
        have e20 : s' 20 = (.slice la k lc) := H 1 20 (.eq (.slice la k lc)) rfl (by rw [hFs5]; rfl)
        have e21 : s' 21 = (.agg #[(.int .i64 x.kind), (.slice xsa x.set.length xsc), (.slice xaa x.args.length xac), (.int .i64 x.mn), (.int .i64 x.mx), (.bool x.neg)]) := H 2 21 (.eq (.agg #[(.int .i64 x.kind), (.slice xsa x.set.length xsc), (.slice xaa x.args.length xac), (.int .i64 x.mn), (.int .i64 x.mx), (.bool x.neg)])) rfl (by rw [hFs5]; rfl)
        obtain ⟨v22, Z22, L22, e22, T22, D22, R22⟩ := (show (.gen (copyF n1 x) (copyF_ext n1 x) : FactT (none1)).In (s' 22) _ from H 3 22 (.gen (copyF n1 x) (copyF_ext n1 x)) rfl (by rw [hFs5]; rfl))
        obtain ⟨b23, v23, Z23, L23, e23, B23, T23, D23, R23⟩ := (show (.gen (copyG n1 x) (copyG_ext n1 x) : FactT (none1)).In (s' 23) _ from H 4 23 (.gen (copyG n1 x) (copyG_ext n1 x)) rfl (by rw [hFs5]; rfl))
        obtain ⟨j5, rfl⟩ := Fits.out (σ := s') (l := [(2, (.pointer (some ⟨bp, 0, none⟩))), (3, (.pointer (some ⟨bq, 0, none⟩))), (5, (.pointer (some ⟨bs, 0, none⟩))), (13, (.slice (some ⟨b, o, none⟩) t.args.length ac)), (14, (.int .i64 ((t.args.length : Nat) : Int))), (15, (.int .i64 ((k : Nat) : Int))), (16, (.bool (decide ((((k : Nat) : Int) : Int) < ((t.args.length : Nat) : Int))))), (17, (.pointer (some ⟨b, o + k * 6, none⟩))), (18, (.agg #[(.int .i64 x.kind), (.slice xsa x.set.length xsc), (.slice xaa x.args.length xac), (.int .i64 x.mn), (.int .i64 x.mx), (.bool x.neg)])), (19, (.pointer (some ⟨bq, 2, none⟩))), (20, (.slice la k lc)), (21, (.agg #[(.int .i64 x.kind), (.slice xsa x.set.length xsc), (.slice xaa x.args.length xac), (.int .i64 x.mn), (.int .i64 x.mx), (.bool x.neg)])), (22, (.agg v22.toArray)), (23, (.slice (some ⟨b23, 0, none⟩) 1 1))]) ⟨U 2 rfl, U 3 rfl, U 5 rfl, U 13 rfl, U 14 rfl, U 15 rfl, U 16 rfl, U 17 rfl, U 18 rfl, e19, e20, e21, e22, e23, trivial⟩
        clear U H
        replace Br := Chg.keep X5 (fun f => f) (X0.keep Br)
        replace Bp := Chg.keep X5 (fun f => f) (X0.keep Bp)
        replace Bq := Chg.keep X5 (fun f => f) (X0.keep Bq)
        replace Bs := Chg.keep X5 (fun f => f) (X0.keep Bs)
        replace hset := SlIn.chg hset X0 (fun _ _ f => f)
        replace hset := SlIn.chg hset X5 (fun _ _ f => f)
        replace hbs := Nat.le_trans hbs X0.size
        replace hbs := Nat.le_trans hbs X5.size
        replace hnkle := Nat.le_trans hnkle X0.size
        replace hnkle := Nat.le_trans hnkle X5.size
        replace hown := own_ext hown X0
        replace hown := own_ext hown X5
        replace hTs := Trees.ext X0 _ hTs
        replace hTs := Trees.ext X5 _ hTs
        replace hn1le := Nat.le_trans hn1le X0.size
        replace hn1le := Nat.le_trans hn1le X5.size
        replace E := (E.ext X0).step X5 (fun _ _ f => f.elim)
        refine s_append (base := base) (n := k) (m := 1) (xs := rows.flatten) (news := v23) (size := 6) (bytes := 80) (v := (.slice la k lc)) (by decide) Try.underlying23 siz25 byt25 zer25 rfl (by decide) rfl hown rfl (by rw [T23.len]) (B23.cells (by simp)) (T23.one) (by unfold maxLen; omega) (by omega) (hbs) ?_
        intro v9 w29 Ov9 Cv9 Dv9
        replace Br := Cv9.keep (fun h => by have := (hown.lt _ h).1; omega) Br
        replace Bp := Cv9.keep (fun h => by have := (hown.lt _ h).1; omega) Bp
        replace Bq := Cv9.keep (fun h => by have := (hown.lt _ h).1; omega) Bq
        replace E := E.step Cv9 (fun x hx h => absurd (hown.lt x h).1 (by omega))
        obtain ⟨la2, lc2, rfl⟩ := own_form Ov9
        have hC3 : Chg (fun y => y = bq) w29 w29 := Chg.refl _ _
        replace hset := SlIn.chg hset Cv9 (fun y hy hm => by have := (hown.lt y hm).1; have hy' := hy; omega)
        replace hbs := Nat.le_trans hbs Cv9.size
        refine WpL_val rfl rfl (by decide) (r_fieldAddr (b := bq) (o := 0) (o' := 2) rfl Try.underlying25 rfl siz23 rfl) ?_
        refine s_store (b := bq) (o := 2) (c' := #[(.int .i64 t.kind), (.slice sa3 t.set.length sc3), (.slice la2 (k + 1) lc2), (.int .i64 t.mn), (.int .i64 t.mx), (.bool t.neg)]) (v := (.slice la2 (k + 1) lc2)) rfl rfl rfl siz23 Bq (by simp) rfl ?_
        intro w6 S6
        replace hbs := Nat.le_trans hbs S6.chg.size
        replace hset := SlIn.chg hset S6.chg (fun x hx hm => by have hx' := hx; have hm' : x = bq := hm; omega)
        replace hC3 := S6.chg
        replace Br := S6.keep (by omega) Br
        replace Bp := S6.keep (by omega) Bp
        replace E := S6.step E (by first | exact Or.inl (by omega) | exact Or.inr rfl | exact Or.inr (by assumption) | exact Or.inr (by simp) | exact Or.inr (by omega) | exact Or.inr (by dsimp only; omega))
        replace Bq := S6.blk
        refine WpL_nil ?_
        refine inB_normal ?_
        refine thn_normal ?_
        refine Wp_region ?_
        refine WpL_val rfl rfl (by decide) (r_add (k := .i64) (a := ((k : Nat) : Int)) (b := 1) (c := ((k : Nat) : Int) + 1) rfl rfl (wI64 (by omega))) ?_
        refine WpL_val rfl rfl (by decide) (r_move (v := (.int .i64 (((k : Nat) : Int) + 1))) rfl) ?_
        refine WpL_nil ?_
        refine thn_normal ?_
        have hstep := copy_step (base := base) (n1 := n1) (b3 := bq) hTs T23 hd1 (fun y hy => by have := hd2 y hy; omega) (fun q hq => ⟨hd3 q hq, by have := hlt3 q hq; omega⟩) D23 R23 Cv9 Dv9 hC3 (by omega) hbn1 hn1le
        exact ⟨t.args.length - (k + 1), by omega, k + 1, la2, lc2, rows ++ [v23], (fun y => Z y ∨ Z23 y), (fun y => L y ∨ L23 y), Fits.out ⟨rfl, rfl, rfl, rfl, rfl, trivial⟩, E, Br, Bp, Bq, (by omega), (by have h := own_chg Ov9 hC3 (fun q hq hm => by have := (Ov9.lt q hq).1; have hm' : q = bq := hm; omega); simpa using h), (by rw [List.take_add_one, hx]; exact hstep.1), hstep.2.1, hstep.2.2.1, hstep.2.2.2, hbs, hset, rfl⟩
    · have khlt := hlt
      replace hlt := of_decide_eq_false hlt
      have hkk : k = t.args.length := by omega
      subst hkk
      rw [List.take_length] at hTs
      have hcf := copy_done (n0 := n3) hown hTs hset hd1 hd2 hd3 (fun x h => h) (by omega) hbs
      refine Wp_exit ?_
      refine thn_exit ?_
      refine thn_exit ?_
      refine inB_here ?_
      refine thn_normal ?_
      refine Wp_seq_region ?_
      refine WpL_val rfl rfl (by decide) (r_loadAgg (vs := [(.int .i64 t.kind), (.slice sa3 t.set.length sc3), (.slice la t.args.length lc), (.int .i64 t.mn), (.int .i64 t.mx), (.bool t.neg)]) rfl agg25 siz25 rfl (Bq.cells rfl)) ?_
      refine s_storeAgg (b := bp) (o := 0) (c' := #[(.int .i64 t.kind), (.slice sa3 t.set.length sc3), (.slice la t.args.length lc), (.int .i64 t.mn), (.int .i64 t.mx), (.bool t.neg)]) rfl rfl (by simp [Value.oneCell']) siz25 rfl Bp (by simp) rfl ?_
      intro w7 S7
      replace hcf := copyF_chg S7.chg (by omega) hcf
      replace Br := S7.keep (by omega) Br
      replace Bq := S7.keep (by omega) Bq
      replace E := S7.step E (by first | exact Or.inl (by omega) | exact Or.inr rfl | exact Or.inr (by assumption) | exact Or.inr (by simp) | exact Or.inr (by omega) | exact Or.inr (by dsimp only; omega))
      replace Bp := S7.blk
      refine WpL_nil ?_
      refine Wp_ret ?_
      refine fin_agg Try.results11 (vs := [(.int .i64 t.kind), (.slice sa3 t.set.length sc3), (.slice la t.args.length lc), (.int .i64 t.mn), (.int .i64 t.mx), (.bool t.neg)]) (b := bp) rfl agg25 siz25 rfl (Bp.cells rfl) ?_
      exact ⟨copyF_le (by omega) hcf, E⟩
end Go.Proofs
