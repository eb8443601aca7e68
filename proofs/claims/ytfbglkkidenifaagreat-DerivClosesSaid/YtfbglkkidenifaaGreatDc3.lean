/- Contracts and plain lemmas, part 3. -/
import Derived.Tactics
import Derived.Deep.Quiet
import Derived.Laws.AppendOwn
import Derived.KernelRfl
import Derived.Laws.Entries
import Derived.Laws.Build
import Derived.Below
import Derived.RowKit3
import Derived.StillTail
import Derived.Sort.Grow
import Derived.Deep.Draws
import Derived.Test.YtfbglkkidenifaaGreatChecked
import Derived.Laws.StructEq
import Derived.Shelf.SlSortCmp.WholeK
import Derived.Shelf.Sort.Plain
import Derived.Shelf.Slices.CompactI
import Derived.Test.YtfbglkkidenifaaGreatProg
import Derived.MapKept
import Derived.Laws.BytesArg
import Derived.Test.YtfbglkkidenifaaGreatDc2
namespace Go.Proofs
open Go Go.Eng
set_option maxRecDepth 100000
set_option maxHeartbeats 400000 in
theorem clone_c (w0 : World) (v : Value) (l : List (Int × Int)) (h : SpansAt w0 v l) (hl : l.length ≤ 2000000) :
  Ret Tryz.prog 114 #[v] w0 fun r w => ∃ a c, r = .slice a l.length c ∧ SlIn (fun b => w0.heap.size ≤ b ∧ b < w.heap.size) w 2 r (l.map spanV) ∧ Ext w0 w := by
 obtain ⟨a, c, rfl⟩ := SlAt.form h
 simp only [List.length_map] at h ⊢
 obtain ⟨base, hbase⟩ : ∃ base, base = w0.heap.size := ⟨_, rfl⟩
 refine Ret_of Tryz.func114 rfl Tryz.ntmps114 (Nat.le_of_ble_eq_true rfl) ?_
 have E : Chg none1 w0 w0 := Chg.refl _ _
 refine Wp_seq_region ?_
 refine qA (.slice none 0 0) rfl ?_
 refine WpL_nil (Wp_seq (Wp_seq_region ?_))
 refine qM (.slice a l.length c) rfl ?_
 refine WpL_val (v := (.bool a.isNone)) rfl rfl (by decide) (r_eqlNil Tryz.underlying22 rfl rfl) ?_
 refine WpL_nil ?_
 refine Wp_cond (b := a.isNone) rfl (fun hn => ?_) (fun hn => ?_)
 ·have khn := hn
  have hl0 : l.length = 0 := by rcases Nat.eq_zero_or_pos l.length with h0 | h0; exact h0; obtain ⟨b, o, rfl, _⟩ := spans_cells h h0; simp at hn
  have hl1 : l = [] := List.eq_nil_of_length_eq_zero hl0
  refine Wp_seq_region ?_
  refine qA (.slice none 0 0) rfl ?_
  refine WpL_nil (Wp_ret (thn_ret ?_))
  refine fin_tmp Tryz.results114 (v := (.slice none 0 0)) rfl ?_
  exact ⟨none, 0, by rw [hl0], by subst hl1; exact SlIn.nil _ _ _ _ _, E⟩
 ·have khn := hn
  rcases Bool.eq_false_or_eq_true (decide (l.length = 0)) with hz | hz
  ·have khz := hz
   replace khz := of_decide_eq_true khz
   refine Wp_skip (thn_normal (Wp_seq_region ?_))
   refine s_build0 (by decide) Tryz.underlying22 siz103 ?_
   intro bq wq Nq
   have Fq := Nq.ge E
   replace E := E.ext Nq.ext
   have Bq := Nq.blk
   refine qM (.slice a l.length c) rfl ?_
   refine qV (r_append0 Tryz.underlying22 siz103 (a' := a) (c' := c) rfl (Nat.le_refl _) (by show Value.slice a l.length c = _; rw [khz])) ?_
   refine qA (.slice (some ⟨bq, 0, none⟩) 0 0) rfl ?_
   refine WpL_nil (Wp_ret ?_)
   refine fin_tmp Tryz.results114 (v := (.slice (some ⟨bq, 0, none⟩) 0 0)) rfl ?_
   have hl1 : l = [] := List.eq_nil_of_length_eq_zero khz
   exact ⟨some ⟨bq, 0, none⟩, 0, by rw [khz], by subst hl1; exact SlIn.nil _ _ _ _ _, E⟩
  ·have khz := hz
   replace khz := of_decide_eq_false khz
   obtain ⟨b, o, rfl, hcl⟩ := spans_cells h (by omega)
   refine Wp_skip (thn_normal (Wp_seq_region ?_))
   refine s_build0 (by decide) Tryz.underlying22 siz103 ?_
   intro bq wq Nq
   have Fq := Nq.ge E
   replace E := E.ext Nq.ext
   have Bq := Nq.blk
   refine qM (.slice (some ⟨b, o, none⟩) l.length c) rfl ?_
   have hown := own_empty (base := base) (size := 2) Bq (by omega)
   have hbs : base ≤ wq.heap.size := by have := Nq.ext.size; omega
   refine s_append (base := base) (n := 0) (m := l.length) (xs := []) (news := (l.map spanV).flatten) (size := 2) (bytes := 16) (v := (.slice (some ⟨bq, 0, none⟩) 0 0)) (by decide) Tryz.underlying22 siz103 byt103 zer103 rfl (by decide) rfl hown rfl (spans_six l) ((spans_flat hcl).ext Nq.ext) (spans_one l) (by unfold maxLen; omega) (by omega) (hbs) ?_
   intro v9 w29 Ov9 Cv9 Dv9
   replace E := E.step Cv9 (fun x hx h => absurd (hown.lt x h).1 (by omega))
   obtain ⟨la, lc, rfl⟩ := own_form Ov9
   refine qA (.slice la (0 + l.length) lc) rfl ?_
   refine WpL_nil (Wp_ret ?_)
   refine fin_tmp Tryz.results114 (v := (.slice la (0 + l.length) lc)) rfl ?_
   simp only [Nat.zero_add, List.nil_append] at Ov9
   have hsl := own_slat Ov9 (by intro r hr; simp only [List.mem_map] at hr; obtain ⟨p, _, rfl⟩ := hr; rfl) (by simp) (by decide)
   obtain ⟨gq, rfl, hgq, _⟩ := own_cells Ov9 (by omega)
   simp only [Nat.zero_add]
   exact ⟨some ⟨gq, 0, none⟩, lc, rfl, SlIn.mk hsl ⟨by omega, (Ov9.lt gq rfl).2⟩, E⟩
mutual
def setsOk : Re → Prop
  | .mk _ set args _ _ _ => set.length ≤ 2000000 ∧ setsOks args
def setsOks : List Re → Prop
  | [] => True
  | t :: ts => setsOk t ∧ setsOks ts
end
theorem setsOk_set {t : Re} (h : setsOk t) : t.set.length ≤ 2000000 := by cases t; simp only [setsOk] at h; exact h.1
theorem setsOk_arg {t : Re} (h : setsOk t) {i : Nat} {x : Re} (hx : t.args[i]? = some x) : setsOk x := by
  cases t with
  | mk k set args mn mx ng =>
  simp only [setsOk] at h
  replace h := h.2
  simp only [Re.args] at hx
  induction args generalizing i with
  | nil => simp at hx
  | cons u us ih =>
    simp only [setsOks] at h
    cases i with
    | zero => simp at hx; subst hx; exact h.1
    | succ i => simp at hx; exact ih hx h.2
def copyF (n0 : Nat) (t : Re) : Fct := fun v w => ∃ vs Z L, v = .agg vs.toArray ∧ Tree Z w t vs L ∧ (∀ x, Z x → ¬ L x) ∧ (∀ x, Z x ∨ L x → n0 ≤ x ∧ x < w.heap.size)
theorem copyF_ext (n0 : Nat) (t : Re) : ∀ v w w', Chg none1 w w' → copyF n0 t v w → copyF n0 t v w' := by
 rintro v w w' e ⟨vs, Z, L, h1, h2, h3, h4⟩
 exact ⟨vs, Z, L, h1, Tree.ext e t h2, h3, fun x hx => ⟨(h4 x hx).1, Nat.lt_of_lt_of_le (h4 x hx).2 e.size⟩⟩
def copyG (n0 : Nat) (t : Re) : Fct := fun v w => ∃ b vs Z L, v = .slice (some ⟨b, 0, none⟩) 1 1 ∧ Blk w b vs.toArray TRe ∧ Tree Z w t vs L ∧ (∀ x, Z x → ¬ L x) ∧ (∀ x, Z x ∨ L x → n0 ≤ x ∧ x < w.heap.size)
theorem copyG_ext (n0 : Nat) (t : Re) : ∀ v w w', Chg none1 w w' → copyG n0 t v w → copyG n0 t v w' := by
 rintro v w w' e ⟨b, vs, Z, L, h0, h1, h2, h3, h4⟩
 exact ⟨b, vs, Z, L, h0, Ext.keep e h1, Tree.ext e t h2, h3, fun x hx => ⟨(h4 x hx).1, Nat.lt_of_lt_of_le (h4 x hx).2 e.size⟩⟩
theorem DoesT_one {N n0 : Nat} {σ : Env} {w : World} {dst : Option Tmp} {ty : TypeId} {pos : String} {af : Array Edge} {g : Option (Nat × Bool)} {x : Operand} {t : Re} {vs : List Value} {Z L : Nat → Prop} (hx : ev σ x = .agg vs.toArray) (h2 : Tree Z w t vs L) (h3 : ∀ x, Z x → ¬ L x) (h4 : ∀ x, Z x ∨ L x → n0 ≤ x ∧ x < w.heap.size) :
  DoesT none1 Tryz.prog N ⟨dst, .buildSlice 23 1 #[(0, x)], ty, pos, af, g⟩ (copyG n0 t) σ w := by
 have h2' := h2
 obtain ⟨sa, sc, aa, ac, rfl, _⟩ := h2.form
 have hn := New.mk' w #[.int .i64 t.kind, .slice sa t.set.length sc, .slice aa t.args.length ac, .int .i64 t.mn, .int .i64 t.mx, .bool t.neg] TRe
 refine DoesT_val (run_buildSlice (parts := [(0, x)]) (ps := [(0, .agg #[.int .i64 t.kind, .slice sa t.set.length sc, .slice aa t.args.length ac, .int .i64 t.mn, .int .i64 t.mx, .bool t.neg])]) (by simp only [List.map, hx]) Tryz.underlying23 siz25 zer25 (by decide) (by decide) (by kernel_rfl)) hn.ext ?_
 exact ⟨_, _, Z, L, rfl, hn.blk, Tree.ext hn.ext t h2', h3, fun x hx => ⟨(h4 x hx).1, Nat.lt_of_lt_of_le (h4 x hx).2 hn.ext.size⟩⟩
theorem copy_step {w1 w2 w3 : World} {base n1 b3 : Nat} {v v' : Value} {x : Re} {vs : List Value} {ts : List Re} {rows : List (List Value)} {Z L Z1 L1 : Nat → Prop}
  (hTs : Trees Z w1 ts rows L) (hT : Tree Z1 w1 x vs L1) (hd1 : ∀ y, Z y → ¬ L y) (hd2 : ∀ y, Z y ∨ L y → base ≤ y ∧ y < n1) (hd3 : ∀ q, v.ownBlock = some q → (¬ Z q ∧ ¬ L q) ∧ (base ≤ q ∧ q < n1)) (he1 : ∀ y, Z1 y → ¬ L1 y) (he2 : ∀ y, Z1 y ∨ L1 y → n1 ≤ y ∧ y < w1.heap.size)
  (C : Chg (fun y => v.ownBlock = some y) w1 w2) (hD : ∀ q, v'.ownBlock = some q → v.ownBlock = some q ∨ w1.heap.size ≤ q) (C3 : Chg (fun y => y = b3) w2 w3) (hb3 : b3 < base) (hbn : base ≤ n1) (hnw : n1 ≤ w1.heap.size) :
  Trees (fun y => Z y ∨ Z1 y) w3 (ts ++ [x]) (rows ++ [vs]) (fun y => L y ∨ L1 y) ∧ (∀ y, (Z y ∨ Z1 y) → ¬ (L y ∨ L1 y)) ∧ (∀ y, (Z y ∨ Z1 y) ∨ (L y ∨ L1 y) → base ≤ y ∧ y < w3.heap.size) ∧ (∀ q, v'.ownBlock = some q → ¬ (Z q ∨ Z1 q) ∧ ¬ (L q ∨ L1 q)) := by
 have hs2 := C.size
 have hs3 := C3.size
 have kz : ∀ y, Z y → ¬ v.ownBlock = some y := fun y hy h => (hd3 y h).1.1 hy
 have kl : ∀ y, L y → ¬ v.ownBlock = some y := fun y hy h => (hd3 y h).1.2 hy
 have kz1 : ∀ y, Z1 y → ¬ v.ownBlock = some y := fun y hy h => by have := (hd3 y h).2; have := he2 y (.inl hy); omega
 have kl1 : ∀ y, L1 y → ¬ v.ownBlock = some y := fun y hy h => by have := (hd3 y h).2; have := he2 y (.inr hy); omega
 have mz : ∀ y, Z y → ¬ y = b3 := fun y hy h => by have := hd2 y (.inl hy); omega
 have ml : ∀ y, L y → ¬ y = b3 := fun y hy h => by have := hd2 y (.inr hy); omega
 have mz1 : ∀ y, Z1 y → ¬ y = b3 := fun y hy h => by have := he2 y (.inl hy); omega
 have ml1 : ∀ y, L1 y → ¬ y = b3 := fun y hy h => by have := he2 y (.inr hy); omega
 have h1 := Trees.chg C3 mz ts ml (Trees.chg C kz ts kl hTs)
 have h2 := Tree.chg C3 mz1 x ml1 (Tree.chg C kz1 x kl1 hT)
 refine ⟨Trees.snoc (Tree.mono (fun _ h => .inr h) x (fun _ h => h) h2) (Trees.mono (fun _ h => .inl h) ts (fun _ h => h) h1) (fun y a b => by have := hd2 y (.inr a); have := he2 y (.inr b); omega), ?_, ?_, ?_⟩
 ·rintro y (a | a) (b | b)
  ·exact hd1 y a b
  ·have := hd2 y (.inl a); have := he2 y (.inr b); omega
  ·have := hd2 y (.inr b); have := he2 y (.inl a); omega
  ·exact he1 y a b
 ·rintro y ((a | a) | (a | a))
  ·have := hd2 y (.inl a); omega
  ·have := he2 y (.inl a); omega
  ·have := hd2 y (.inr a); omega
  ·have := he2 y (.inr a); omega
 ·intro q hq
  rcases hD q hq with h | h
  ·refine ⟨?_, ?_⟩
   ·rintro (a | a); exact kz q a h; exact kz1 q a h
   ·rintro (a | a); exact kl q a h; exact kl1 q a h
  ·refine ⟨?_, ?_⟩
   ·rintro (a | a); have := hd2 q (.inl a); omega; have := he2 q (.inl a); omega
   ·rintro (a | a); have := hd2 q (.inr a); omega; have := he2 q (.inr a); omega
theorem copy_done {w : World} {base n0 sc lc : Nat} {t : Re} {sa la : Option Addr} {rows : List (List Value)} {Z L Z0 : Nat → Prop} (hown : w.ownsRow base TRe 6 (.slice la t.args.length lc) t.args.length rows.flatten) (hTs : Trees Z w t.args rows L)
    (hset : SlIn Z0 w 2 (.slice sa t.set.length sc) (t.set.map spanV)) (hd1 : ∀ x, Z x → ¬ L x) (hd2 : ∀ x, Z x ∨ L x → base ≤ x ∧ x < w.heap.size) (hd3 : ∀ q, (Value.slice la t.args.length lc).ownBlock = some q → ¬ Z q ∧ ¬ L q) (hz0 : ∀ x, Z0 x → n0 ≤ x ∧ x < base) (hn0 : n0 ≤ base) (hbs : base ≤ w.heap.size) :
    copyF n0 t (.agg #[.int .i64 t.kind, .slice sa t.set.length sc, .slice la t.args.length lc, .int .i64 t.mn, .int .i64 t.mx, .bool t.neg]) w := by
  refine ⟨[.int .i64 t.kind, .slice sa t.set.length sc, .slice la t.args.length lc, .int .i64 t.mn, .int .i64 t.mx, .bool t.neg], fun x => Z x ∨ Z0 x, fun x => L x ∨ (Value.slice la t.args.length lc).ownBlock = some x, rfl, ?_, ?_, ?_⟩
  · have hlt := hown.lt
    cases t with
    | mk k set args mn mx ng =>
    simp only [Re.kind, Re.set, Re.args, Re.mn, Re.mx, Re.neg] at *
    simp only [Tree]
    refine ⟨sa, sc, la, lc, rfl, hset.mono fun _ h => .inr h, ?_, ?_⟩
    · rcases hown.2 with ⟨h1, h2⟩ | ⟨q, cap, cur, h1, h2, h3, h4, h5, h6, h7⟩
      · simp at h1; omega
      · simp only [Value.slice.injEq] at h1
        obtain ⟨_, _, rfl⟩ := h1
        simp only [maxLen] at h5
        exact ⟨h4, by omega⟩
    · rcases hown.2 with ⟨h1, h2⟩ | ⟨q, cap, cur, h1, h2, h3, h4, h5, h6, h7⟩
      · exact .inl (List.eq_nil_of_length_eq_zero h2)
      · simp only [Value.slice.injEq] at h1
        obtain ⟨rfl, _, rfl⟩ := h1
        refine .inr ⟨q, rows, cur.toList.drop (args.length * 6), L, .inr rfl, rfl, ?_, Trees.six hTs, Trees.mono (fun _ h => .inl h) args (fun _ h => h) hTs, fun x hx => ⟨.inl hx, fun h => ?_⟩⟩
        · have : (rows.flatten ++ cur.toList.drop (args.length * 6)).toArray = cur := by rw [← h7, List.take_append_drop]
          rw [this]; exact h3
        · subst h; exact (hd3 x rfl).2 hx
  · rintro x (a | a) (b | b)
    · exact hd1 x a b
    · exact (hd3 x b).1 a
    · have := hz0 x a; have := hd2 x (.inr b); omega
    · have := hz0 x a; have := hown.lt x b; omega
  · rintro x ((a | a) | (a | a))
    · have := hd2 x (.inl a); omega
    · have := hz0 x a; omega
    · have := hd2 x (.inr a); omega
    · have := hown.lt x a; omega
theorem copyF_le {n0 n1 : Nat} (h : n1 ≤ n0) {t : Re} {v : Value} {w : World} (hc : copyF n0 t v w) : copyF n1 t v w := by
 obtain ⟨vs, Z, L, h1, h2, h3, h4⟩ := hc
 exact ⟨vs, Z, L, h1, h2, h3, fun x hx => ⟨Nat.le_trans h (h4 x hx).1, (h4 x hx).2⟩⟩
theorem copyF_chg {n0 b : Nat} {t : Re} {v : Value} {w w' : World} (c : Chg (fun y => y = b) w w') (hb : b < n0) (hc : copyF n0 t v w) : copyF n0 t v w' := by
 obtain ⟨vs, Z, L, h1, h2, h3, h4⟩ := hc
 exact ⟨vs, Z, L, h1, Tree.chg c (fun x hx h => by have := h4 x (.inl hx); omega) t (fun x hx h => by have := h4 x (.inr hx); omega) h2, h3, fun x hx => ⟨(h4 x hx).1, Nat.lt_of_lt_of_le (h4 x hx).2 c.size⟩⟩
set_option maxHeartbeats 2000000 in
theorem copy_c : ∀ (n : Nat) (t : Re) (w0 : World) (vs : List Value), t.size ≤ n → t.size ≤ 1000000 → setsOk t → ReAt w0 t vs →
    Ret Tryz.prog 57 #[.agg vs.toArray] w0 fun v w => copyF w0.heap.size t v w ∧ Ext w0 w := by
  intro n
  induction n with
  | zero => intro t w0 vs hn; have := t.size_pos; omega
  | succ n ih =>
  intro t w0 vs hn hM hso ht
  have ht0 := ht
  obtain ⟨sa, sc, aa, ac, rfl, hts, hac, _⟩ := ht.form
  have hal : t.args.length ≤ t.size := by
    have h1 := t.size_eq
    have : ∀ ts : List Re, ts.length ≤ Re.sizes ts := by
      intro ts
      induction ts with
      | nil => simp
      | cons x xs ih => have := x.size_pos; simp only [List.length_cons, Re.sizes]; omega
    have := this t.args
    omega
  refine Ret_of Tryz.func57 rfl Tryz.ntmps57 (Nat.le_of_ble_eq_true rfl) ?_
  have E : Chg none1 w0 w0 := Chg.refl _ _
  refine Wp_seq_region ?_
  refine s_box (v := (.agg (R6 t sa sc aa ac))) (c := (R6 t sa sc aa ac)) (by decide) rfl rfl ?_
  intro br wr Nr
  have Fr := Nr.ge E
  replace E := E.ext Nr.ext
  have Br := Nr.blk
  refine s_alloc (c := #[(I6 0), (.slice none 0 0), (.slice none 0 0), (I6 0), (I6 0), (.bool false)]) (by decide) zer25 rfl ?_
  intro bp wp Np
  have Fp := Np.ge E
  have Op_br := Np.lt Br
  replace Br := Np.keep Br
  replace E := E.ext Np.ext
  have Bp := Np.blk
  refine WpL_nil (Wp_seq_region ?_)
  refine qV (r_loadAgg (vs := [(I6 t.kind), (.slice sa t.set.length sc), (.slice aa t.args.length ac), (I6 t.mn), (I6 t.mx), (.bool t.neg)]) rfl agg25 siz25 rfl (Br.cells rfl)) ?_
  refine s_allocStore (v := (.agg (R6 t sa sc aa ac))) (c := (R6 t sa sc aa ac)) (n := 6) (by decide) zer25 rfl siz25 rfl rfl rfl (by simp [Value.oneCell']) ?_
  intro bq wq Nq
  have Fq := Nq.ge E
  have Oq_br := Nq.lt Br
  have Oq_bp := Nq.lt Bp
  replace Br := Nq.keep Br
  replace Bp := Nq.keep Bp
  replace E := E.ext Nq.ext
  have Bq := Nq.blk
  refine WpL_nil (Wp_seq_region ?_)
  refine qF br 0 1 rfl Tryz.underlying25 rfl siz22 rfl ?_
  refine qV (r_load (v := (.slice sa t.set.length sc)) rfl flat22 (Br.cell rfl)) ?_
  obtain ⟨n3, hn3⟩ : ∃ n3, n3 = wq.heap.size := ⟨_, rfl⟩
  have hq3 := Bq.lt
  refine WpL_enter rfl rfl (by decide) (r_callF (vs := [(.slice sa t.set.length sc)]) Tryz.func114 nm114 bd114 rfl) (clone_c _ _ t.set (SlAt.ext hts E) (setsOk_set hso)) ?_
  rintro _ w9 ⟨sa3, sc3, rfl, hset, X9⟩
  replace Br := X9.keep Br
  replace Bp := X9.keep Bp
  replace Bq := X9.keep Bq
  replace E := E.ext X9
  obtain ⟨base, hbase⟩ : ∃ base, base = w9.heap.size := ⟨_, rfl⟩
  have hs9 := X9.size
  rw [← hbase, ← hn3] at hset
  have hbs : base ≤ w9.heap.size := by omega
  refine qF bq 0 1 rfl Tryz.underlying25 rfl siz22 rfl ?_
  refine s_store (b := bq) (o := 1) (c' := (R6 t sa3 sc3 aa ac)) (v := (.slice sa3 t.set.length sc3)) rfl rfl rfl siz22 Bq (by simp) rfl ?_
  intro w1 S1
  replace hbs := Nat.le_trans hbs S1.chg.size
  replace hset := SlIn.chg hset S1.chg (fun x hx hm => by have hx' := hx; have hm' : x = bq := hm; omega)
  replace Br := S1.keep (by omega) Br
  replace Bp := S1.keep (by omega) Bp
  replace E := S1.step E (by first | exact Or.inl (by omega) | exact Or.inr rfl | exact Or.inr (by assumption) | exact Or.inr (by simp) | exact Or.inr (by omega) | exact Or.inr (by dsimp only; omega))
  replace Bq := S1.blk
  refine qF bq 0 2 rfl Tryz.underlying25 rfl siz23 rfl ?_
  refine s_store (b := bq) (o := 2) (c' := #[(I6 t.kind), (.slice sa3 t.set.length sc3), (.slice none 0 0), (I6 t.mn), (I6 t.mx), (.bool t.neg)]) (v := (.slice none 0 0)) rfl rfl rfl siz23 Bq (by simp) rfl ?_
  intro w2 S2
  replace hbs := Nat.le_trans hbs S2.chg.size
  replace hset := SlIn.chg hset S2.chg (fun x hx hm => by have hx' := hx; have hm' : x = bq := hm; omega)
  replace Br := S2.keep (by omega) Br
  replace Bp := S2.keep (by omega) Bp
  replace E := S2.step E (by first | exact Or.inl (by omega) | exact Or.inr rfl | exact Or.inr (by assumption) | exact Or.inr (by simp) | exact Or.inr (by omega) | exact Or.inr (by dsimp only; omega))
  replace Bq := S2.blk
  refine WpL_nil (Wp_seq (Wp_seq_region ?_))
  refine qF br 0 2 rfl Tryz.underlying25 rfl siz23 rfl ?_
  refine qV (r_load (v := (.slice aa t.args.length ac)) rfl flat23 (Br.cell rfl)) ?_
  refine qV (r_lenSlice (ad := aa) (n := t.args.length) (cap := ac) Tryz.underlying23 rfl) ?_
  refine qM (I6 0) rfl ?_
  refine WpL_nil (Wp_block ?_)
  refine Wp_loop (fun nn_ σ W3 => ∃ (k : Nat) (la : Option Addr) (lc : Nat) (rows : List (List Value)) (Z : Nat → Prop) (L : Nat → Prop), (∃ jj_, σ = upds jj_ [(2, (P6 bp 0)), (3, (P6 bq 0)), (13, (.slice aa t.args.length ac)), (14, (I6 (t.args.length : Int))), (15, (I6 (k : Int)))]) ∧ Chg none1 w0 W3 ∧ Blk W3 br (R6 t sa sc aa ac) 25 ∧ Blk W3 bp #[(I6 0), (.slice none 0 0), (.slice none 0 0), (I6 0), (I6 0), (.bool false)] 25 ∧ Blk W3 bq (#[(I6 t.kind), (.slice sa3 t.set.length sc3), (.slice la k lc), (I6 t.mn), (I6 t.mx), (.bool t.neg)]) 25 ∧ (k ≤ t.args.length) ∧ (W3.ownsRow base TRe 6 (.slice la k lc) k rows.flatten) ∧ (Trees Z W3 (t.args.take k) rows L) ∧ (∀ x, Z x → ¬ L x) ∧ (∀ x, Z x ∨ L x → base ≤ x ∧ x < W3.heap.size) ∧ (∀ x, (Value.slice la k lc).ownBlock = some x → ¬ Z x ∧ ¬ L x) ∧ (base ≤ W3.heap.size) ∧ (SlIn (fun b => n3 ≤ b ∧ b < base) W3 2 (.slice sa3 t.set.length sc3) (t.set.map spanV)) ∧ nn_ = t.args.length - k) (n := t.args.length - 0) ?_ ?_
  · exact ⟨0, none, 0, [], (fun _ => False), (fun _ => False), Fits.out ⟨rfl, rfl, rfl, rfl, rfl, trivial⟩, E, Br, Bp, Bq, Nat.zero_le _, World.ownsRow_nil _ _ _ _, (by simp only [List.take_zero, Trees]), (fun _ f _ => f), (by rintro x (f | f) <;> exact f.elim), (by simp [Value.ownBlock]), hbs, hset, rfl⟩
  · clear E Br Bp Bq
    rintro _ _ W3 ⟨k, la, lc, rows, Z, L, ⟨j3, rfl⟩, E, Br, Bp, Bq, hk, hown, hTs, hd1, hd2, hd3, hbs, hset, rfl⟩
    refine Wp_seq_region ?_
    refine qV (r_lss (k := .i64) (a := (k : Int)) (b := (t.args.length : Int)) rfl rfl) ?_
    refine WpL_nil (Wp_seq ?_)
    refine Wp_cond (b := decide (((k : Int) : Int) < (t.args.length : Int))) rfl (fun hlt => ?_) (fun hlt => ?_)
    · have khlt := hlt
      replace hlt := of_decide_eq_true hlt
      obtain ⟨x, hx⟩ := get_of_lt (l := t.args) (i := k) (by omega)
      obtain ⟨b, o, rfl, hcl⟩ := (ReAt.rs ht0).cells (by omega)
      obtain ⟨xs, hcx, hrx⟩ := hcl k x hx
      have hrx0 := hrx
      obtain ⟨xsa, xsc, xaa, xac, rfl, _, _, _⟩ := hrx.form
      obtain ⟨nk, hnk⟩ : ∃ nk, nk = (W3).heap.size := ⟨_, rfl⟩
      have hnkle : nk ≤ (W3).heap.size := by omega
      have hlt3 := hown.lt
      rw [← hnk] at hd2 hlt3
      refine Wp_skip (thn_normal (Wp_seq (Wp_block (Wp_seq_region ?_))))
      refine qV (r_indexSlice (b := b) (o := o) (len := t.args.length) (cap := ac) (i := k) (o' := o + k * 6) rfl rfl rfl Tryz.underlying23 siz25 (by omega) (by omega)) ?_
      refine qV (r_loadAgg (vs := [(I6 x.kind), (.slice xsa x.set.length xsc), (.slice xaa x.args.length xac), (I6 x.mn), (I6 x.mx), (.bool x.neg)]) rfl agg25 siz25 rfl (hcx.ext E)) ?_
      refine s_allocStore (v := (.agg (R6 x xsa xsc xaa xac))) (c := (R6 x xsa xsc xaa xac)) (n := 6) (by decide) zer25 rfl siz25 rfl rfl rfl (by simp [Value.oneCell']) ?_
      intro bs ws Ns
      have Fs := Ns.ge E
      have Os_br := Ns.lt Br
      have Os_bp := Ns.lt Bp
      have Os_bq := Ns.lt Bq
      replace Br := Ns.keep Br
      replace Bp := Ns.keep Bp
      replace Bq := Ns.keep Bq
      replace hset := SlIn.chg hset Ns.ext (fun _ _ f => f)
      replace hbs := Nat.le_trans hbs Ns.ext.size
      replace hnkle := Nat.le_trans hnkle Ns.ext.size
      replace hown := own_ext hown Ns.ext
      replace hTs := Trees.ext Ns.ext _ hTs
      replace E := E.ext Ns.ext
      have Bs := Ns.blk
      refine WpL_nil ?_
      obtain ⟨n1, hn1⟩ : ∃ n1, n1 = ws.heap.size := ⟨_, rfl⟩
      have hnk1 : nk ≤ n1 := by rw [hn1]; exact hnkle
      have hn1le : n1 ≤ ws.heap.size := by omega
      have hbn1 : base ≤ n1 := by rw [hn1]; exact hbs
      obtain ⟨Fs5, hFs5⟩ : ∃ Fs : List (FactT (none1)), Fs = [.eq (P6 bq 2), .eq (.slice la k lc), .eq (.agg (R6 x xsa xsc xaa xac)), .gen (copyF n1 x) (copyF_ext n1 x), .gen (copyG n1 x) (copyG_ext n1 x)] := ⟨_, rfl⟩
      refine Wp_dagT (none1) 5 3 [19, 20, 21, 22, 23] [[], [0], [], [2], [3]] Fs5 hFs5 rfl mixed (by kernel_rfl) (by kernel_rfl) (by kernel_rfl) ?_ ?_
      · intro wd X0
        refine DagStepsT.cons (fun s' w' X U H => ?_) ?_
        · exact DoesT_val (r_fieldAddr (b := bq) (o := 0) (o' := 2) (U 3 rfl) Tryz.underlying25 rfl siz23 rfl) (Chg.refl _ _) rfl
        refine DagStepsT.cons (fun s' w' X U H => ?_) ?_
        · have e19 : s' 19 = (.pointer (some ⟨bq, 2, none⟩)) := H 0 rfl 19 (.eq (.pointer (some ⟨bq, 2, none⟩))) rfl (by rw [hFs5]; rfl)
          exact DoesT_val (r_load (v := (.slice la k lc)) e19 flat23 ((Chg.keep X (fun f => f) (X0.keep Bq)).cell rfl)) (Chg.refl _ _) rfl
        refine DagStepsT.cons (fun s' w' X U H => ?_) ?_
        · exact DoesT_val (r_loadAgg (vs := [(I6 x.kind), (.slice xsa x.set.length xsc), (.slice xaa x.args.length xac), (I6 x.mn), (I6 x.mx), (.bool x.neg)]) (U 5 rfl) agg25 siz25 rfl ((Chg.keep X (fun f => f) (X0.keep Bs)).cells rfl)) (Chg.refl _ _) rfl
        refine DagStepsT.cons (fun s' w' X U H => ?_) ?_
        · have e21 : s' 21 = (.agg #[(.int .i64 x.kind), (.slice xsa x.set.length xsc), (.slice xaa x.args.length xac), (.int .i64 x.mn), (.int .i64 x.mx), (.bool x.neg)]) := H 2 rfl 21 (.eq (.agg #[(.int .i64 x.kind), (.slice xsa x.set.length xsc), (.slice xaa x.args.length xac), (.int .i64 x.mn), (.int .i64 x.mx), (.bool x.neg)])) rfl (by rw [hFs5]; rfl)
          exact DoesT_enter (r_callF (vs := [(.agg (R6 x xsa xsc xaa xac))]) Tryz.func57 nm57 bd57 (lst1 e21)) ((ih x _ _ (by have := Re.size_arg hx; omega) (by have := Re.size_arg hx; omega) (setsOk_arg hso hx) (ReAt.ext ((Ext.trans E X0).trans X) x hrx0)).mono (fun v w2 h => ⟨copyF_le (by have := X0.size; have := X.size; omega) h.1, h.2⟩))
        refine DagStepsT.cons (fun s' w' X U H => ?_) ?_
        · obtain ⟨v22, Z22, L22, e22, T22, D22, R22⟩ := (show (.gen (copyF n1 x) (copyF_ext n1 x) : FactT (none1)).In (s' 22) w' from H 3 rfl 22 (.gen (copyF n1 x) (copyF_ext n1 x)) rfl (by rw [hFs5]; rfl))
          exact (DoesT_one e22 T22 D22 R22)
        exact DagStepsT.nil
      · intro s' wd5 w5 X0 X5 U H
        have e20 : s' 20 = (.slice la k lc) := H 1 20 (.eq (.slice la k lc)) rfl (by rw [hFs5]; rfl)
        obtain ⟨v22, Z22, L22, e22, T22, D22, R22⟩ := (show (.gen (copyF n1 x) (copyF_ext n1 x) : FactT (none1)).In (s' 22) w5 from H 3 22 (.gen (copyF n1 x) (copyF_ext n1 x)) rfl (by rw [hFs5]; rfl))
        obtain ⟨b23, v23, Z23, L23, e23, B23, T23, D23, R23⟩ := (show (.gen (copyG n1 x) (copyG_ext n1 x) : FactT (none1)).In (s' 23) w5 from H 4 23 (.gen (copyG n1 x) (copyG_ext n1 x)) rfl (by rw [hFs5]; rfl))
        obtain ⟨j5, rfl⟩ := Fits.out (σ := s') (l := [(2, (.pointer (some ⟨bp, 0, none⟩))), (3, (.pointer (some ⟨bq, 0, none⟩))), (13, (.slice (some ⟨b, o, none⟩) t.args.length ac)), (14, (.int .i64 ((t.args.length : Nat) : Int))), (15, (.int .i64 ((k : Nat) : Int))), (20, (.slice la k lc)), (23, (.slice (some ⟨b23, 0, none⟩) 1 1))]) ⟨U 2 rfl, U 3 rfl, U 13 rfl, U 14 rfl, U 15 rfl, e20, e23, trivial⟩
        clear U H
        replace Br := Chg.keep X5 (fun f => f) (X0.keep Br)
        replace Bp := Chg.keep X5 (fun f => f) (X0.keep Bp)
        replace Bq := Chg.keep X5 (fun f => f) (X0.keep Bq)
        replace Bs := Chg.keep X5 (fun f => f) (X0.keep Bs)
        replace hset := SlIn.chg hset X0 (fun _ _ f => f)
        replace hset := SlIn.chg hset X5 (fun _ _ f => f)
        replace hbs := Nat.le_trans hbs X0.size
        replace hbs := Nat.le_trans hbs X5.size
        replace hnkle := Nat.le_trans hnkle X0.size
        replace hnkle := Nat.le_trans hnkle X5.size
        replace hown := own_ext hown X0
        replace hown := own_ext hown X5
        replace hTs := Trees.ext X0 _ hTs
        replace hTs := Trees.ext X5 _ hTs
        replace hn1le := Nat.le_trans hn1le X0.size
        replace hn1le := Nat.le_trans hn1le X5.size
        replace E := (E.ext X0).step X5 (fun _ _ f => f.elim)
        refine s_append (base := base) (n := k) (m := 1) (xs := rows.flatten) (news := v23) (size := 6) (bytes := 80) (v := (.slice la k lc)) (by decide) Tryz.underlying23 siz25 byt25 zer25 rfl (by decide) rfl hown rfl (by rw [T23.len]) (B23.cells (by simp)) (T23.one) (by unfold maxLen; omega) (by omega) (hbs) ?_
        intro v9 w29 Ov9 Cv9 Dv9
        replace Br := Cv9.keep (fun h => by have := (hown.lt _ h).1; omega) Br
        replace Bp := Cv9.keep (fun h => by have := (hown.lt _ h).1; omega) Bp
        replace Bq := Cv9.keep (fun h => by have := (hown.lt _ h).1; omega) Bq
        replace E := E.step Cv9 (fun x hx h => absurd (hown.lt x h).1 (by omega))
        obtain ⟨la2, lc2, rfl⟩ := own_form Ov9
        have hC3 : Chg (fun y => y = bq) w29 w29 := Chg.refl _ _
        replace hset := SlIn.chg hset Cv9 (fun y hy hm => by have := (hown.lt y hm).1; have hy' := hy; omega)
        replace hbs := Nat.le_trans hbs Cv9.size
        refine qF bq 0 2 rfl Tryz.underlying25 rfl siz23 rfl ?_
        refine s_store (b := bq) (o := 2) (c' := #[(I6 t.kind), (.slice sa3 t.set.length sc3), (.slice la2 (k + 1) lc2), (I6 t.mn), (I6 t.mx), (.bool t.neg)]) (v := (.slice la2 (k + 1) lc2)) rfl rfl rfl siz23 Bq (by simp) rfl ?_
        intro w6 S6
        replace hbs := Nat.le_trans hbs S6.chg.size
        replace hset := SlIn.chg hset S6.chg (fun x hx hm => by have hx' := hx; have hm' : x = bq := hm; omega)
        replace hC3 := S6.chg
        replace Br := S6.keep (by omega) Br
        replace Bp := S6.keep (by omega) Bp
        replace E := S6.step E (by first | exact Or.inl (by omega) | exact Or.inr rfl | exact Or.inr (by assumption) | exact Or.inr (by simp) | exact Or.inr (by omega) | exact Or.inr (by dsimp only; omega))
        replace Bq := S6.blk
        refine WpL_nil (inB_normal (thn_normal (Wp_region ?_)))
        refine qV (r_add (k := .i64) (a := (k : Int)) (b := 1) (c := (k : Int) + 1) rfl rfl (wI64 (by omega))) ?_
        refine qM (I6 ((k : Int) + 1)) rfl ?_
        refine WpL_nil (thn_normal ?_)
        have hstep := copy_step (base := base) (n1 := n1) (b3 := bq) hTs T23 hd1 (fun y hy => by have := hd2 y hy; omega) (fun q hq => ⟨hd3 q hq, by have := hlt3 q hq; omega⟩) D23 R23 Cv9 Dv9 hC3 (by omega) hbn1 hn1le
        exact ⟨t.args.length - (k + 1), by omega, k + 1, la2, lc2, rows ++ [v23], (fun y => Z y ∨ Z23 y), (fun y => L y ∨ L23 y), Fits.out ⟨rfl, rfl, rfl, rfl, rfl, trivial⟩, E, Br, Bp, Bq, (by omega), (by have h := own_chg Ov9 hC3 (fun q hq hm => by have := (Ov9.lt q hq).1; have hm' : q = bq := hm; omega); simpa using h), (by rw [List.take_add_one, hx]; exact hstep.1), hstep.2.1, hstep.2.2.1, hstep.2.2.2, hbs, hset, rfl⟩
    · have khlt := hlt
      replace hlt := of_decide_eq_false hlt
      have hkk : k = t.args.length := by omega
      subst hkk
      rw [List.take_length] at hTs
      have hcf := copy_done (n0 := n3) hown hTs hset hd1 hd2 hd3 (fun x h => h) (by omega) hbs
      refine Wp_exit (thn_exit (thn_exit (inB_here (thn_normal (Wp_seq_region ?_)))))
      refine qV (r_loadAgg (vs := [(I6 t.kind), (.slice sa3 t.set.length sc3), (.slice la t.args.length lc), (I6 t.mn), (I6 t.mx), (.bool t.neg)]) rfl agg25 siz25 rfl (Bq.cells rfl)) ?_
      refine s_storeAgg (b := bp) (o := 0) (c' := (R6 t sa3 sc3 la lc)) rfl rfl (by simp [Value.oneCell']) siz25 rfl Bp (by first | (simp; done) | exact Nat.le_of_ble_eq_true rfl) rfl ?_
      intro w7 S7
      replace hcf := copyF_chg S7.chg (by omega) hcf
      replace Br := S7.keep (by omega) Br
      replace Bq := S7.keep (by omega) Bq
      replace E := S7.step E (by first | exact Or.inl (by omega) | exact Or.inr rfl | exact Or.inr (by assumption) | exact Or.inr (by simp) | exact Or.inr (by omega) | exact Or.inr (by dsimp only; omega))
      replace Bp := S7.blk
      refine WpL_nil (Wp_ret ?_)
      refine fin_agg Tryz.results57 (vs := [(.int .i64 t.kind), (.slice sa3 t.set.length sc3), (.slice la t.args.length lc), (.int .i64 t.mn), (.int .i64 t.mx), (.bool t.neg)]) (b := bp) rfl agg25 siz25 rfl (Bp.cells rfl) ?_
      exact ⟨copyF_le (by omega) hcf, E⟩
end Go.Proofs
namespace Go.Proofs
open Go Go.Eng
set_option maxRecDepth 100000
def RowsIn (S : Nat → Prop) (w : World) : List Re → List (List Value) → Prop
  | [], rows => rows = []
  | t :: ts, rows => ∃ r rs, rows = r :: rs ∧ ReIn S w t r ∧ RowsIn S w ts rs
theorem RowsIn.ext {S : Nat → Prop} {w w' : World} (e : Ext w w') : ∀ {ts : List Re} {rows : List (List Value)}, RowsIn S w ts rows → RowsIn S w' ts rows
  | [], _, h => h
  | t :: ts, rows, h => by
    obtain ⟨r, rs, h1, h2, h3⟩ := h
    exact ⟨r, rs, h1, ReIn.ext e t h2, RowsIn.ext e h3⟩
theorem RowsIn.len {S : Nat → Prop} {w : World} : ∀ {ts : List Re} {rows : List (List Value)}, RowsIn S w ts rows → rows.length = ts.length
  | [], _, h => by simp only [RowsIn] at h; subst h; rfl
  | t :: ts, rows, h => by
    obtain ⟨r, rs, rfl, _, h3⟩ := h
    simp [RowsIn.len h3]
theorem RowsIn.six {S : Nat → Prop} {w : World} : ∀ {ts : List Re} {rows : List (List Value)}, RowsIn S w ts rows → ∀ r ∈ rows, r.length = 6
  | [], _, h => by simp only [RowsIn] at h; subst h; simp
  | t :: ts, rows, h => by
    obtain ⟨r, rs, rfl, h2, h3⟩ := h
    intro q hq
    rcases List.mem_cons.1 hq with rfl | hq
    · exact h2.len
    · exact RowsIn.six h3 q hq
theorem RowsIn.one {S : Nat → Prop} {w : World} : ∀ {ts : List Re} {rows : List (List Value)}, RowsIn S w ts rows → ∀ u ∈ rows.flatten, u.oneCell' = true
  | [], _, h => by simp only [RowsIn] at h; subst h; simp
  | t :: ts, rows, h => by
    obtain ⟨r, rs, rfl, h2, h3⟩ := h
    intro u hu
    rw [List.flatten_cons, List.mem_append] at hu
    rcases hu with hu | hu
    · exact ReAt.one (ReIn.at t h2) u hu
    · exact RowsIn.one h3 u hu
theorem RowsIn.get {S : Nat → Prop} {w : World} : ∀ {ts : List Re} {rows : List (List Value)}, RowsIn S w ts rows → ∀ {i : Nat} {t : Re}, ts[i]? = some t → ∃ r, rows[i]? = some r ∧ ReIn S w t r
  | [], _, _, i, t, hi => by simp at hi
  | t :: ts, rows, h, i, u, hi => by
    obtain ⟨r, rs, rfl, h2, h3⟩ := h
    cases i with
    | zero => simp at hi; subst hi; exact ⟨r, rfl, h2⟩
    | succ i => simp at hi; obtain ⟨q, h4, h5⟩ := RowsIn.get h3 hi; exact ⟨q, by simpa using h4, h5⟩
theorem RowsIn.append {S : Nat → Prop} {w : World} {us : List Re} {qs : List (List Value)} (hu : RowsIn S w us qs) : ∀ {ts : List Re} {rows : List (List Value)}, RowsIn S w ts rows → RowsIn S w (ts ++ us) (rows ++ qs)
  | [], _, h => by simp only [RowsIn] at h; subst h; simpa using hu
  | t :: ts, rows, h => by
    obtain ⟨r, rs, rfl, h2, h3⟩ := h
    exact ⟨r, rs ++ qs, rfl, h2, RowsIn.append hu h3⟩
theorem RowsIn.single {S : Nat → Prop} {w : World} {t : Re} {r : List Value} (h : ReIn S w t r) : RowsIn S w [t] [r] := ⟨r, [], rfl, h, rfl⟩
theorem ResIn.rows {S : Nat → Prop} {w : World} {b : Nat} : ∀ {ts : List Re} {o : Nat}, ResIn S w b o ts → ∃ rows, RowsIn S w ts rows ∧ CellsAt w b o rows.flatten
  | [], _, _ => ⟨[], rfl, fun i v hv => by simp at hv⟩
  | t :: ts, o, h => by
    simp only [ResIn] at h
    obtain ⟨⟨vs, h1, h2⟩, h3⟩ := h
    obtain ⟨rows, h4, h5⟩ := ResIn.rows h3
    refine ⟨vs :: rows, ⟨vs, rows, rfl, h2, h4⟩, fun i v hv => ?_⟩
    have hl := h2.len
    rw [List.flatten_cons] at hv
    rcases Nat.lt_or_ge i 6 with hi | hi
    · rw [List.getElem?_append_left (by omega)] at hv
      exact h1 i v hv
    · rw [List.getElem?_append_right (by omega)] at hv
      have := h5 (i - vs.length) v hv
      rwa [show o + 6 + (i - vs.length) = o + i from by omega] at this
def RsIn (S : Nat → Prop) (w : World) (v : Value) (ts : List Re) : Prop := ∃ aa ac, v = .slice aa ts.length ac ∧ (ts.length ≤ ac ∧ ac ≤ 9223372036854775807) ∧ (ts = [] ∨ ∃ b o, S b ∧ aa = some ⟨b, o, none⟩ ∧ ResIn S w b o ts)
theorem RsIn.cells {S : Nat → Prop} {w : World} {aa : Option Addr} {n ac : Nat} {ts : List Re} (h : RsIn S w (.slice aa n ac) ts) (hn : 0 < n) : ∃ b o, aa = some ⟨b, o, none⟩ ∧ ∀ i t, ts[i]? = some t → ∃ vs, CellsAt w b (o + i * 6) vs ∧ ReIn S w t vs := by
 obtain ⟨aa', ac', h1, h2, h3⟩ := h
 simp only [Value.slice.injEq] at h1
 obtain ⟨rfl, rfl, rfl⟩ := h1
 rcases h3 with rfl | ⟨b, o, _, h4, h5⟩
 ·simp at hn
 ·exact ⟨b, o, h4, fun i t ht => ResIn.get h5 ht⟩
/-- Rows of one's own, read as expressions. -/
theorem own_res {S : Nat → Prop} {w : World} {base n : Nat} {a : Option Addr} {c : Nat} {ts : List Re} {rows : List (List Value)} (h : w.ownsRow base TRe 6 (.slice a n c) n rows.flatten) (hr : RowsIn S w ts rows) (hn : ts.length = n) : (n ≤ c ∧ c ≤ 9223372036854775807) ∧ (ts = [] ∨ ∃ b, base ≤ b ∧ b < w.heap.size ∧ a = some ⟨b, 0, none⟩ ∧ ∀ i t, ts[i]? = some t → ∃ vs, CellsAt w b (0 + i * 6) vs ∧ ReIn S w t vs) := by
 rcases h.2 with ⟨h1, h2⟩ | ⟨g, cap, cur, h1, h2, h3, h4, h5, h6, h7⟩
 ·simp only [Value.slice.injEq] at h1
  obtain ⟨rfl, rfl, rfl⟩ := h1
  exact ⟨by simp, .inl (List.eq_nil_of_length_eq_zero hn)⟩
 ·simp only [Value.slice.injEq] at h1
  obtain ⟨rfl, _, rfl⟩ := h1
  simp only [maxLen] at h5
  refine ⟨⟨h4, by omega⟩, .inr ⟨g, h2, (h.lt g rfl).2, rfl, fun i t ht => ?_⟩⟩
  obtain ⟨r, h8, h9⟩ := hr.get ht
  have hb : Blk w g (rows.flatten ++ cur.toList.drop (n * 6)).toArray TRe := by
   have : (rows.flatten ++ cur.toList.drop (n * 6)).toArray = cur := by rw [← h7, List.take_append_drop]
   rw [this]; exact h3
  exact ⟨r, by rw [Nat.zero_add]; exact rows_at hb hr.six h8, h9⟩
theorem own_rs {S : Nat → Prop} {w : World} {base n : Nat} {a : Option Addr} {c : Nat} {ts : List Re} {rows : List (List Value)} (h : w.ownsRow base TRe 6 (.slice a n c) n rows.flatten) (hr : RowsIn S w ts rows) (hn : ts.length = n) : RsAt w (.slice a n c) ts := by
 obtain ⟨h1, h2⟩ := own_res h hr hn
 refine ⟨a, c, by rw [hn], by rw [hn]; exact h1, ?_⟩
 rcases h2 with h | ⟨b, _, _, h4, h5⟩
 ·exact .inl h
 ·exact .inr ⟨b, 0, h4, ResAt.mk fun i t ht => by obtain ⟨vs, h6, h7⟩ := h5 i t ht; exact ⟨vs, h6, ReIn.at t h7⟩⟩
theorem len_sizes : ∀ ts : List Re, ts.length ≤ Re.sizes ts
  | [] => by simp
  | x :: xs => by have := x.size_pos; have := len_sizes xs; simp only [List.length_cons, Re.sizes]; omega
theorem flat_snoc (k : Int) (ts : List Re) (x : Re) : flatT k (ts ++ [x]) = flatT k ts ++ (if x.kind = k then x.args else [x]) := by simp [flatT]
theorem flat_take {k : Int} {ts : List Re} {j : Nat} {x : Re} (hx : ts[j]? = some x) : flatT k (ts.take (j + 1)) = flatT k (ts.take j) ++ (if x.kind = k then x.args else [x]) := by
 rw [List.take_add_one, hx]; exact flat_snoc k _ x
theorem flat_le (k : Int) (ts : List Re) (j : Nat) : (flatT k (ts.take j)).length ≤ Re.sizes ts := by
 have h1 := len_sizes (flatT k (ts.take j))
 have h2 := sizes_flat k (ts.take j)
 have h3 : Re.sizes ts = Re.sizes (ts.take j) + Re.sizes (ts.drop j) := by rw [← Re.sizes_append, List.take_append_drop]
 omega
set_option maxHeartbeats 1000000 in
theorem flat_c (w0 : World) (S : Nat → Prop) (k : Int) (v : Value) (ts : List Re) (h : RsIn S w0 v ts) (hne : ∀ x ∈ ts, x.kind = k → x.args ≠ []) (hsz : Re.sizes ts ≤ 1000000) :
  Ret Tryz.prog 167 #[.int .i64 k, v] w0 fun r w => ∃ la lc rows, r = .slice la (flatT k ts).length lc ∧ w.ownsRow w0.heap.size TRe 6 r (flatT k ts).length rows.flatten ∧ RowsIn S w0 (flatT k ts) rows ∧ Ext w0 w := by
 have h0 := h
 obtain ⟨aa, ac, rfl, hac, _⟩ := h
 have hls := len_sizes ts
 obtain ⟨base, hbase⟩ : ∃ base, base = w0.heap.size := ⟨_, rfl⟩
 refine Ret_of Tryz.func167 rfl Tryz.ntmps167 (Nat.le_of_ble_eq_true rfl) ?_
 have E : Chg none1 w0 w0 := Chg.refl _ _
 refine Wp_seq_region ?_
 refine qA (.slice none 0 0) rfl ?_
 refine WpL_nil (Wp_seq_region ?_)
 refine qA (.slice none 0 0) rfl ?_
 refine WpL_nil (Wp_seq (Wp_seq_region ?_))
 refine qM (.slice aa ts.length ac) rfl ?_
 refine qV (r_lenSlice (ad := aa) (n := ts.length) (cap := ac) Tryz.underlying23 rfl) ?_
 refine qM (I6 0) rfl ?_
 refine WpL_nil (Wp_block ?_)
 refine Wp_loop (fun nn_ σ W1 => ∃ (j : Nat) (la : Option Addr) (lc : Nat) (m : Nat) (rows : List (List Value)), (∃ jj_, σ = upds jj_ [(0, (I6 k)), (8, (.slice aa ts.length ac)), (9, (I6 (ts.length : Int))), (10, (I6 (j : Int))), (5, (.slice la m lc))]) ∧ Chg none1 w0 W1 ∧ (j ≤ ts.length) ∧ (W1.ownsRow base TRe 6 (.slice la m lc) m rows.flatten) ∧ (m = (flatT k (ts.take j)).length) ∧ (RowsIn S w0 (flatT k (ts.take j)) rows) ∧ (base ≤ W1.heap.size) ∧ nn_ = ts.length - j) (n := ts.length - 0) ?_ ?_
 ·exact ⟨0, none, 0, 0, [], Fits.out ⟨rfl, rfl, rfl, rfl, rfl, trivial⟩, E, Nat.zero_le _, World.ownsRow_nil _ _ _ _, rfl, rfl, (by omega), rfl⟩
 ·clear E
  rintro _ _ W1 ⟨j, la, lc, m, rows, ⟨j1, rfl⟩, E, hj, hown, hm, hrs, hbs, rfl⟩
  refine Wp_seq_region ?_
  refine qV (r_lss (k := .i64) (a := (j : Int)) (b := (ts.length : Int)) rfl rfl) ?_
  refine WpL_nil (Wp_seq ?_)
  refine Wp_cond (b := decide (((j : Int) : Int) < (ts.length : Int))) rfl (fun hlt => ?_) (fun hlt => ?_)
  ·have khlt := hlt
   replace hlt := of_decide_eq_true hlt
   obtain ⟨x, hx⟩ := get_of_lt (l := ts) (i := j) (by omega)
   obtain ⟨b, o, rfl, hcl⟩ := h0.cells (by omega)
   obtain ⟨xs, hcx, hrx⟩ := hcl j x hx
   have hrx0 := hrx
   obtain ⟨xsa, xsc, xaa, xac, rfl, _, _, hxa⟩ := hrx.form
   have hft := flat_take (k := k) hx
   have hfl := flat_le k ts (j + 1)
   rcases Bool.eq_false_or_eq_true (decide ((x.kind : Int) = k)) with hxk | hxk
   ·have khxk := hxk
    replace khxk := of_decide_eq_true khxk
    rw [if_pos khxk] at hft
    obtain ⟨xb, xo, _, rfl, hxr⟩ := hxa.resolve_left (hne x (List.mem_of_getElem? hx) khxk)
    obtain ⟨qs, hqs, hqc⟩ := ResIn.rows hxr
    rw [hft, List.length_append] at hfl
    refine Wp_skip (thn_normal (Wp_seq (Wp_block (Wp_seq_region ?_))))
    refine qV (r_indexSlice (b := b) (o := o) (len := ts.length) (cap := ac) (i := j) (o' := o + j * 6) rfl rfl rfl Tryz.underlying23 siz25 (by omega) (by omega)) ?_
    refine qV (r_loadAgg (vs := [(I6 x.kind), (.slice xsa x.set.length xsc), (.slice (some ⟨xb, xo, none⟩) x.args.length xac), (I6 x.mn), (I6 x.mx), (.bool x.neg)]) rfl agg25 siz25 rfl (hcx.ext E)) ?_
    refine s_allocStore (v := (.agg (R6 x xsa xsc (some ⟨xb, xo, none⟩) xac))) (c := (R6 x xsa xsc (some ⟨xb, xo, none⟩) xac)) (n := 6) (by decide) zer25 rfl siz25 rfl rfl rfl (by simp [Value.oneCell']) ?_
    intro b3 w3 N3
    have F3 := N3.ge E
    replace hown := own_ext hown N3.ext
    replace hbs := Nat.le_trans hbs N3.ext.size
    replace E := E.ext N3.ext
    have B3 := N3.blk
    refine WpL_nil (Wp_seq_region ?_)
    refine qF b3 0 0 rfl Tryz.underlying25 rfl siz3 rfl ?_
    refine qV (r_load (v := (I6 x.kind)) rfl flat3 (B3.cell rfl)) ?_
    refine qM (I6 k) rfl ?_
    refine qV (r_eql (k := .i64) (a := x.kind) (b := k) rfl rfl) ?_
    refine WpL_nil ?_
    refine Wp_cond_true (congrArg Value.bool hxk) ?_
    refine Wp_region ?_
    refine qM (.slice la m lc) rfl ?_
    refine qF b3 0 2 rfl Tryz.underlying25 rfl siz23 rfl ?_
    refine qV (r_load (v := (.slice (some ⟨xb, xo, none⟩) x.args.length xac)) rfl flat23 (B3.cell rfl)) ?_
    refine s_append (base := base) (n := m) (m := x.args.length) (xs := rows.flatten) (news := qs.flatten) (size := 6) (bytes := 80) (v := (.slice la m lc)) (by decide) Tryz.underlying23 siz25 byt25 zer25 rfl (by decide) rfl hown rfl (by rw [rows_len hqs.six, hqs.len]) (hqc.ext E) (hqs.one) (by unfold maxLen; omega) (by omega) (hbs) ?_
    intro v9 w29 Ov9 Cv9 Dv9
    replace E := E.step Cv9 (fun x hx h => absurd (hown.lt x h).1 (by omega))
    obtain ⟨la2, lc2, rfl⟩ := own_form Ov9
    refine qA (.slice la2 (m + x.args.length) lc2) rfl ?_
    refine WpL_nil (inB_normal (thn_normal (Wp_region ?_)))
    refine qV (r_add (k := .i64) (a := (j : Int)) (b := 1) (c := (j : Int) + 1) rfl rfl (wI64 (by omega))) ?_
    refine qM (I6 ((j : Int) + 1)) rfl ?_
    refine WpL_nil (thn_normal ?_)
    exact ⟨ts.length - (j + 1), by omega, j + 1, la2, lc2, m + x.args.length, rows ++ qs, Fits.out ⟨rfl, rfl, rfl, rfl, rfl, trivial⟩, E, (by omega), (by simpa using Ov9), (by rw [hft, List.length_append, hm]), (by rw [hft]; exact RowsIn.append hqs hrs), Nat.le_trans hbs Cv9.size, rfl⟩
   ·have khxk := hxk
    replace khxk := of_decide_eq_false khxk
    rw [if_neg khxk] at hft
    rw [hft, List.length_append] at hfl
    refine Wp_skip (thn_normal (Wp_seq (Wp_block (Wp_seq_region ?_))))
    refine qV (r_indexSlice (b := b) (o := o) (len := ts.length) (cap := ac) (i := j) (o' := o + j * 6) rfl rfl rfl Tryz.underlying23 siz25 (by omega) (by omega)) ?_
    refine qV (r_loadAgg (vs := [(I6 x.kind), (.slice xsa x.set.length xsc), (.slice xaa x.args.length xac), (I6 x.mn), (I6 x.mx), (.bool x.neg)]) rfl agg25 siz25 rfl (hcx.ext E)) ?_
    refine s_allocStore (v := (.agg (R6 x xsa xsc xaa xac))) (c := (R6 x xsa xsc xaa xac)) (n := 6) (by decide) zer25 rfl siz25 rfl rfl rfl (by simp [Value.oneCell']) ?_
    intro b4 w4 N4
    have F4 := N4.ge E
    replace hown := own_ext hown N4.ext
    replace hbs := Nat.le_trans hbs N4.ext.size
    replace E := E.ext N4.ext
    have B4 := N4.blk
    refine WpL_nil (Wp_seq_region ?_)
    refine qF b4 0 0 rfl Tryz.underlying25 rfl siz3 rfl ?_
    refine qV (r_load (v := (I6 x.kind)) rfl flat3 (B4.cell rfl)) ?_
    refine qM (I6 k) rfl ?_
    refine qV (r_eql (k := .i64) (a := x.kind) (b := k) rfl rfl) ?_
    refine WpL_nil ?_
    refine Wp_cond_false (congrArg Value.bool hxk) ?_
    refine Wp_region ?_
    refine qM (.slice la m lc) rfl ?_
    refine qV (r_loadAgg (vs := [(I6 x.kind), (.slice xsa x.set.length xsc), (.slice xaa x.args.length xac), (I6 x.mn), (I6 x.mx), (.bool x.neg)]) rfl agg25 siz25 rfl (B4.cells rfl)) ?_
    refine s_buildSlice (ps := [(0, (.agg (R6 x xsa xsc xaa xac)))]) (c := (R6 x xsa xsc xaa xac)) (by decide) rfl Tryz.underlying23 siz25 zer25 (by decide) (by decide) (by kernel_rfl) ?_
    intro b5 w5 N5
    have F5 := N5.ge E
    have O5_b4 := N5.lt B4
    replace B4 := N5.keep B4
    replace hown := own_ext hown N5.ext
    replace hbs := Nat.le_trans hbs N5.ext.size
    replace E := E.ext N5.ext
    have B5 := N5.blk
    refine s_append (base := base) (n := m) (m := 1) (xs := rows.flatten) (news := [(I6 x.kind), (.slice xsa x.set.length xsc), (.slice xaa x.args.length xac), (I6 x.mn), (I6 x.mx), (.bool x.neg)]) (size := 6) (bytes := 80) (v := (.slice la m lc)) (by decide) Tryz.underlying23 siz25 byt25 zer25 rfl (by decide) rfl hown rfl (rfl) (B5.cells rfl) (by simp [Value.oneCell']) (by simp at hfl; unfold maxLen; omega) (by simp at hfl; omega) (hbs) ?_
    intro v9 w29 Ov9 Cv9 Dv9
    replace E := E.step Cv9 (fun x hx h => absurd (hown.lt x h).1 (by omega))
    obtain ⟨la2, lc2, rfl⟩ := own_form Ov9
    refine qA (.slice la2 (m + 1) lc2) rfl ?_
    refine WpL_nil (inB_normal (thn_normal (Wp_region ?_)))
    refine qV (r_add (k := .i64) (a := (j : Int)) (b := 1) (c := (j : Int) + 1) rfl rfl (wI64 (by omega))) ?_
    refine qM (I6 ((j : Int) + 1)) rfl ?_
    refine WpL_nil (thn_normal ?_)
    exact ⟨ts.length - (j + 1), by omega, j + 1, la2, lc2, m + 1, rows ++ [[.int .i64 x.kind, .slice xsa x.set.length xsc, .slice xaa x.args.length xac, .int .i64 x.mn, .int .i64 x.mx, .bool x.neg]], Fits.out ⟨rfl, rfl, rfl, rfl, rfl, trivial⟩, E, (by omega), (by simpa using Ov9), (by rw [hft, List.length_append, hm]; rfl), (by rw [hft]; exact RowsIn.append (RowsIn.single hrx0) hrs), Nat.le_trans hbs Cv9.size, rfl⟩
  ·have khlt := hlt
   replace hlt := of_decide_eq_false hlt
   have hjj : j = ts.length := by omega
   refine Wp_exit (thn_exit (thn_exit (inB_here (thn_normal (Wp_seq_region ?_)))))
   refine qM (.slice la m lc) rfl ?_
   refine qA (.slice la m lc) rfl ?_
   refine WpL_nil (Wp_ret ?_)
   refine fin_tmp Tryz.results167 (v := (.slice la m lc)) rfl ?_
   rw [hjj, List.take_length] at hrs hm
   subst hm
   subst hbase
   exact ⟨la, lc, rows, rfl, hown, hrs, E⟩
end Go.Proofs
namespace Go.Proofs
open Go Go.Eng
set_option maxRecDepth 100000
theorem zero_one {m : Nat} : ∀ v ∈ (Builtin.zeroCells (Value.cells (.agg #[(.int .i64 0), (.slice none 0 0), (.slice none 0 0), (.int .i64 0), (.int .i64 0), (.bool false)])) m).toList, v.oneCell' = true := by
  intro v hv
  simp only [Builtin.zeroCells, Value.cells, Array.toList_map, List.mem_map] at hv
  obtain ⟨i, _, rfl⟩ := hv
  have h : i % 6 < 6 := Nat.mod_lt _ (by decide)
  show (#[(Value.int .i64 0), (.slice none 0 0), (.slice none 0 0), (.int .i64 0), (.int .i64 0), (.bool false)][i % 6]!).oneCell' = true
  generalize i % 6 = q at h
  match q, h with
  | 0, _ => rfl
  | 1, _ => rfl
  | 2, _ => rfl
  | 3, _ => rfl
  | 4, _ => rfl
  | 5, _ => rfl
theorem WpL_val0 {P : Program} {N : Nat} {Q : Post} {σ : Env} {w : World} {K : Env → World → Prop} {ops : Array Oper} {rest : List Oper} {o : Oper} (hg : o.guard = none) (hd : o.dst = none) {v : Value} {w' : World}
  (hr : (execOp (ev σ) o).run P w = .ok (.value v) w') (k : WpL P N ops K Q rest σ w') : WpL P N ops K Q (o :: rest) σ w := by
 intro a ha he
 refine wpList_plain hg fun K' hK => ?_
 unfold Oper.wp
 rw [eval_env, he, hr]
 simp only [Oper.upon, hd]
 exact hK _ _ (k a ha he)
theorem s_clear {P : Program} {N : Nat} {Q : Post} {σ : Env} {w : World} {K : Env → World → Prop} {ops : Array Oper} {rest : List Oper} {ty : TypeId} {pos : String} {af : Array Edge} {t e : TypeId} {x : Operand} {b o m cc : Nat} {c c' : Array Value} {z : Value} (hu : P.underlying t = some (.slice e)) (hz : Zer P e z) (hx : ev σ x = .slice (some ⟨b, o, none⟩) m cc) (hm : 0 < m) (hB : Blk w b c e) (h1 : ∀ v ∈ (Builtin.zeroCells z.cells m).toList, v.oneCell' = true)
  (ho : o + m * z.cells.size ≤ c.size) (hc : (c.toList.take o ++ (Builtin.zeroCells z.cells m).toList ++ c.toList.drop (o + m * z.cells.size)).toArray = c')
  (k : ∀ w', Put w w' b c' e → WpL P N ops K Q rest σ w') : WpL P N ops K Q (⟨none, .call ⟨.builtin .clear, #[x], #[t]⟩, ty, pos, af, none⟩ :: rest) σ w := by
 subst hc
 have hl : (Builtin.zeroCells z.cells m).toList.length = m * z.cells.size := by simp [Builtin.zeroCells]
 have hst := run_storeCells_at P b o e (Builtin.zeroCells z.cells m).toList 0 c w hB (by rw [hl]; simpa using ho) h1
 simp only [Nat.add_zero, hl] at hst
 refine WpL_val0 (v := .tuple #[]) (w' := w.setRow b _) rfl rfl ?_ (k _ (Put.of_setRow hB _))
 obtain ⟨m', rfl⟩ : ∃ m', m = m' + 1 := ⟨m - 1, by omega⟩
 simp [execOp, resolve, invoke, builtin, Builtin.clear_, hx, run_underlying hu, hz.run, hst]
theorem idx_none {α : Type} {p : α → Bool} {l : List α} (h : idx p l = -1) : l.filter (fun x => !p x) = l := by
 have h1 := idx_any p l
 rw [h] at h1
 have h2 : l.any p = false := by rw [← h1]; decide
 rw [List.filter_eq_self]
 rw [List.any_eq_false] at h2
 intro x hx; simp [h2 x hx]
theorem idx_some {α : Type} {p : α → Bool} {l : List α} (h : idx p l ≠ -1) : ∃ i : Nat, idx p l = (i : Int) ∧ i < l.length ∧ (l.take (i + 1)).filter (fun x => !p x) = l.take i := by
  unfold idx at h ⊢
  cases hf : l.findIdx? p with
  | none => rw [hf] at h; exact absurd rfl h
  | some i =>
    rw [List.findIdx?_eq_some_iff_getElem] at hf
    obtain ⟨hi, hp, hno⟩ := hf
    refine ⟨i, rfl, hi, ?_⟩
    have e1 : (l.take i).filter (fun x => !p x) = l.take i := by
      rw [List.filter_eq_self]
      intro x hx
      obtain ⟨j, hj, rfl⟩ := List.getElem_of_mem hx
      simp at hj
      have := hno j (by omega)
      simpa using this
    rw [List.take_add_one, List.getElem?_eq_getElem hi, List.filter_append, e1]
    simp [hp]
theorem filter_snoc {α : Type} {p : α → Bool} {l : List α} {j : Nat} {x : α} (hx : l[j]? = some x) : (l.take (j + 1)).filter (fun x => !p x) = (l.take j).filter (fun x => !p x) ++ (if p x then [] else [x]) := by
 rw [List.take_add_one, hx, List.filter_append]
 congr 1
 cases hp : p x <;> simp [hp]
theorem drop_get {α : Type} {l m : List α} {j : Nat} (h : l.drop j = m.drop j) {i : Nat} (hi : j ≤ i) : l[i]? = m[i]? := by
 have := congrArg (fun q => q[i - j]?) h
 simp only [List.getElem?_drop] at this
 rwa [show j + (i - j) = i from by omega] at this
theorem RowsIn.take {S : Nat → Prop} {w : World} : ∀ {ts : List Re} {rows : List (List Value)} (i : Nat), RowsIn S w ts rows → RowsIn S w (ts.take i) (rows.take i)
  | [], _, i, h => by simp only [RowsIn] at h; subst h; cases i <;> rfl
  | t :: ts, rows, 0, h => rfl
  | t :: ts, rows, i + 1, h => by
    obtain ⟨r, rs, rfl, h2, h3⟩ := h
    exact ⟨r, rs.take i, rfl, h2, RowsIn.take i h3⟩
set_option maxHeartbeats 2000000 in
theorem del_c (wb w0 : World) (base : Nat) (S : Nat → Prop) (v fv : Value) (ts : List Re) (rows : List (List Value)) (p : Re → Bool) (hE : Ext wb w0) (hown : w0.ownsRow base TRe 6 v ts.length rows.flatten) (hr : RowsIn S wb ts rows) (hS : ∀ x, S x → x < base) (hlen : ts.length ≤ 1000000)
  (hf : ∀ (w : World) (x : Re) (vs : List Value), x ∈ ts → ReAt w x vs → CallV Tryz.prog fv #[.agg vs.toArray] w fun r w' => r = .bool (p x) ∧ Ext w w') :
  Ret Tryz.prog 166 #[v, fv] w0 fun r w => ∃ la lc rows', r = .slice la (ts.filter fun x => !p x).length lc ∧ w.ownsRow base TRe 6 r (ts.filter fun x => !p x).length rows'.flatten ∧ RowsIn S wb (ts.filter fun x => !p x) rows' ∧ Chg (fun x => base ≤ x) w0 w := by
 have hown0 := hown
 obtain ⟨a, c, rfl⟩ := own_form hown
 obtain ⟨q, hq⟩ : ∃ q : Int, q = idx p ts := ⟨_, rfl⟩
 have hrs : RsAt w0 (.slice a ts.length c) ts := own_rs hown0 (hr.ext hE) rfl
 refine Ret_of Tryz.func166 rfl Tryz.ntmps166 (Nat.le_of_ble_eq_true rfl) ?_
 have E : Chg (fun x => base ≤ x) w0 w0 := Chg.refl _ _
 refine Wp_seq_region ?_
 refine qA (.slice none 0 0) rfl ?_
 refine WpL_nil (Wp_seq_region ?_)
 refine qM (.slice a ts.length c) rfl ?_
 refine qM fv rfl ?_
 refine WpL_enter rfl rfl (by decide) (r_callF (vs := [(.slice a ts.length c), fv]) Tryz.func82 nm82 bd82 rfl) ((res_idx_c _ _ fv ts p hrs (fun w x vs _ hm hx => hf w x vs hm hx)).mono (R' := fun r w => r = .int .i64 q ∧ Ext w0 w) (by rintro v w ⟨rfl, h⟩; exact ⟨by rw [hq], h⟩)) ?_
 rintro _ w9 ⟨rfl, X9⟩
 replace E := E.ext X9
 refine qA (I6 q) rfl ?_
 refine WpL_nil (Wp_seq (Wp_seq_region ?_))
 refine qM (I6 q) rfl ?_
 refine qV (r_eql (k := .i64) (a := q) (b := (-1)) rfl rfl) ?_
 refine WpL_nil ?_
 refine Wp_cond (b := decide ((q : Int) = (-1))) rfl (fun h1 => ?_) (fun h1 => ?_)
 ·have kh1 := h1
  replace h1 := of_decide_eq_true h1
  have hfi : (ts.filter fun x => !p x) = ts := idx_none (by rw [← hq]; exact h1)
  refine Wp_seq_region ?_
  refine qM (.slice a ts.length c) rfl ?_
  refine qA (.slice a ts.length c) rfl ?_
  refine WpL_nil (Wp_ret (thn_ret ?_))
  refine fin_tmp Tryz.results166 (v := (.slice a ts.length c)) rfl ?_
  rw [hfi]; exact ⟨a, c, rows, rfl, own_ext hown0 X9, hr, E⟩
 ·have kh1 := h1
  replace h1 := of_decide_eq_false h1
  obtain ⟨i0, hi0, hi0l, hi0f⟩ := idx_some (p := p) (l := ts) (by rw [← hq]; exact h1)
  obtain rfl : q = ((i0 : Nat) : Int) := by rw [hq, hi0]
  rcases hown0.2 with ⟨_, hbad⟩ | ⟨g, cap, cur0, hv0, hgb, hgB, hcap1, hcap2, hcap3, hcap4⟩
  ·omega
  simp only [Value.slice.injEq] at hv0
  obtain ⟨rfl, _, rfl⟩ := hv0
  obtain ⟨rest, hrest⟩ : ∃ rest, rest = cur0.toList.drop (ts.length * 6) := ⟨_, rfl⟩
  have hgB2 : Blk w9 g (rows.flatten ++ rest).toArray TRe := X9.keep (by rw [hrest, ← hcap4, List.take_append_drop]; exact hgB)
  have hszz : (rows.flatten ++ rest).length = c * 6 := by rw [hrest, ← hcap4, List.take_append_drop]; simpa using hcap3
  have hrl := hr.len
  have hr6 := hr.six
  have hrestl : rest.length = c * 6 - ts.length * 6 := by rw [List.length_append, rows_len hr6, hrl] at hszz; omega
  refine Wp_skip (thn_normal (Wp_seq (Wp_seq_region ?_)))
  refine qM (I6 (i0 : Int)) rfl ?_
  refine qV (r_add (k := .i64) (a := (i0 : Int)) (b := 1) (c := (i0 : Int) + 1) rfl rfl (wI64 (by omega))) ?_
  refine qA (I6 ((i0 : Int) + 1)) rfl ?_
  refine WpL_nil (Wp_block ?_)
  refine Wp_loop (fun nn_ σ W2 => ∃ (j : Nat) (i : Nat) (cur : List (List Value)), (∃ jj_, σ = upds jj_ [(0, (.slice (some ⟨g, 0, none⟩) ts.length c)), (1, fv), (6, (I6 (j : Int))), (5, (I6 (i : Int)))]) ∧ Chg (fun x => base ≤ x) w0 W2 ∧ Blk W2 g ((cur.flatten ++ rest).toArray) TRe ∧ (i < j ∧ j ≤ ts.length) ∧ (cur.length = ts.length) ∧ (∀ r ∈ cur, r.length = 6) ∧ (cur.drop j = rows.drop j) ∧ (RowsIn S wb ((ts.take j).filter fun x => !p x) (cur.take i)) ∧ (i = ((ts.take j).filter fun x => !p x).length) ∧ nn_ = ts.length - j) (n := ts.length - (i0 + 1)) ?_ ?_
  ·exact ⟨i0 + 1, i0, rows, Fits.out ⟨rfl, rfl, rfl, rfl, trivial⟩, E, hgB2, ⟨by omega, by omega⟩, hrl, hr6, rfl, (by rw [hi0f]; exact hr.take i0), (by rw [hi0f]; simp; omega), rfl⟩
  ·clear E hgB2
   rintro _ _ W2 ⟨j, i, cur, ⟨j2, rfl⟩, E, hgB2, hij, hcl, hc6, hdr, hin, hil, rfl⟩
   refine Wp_seq (Wp_seq_region ?_)
   refine qM (I6 (j : Int)) rfl ?_
   refine qM (.slice (some ⟨g, 0, none⟩) ts.length c) rfl ?_
   refine qV (r_lenSlice (ad := some ⟨g, 0, none⟩) (n := ts.length) (cap := c) Tryz.underlying23 rfl) ?_
   refine qV (r_lss (k := .i64) (a := (j : Int)) (b := (ts.length : Int)) rfl rfl) ?_
   refine WpL_nil ?_
   refine Wp_cond (b := decide (((j : Int) : Int) < (ts.length : Int))) rfl (fun hlt => ?_) (fun hlt => ?_)
   ·have khlt := hlt
    replace hlt := of_decide_eq_true hlt
    obtain ⟨x, hx⟩ := get_of_lt (l := ts) (i := j) (by omega)
    obtain ⟨r, hrr, hrx⟩ := hr.get hx
    have hcr : cur[j]? = some r := by rw [drop_get hdr (Nat.le_refl _)]; exact hrr
    have hfs := filter_snoc (p := p) hx
    have hdr2 : cur.drop (j + 1) = rows.drop (j + 1) := by rw [← List.drop_drop, ← List.drop_drop, hdr]
    have hrx2 : ReAt (W2) x r := ReIn.at x (ReIn.chg E (fun y hy hb => by have := hS y hy; have hb' : base ≤ y := hb; omega) x (ReIn.ext hE x hrx))
    have hrl6 := hrx.len
    obtain ⟨sa, sc, aa, ac, rfl, _, _, _⟩ := hrx2.form
    refine Wp_skip (thn_normal (Wp_seq (Wp_block (Wp_seq_region ?_))))
    refine qM (.slice (some ⟨g, 0, none⟩) ts.length c) rfl ?_
    refine qM (I6 (j : Int)) rfl ?_
    refine qV (r_indexSlice (b := g) (o := 0) (len := ts.length) (cap := c) (i := j) (o' := 0 + j * 6) rfl rfl rfl Tryz.underlying23 siz25 (by omega) (by omega)) ?_
    refine qV (r_loadAgg (vs := [(I6 x.kind), (.slice sa x.set.length sc), (.slice aa x.args.length ac), (I6 x.mn), (I6 x.mx), (.bool x.neg)]) rfl agg25 siz25 rfl (by rw [Nat.zero_add]; exact rows_at hgB2 hc6 hcr)) ?_
    refine s_allocStore (v := (.agg (R6 x sa sc aa ac))) (c := (R6 x sa sc aa ac)) (n := 6) (by decide) zer25 rfl siz25 rfl rfl rfl (by simp [Value.oneCell']) ?_
    intro bs ws Ns
    have Fs := Ns.ge E
    have Os_g := Ns.lt hgB2
    replace hgB2 := Ns.keep hgB2
    replace hrx2 := ReAt.ext Ns.ext x hrx2
    replace E := E.ext Ns.ext
    have Bs := Ns.blk
    refine WpL_nil (Wp_seq_region ?_)
    refine qM fv rfl ?_
    refine qV (r_loadAgg (vs := [(I6 x.kind), (.slice sa x.set.length sc), (.slice aa x.args.length ac), (I6 x.mn), (I6 x.mx), (.bool x.neg)]) rfl agg25 siz25 rfl (Bs.cells rfl)) ?_
    refine WpL_callV (fv := fv) (vs := [(.agg (R6 x sa sc aa ac))]) (by decide) rfl rfl (hf _ x _ (List.mem_of_getElem? hx) hrx2) ?_
    rintro _ w19 ⟨rfl, X19⟩
    replace hgB2 := X19.keep hgB2
    replace Bs := X19.keep Bs
    replace hrx2 := ReAt.ext X19 x hrx2
    replace E := E.ext X19
    refine qV (r_not (b := p x) rfl) ?_
    refine WpL_nil ?_
    refine Wp_cond (b := !(p x)) rfl (fun hp => ?_) (fun hp => ?_)
    ·have khp := hp
     replace hp := by simpa using hp
     refine Wp_seq_region ?_
     refine qM (.slice (some ⟨g, 0, none⟩) ts.length c) rfl ?_
     refine qM (I6 (i : Int)) rfl ?_
     refine qV (r_loadAgg (vs := [(I6 x.kind), (.slice sa x.set.length sc), (.slice aa x.args.length ac), (I6 x.mn), (I6 x.mx), (.bool x.neg)]) rfl agg25 siz25 rfl (Bs.cells rfl)) ?_
     refine qV (r_indexSlice (b := g) (o := 0) (len := ts.length) (cap := c) (i := i) (o' := 0 + i * 6) rfl rfl rfl Tryz.underlying23 siz25 (by omega) (by omega)) ?_
     refine s_storeAgg (b := g) (o := 0 + i * 6) (n := 6) (c' := ((cur.set i [.int .i64 x.kind, .slice sa x.set.length sc, .slice aa x.args.length ac, .int .i64 x.mn, .int .i64 x.mx, .bool x.neg]).flatten ++ rest).toArray) (vs := (R6 x sa sc aa ac)) rfl rfl (by simp [Value.oneCell']) siz25 (rfl) hgB2 (by have := rows_len hc6; simp only [List.size_toArray, List.length_append]; omega) (by rw [Nat.zero_add]; exact congrArg List.toArray (rows_set (k := 6) (v := [.int .i64 x.kind, .slice sa x.set.length sc, .slice aa x.args.length ac, .int .i64 x.mn, .int .i64 x.mx, .bool x.neg]) (rows := cur) (i := i) (rest := rest) rfl hc6 (by omega))) ?_
     intro w5 S5
     replace Bs := S5.keep (by omega) Bs
     replace E := S5.step E (by first | exact Or.inl (by omega) | exact Or.inr rfl | exact Or.inr (by assumption) | exact Or.inr (by simp) | exact Or.inr (by omega) | exact Or.inr (by dsimp only; omega))
     replace hgB2 := S5.blk
     refine WpL_nil (Wp_region ?_)
     refine qM (I6 (i : Int)) rfl ?_
     refine qV (r_add (k := .i64) (a := (i : Int)) (b := 1) (c := (i : Int) + 1) rfl rfl (wI64 (by omega))) ?_
     refine qA (I6 ((i : Int) + 1)) rfl ?_
     refine WpL_nil (inB_normal (thn_normal (Wp_region ?_)))
     refine qM (I6 (j : Int)) rfl ?_
     refine qV (r_add (k := .i64) (a := (j : Int)) (b := 1) (c := (j : Int) + 1) rfl rfl (wI64 (by omega))) ?_
     refine qA (I6 ((j : Int) + 1)) rfl ?_
     refine WpL_nil (thn_normal ?_)
     exact ⟨ts.length - (j + 1), by omega, j + 1, i + 1, cur.set i [.int .i64 x.kind, .slice sa x.set.length sc, .slice aa x.args.length ac, .int .i64 x.mn, .int .i64 x.mx, .bool x.neg], Fits.out ⟨rfl, rfl, rfl, rfl, trivial⟩, E, hgB2, ⟨by omega, by omega⟩, (by simpa using hcl), (fun r hr => by rcases List.mem_or_eq_of_mem_set hr with h | h; exact hc6 r h; rw [h]; rfl), (by rw [List.drop_set_of_lt (by omega)]; exact hdr2), (by rw [hfs, hp, List.take_add_one, List.take_set_of_le (Nat.le_refl _), List.getElem?_set_self (by omega)]; exact RowsIn.append (RowsIn.single hrx) hin), (by rw [hfs, hp, List.length_append, ← hil]; rfl), rfl⟩
    ·have khp := hp
     replace hp := by simpa using hp
     refine Wp_skip (inB_normal (thn_normal (Wp_region ?_)))
     refine qM (I6 (j : Int)) rfl ?_
     refine qV (r_add (k := .i64) (a := (j : Int)) (b := 1) (c := (j : Int) + 1) rfl rfl (wI64 (by omega))) ?_
     refine qA (I6 ((j : Int) + 1)) rfl ?_
     refine WpL_nil (thn_normal ?_)
     exact ⟨ts.length - (j + 1), by omega, j + 1, i, cur, Fits.out ⟨rfl, rfl, rfl, rfl, trivial⟩, E, hgB2, ⟨by omega, by omega⟩, hcl, hc6, hdr2, (by rw [hfs, hp]; simpa using hin), (by rw [hfs, hp]; simpa using hil), rfl⟩
   ·have khlt := hlt
    replace hlt := of_decide_eq_false hlt
    have hjj : j = ts.length := by omega
    rw [hjj, List.take_length] at hin hil
    refine Wp_exit (thn_exit (thn_exit (inB_here (thn_normal (Wp_seq_region ?_)))))
    refine qM (.slice (some ⟨g, 0, none⟩) ts.length c) rfl ?_
    refine qM (I6 (i : Int)) rfl ?_
    obtain ⟨sl, hsl⟩ : ∃ a' : Option Addr, (if c = i then (some ⟨g, 0, none⟩) else Option.map (fun q : Addr => q.add (i * 6)) (some ⟨g, 0, none⟩)) = a' := ⟨_, rfl⟩
    refine qV (r_sliceLo (a := (some ⟨g, 0, none⟩)) (len := ts.length) (cap := c) (lo := i) (l := (i : Int)) (n' := (ts.length - i)) (c' := (c - i)) Tryz.underlying23 siz25 rfl rfl (by omega) (by omega) hsl (by omega) (by omega)) ?_
    have hsl2 : sl = some ⟨g, i * 6, none⟩ := by rw [← hsl, if_neg (by omega)]; simp [Addr.add]; omega
    subst hsl2
    obtain ⟨cz, hcz⟩ : ∃ cz, cz = ((cur.flatten ++ rest).toArray.toList.take (i * 6) ++ (Builtin.zeroCells (Value.cells (.agg #[(.int .i64 0), (.slice none 0 0), (.slice none 0 0), (.int .i64 0), (.int .i64 0), (.bool false)])) (ts.length - i)).toList ++ (cur.flatten ++ rest).toArray.toList.drop (i * 6 + (ts.length - i) * 6)).toArray := ⟨_, rfl⟩
    refine s_clear (b := g) (o := i * 6) (m := (ts.length - i)) (cc := (c - i)) (c' := cz) Tryz.underlying23 zer25 rfl (by omega) hgB2 zero_one (by show i * 6 + (ts.length - i) * 6 ≤ _; simp only [List.size_toArray, List.length_append, rows_len hc6, hcl]; omega) (hcz.symm) ?_
    intro w6 S6
    replace E := S6.step E (by first | exact Or.inl (by omega) | exact Or.inr rfl | exact Or.inr (by assumption) | exact Or.inr (by simp) | exact Or.inr (by omega) | exact Or.inr (by dsimp only; omega))
    replace hgB2 := S6.blk
    refine WpL_nil (Wp_seq_region ?_)
    refine qM (.slice (some ⟨g, 0, none⟩) ts.length c) rfl ?_
    refine qM (I6 (i : Int)) rfl ?_
    obtain ⟨sm, hsm⟩ : ∃ a' : Option Addr, (if c = 0 then (some ⟨g, 0, none⟩) else Option.map (fun q : Addr => q.add (0 * 6)) (some ⟨g, 0, none⟩)) = a' := ⟨_, rfl⟩
    refine qV (r_sliceHi (a := (some ⟨g, 0, none⟩)) (len := ts.length) (cap := c) (hi := i) (l := (i : Int)) Tryz.underlying23 siz25 rfl rfl (by omega) (by omega) hsm) ?_
    refine qA (.slice sm i c) rfl ?_
    refine WpL_nil (Wp_ret ?_)
    refine fin_tmp Tryz.results166 (v := (.slice sm i c)) rfl ?_
    have hsm2 : sm = some ⟨g, 0, none⟩ := by rw [← hsm]; split <;> simp [Addr.add]
    subst hsm2
    have hfl : (cur.take i).flatten.length = i * 6 := by rw [rows_len (fun r hr => hc6 r (List.mem_of_mem_take hr))]; simp; omega
    have htk : (cur.flatten ++ rest).take (i * 6) = (cur.take i).flatten := by
     have : cur.flatten = (cur.take i).flatten ++ (cur.drop i).flatten := by rw [← List.flatten_append, List.take_append_drop]
     rw [this, List.append_assoc, List.take_append_of_le_length (by omega), List.take_of_length_le (by omega)]
    have hz : (Builtin.zeroCells (Value.cells (.agg #[(.int .i64 0), (.slice none 0 0), (.slice none 0 0), (.int .i64 0), (.int .i64 0), (.bool false)])) (ts.length - i)).toList.length = (ts.length - i) * 6 := by simp [Builtin.zeroCells, Value.cells]
    have hcl6 : (cur.flatten ++ rest).length = c * 6 := by rw [List.length_append, rows_len hc6, hcl]; omega
    refine ⟨some ⟨g, 0, none⟩, c, cur.take i, by rw [← hil], ⟨by rw [hfl, ← hil], .inr ⟨g, c, cz, by rw [← hil], hgb, hgB2, by omega, hcap2, ?_, ?_⟩⟩, hin, E⟩
    ·rw [hcz]
     simp only [List.size_toArray, List.length_append, List.length_take, List.length_drop, hz]
     simp only [List.length_append] at hcl6
     omega
    ·rw [hcz, ← hil]
     show List.take (i * 6) (List.take (i * 6) (cur.flatten ++ rest) ++ _ ++ _) = _
     rw [htk, List.append_assoc, List.take_append_of_le_length (by omega), List.take_of_length_le (by omega)]
end Go.Proofs
namespace Go.Proofs
open Go Go.Eng
set_option maxRecDepth 100000
theorem RsIn.ext {S : Nat → Prop} {w w' : World} {v : Value} {ts : List Re} (h : RsIn S w v ts) (e : Ext w w') : RsIn S w' v ts := by
 obtain ⟨aa, ac, h1, h2, h3⟩ := h
 refine ⟨aa, ac, h1, h2, ?_⟩
 rcases h3 with h | ⟨b, o, hb, h4, h5⟩
 ·exact .inl h
 ·exact .inr ⟨b, o, hb, h4, ResIn.chg e (fun _ _ f => f) ts hb h5⟩
theorem re_empty (S : Nat → Prop) (w : World) (k : Int) : ReIn S w (.mk k [] [] 0 0 false) [.int .i64 k, .slice none 0 0, .slice none 0 0, .int .i64 0, .int .i64 0, .bool false] :=
 ReIn.of (SlIn.nil _ _ _ _ _) (by simp) (.inl rfl)
theorem getD_one {α : Type} {l : List α} (h : l.length = 1) {x : α} (hx : l[0]? = some x) : l = [x] := by
  match l, h with
  | [y], _ => simp at hx; rw [hx]
end Go.Proofs
namespace Go.Proofs
open Go Go.Eng
set_option maxRecDepth 100000
theorem RowsIn.chg {S M : Nat → Prop} {w w' : World} (c : Chg M w w') (hm : ∀ b, S b → ¬ M b) : ∀ {ts : List Re} {rows : List (List Value)}, RowsIn S w ts rows → RowsIn S w' ts rows
  | [], _, h => h
  | t :: ts, rows, h => by
    obtain ⟨r, rs, h1, h2, h3⟩ := h
    exact ⟨r, rs, h1, ReIn.chg c hm t h2, RowsIn.chg c hm h3⟩
theorem RowsIn.mono {S S' : Nat → Prop} {w : World} (hs : ∀ b, S b → S' b) : ∀ {ts : List Re} {rows : List (List Value)}, RowsIn S w ts rows → RowsIn S' w ts rows
  | [], _, h => h
  | t :: ts, rows, h => by
    obtain ⟨r, rs, h1, h2, h3⟩ := h
    exact ⟨r, rs, h1, ReIn.mono hs t h2, RowsIn.mono hs h3⟩
theorem SlIn.lt {S : Nat → Prop} {w : World} {v : Value} {l : List (Int × Int)} (h : SlIn S w 2 v (l.map spanV)) : SlIn (fun b => S b ∧ b < w.heap.size) w 2 v (l.map spanV) := by
  obtain ⟨a, cap, h1, h2, h3, h4⟩ := h
  refine ⟨a, cap, h1, h2, h3, ?_⟩
  rcases h4 with h | ⟨b, o, hb, h5, h6⟩
  · exact .inl h
  · cases l with
    | nil => exact .inl rfl
    | cons s r =>
      have := h6 0 (spanV s) rfl 0 _ rfl
      exact .inr ⟨b, o, ⟨hb, World.block_lt_of_cell? w _ this⟩, h5, h6⟩
mutual
theorem ReIn.lt {S : Nat → Prop} {w : World} : ∀ (t : Re) {vs : List Value}, ReIn S w t vs → ReIn (fun b => S b ∧ b < w.heap.size) w t vs
  | .mk k set args mn mx ng, vs, h => by
    simp only [ReIn] at h ⊢
    obtain ⟨sa, sc, aa, ac, hv, hs, hl, ha⟩ := h
    refine ⟨sa, sc, aa, ac, hv, SlIn.lt hs, hl, ?_⟩
    rcases ha with h | ⟨b, o, hb, h1, h2⟩
    · exact .inl h
    · match args, h2 with
      | [], _ => exact .inl rfl
      | t :: ts, h2 =>
        have h3 := h2
        simp only [ResIn] at h3
        obtain ⟨⟨us, h4, h5⟩, _⟩ := h3
        obtain ⟨_, _, _, _, rfl, _⟩ := h5.form
        have := h4 0 _ rfl
        exact .inr ⟨b, o, ⟨hb, World.block_lt_of_cell? w _ this⟩, h1, ResIn.lt (t :: ts) h2⟩
theorem ResIn.lt {S : Nat → Prop} {w : World} {b : Nat} : ∀ (ts : List Re) {o : Nat}, ResIn S w b o ts → ResIn (fun b => S b ∧ b < w.heap.size) w b o ts
  | [], _, _ => by simp only [ResIn]
  | t :: ts, o, h => by
    simp only [ResIn] at h ⊢
    obtain ⟨⟨vs, h1, h2⟩, h3⟩ := h
    exact ⟨⟨vs, h1, ReIn.lt t h2⟩, ResIn.lt ts h3⟩
end
theorem RsIn.lt {S : Nat → Prop} {w : World} {v : Value} {ts : List Re} (h : RsIn S w v ts) : RsIn (fun b => S b ∧ b < w.heap.size) w v ts := by
  obtain ⟨aa, ac, h1, h2, h3⟩ := h
  refine ⟨aa, ac, h1, h2, ?_⟩
  rcases h3 with h | ⟨b, o, hb, h4, h5⟩
  · exact .inl h
  · match ts, h5 with
    | [], _ => exact .inl rfl
    | t :: ts, h5 =>
      have h6 := h5
      simp only [ResIn] at h6
      obtain ⟨⟨us, h7, h8⟩, _⟩ := h6
      obtain ⟨_, _, _, _, rfl, _⟩ := h8.form
      have := h7 0 _ rfl
      exact .inr ⟨b, o, ⟨hb, World.block_lt_of_cell? w _ this⟩, h4, ResIn.lt (t :: ts) h5⟩
/-- The arguments while they are made normal one by one. -/
def NSt (f : Re → Re) (Z L : Nat → Prop) (n0 : Nat) (w : World) (aa : Option Addr) (args : List Re) (k : Nat) : Prop :=
 args = [] ∨ ∃ (b : Nat) (rows : List (List Value)) (rest : List Value) (D K : Nat → Prop), aa = some ⟨b, 0, none⟩ ∧ L b ∧ Blk w b (rows.flatten ++ rest).toArray TRe ∧ RowsIn (fun y => Z y ∨ D y ∨ n0 ≤ y) w ((args.take k).map f) (rows.take k) ∧ Trees Z w (args.drop k) (rows.drop k) K ∧ rows.length = args.length ∧ (∀ r ∈ rows, r.length = 6) ∧ (∀ y, D y → L y ∧ y ≠ b ∧ ¬ K y) ∧ (∀ y, K y → L y ∧ y ≠ b)
theorem NSt.ext {f : Re → Re} {Z L : Nat → Prop} {n0 : Nat} {w w' : World} {aa : Option Addr} {args : List Re} {k : Nat} (h : NSt f Z L n0 w aa args k) (e : Ext w w') : NSt f Z L n0 w' aa args k := by
 rcases h with h | ⟨b, rows, rest, D, K, h1, h2, h3, h4, h5, h6⟩
 ·exact .inl h
 ·exact .inr ⟨b, rows, rest, D, K, h1, h2, e.keep h3, h4.ext e, Trees.ext e _ h5, h6⟩
theorem headD_get {α : Type} {l : List α} {x d : α} (h : l[0]? = some x) : l.headD d = x := by
  cases l with
  | nil => simp at h
  | cons y r => simpa using h
theorem RowsIn.lt {S : Nat → Prop} {w : World} : ∀ {ts : List Re} {rows : List (List Value)}, RowsIn S w ts rows → RowsIn (fun b => S b ∧ b < w.heap.size) w ts rows
  | [], _, h => h
  | t :: ts, rows, h => by
    obtain ⟨r, rs, h1, h2, h3⟩ := h
    exact ⟨r, rs, h1, ReIn.lt t h2, RowsIn.lt h3⟩
end Go.Proofs
namespace Go.Proofs
open Go Go.Eng Go.Sort
set_option maxRecDepth 100000
/-- A node in similar form, of arguments in similar form. -/
structure SimN (k : Int) (s : List (Int × Int)) (a : List Re) (m x : Int) (g : Bool) : Prop where
 ks : k = 0 ∨ k = 1 ∨ k = 2 ∨ k = 3 ∨ k = 4 ∨ k = 5 ∨ k = 6 ∨ k = 7 ∨ k = 8
 ng : g = false
 st : k ≠ 2 → s = []
 mm : k ≠ 6 → m = 0 ∧ x = 0
 k2 : k = 2 → s ≠ [] ∧ checkE s = 0
 none : k = 0 ∨ k = 1 ∨ k = 2 → a = []
 k3 : k = 3 → 2 ≤ a.length ∧ ∀ y ∈ a, y.kind ≠ 0 ∧ y.kind ≠ 1 ∧ y.kind ≠ 3
 k4 : k = 4 → 2 ≤ a.length ∧ (∀ y ∈ a, y.kind ≠ 0 ∧ y.kind ≠ 4 ∧ isAllB y = false) ∧ a.Pairwise fun y z => ordR y z < 0
 k7 : k = 7 → 2 ≤ a.length ∧ (∀ y ∈ a, y.kind ≠ 0 ∧ y.kind ≠ 7 ∧ isAllB y = false) ∧ a.Pairwise fun y z => ordR y z < 0
 k5 : k = 5 → ∃ y, a = [y] ∧ y.kind ≠ 0 ∧ y.kind ≠ 1 ∧ y.kind ≠ 5
 k6 : k = 6 → ∃ y, a = [y] ∧ y.kind ≠ 0 ∧ y.kind ≠ 1 ∧ 0 ≤ m ∧ m ≤ x ∧ x ≤ 8 ∧ x ≠ 0 ∧ ¬ (m = 1 ∧ x = 1)
 k8 : k = 8 → ∃ y, a = [y] ∧ y.kind ≠ 8
mutual
def SimOk : Re → Prop
  | .mk k s a m x g => SimN k s a m x g ∧ SimOks a
def SimOks : List Re → Prop
  | [] => True
  | t :: ts => SimOk t ∧ SimOks ts
end
theorem simOks_iff {ts : List Re} : SimOks ts ↔ ∀ t ∈ ts, SimOk t := by
  induction ts with
  | nil => simp [SimOks]
  | cons t ts ih => simp [SimOks, ih]
theorem SimOk.n {t : Re} (h : SimOk t) : SimN t.kind t.set t.args t.mn t.mx t.neg := by cases t; exact h.1
theorem SimOk.a {t : Re} (h : SimOk t) : ∀ x ∈ t.args, SimOk x := by cases t; exact simOks_iff.1 h.2
theorem SimOk.mk' {k : Int} {s : List (Int × Int)} {a : List Re} {m x : Int} {g : Bool} (h : SimN k s a m x g) (ha : ∀ y ∈ a, SimOk y) : SimOk (.mk k s a m x g) := ⟨h, simOks_iff.2 ha⟩
mutual
theorem sim_noNeg : ∀ {t : Re}, SimOk t → noNeg t = true
  | .mk k s a m x g, h => by
    simp only [noNeg, h.1.ng, Bool.not_false, Bool.true_and]
    exact sims_noNeg h.2
theorem sims_noNeg : ∀ {ts : List Re}, SimOks ts → noNegs ts = true
  | [], _ => rfl
  | t :: ts, h => by simp only [noNegs, sim_noNeg h.1, sims_noNeg h.2]; rfl
end
theorem sim_none : SimOk noneT := by unfold noneT; exact .mk' ⟨by simp, rfl, by simp, by simp, by simp, by simp, by simp, by simp, by simp, by simp, by simp, by simp⟩ (by simp)
theorem sim_empty : SimOk emptyT := by unfold emptyT; exact .mk' ⟨by simp, rfl, by simp, by simp, by simp, by simp, by simp, by simp, by simp, by simp, by simp, by simp⟩ (by simp)
theorem sim_all : SimOk allT := by
 unfold allT
 exact .mk' ⟨by simp, rfl, by simp, by simp, by simp, by simp, by simp, by simp, by simp, by simp, by simp, fun _ => ⟨noneT, rfl, by decide⟩⟩ (by intro y hy; simp at hy; subst hy; exact sim_none)
theorem flat_mem {k : Int} {l : List Re} {x : Re} : x ∈ flatT k l ↔ ∃ y ∈ l, (y.kind = k ∧ x ∈ y.args) ∨ (y.kind ≠ k ∧ x = y) := by
 unfold flatT
 rw [List.mem_flatMap]
 constructor
 ·rintro ⟨y, hy, h⟩
  split at h
  ·rename_i hk; exact ⟨y, hy, .inl ⟨hk, h⟩⟩
  ·rename_i hk; simp at h; exact ⟨y, hy, .inr ⟨hk, h⟩⟩
 ·rintro ⟨y, hy, ⟨hk, h⟩ | ⟨hk, h⟩⟩
  ·exact ⟨y, hy, by rw [if_pos hk]; exact h⟩
  ·exact ⟨y, hy, by rw [if_neg hk]; simp [h]⟩
theorem flat_id {k : Int} {l : List Re} (h : ∀ x ∈ l, x.kind ≠ k) : flatT k l = l := by
  unfold flatT
  induction l with
  | nil => rfl
  | cons x l ih => rw [List.flatMap_cons, if_neg (h x (by simp)), ih fun y hy => h y (by simp [hy])]; rfl
theorem del_id {p : Re → Bool} {l : List Re} (h : ∀ x ∈ l, p x = false) : delT p l = l := List.filter_eq_self.2 fun x hx => by rw [h x hx]; rfl
theorem del_mem {p : Re → Bool} {l : List Re} {x : Re} : x ∈ delT p l ↔ x ∈ l ∧ p x = false := by unfold delT; rw [List.mem_filter]; simp
theorem wrap_id {k : Int} {z : Re} {l : List Re} (h : 2 ≤ l.length) : wrapT k z l = .mk k [] l 0 0 false := by
  match l, h with
  | x :: y :: l, _ => rfl
theorem catD_id {l : List Re} (h : 2 ≤ l.length) (h2 : ∀ y ∈ l, y.kind ≠ 0 ∧ y.kind ≠ 1 ∧ y.kind ≠ 3) : catD l = .mk 3 [] l 0 0 false := by
 have e : delT isEmptyB (flatT 3 l) = l := by rw [flat_id fun y hy => (h2 y hy).2.2, del_id fun y hy => by simp [isEmptyB, (h2 y hy).2.1]]
 unfold catD
 rw [e, if_neg, wrap_id h]
 rw [List.any_eq_true]
 rintro ⟨y, hy, hk⟩
 simp [isNoneB] at hk
 exact (h2 y hy).1 hk
theorem catD_ok {l : List Re} (h : ∀ x ∈ l, SimOk x) : SimOk (catD l) := by
  unfold catD
  split
  · exact sim_none
  · rename_i hn
    have hm : ∀ y ∈ delT isEmptyB (flatT 3 l), SimOk y ∧ y.kind ≠ 0 ∧ y.kind ≠ 1 ∧ y.kind ≠ 3 := fun y hy => by
      have h0 : y.kind ≠ 0 := fun hk => hn (List.any_eq_true.2 ⟨y, hy, by simp [isNoneB, hk]⟩)
      obtain ⟨h1, h2⟩ := del_mem.1 hy
      have h3 : y.kind ≠ 1 := by simpa [isEmptyB] using h2
      obtain ⟨z, hz, ⟨hk, h4⟩ | ⟨hk, rfl⟩⟩ := flat_mem.1 h1
      · exact ⟨(h z hz).a y h4, h0, h3, (((h z hz).n.k3 hk).2 y h4).2.2⟩
      · exact ⟨h y hz, h0, h3, hk⟩
    generalize delT isEmptyB (flatT 3 l) = q at hm
    match q, hm with
    | [], _ => exact sim_empty
    | [x], hm => exact (hm x (by simp)).1
    | x :: y :: q, hm => exact .mk' ⟨by simp, rfl, by simp, by simp, by simp, by simp, fun _ => ⟨by simp, fun z hz => (hm z hz).2⟩, by simp, by simp, by simp, by simp, by simp⟩ fun z hz => (hm z hz).1
theorem ded_mem : ∀ {l : List Re} {x : Re}, x ∈ dedR l ↔ x ∈ l
  | [], x => by simp [dedR]
  | [y], x => by simp [dedR]
  | y :: z :: l, x => by
    simp only [dedR]
    split
    · rename_i h
      rw [ded_mem, (sameT_iff y z).1 h]
      simp
    · rw [List.mem_cons, ded_mem]
      simp
theorem ded_strict : ∀ {l : List Re}, (∀ x ∈ l, noNeg x = true) → l.Pairwise (fun y z => ordR y z ≤ 0) → (dedR l).Pairwise fun y z => ordR y z < 0
  | [], _, _ => by simp [dedR]
  | [y], _, _ => by simp [dedR]
  | y :: z :: l, hn, h => by
    obtain ⟨h1, h2⟩ := List.pairwise_cons.1 h
    simp only [dedR]
    split
    · exact ded_strict (fun x hx => hn x (by simp [List.mem_cons.1 hx])) h2
    · rename_i hne
      refine List.pairwise_cons.2 ⟨fun x hx => ?_, ded_strict (fun x hx => hn x (by simp [List.mem_cons.1 hx])) h2⟩
      have hyz : ordR y z < 0 := by
        have h3 := h1 z (by simp)
        have h4 : ordR y z ≠ 0 := fun e => hne ((sameT_iff y z).2 ((ord_zero (hn y (by simp)) (hn z (by simp))).1 e))
        omega
      rcases List.mem_cons.1 (ded_mem.1 hx) with rfl | hx
      · exact hyz
      · have h5 := (List.pairwise_cons.1 h2).1 x hx
        have h6 := ord_sym x y
        have h7 := ord_sym y x
        by_cases h8 : ordR y x < 0
        · exact h8
        · exfalso
          have h9 : ordR x y ≤ 0 := by omega
          have h10 := ord_tr h5 h9
          have h11 := ord_sym z y
          omega
theorem ded_id : ∀ {l : List Re}, l.Pairwise (fun y z => ordR y z < 0) → dedR l = l
  | [], _ => rfl
  | [y], _ => rfl
  | y :: z :: l, h => by
    obtain ⟨h1, h2⟩ := List.pairwise_cons.1 h
    simp only [dedR]
    rw [if_neg, ded_id h2]
    intro e
    have e1 := (sameT_iff y z).1 e
    have h3 := h1 z (by simp)
    have h4 := ord_sym y y
    rw [e1] at h3 h4
    omega
theorem sort_sorted (l : List Re) : (sortR l).Pairwise fun y z => ordR y z ≤ 0 := by
 have h := List.pairwise_mergeSort (le := leR) (fun a b c h1 h2 => by simp only [leR, decide_eq_true_eq] at *; exact ord_tr h1 h2) (fun a b => by simp only [leR, Bool.or_eq_true, decide_eq_true_eq]; exact ord_le a b) l
 exact h.imp fun {a b} h => by simpa [leR] using h
theorem sort_mem {l : List Re} {x : Re} : x ∈ sortR l ↔ x ∈ l := List.mem_mergeSort
theorem sort_id {l : List Re} (h : l.Pairwise fun y z => ordR y z < 0) : sortR l = l := List.mergeSort_of_pairwise (le := leR) (h.imp fun {a b} h => by simp [leR]; omega)
theorem choR_id {k : Int} {l : List Re} {strong weak : Re → Bool} {z : Re} (h : 2 ≤ l.length) (hk : ∀ y ∈ l, y.kind ≠ k) (hs : ∀ y ∈ l, strong y = false) (hw : ∀ y ∈ l, weak y = false) (hp : l.Pairwise fun y z => ordR y z < 0) : choR k l strong weak z = .mk k [] l 0 0 false := by
 unfold choR
 rw [List.find?_eq_none.2 fun y hy => by rw [hs y hy]; decide]
 show wrapT k z _ = _
 rw [flat_id hk, del_id hw, sort_id hp, ded_id hp, wrap_id h]
theorem choR_ok {k : Int} {l : List Re} {strong weak : Re → Bool} {z : Re} (h : ∀ x ∈ l, SimOk x) (hz : SimOk z)
    (hN : ∀ q : List Re, 2 ≤ q.length → (∀ y ∈ q, y.kind ≠ k ∧ strong y = false ∧ weak y = false) → (q.Pairwise fun y z => ordR y z < 0) → SimN k [] q 0 0 false)
    (hi : ∀ x, SimOk x → x.kind = k → ∀ y ∈ x.args, y.kind ≠ k ∧ strong y = false) : SimOk (choR k l strong weak z) := by
  unfold choR
  cases hf : l.find? strong with
  | some x => exact h x (List.mem_of_find?_eq_some hf)
  | none =>
    have hst := List.find?_eq_none.1 hf
    have hm : ∀ y ∈ dedR (sortR (delT weak (flatT k l))), SimOk y ∧ y.kind ≠ k ∧ strong y = false ∧ weak y = false := fun y hy => by
      obtain ⟨h1, h2⟩ := del_mem.1 (sort_mem.1 (ded_mem.1 hy))
      obtain ⟨x, hx, ⟨hk, h4⟩ | ⟨hk, rfl⟩⟩ := flat_mem.1 h1
      · exact ⟨(h x hx).a y h4, (hi x (h x hx) hk y h4).1, (hi x (h x hx) hk y h4).2, h2⟩
      · exact ⟨h y hx, hk, by simpa using hst y hx, h2⟩
    have hp := ded_strict (l := sortR (delT weak (flatT k l))) (fun x hx => by
      obtain ⟨h1, h2⟩ := del_mem.1 (sort_mem.1 hx)
      obtain ⟨y, hy, ⟨hk, h4⟩ | ⟨hk, rfl⟩⟩ := flat_mem.1 h1
      · exact sim_noNeg ((h y hy).a x h4)
      · exact sim_noNeg (h x hy)) (sort_sorted _)
    show SimOk (wrapT k z _)
    generalize dedR (sortR (delT weak (flatT k l))) = q at hm hp
    match q, hm, hp with
    | [], _, _ => exact hz
    | [x], hm, _ => exact (hm x (by simp)).1
    | x :: y :: q, hm, hp => exact .mk' (hN _ (by simp) (fun z hz => (hm z hz).2) hp) fun z hz => (hm z hz).1
theorem alt_ok {l : List Re} (h : ∀ x ∈ l, SimOk x) : SimOk (choR 4 l isAllB isNoneB noneT) :=
 choR_ok h sim_none (fun q h1 h2 h3 => ⟨by simp, rfl, by simp, by simp, by simp, by simp, by simp, fun _ => ⟨h1, fun y hy => ⟨by simpa [isNoneB] using (h2 y hy).2.2, (h2 y hy).1, (h2 y hy).2.1⟩, h3⟩, by simp, by simp, by simp, by simp⟩)
  fun x hx hk y hy => ⟨((hx.n.k4 hk).2.1 y hy).2.1, ((hx.n.k4 hk).2.1 y hy).2.2⟩
theorem and_ok {l : List Re} (h : ∀ x ∈ l, SimOk x) : SimOk (choR 7 l isNoneB isAllB allT) :=
 choR_ok h sim_all (fun q h1 h2 h3 => ⟨by simp, rfl, by simp, by simp, by simp, by simp, by simp, by simp, fun _ => ⟨h1, fun y hy => ⟨by simpa [isNoneB] using (h2 y hy).2.1, (h2 y hy).1, (h2 y hy).2.2⟩, h3⟩, by simp, by simp, by simp⟩)
  fun x hx hk y hy => ⟨((hx.n.k7 hk).2.1 y hy).2.1, by simpa [isNoneB] using ((hx.n.k7 hk).2.1 y hy).1⟩
/-- What is asked of a node whose arguments are in similar form: it is valid, but for flattening. -/
structure PreN (k : Int) (s : List (Int × Int)) (a : List Re) (m x : Int) (g : Bool) : Prop where
 ks : k = 0 ∨ k = 1 ∨ k = 2 ∨ k = 3 ∨ k = 4 ∨ k = 5 ∨ k = 6 ∨ k = 7 ∨ k = 8
 ng : g = false
 st : k ≠ 2 → s = []
 mm : k ≠ 6 → m = 0 ∧ x = 0
 k2 : k = 2 → s ≠ [] ∧ checkE s = 0
 none : k = 0 ∨ k = 1 ∨ k = 2 → a = []
 one : k = 5 ∨ k = 6 ∨ k = 8 → a.length = 1
 rep : k = 6 → 0 ≤ m ∧ m ≤ x ∧ x ≤ 8
theorem node_ok {k : Int} {s : List (Int × Int)} {a : List Re} {m x : Int} {g : Bool} (h : PreN k s a m x g) (ha : ∀ y ∈ a, SimOk y) : SimOk (nodeK k s a m x g) := by
  unfold nodeK
  dsimp only
  have one : k = 5 ∨ k = 6 ∨ k = 8 → ∃ y, a = [y] := fun hk => by
    match a, h.one hk with
    | [y], _ => exact ⟨y, rfl⟩
  split
  · exact catD_ok ha
  split
  · exact alt_ok ha
  split
  · exact and_ok ha
  split
  · rename_i h5
    obtain ⟨y, rfl⟩ := one (.inl h5)
    show SimOk (if y.kind = 0 ∨ y.kind = 1 then emptyT else if y.kind = 5 then y else Re.mk k s [y] m x g)
    split
    · exact sim_empty
    split
    · exact ha y (by simp)
    · exact .mk' ⟨h.ks, h.ng, h.st, h.mm, h.k2, h.none, by omega, by omega, by omega, fun _ => ⟨y, rfl, by omega, by omega, by omega⟩, by omega, by omega⟩ ha
  split
  · rename_i h6
    obtain ⟨y, rfl⟩ := one (.inr (.inl h6))
    have hr := h.rep h6
    show SimOk (if x = 0 ∨ y.kind = 1 ∨ (y.kind = 0 ∧ m = 0) then emptyT else if y.kind = 0 ∨ (m = 1 ∧ x = 1) then y else Re.mk k s [y] m x g)
    split
    · exact sim_empty
    split
    · exact ha y (by simp)
    · exact .mk' ⟨h.ks, h.ng, h.st, h.mm, h.k2, h.none, by omega, by omega, by omega, by omega, fun _ => ⟨y, rfl, by omega, by omega, by omega, by omega, by omega, by omega, by omega⟩, by omega⟩ ha
  split
  · rename_i h8
    obtain ⟨y, rfl⟩ := one (.inr (.inr h8))
    show SimOk (if y.kind = 8 then y.args.headD noneT else Re.mk k s [y] m x g)
    split
    · rename_i hy
      obtain ⟨z, hz, _⟩ := (ha y (by simp)).n.k8 hy
      rw [hz]
      exact (ha y (by simp)).a z (by rw [hz]; simp)
    · rename_i hy
      exact .mk' ⟨h.ks, h.ng, h.st, h.mm, h.k2, h.none, by omega, by omega, by omega, by omega, by omega, fun _ => ⟨y, rfl, hy⟩⟩ ha
  · exact .mk' ⟨h.ks, h.ng, h.st, h.mm, h.k2, h.none, by omega, by omega, by omega, by omega, by omega, by omega⟩ ha
theorem node_id {k : Int} {s : List (Int × Int)} {a : List Re} {m x : Int} {g : Bool} (h : SimN k s a m x g) : nodeK k s a m x g = .mk k s a m x g := by
 unfold nodeK
 dsimp only
 have hst := h.st
 have hmm := h.mm
 have hng := h.ng
 split
 ·rename_i hk
  obtain ⟨h1, h2⟩ := h.k3 hk
  rw [catD_id h1 h2, hst (by omega), (hmm (by omega)).1, (hmm (by omega)).2, hng, hk]
 split
 ·rename_i hk
  obtain ⟨h1, h2, h3⟩ := h.k4 hk
  rw [choR_id h1 (fun y hy => (h2 y hy).2.1) (fun y hy => (h2 y hy).2.2) (fun y hy => by simp [isNoneB, (h2 y hy).1]) h3, hst (by omega), (hmm (by omega)).1, (hmm (by omega)).2, hng, hk]
 split
 ·rename_i hk
  obtain ⟨h1, h2, h3⟩ := h.k7 hk
  rw [choR_id h1 (fun y hy => (h2 y hy).2.1) (fun y hy => by simp [isNoneB, (h2 y hy).1]) (fun y hy => (h2 y hy).2.2) h3, hst (by omega), (hmm (by omega)).1, (hmm (by omega)).2, hng, hk]
 split
 ·rename_i hk
  obtain ⟨y, rfl, h1, h2, h3⟩ := h.k5 hk
  show (if y.kind = 0 ∨ y.kind = 1 then emptyT else if y.kind = 5 then y else Re.mk k s [y] m x g) = _
  rw [if_neg (by omega), if_neg h3]
 split
 ·rename_i hk
  obtain ⟨y, rfl, h1, h2, h3, h4, h5, h6, h7⟩ := h.k6 hk
  show (if x = 0 ∨ y.kind = 1 ∨ (y.kind = 0 ∧ m = 0) then emptyT else if y.kind = 0 ∨ (m = 1 ∧ x = 1) then y else Re.mk k s [y] m x g) = _
  rw [if_neg (by omega), if_neg (by omega)]
 split
 ·rename_i hk
  obtain ⟨y, rfl, h1⟩ := h.k8 hk
  show (if y.kind = 8 then y.args.headD noneT else Re.mk k s [y] m x g) = _
  rw [if_neg h1]
 ·rfl
mutual
/-- What is in similar form is its own similar form. -/
theorem simR_id : ∀ {t : Re}, SimOk t → simR t = t
  | .mk k s a m x g, h => by simp only [simR]; rw [simRs_id h.2, node_id h.1]
theorem simRs_id : ∀ {ts : List Re}, SimOks ts → simRs ts = ts
  | [], _ => rfl
  | t :: ts, h => by simp only [simRs]; rw [simR_id h.1, simRs_id h.2]
end
end Go.Proofs
namespace Go.Proofs
open Go Go.Eng Go.Sort
set_option maxRecDepth 100000
theorem wrap_ok {l : List Re} (h : ∀ x ∈ l, SimOk x) (hk : ∀ y ∈ l, y.kind ≠ 0 ∧ y.kind ≠ 1 ∧ y.kind ≠ 3) : SimOk (wrapT 3 emptyT l) := by
  match l, h, hk with
  | [], _, _ => exact sim_empty
  | [x], h, _ => exact h x (by simp)
  | x :: y :: l, h, hk => exact .mk' ⟨by simp, rfl, by simp, by simp, by simp, by simp, fun _ => ⟨by simp, hk⟩, by simp, by simp, by simp, by simp, by simp⟩ h
theorem stepRs_len (c : Int) : ∀ ts : List Re, (stepRs c ts).length = ts.length
  | [] => rfl
  | t :: ts => by simp only [stepRs, List.length_cons, stepRs_len c ts]
theorem stepRs_map (c : Int) (ts : List Re) : stepRs c ts = ts.map (stepR c) := by
  induction ts with
  | nil => rfl
  | cons t ts ih => simp [stepRs, ih]
mutual
theorem step_ok (c : Int) : ∀ {t : Re}, SimOk t → SimOk (stepR c t)
  | .mk k s a m x g, h => by
    have hn := h.1
    have ha := simOks_iff.1 h.2
    have hs := steps_ok c h.2
    simp only [stepR]
    split
    · split
      · exact sim_empty
      · exact sim_none
    split
    · rename_i hk
      exact stepC_ok c h.2 (hn.k3 hk).2
    split
    · rename_i h1 h2 hk
      refine node_ok ⟨by omega, rfl, fun _ => rfl, fun _ => ⟨rfl, rfl⟩, by omega, by omega, fun h8 => ?_, by omega⟩ hs
      rw [stepRs_len]
      obtain ⟨y, rfl, _⟩ := hn.k8 (by omega)
      rfl
    split
    · rename_i hk
      obtain ⟨y, rfl, hy⟩ := hn.k5 hk
      refine catD_ok fun z hz => ?_
      simp only [stepRs, List.headD_cons, List.mem_cons, List.not_mem_nil, or_false] at hz
      rcases hz with rfl | rfl
      · exact hs _ (by simp [stepRs])
      · exact h
    split
    · rename_i hk
      obtain ⟨y, rfl, hy1, hy2, h3, h4, h5, h6, h7⟩ := hn.k6 hk
      refine catD_ok fun z hz => ?_
      simp only [stepRs, List.headD_cons, List.mem_cons, List.not_mem_nil, or_false] at hz
      rcases hz with rfl | rfl
      · exact hs _ (by simp [stepRs])
      · exact node_ok ⟨by omega, rfl, fun _ => rfl, by omega, by omega, by omega, fun _ => rfl, fun _ => by omega⟩ (by intro z hz; simp at hz; subst hz; exact ha _ (by simp))
    · exact sim_none
theorem steps_ok (c : Int) : ∀ {ts : List Re}, SimOks ts → ∀ x ∈ stepRs c ts, SimOk x
  | [], _, x, hx => by simp [stepRs] at hx
  | t :: ts, h, x, hx => by
    simp only [stepRs, List.mem_cons] at hx
    rcases hx with rfl | hx
    · exact step_ok c h.1
    · exact steps_ok c h.2 x hx
theorem stepC_ok (c : Int) : ∀ {ts : List Re}, SimOks ts → (∀ y ∈ ts, y.kind ≠ 0 ∧ y.kind ≠ 1 ∧ y.kind ≠ 3) → SimOk (stepC c ts)
  | [], _, _ => by simp only [stepC]; exact sim_none
  | t :: ts, h, hk => by
    simp only [stepC]
    split
    · exact step_ok c h.1
    · have h1 : SimOk (catD [stepR c t, wrapT 3 emptyT ts]) := catD_ok fun z hz => by
        simp only [List.mem_cons, List.not_mem_nil, or_false] at hz
        rcases hz with rfl | rfl
        · exact step_ok c h.1
        · exact wrap_ok (simOks_iff.1 h.2) fun y hy => hk y (by simp [hy])
      split
      · exact node_ok ⟨by omega, rfl, fun _ => rfl, fun _ => ⟨rfl, rfl⟩, by omega, by omega, by omega, by omega⟩ fun z hz => by
          simp only [List.mem_cons, List.not_mem_nil, or_false] at hz
          rcases hz with rfl | rfl
          · exact h1
          · exact stepC_ok c h.2 fun y hy => hk y (by simp [hy])
      · exact h1
end
theorem sizes_del (p : Re → Bool) : ∀ l : List Re, Re.sizes (delT p l) ≤ Re.sizes l
  | [] => by simp [delT]
  | x :: l => by
    have ih := sizes_del p l
    unfold delT at ih ⊢
    rw [List.filter_cons]
    split
    · simp only [Re.sizes]; omega
    · simp only [Re.sizes]; omega
theorem size_wrap (k : Int) (z : Re) (l : List Re) : (wrapT k z l).size ≤ if l = [] then z.size else Re.sizes l + 1 := by
  match l with
  | [] => exact Nat.le_refl _
  | [x] => simp [wrapT, Re.sizes]
  | x :: y :: l => simp [wrapT, Re.sizes, Re.size]
theorem catD_size (l : List Re) : (catD l).size ≤ Re.sizes l + 1 := by
 unfold catD
 have h1 := sizes_del isEmptyB (flatT 3 l)
 have h2 := sizes_flat 3 l
 split
 ·show 1 ≤ _; omega
 ·have h3 := size_wrap 3 emptyT (delT isEmptyB (flatT 3 l))
  split at h3
  ·have : emptyT.size = 1 := rfl
   omega
  ·omega
theorem sizes_ded : ∀ l : List Re, Re.sizes (dedR l) ≤ Re.sizes l
  | [] => Nat.le_refl _
  | [x] => Nat.le_refl _
  | x :: y :: l => by
    have ih := sizes_ded (y :: l)
    simp only [dedR]
    split
    · simp only [Re.sizes] at ih ⊢; omega
    · simp only [Re.sizes] at ih ⊢; omega
theorem sizes_perm {l m : List Re} (h : l.Perm m) : Re.sizes l = Re.sizes m := by
  induction h with
  | nil => rfl
  | cons x _ ih => simp only [Re.sizes, ih]
  | swap x y l => simp only [Re.sizes]; omega
  | trans _ _ ih1 ih2 => omega
theorem sizes_mem {l : List Re} {x : Re} (h : x ∈ l) : x.size ≤ Re.sizes l := by
 obtain ⟨i, hi⟩ := List.mem_iff_getElem?.1 h
 exact Re.sizes_get hi
theorem choR_size (k : Int) (l : List Re) (strong weak : Re → Bool) (z : Re) : (choR k l strong weak z).size ≤ max (Re.sizes l + 1) z.size := by
  unfold choR
  cases hf : l.find? strong with
  | some x => have := sizes_mem (List.mem_of_find?_eq_some hf); show x.size ≤ _; omega
  | none =>
    have h1 := sizes_del weak (flatT k l)
    have h2 := sizes_flat k l
    have h3 := sizes_perm (List.mergeSort_perm (delT weak (flatT k l)) leR)
    have h4 := sizes_ded (sortR (delT weak (flatT k l)))
    have h5 := size_wrap k z (dedR (sortR (delT weak (flatT k l))))
    unfold sortR at h4 h5
    show (wrapT k z (dedR (sortR (delT weak (flatT k l))))).size ≤ _
    unfold sortR
    split at h5 <;> omega
theorem node_size {k : Int} {s : List (Int × Int)} {a : List Re} {m x : Int} {g : Bool} (h7 : k = 7 → a ≠ []) (h8 : k = 8 → a ≠ []) : (nodeK k s a m x g).size ≤ Re.sizes a + 1 := by
  have hh : ∀ y, a.head? = some y → y.size ≤ Re.sizes a := fun y hy => sizes_mem (List.mem_of_mem_head? (by rw [hy]; rfl))
  have hd : (a.headD noneT).size ≤ Re.sizes a + 1 := by
    cases a with
    | nil => simp [noneT, Re.size, Re.sizes]
    | cons y r => simp only [List.headD_cons, Re.sizes]; omega
  have hM : (Re.mk k s a m x g).size = Re.sizes a + 1 := by simp [Re.size]
  unfold nodeK
  dsimp only
  split
  · exact catD_size a
  split
  · have := choR_size 4 a isAllB isNoneB noneT
    have : noneT.size = 1 := rfl
    omega
  split
  · rename_i hk
    have h1 := choR_size 7 a isNoneB isAllB allT
    have h2 : allT.size = 2 := rfl
    have h3 : 1 ≤ Re.sizes a := by
      cases a with
      | nil => exact absurd rfl (h7 hk)
      | cons y r => have := y.size_pos; simp only [Re.sizes]; omega
    omega
  split
  · split
    · show 1 ≤ _; omega
    split
    · exact hd
    · exact Nat.le_of_eq hM
  split
  · split
    · show 1 ≤ _; omega
    split
    · exact hd
    · exact Nat.le_of_eq hM
  split
  · rename_i hk
    split
    · cases a with
      | nil => exact absurd rfl (h8 hk)
      | cons y r =>
        simp only [List.headD_cons, Re.sizes]
        have hy := Re.size_eq y
        cases hya : y.args with
        | nil => simp [noneT, Re.size, Re.sizes]
        | cons z q => rw [hya] at hy; simp only [List.headD_cons, Re.sizes] at hy ⊢; omega
    · exact Nat.le_of_eq hM
  · exact Nat.le_of_eq hM
theorem wrap_size (l : List Re) : (wrapT 3 emptyT l).size ≤ Re.sizes l + 1 := by
 have h := size_wrap 3 emptyT l
 split at h
 ·have : emptyT.size = 1 := rfl
  omega
 ·exact h
theorem stepC_size (c : Int) : ∀ (l : List Re) (M : Nat), Re.sizes l ≤ M → (stepC c l).size ≤ Re.sizes (stepRs c l) + l.length * (M + 4) + 1
  | [], M, _ => by simp [stepC, noneT, Re.size, Re.sizes]
  | t :: ts, M, hM => by
    simp only [Re.sizes] at hM
    have ih := stepC_size c ts M (by omega)
    have h1 := catD_size [stepR c t, wrapT 3 emptyT ts]
    have h2 := wrap_size ts
    simp only [Re.sizes] at h1
    simp only [stepC, stepRs, Re.sizes, List.length_cons, Nat.succ_mul]
    split
    · omega
    · split
      · have h3 := node_size (k := 4) (s := []) (a := [catD [stepR c t, wrapT 3 emptyT ts], stepC c ts]) (m := 0) (x := 0) (g := false) (by omega) (by omega)
        simp only [Re.sizes] at h3
        omega
      · omega
mutual
theorem step_size (c : Int) (N : Nat) : ∀ {t : Re}, SimOk t → t.size ≤ N → (stepR c t).size + (N + 6) ≤ (N + 6) * (2 * t.size)
  | .mk k s a m x g, h, hN => by
    have hn := h.1
    have hs0 : (Re.mk k s a m x g).size = Re.sizes a + 1 := by simp [Re.size]
    have ih := steps_size c N h.2 (by omega)
    have e : (N + 6) * (2 * (Re.sizes a + 1)) = (N + 6) * (2 * Re.sizes a) + 2 * (N + 6) := by rw [Nat.mul_add 2, Nat.mul_add]; omega
    have hone : 1 + (N + 6) ≤ (N + 6) * (2 * (Re.sizes a + 1)) := by rw [e]; omega
    rw [hs0] at hN ⊢
    have hl := stepRs_len c a
    simp only [stepR]
    split
    · split <;> exact hone
    split
    · have h3 := stepC_size c a N (by omega)
      have h4 : a.length * (N + 4) ≤ (N + 6) * a.length := by rw [Nat.mul_comm (N + 6)]; exact Nat.mul_le_mul_left _ (by omega)
      rw [e]
      omega
    split
    · rename_i h1 h2 hk
      have h3 := node_size (k := k) (s := []) (a := stepRs c a) (m := 0) (x := 0) (g := false) (fun h7 e9 => by rw [e9] at hl; have := (hn.k7 h7).1; simp at hl; rw [← hl] at this; simp at this) (fun h8 e9 => by rw [e9] at hl; obtain ⟨y, rfl, _⟩ := hn.k8 h8; simp at hl)
      rw [e]
      omega
    split
    · rename_i hk
      obtain ⟨y, rfl, _⟩ := hn.k5 hk
      have h3 := catD_size [stepR c y, .mk k s [y] m x g]
      simp only [Re.sizes, Re.size, stepRs, List.headD_cons, List.length_cons, List.length_nil] at h3 ih hN e ⊢
      rw [e]
      omega
    split
    · rename_i hk
      obtain ⟨y, rfl, _⟩ := hn.k6 hk
      have h3 := catD_size [stepR c y, nodeK 6 [] [y] (max 0 (m - 1)) (x - 1) false]
      have h4 := node_size (k := 6) (s := []) (a := [y]) (m := max 0 (m - 1)) (x := x - 1) (g := false) (by omega) (by omega)
      simp only [Re.sizes, stepRs, List.headD_cons, List.length_cons, List.length_nil] at h3 h4 ih hN e ⊢
      rw [e]
      omega
    · exact hone
theorem steps_size (c : Int) (N : Nat) : ∀ {ts : List Re}, SimOks ts → Re.sizes ts ≤ N → Re.sizes (stepRs c ts) + (N + 6) * ts.length ≤ (N + 6) * (2 * Re.sizes ts)
  | [], _, _ => by simp [stepRs, Re.sizes]
  | t :: ts, h, hN => by
    simp only [Re.sizes] at hN
    have h1 := step_size c N h.1 (by omega)
    have h2 := steps_size c N h.2 (by omega)
    simp only [stepRs, Re.sizes, List.length_cons]
    have e1 : (N + 6) * (2 * (t.size + Re.sizes ts)) = (N + 6) * (2 * t.size) + (N + 6) * (2 * Re.sizes ts) := by rw [Nat.mul_add 2, Nat.mul_add]
    have e2 : (N + 6) * (ts.length + 1) = (N + 6) * ts.length + (N + 6) := by rw [Nat.mul_add, Nat.mul_one]
    omega
end
theorem step_small {c : Int} {t : Re} (h : SimOk t) (hs : t.size ≤ 300) : (stepR c t).size ≤ 200000 := by
 have h1 := step_size c 300 h hs
 have h2 : (300 + 6) * (2 * t.size) ≤ (300 + 6) * 600 := Nat.mul_le_mul_left _ (by omega)
 omega
mutual
theorem simR_size : ∀ {t : Re}, okRe t → (simR t).size ≤ t.size
  | .mk k s a m x g, h => by
    have ih : Re.sizes (simRs a) ≤ Re.sizes a := simRs_size (okRe_args h)
    have hl : (simRs a).length = a.length := by rw [simRs_map, List.length_map]
    have h2 := @okRe_two _ h
    have h1 := @okRe_one _ h
    simp only [Re.kind, Re.args] at h1 h2
    have hn := node_size (k := k) (s := s) (a := simRs a) (m := m) (x := x) (g := g) (fun h7 e9 => by have := h2 (by omega); rw [e9] at hl; simp at hl; omega) (fun h8 e9 => by have := h1 (by omega); rw [e9] at hl; simp at hl; omega)
    simp only [simR, Re.size]
    omega
theorem simRs_size : ∀ {ts : List Re}, okRes ts → Re.sizes (simRs ts) ≤ Re.sizes ts
  | [], _ => Nat.le_refl _
  | t :: ts, h => by
    simp only [okRes] at h
    have h1 := simR_size h.1
    have h2 := simRs_size h.2
    simp only [simRs, Re.sizes]
    omega
end
end Go.Proofs
namespace Go.Proofs
open Go Go.Eng
set_option maxRecDepth 100000
mutual
def usesB (ks : List Int) : Re → Bool
  | .mk k _ args _ _ _ => ks.contains k || usesBs ks args
def usesBs (ks : List Int) : List Re → Bool
  | [] => false
  | t :: ts => usesB ks t || usesBs ks ts
end
def useF (ks : List Int) : Unit → Re → Bool × Unit := fun _ t => (!ks.contains t.kind, ())
mutual
theorem walk_use (ks : List Int) : ∀ (t : Re), (walkF (useF ks) t ()).1 = !usesB ks t
  | .mk k set args mn mx ng => by
    have h := walks_use ks args
    rw [walkF_eq]
    split
    · rename_i hk
      have hk : ks.contains k = false := by simpa only [useF, Re.kind, Bool.not_eq_true'] using hk
      show (walkFs (useF ks) args ()).1 = _
      rw [h]
      simp only [usesB, hk, Bool.false_or]
    · rename_i hk
      have hk : ks.contains k = true := by
        cases hc : ks.contains k with
        | true => rfl
        | false => exact absurd (show (useF ks () (.mk k set args mn mx ng)).1 = true by simp only [useF, Re.kind, hc, Bool.not_false]) hk
      simp only [usesB, hk, Bool.true_or, Bool.not_true]
theorem walks_use (ks : List Int) : ∀ (ts : List Re), (walkFs (useF ks) ts ()).1 = !usesBs ks ts
  | [] => rfl
  | t :: ts => by
    have h1 := walk_use ks t
    have h := walks_use ks ts
    rw [walkFs_cons]
    split
    · rename_i hk
      rw [hk] at h1
      have hu : usesB ks t = false := by simpa using h1.symm
      show (walkFs (useF ks) ts ()).1 = _
      rw [h]
      simp only [usesBs, hu, Bool.false_or]
    · rename_i hk
      have hu : usesB ks t = true := by
        cases hc : usesB ks t with
        | true => rfl
        | false => rw [hc] at h1; exact absurd h1 hk
      simp only [usesBs, hu, Bool.true_or, Bool.not_true]
end
theorem uses1_c (w0 : World) (t : Re) (vs : List Value) (ks : List Int) (v : Value) (b : Nat) (ht : ReAt w0 t vs) (hB : Blk w0 b #[v] 26) (hks : IntsAt w0 v ks) :
  Ret Tryz.prog 127 #[.agg vs.toArray, .pointer (some ⟨b, 0, none⟩)] w0 fun r w => r = .bool (!ks.contains t.kind) ∧ Ext w0 w := by
 obtain ⟨sa, sc, aa, ac, rfl, _, _, _⟩ := ht.form
 refine Ret_of Tryz.func127 rfl Tryz.ntmps127 (Nat.le_of_ble_eq_true rfl) ?_
 have E : Chg none1 w0 w0 := Chg.refl _ _
 refine Wp_seq_region ?_
 refine s_box (v := (.agg (R6 t sa sc aa ac))) (c := (R6 t sa sc aa ac)) (by decide) rfl rfl ?_
 intro b1 w1 N1
 have F1 := N1.ge E
 have O1_b := N1.lt hB
 replace hB := N1.keep hB
 replace E := E.ext N1.ext
 have B1 := N1.blk
 refine qA (.bool false) rfl ?_
 refine WpL_nil (Wp_seq_region ?_)
 refine qV (r_load (v := v) rfl flat26 (hB.cell rfl)) ?_
 refine qF b1 0 0 rfl Tryz.underlying25 rfl siz3 rfl ?_
 refine qV (r_load (v := (I6 t.kind)) rfl flat3 (B1.cell rfl)) ?_
 refine WpL_enter rfl rfl (by decide) (r_callF (vs := [v, (I6 t.kind)]) Tryz.func128 nm128 bd128 rfl) (hasi_c _ v t.kind ks (hks.ext E)) ?_
 rintro _ w9 ⟨rfl, X9⟩
 replace hB := X9.keep hB
 replace B1 := X9.keep B1
 replace E := E.ext X9
 refine qV (r_not (b := ks.contains t.kind) rfl) ?_
 refine qA (.bool (!(ks.contains t.kind))) rfl ?_
 refine WpL_nil (Wp_ret ?_)
 refine fin_tmp Tryz.results127 (v := (.bool (!(ks.contains t.kind)))) rfl ?_
 exact ⟨rfl, E⟩
set_option maxHeartbeats 1000000 in
theorem uses_c (w0 : World) (t : Re) (vs : List Value) (ks : List Int) (v : Value) (ht : ReAt w0 t vs) (hks : IntsAt w0 v ks) :
  Ret Tryz.prog 66 #[.agg vs.toArray, v] w0 fun r w => r = .bool (usesB ks t) ∧ Ext w0 w := by
 have ht0 := ht
 obtain ⟨sa, sc, aa, ac, rfl, _, _, _⟩ := ht.form
 obtain ⟨ka, kc, rfl⟩ := SlAt.form hks
 simp only [List.length_map] at hks ⊢
 refine Ret_of Tryz.func66 rfl Tryz.ntmps66 (Nat.le_of_ble_eq_true rfl) ?_
 have E : Chg none1 w0 w0 := Chg.refl _ _
 refine Wp_seq_region ?_
 refine s_box (v := (.agg (R6 t sa sc aa ac))) (c := (R6 t sa sc aa ac)) (by decide) rfl rfl ?_
 intro br wr Nr
 have Fr := Nr.ge E
 replace E := E.ext Nr.ext
 have Br := Nr.blk
 refine s_box (v := (.slice ka ks.length kc)) (c := #[(.slice ka ks.length kc)]) (by decide) rfl rfl ?_
 intro bp wp Np
 have Fp := Np.ge E
 have Op_br := Np.lt Br
 replace Br := Np.keep Br
 replace E := E.ext Np.ext
 have Bp := Np.blk
 refine qA (.bool false) rfl ?_
 refine WpL_nil (Wp_seq_region ?_)
 refine qV (r_loadAgg (vs := [(I6 t.kind), (.slice sa t.set.length sc), (.slice aa t.args.length ac), (I6 t.mn), (I6 t.mx), (.bool t.neg)]) rfl agg25 siz25 rfl (Br.cells rfl)) ?_
 refine qV (r_makeFunc (vs := []) (us := [(P6 bp 0)]) rfl rfl) ?_
 have hf : ∀ (s : Unit) (w : World) (t : Re) (vs : List Value), bp + 1 ≤ w.heap.size → Ext wp w → Blk w bp #[.slice ka ks.length kc] 26 → ReAt wp t vs → CallV Tryz.prog (.func (.func 127) #[] #[.pointer (some ⟨bp, 0, none⟩)]) #[.agg vs.toArray] w fun r w' => r = .bool (useF ks s t).1 ∧ Chg none1 w w' ∧ Blk w' bp #[.slice ka ks.length kc] 26 := fun s w t vs _ hE hI ht => CallV.mk (first := #[]) (cap := #[.pointer (some ⟨bp, 0, none⟩)]) Tryz.func127 nm127 bd127 rfl ((uses1_c w t vs ks (.slice ka ks.length kc) bp (ReAt.ext hE t ht) hI ((hks.ext E).ext hE)).mono fun r w' h => ⟨h.1, h.2, Ext.keep h.2 hI⟩)
 refine WpL_enter rfl rfl (by decide) (r_callF (vs := [(.agg (R6 t sa sc aa ac)), (.func (.func 127) #[] #[(P6 bp 0)])]) Tryz.func121 nm121 bd121 rfl) ((walk_c (useF ks) (fun _ w => Blk w bp #[.slice ka ks.length kc] 26) none1 (bp + 1) _ wp (fun b hb => hb.elim) (fun s w w' hI e => e.keep hI) hf t.size t (Nat.le_refl _) () _ _ (by have := Bp.lt; omega) (Ext.refl _) Bp (ReAt.ext E t ht0)).mono (R' := fun r w => r = .bool (walkF (useF ks) t ()).1 ∧ Ext wp w) (fun r w h => ⟨h.1, h.2.1⟩)) ?_
 rintro _ w9 ⟨rfl, X9⟩
 replace Br := X9.keep Br
 replace Bp := X9.keep Bp
 replace E := E.ext X9
 refine qV (r_not (b := (walkF (useF ks) t ()).1) rfl) ?_
 refine qA (.bool (!((walkF (useF ks) t ()).1))) rfl ?_
 refine WpL_nil (Wp_ret ?_)
 refine fin_tmp Tryz.results66 (v := (.bool (!((walkF (useF ks) t ()).1)))) rfl ?_
 exact ⟨bool_eq (by rw [walk_use]; simp), E⟩
structure NodeI (t : Re) : Prop where
 k : 0 ≤ t.kind ∧ t.kind ≤ 10
 two : t.kind = 3 ∨ t.kind = 4 ∨ t.kind = 7 → 2 ≤ t.args.length
 one : t.kind = 5 ∨ t.kind = 6 ∨ t.kind = 8 ∨ t.kind = 9 ∨ t.kind = 10 → t.args.length = 1
 rep : t.kind = 6 → 0 ≤ t.mn ∧ t.mn ≤ t.mx ∧ t.mx ≤ 8
 grp : t.kind = 9 → 0 ≤ t.mn ∧ t.mn ≤ 9
 sett : t.kind = 2 → t.set ≠ []
theorem node_inv {t : Re} (h : nodeE t = 0) : NodeI t := by
 unfold nodeE at h
 split at h
 ·cases h
 rename_i h1
 split at h
 ·cases h
 rename_i h2
 have h3 : formB t = true := by simpa using h2
 unfold formB at h3
 simp only [Bool.and_eq_true] at h3
 have h4 := h3.1.1.1.1
 unfold okB at h4
 refine ⟨by omega, fun hk => ?_, fun hk => ?_, fun hk => ?_, fun hk => ?_, fun hk => ?_⟩
 ·rw [if_pos hk] at h4
  have := of_decide_eq_true h4; omega
 ·rw [if_neg (by omega), if_pos hk] at h4
  have := of_decide_eq_true h4; omega
 ·rw [if_neg (by omega), if_pos hk] at h
  split at h
  ·cases h
  ·omega
 ·rw [if_neg (by omega), if_neg (by omega), if_pos hk] at h
  split at h
  ·cases h
  ·omega
 ·rw [if_pos hk] at h
  intro e
  rw [e] at h
  simp [checkE, checkL] at h
end Go.Proofs
namespace Go.Proofs
open Go Go.Eng Go.Sort
set_option maxRecDepth 100000
theorem pre_of {t : Re} (h : okRe t) (h9 : t.kind ≠ 9) (h10 : t.kind ≠ 10) {a : List Re} (ha : a.length = t.args.length) : PreN t.kind t.set a t.mn t.mx t.neg := by
 have hn := okRe_node h
 have hN := node_inv hn
 have hf := (okRe_form h).2.2
 simp only [formB, Bool.and_eq_true, Bool.or_eq_true, decide_eq_true_eq, Bool.not_eq_true'] at hf
 obtain ⟨⟨⟨⟨f1, f2⟩, f3⟩, f4⟩, f5⟩ := hf
 have hk := hN.k
 refine ⟨by omega, ?_, fun h2 => ?_, fun h6 => ⟨by omega, by omega⟩, fun h2 => ⟨hN.sett h2, ?_⟩, fun h0 => ?_, fun h1 => by rw [ha]; exact hN.one (by omega), fun h6 => hN.rep h6⟩
 ·rcases f5 with h | h
  ·exact absurd h h10
  ·exact h
 ·rcases f2 with h | h
  ·exact absurd h h2
  ·exact List.eq_nil_of_length_eq_zero (by omega)
 ·unfold nodeE at hn
  split at hn
  ·cases hn
  split at hn
  ·cases hn
  first | rw [if_pos h2] at hn | skip
  by_cases hc : checkE t.set = 0
  ·exact hc
  ·rw [if_pos hc] at hn; exact hn
 ·unfold okB at f1
  rw [if_neg (by omega), if_neg (by omega)] at f1
  have := of_decide_eq_true f1
  exact List.eq_nil_of_length_eq_zero (by omega)
theorem uses_cons {ks : List Int} {k : Int} {s : List (Int × Int)} {a : List Re} {m x : Int} {g : Bool} (h : usesB ks (.mk k s a m x g) = false) : ks.contains k = false ∧ usesBs ks a = false := by
 simpa only [usesB, Bool.or_eq_false_iff] using h
mutual
theorem simR_ok : ∀ {t : Re}, okRe t → usesB [9, 10] t = false → SimOk (simR t)
  | .mk k s a m x g, h, hu => by
    obtain ⟨h1, h2⟩ := uses_cons hu
    have h9 : k ≠ 9 := fun e => by subst e; simp at h1
    have h10 : k ≠ 10 := fun e => by subst e; simp at h1
    simp only [simR]
    exact node_ok (pre_of (t := .mk k s a m x g) h h9 h10 (a := simRs a) (by rw [simRs_map, List.length_map]; rfl)) (simRs_ok (okRe_args h) h2)
theorem simRs_ok : ∀ {ts : List Re}, okRes ts → usesBs [9, 10] ts = false → ∀ x ∈ simRs ts, SimOk x
  | [], _, _, x, hx => by simp [simRs] at hx
  | t :: ts, h, hu, x, hx => by
    simp only [okRes] at h
    simp only [usesBs, Bool.or_eq_false_iff] at hu
    simp only [simRs, List.mem_cons] at hx
    rcases hx with rfl | hx
    · exact simR_ok h.1 hu.1
    · exact simRs_ok h.2 hu.2 x hx
end
theorem simN_node {k : Int} {s : List (Int × Int)} {a : List Re} {m x : Int} {g : Bool} (h : SimN k s a m x g) : nodeE (.mk k s a m x g) = 0 := by
 have hst := h.st
 have hmm := h.mm
 have hk := h.ks
 have hok : okB k a.length = true := by
  unfold okB
  split
  ·rename_i hk
   refine decide_eq_true ?_
   rcases hk with hk | hk | hk
   ·have := (h.k3 hk).1; omega
   ·have := (h.k4 hk).1; omega
   ·have := (h.k7 hk).1; omega
  split
  ·rename_i hk
   refine decide_eq_true ?_
   rcases hk with hk | hk | hk | hk | hk
   ·obtain ⟨y, rfl, _⟩ := h.k5 hk; rfl
   ·obtain ⟨y, rfl, _⟩ := h.k6 hk; rfl
   ·obtain ⟨y, rfl, _⟩ := h.k8 hk; rfl
   ·omega
   ·omega
  ·rw [h.none (by omega)]; rfl
 have hf : formB (.mk k s a m x g) = true := by
  show (((((okB k a.length && (decide (k = 2) || decide ((s.length : Int) = 0))) && ((decide (k = 6) || decide (k = 9)) || decide (m = 0))) && (decide (k = 6) || decide (x = 0))) && (decide (k = 10) || !g)) : Bool) = true
  simp only [Bool.and_eq_true, Bool.or_eq_true, decide_eq_true_eq, Bool.not_eq_true']
  refine ⟨⟨⟨⟨hok, ?_⟩, ?_⟩, ?_⟩, .inr h.ng⟩
  ·by_cases h2 : k = 2
   ·exact .inl h2
   ·rw [hst h2]; exact .inr rfl
  ·by_cases h6 : k = 6
   ·exact .inl (.inl h6)
   ·exact .inr (hmm h6).1
  ·by_cases h6 : k = 6
   ·exact .inl h6
   ·exact .inr (hmm h6).2
 show (if k < 0 ∨ 10 < k then (1 : Int) else if formB (.mk k s a m x g) = false then 3 else if k = 2 then (if checkE s ≠ 0 then checkE s else if (s.length : Int) = 0 then 3 else 0) else if k = 6 then (if m < 0 ∨ x < m ∨ 8 < x then 1 else 0) else if k = 9 then (if m < 0 ∨ 9 < m then 1 else 0) else 0) = 0
 have h1 : ¬ (k < 0 ∨ 10 < k) := by omega
 rw [if_neg h1]
 first | rw [if_neg (show ¬ formB (.mk k s a m x g) = false by rw [hf]; decide)] | skip
 split
 ·rename_i h2
  obtain ⟨h3, h4⟩ := h.k2 h2
  have h5 : s.length ≠ 0 := fun e => h3 (List.eq_nil_of_length_eq_zero e)
  rw [if_neg (by omega), if_neg (by omega)]
 split
 ·rename_i h6
  obtain ⟨y, _, _, _, h3, h4, h5, _⟩ := h.k6 h6
  rw [if_neg (by omega)]
 split
 ·omega
 ·rfl
mutual
theorem sim_valid : ∀ {t : Re}, SimOk t → okRe t ∧ usesB [9, 10] t = false
  | .mk k s a m x g, h => by
    have h1 := sims_valid h.2
    have hk := h.1.ks
    refine ⟨by simp only [okRe]; exact ⟨simN_node h.1, h1.1⟩, ?_⟩
    simp only [usesB, Bool.or_eq_false_iff]
    refine ⟨?_, h1.2⟩
    rw [Bool.eq_false_iff, ne_eq, List.contains_iff_mem]
    simp
    omega
theorem sims_valid : ∀ {ts : List Re}, SimOks ts → okRes ts ∧ usesBs [9, 10] ts = false
  | [], _ => ⟨trivial, rfl⟩
  | t :: ts, h => by
    have h1 := sim_valid h.1
    have h2 := sims_valid h.2
    exact ⟨by simp only [okRes]; exact ⟨h1.1, h2.1⟩, by simp only [usesBs, h1.2, h2.2]; rfl⟩
end
def chkD (t : Re) : Int := if fitsE t 300 ≠ 0 then fitsE t 300 else if usesB [9, 10] t = true then 3 else 0
def byE (t : Re) (c : Int) : Int := if chkD t ≠ 0 then chkD t else if runeB c = false then 1 else if 300 < (stepR c (simR t)).size then 2 else 0
def byD (t : Re) (c : Int) : Re := if byE t c = 0 then stepR c (simR t) else noneT
theorem chkD_zero {t : Re} (h : chkD t = 0) : okRe t ∧ t.size ≤ 300 ∧ usesB [9, 10] t = false ∧ SimOk (simR t) ∧ (simR t).size ≤ 300 := by
  unfold chkD at h
  by_cases h1 : fitsE t 300 = 0
  · rw [if_neg (by omega)] at h
    obtain ⟨hok, hsz⟩ := (fitsE_zero (t := t) (most := 300) (by decide) (by decide)).1 h1
    have hu : usesB [9, 10] t = false := by
      cases h2 : usesB [9, 10] t with
      | true => rw [h2] at h; cases h
      | false => rfl
    have := simR_size hok
    exact ⟨hok, by omega, hu, simR_ok hok hu, by omega⟩
  · rw [if_pos h1] at h; exact absurd h h1
theorem sim_chkD {t : Re} (h : SimOk t) (hs : t.size ≤ 300) : chkD t = 0 := by
 obtain ⟨h1, h2⟩ := sim_valid h
 unfold chkD
 rw [if_neg (by rw [(fitsE_zero (t := t) (most := 300) (by decide) (by decide)).2 ⟨h1, by omega⟩]; decide), if_neg (by rw [h2]; decide)]
end Go.Proofs
namespace Go.Proofs
open Go Go.Eng Go.Sort
set_option maxRecDepth 100000
mutual
/-- All sets of an expression have a property. -/
def AllS (P : List (Int × Int) → Prop) : Re → Prop
  | .mk k s a _ _ _ => (k = 2 → P s) ∧ AllSs P a
def AllSs (P : List (Int × Int) → Prop) : List Re → Prop
  | [] => True
  | t :: ts => AllS P t ∧ AllSs P ts
end
section
variable {P : List (Int × Int) → Prop}
theorem allSs_iff {ts : List Re} : AllSs P ts ↔ ∀ t ∈ ts, AllS P t := by
  induction ts with
  | nil => simp [AllSs]
  | cons t ts ih => simp only [AllSs, ih, List.mem_cons, forall_eq_or_imp]
theorem AllS.s {t : Re} (h : AllS P t) : t.kind = 2 → P t.set := by cases t; exact h.1
theorem AllS.a {t : Re} (h : AllS P t) : ∀ x ∈ t.args, AllS P x := by cases t; exact allSs_iff.1 h.2
theorem allS_mk {k m x : Int} {a : List Re} {g : Bool} {s : List (Int × Int)} (hk : k = 2 → P s) (h : ∀ x ∈ a, AllS P x) : AllS P (.mk k s a m x g) := ⟨hk, allSs_iff.2 h⟩
theorem allS_none : AllS P noneT := allS_mk (fun h => absurd h (by decide)) (by simp)
theorem allS_empty : AllS P emptyT := allS_mk (fun h => absurd h (by decide)) (by simp)
theorem allS_all : AllS P allT := allS_mk (fun h => absurd h (by decide)) (fun x hx => by rw [List.mem_singleton.1 hx]; exact allS_none)
theorem allS_flat {k : Int} {l : List Re} (h : ∀ x ∈ l, AllS P x) : ∀ x ∈ flatT k l, AllS P x := by
 intro x hx
 obtain ⟨y, hy, ⟨_, h1⟩ | ⟨_, rfl⟩⟩ := flat_mem.1 hx
 ·exact (h y hy).a x h1
 ·exact h x hy
theorem allS_wrap {k : Int} {z : Re} {l : List Re} (hk : k ≠ 2) (hz : AllS P z) (h : ∀ x ∈ l, AllS P x) : AllS P (wrapT k z l) := by
  match l, h with
  | [], _ => exact hz
  | [x], h => exact h x (by simp)
  | x :: y :: l, h => exact allS_mk (fun e => absurd e hk) h
theorem allS_cat {l : List Re} (h : ∀ x ∈ l, AllS P x) : AllS P (catD l) := by
 unfold catD
 split
 ·exact allS_none
 ·exact allS_wrap (by decide) allS_empty fun x hx => allS_flat h x (del_mem.1 hx).1
theorem allS_cho {k : Int} {l : List Re} {sb wb : Re → Bool} {z : Re} (hk : k ≠ 2) (hz : AllS P z) (h : ∀ x ∈ l, AllS P x) : AllS P (choR k l sb wb z) := by
 unfold choR
 split
 ·rename_i x hx
  exact h x (List.mem_of_find?_eq_some hx)
 ·exact allS_wrap hk hz fun x hx => allS_flat h x (del_mem.1 (sort_mem.1 (ded_mem.1 hx))).1
theorem allS_head {a : List Re} (h : ∀ x ∈ a, AllS P x) : AllS P (a.headD noneT) := by
  cases a with
  | nil => exact allS_none
  | cons x a => exact h x (by simp)
theorem allS_node {k m x : Int} {a : List Re} {g : Bool} {s : List (Int × Int)} (hk : k = 2 → P s) (h : ∀ x ∈ a, AllS P x) : AllS P (nodeK k s a m x g) := by
 have h1 := allS_head h
 have h2 : AllS P (.mk k s a m x g) := allS_mk hk h
 unfold nodeK
 dsimp only
 split
 ·exact allS_cat h
 split
 ·exact allS_cho (by decide) allS_none h
 split
 ·exact allS_cho (by decide) allS_all h
 split
 ·split
  ·exact allS_empty
  split
  ·exact h1
  ·exact h2
 split
 ·split
  ·exact allS_empty
  split
  ·exact h1
  ·exact h2
 split
 ·split
  ·exact allS_head h1.a
  ·exact h2
 ·exact h2
end
mutual
theorem allS_sim {P : List (Int × Int) → Prop} : ∀ {t : Re}, AllS P t → AllS P (simR t)
  | .mk k s a m x g, h => by
    simp only [simR]
    exact allS_node h.1 (allSs_sim h.2)
theorem allSs_sim {P : List (Int × Int) → Prop} : ∀ {ts : List Re}, AllSs P ts → ∀ x ∈ simRs ts, AllS P x
  | [], _, x, hx => by simp [simRs] at hx
  | t :: ts, h, x, hx => by
    simp only [simRs, List.mem_cons] at hx
    rcases hx with rfl | hx
    · exact allS_sim h.1
    · exact allSs_sim h.2 x hx
end
mutual
theorem allS_step {P : List (Int × Int) → Prop} (c : Int) : ∀ {t : Re}, AllS P t → AllS P (stepR c t)
  | .mk k s a m x g, h => by
    have ih := allSs_step c h.2
    have ha := allSs_iff.1 h.2
    have h1 := allS_head ih
    have h2 := allS_head ha
    simp only [stepR]
    split
    · split
      · exact allS_empty
      · exact allS_none
    split
    · exact allSc_step c h.2
    split
    · rename_i hk
      exact allS_node (fun e => by omega) ih
    split
    · exact allS_cat fun y hy => by
        simp only [List.mem_cons, List.not_mem_nil, or_false] at hy
        rcases hy with rfl | rfl
        · exact h1
        · exact h
    split
    · exact allS_cat fun y hy => by
        simp only [List.mem_cons, List.not_mem_nil, or_false] at hy
        rcases hy with rfl | rfl
        · exact h1
        · exact allS_node (fun e => by omega) fun z hz => by rw [List.mem_singleton.1 hz]; exact h2
    · exact allS_none
theorem allSs_step {P : List (Int × Int) → Prop} (c : Int) : ∀ {ts : List Re}, AllSs P ts → ∀ x ∈ stepRs c ts, AllS P x
  | [], _, x, hx => by simp [stepRs] at hx
  | t :: ts, h, x, hx => by
    simp only [stepRs, List.mem_cons] at hx
    rcases hx with rfl | hx
    · exact allS_step c h.1
    · exact allSs_step c h.2 x hx
theorem allSc_step {P : List (Int × Int) → Prop} (c : Int) : ∀ {ts : List Re}, AllSs P ts → AllS P (stepC c ts)
  | [], _ => allS_none
  | t :: ts, h => by
    have h1 := allS_step c h.1
    have h2 := allSc_step c h.2
    have h3 : AllS P (wrapT 3 emptyT ts) := allS_wrap (by decide) allS_empty (allSs_iff.1 h.2)
    simp only [stepC]
    split
    · exact h1
    have h4 : AllS P (catD [stepR c t, wrapT 3 emptyT ts]) := allS_cat fun y hy => by
      simp only [List.mem_cons, List.not_mem_nil, or_false] at hy
      rcases hy with rfl | rfl
      · exact h1
      · exact h3
    split
    · exact allS_node (fun e => by omega) fun y hy => by
        simp only [List.mem_cons, List.not_mem_nil, or_false] at hy
        rcases hy with rfl | rfl
        · exact h4
        · exact h2
    · exact h4
end
mutual
/-- Two runes that no set tells apart have the same derivative. -/
theorem step_same {c d : Int} : ∀ {t : Re}, AllS (fun s => inS s c = inS s d) t → stepR c t = stepR d t
  | .mk k s a m x g, h => by
    simp only [stepR, steps_same h.2, stepc_same h.2]
    by_cases h2 : k = 2
    · rw [if_pos h2, if_pos h2, h.1 h2]
    · rw [if_neg h2, if_neg h2]
theorem steps_same {c d : Int} : ∀ {ts : List Re}, AllSs (fun s => inS s c = inS s d) ts → stepRs c ts = stepRs d ts
  | [], _ => rfl
  | t :: ts, h => by simp only [stepRs, step_same h.1, steps_same h.2]
theorem stepc_same {c d : Int} : ∀ {ts : List Re}, AllSs (fun s => inS s c = inS s d) ts → stepC c ts = stepC d ts
  | [], _ => rfl
  | t :: ts, h => by simp only [stepC, step_same h.1, stepc_same h.2]
end
end Go.Proofs
namespace Go.Proofs
open Go.Shelf
def Tryz.sortSp_ren : Go.Shelf.Ren := ⟨fun | 6 => 156 | 15 => 176 | 14 => 179 | 28 => 204 | 29 => 205 | 20 => 212 | 21 => 213 | 22 => 214 | 23 => 215 | 24 => 216 | 25 => 217 | 26 => 218 | 27 => 219 | 46 => 244 | 47 => 225 | 48 => 226 | 49 => 245 | 50 => 246 | 57 => 258 | n => n, fun | 22 => 22 | 24 => 103 | 25 => 161 | 3 => 3 | 39 => 170 | 0 => 0 | 53 => 182 | 55 => 185 | 4 => 4 | 46 => 194 | 45 => 193 | 50 => 148 | 5 => 5 | 9 => 9 | 66 => 219 | 70 => 223 | 76 => 253 | 77 => 254 | n => n, fun | n => n⟩
theorem Tryz.sortSp : Go.Proofs.SlLaysF0.n6 Tryz.prog Tryz.sortSp_ren := {
 mixed := by kernel_rfl
 f6 := ⟨Tryz.f156.name, by decide, Tryz.func156.trans (congrArg some (by kernel_rfl))⟩
 f14 := ⟨Tryz.f179.name, by decide, Tryz.func179.trans (congrArg some (by kernel_rfl))⟩
 f15 := Tryz.func176.trans (congrArg some (by kernel_rfl))
 f20 := ⟨Tryz.f212.name, by decide, Tryz.func212.trans (congrArg some (by kernel_rfl))⟩
 f21 := ⟨Tryz.f213.name, by decide, Tryz.func213.trans (congrArg some (by kernel_rfl))⟩
 f22 := ⟨Tryz.f214.name, by decide, Tryz.func214.trans (congrArg some (by kernel_rfl))⟩
 f23 := ⟨Tryz.f215.name, by decide, Tryz.func215.trans (congrArg some (by kernel_rfl))⟩
 f24 := ⟨Tryz.f216.name, by decide, Tryz.func216.trans (congrArg some (by kernel_rfl))⟩
 f25 := ⟨Tryz.f217.name, by decide, Tryz.func217.trans (congrArg some (by kernel_rfl))⟩
 f26 := ⟨Tryz.f218.name, by decide, Tryz.func218.trans (congrArg some (by kernel_rfl))⟩
 f27 := ⟨Tryz.f219.name, by decide, Tryz.func219.trans (congrArg some (by kernel_rfl))⟩
 f28 := Tryz.func204.trans (congrArg some (by kernel_rfl))
 f29 := Tryz.func205.trans (congrArg some (by kernel_rfl))
 f46 := ⟨Tryz.f244.name, by decide, Tryz.func244.trans (congrArg some (by kernel_rfl))⟩
 f47 := Tryz.func225.trans (congrArg some (by kernel_rfl))
 f48 := Tryz.func226.trans (congrArg some (by kernel_rfl))
 f49 := ⟨Tryz.f245.name, by decide, Tryz.func245.trans (congrArg some (by kernel_rfl))⟩
 f50 := ⟨Tryz.f246.name, by decide, Tryz.func246.trans (congrArg some (by kernel_rfl))⟩
 f57 := ⟨Tryz.f258.name, by decide, Tryz.func258.trans (congrArg some (by kernel_rfl))⟩
 t0 := Tryz.underlying0
 a0 := Tryz.isAgg0
 z0 := Tryz.sizeOf0
 v0 := Tryz.zeroValue0
 t3 := Tryz.underlying3
 a3 := Tryz.isAgg3
 z3 := Tryz.sizeOf3
 v3 := Tryz.zeroValue3
 t4 := Tryz.underlying4
 a4 := Tryz.isAgg4
 z4 := Tryz.sizeOf4
 v4 := Tryz.zeroValue4
 t5 := Tryz.underlying5
 a5 := Tryz.isAgg5
 z5 := Tryz.sizeOf5
 v5 := Tryz.zeroValue5
 t9 := Tryz.underlying9
 a9 := Tryz.isAgg9
 z9 := Tryz.sizeOf9
 v9 := Tryz.zeroValue9
 t22 := Tryz.underlying22
 a22 := Tryz.isAgg22
 z22 := Tryz.sizeOf22
 v22 := Tryz.zeroValue22
 t25 := Tryz.underlying161
 a25 := Tryz.isAgg161
 z25 := Tryz.sizeOf161
 v25 := Tryz.zeroValue161
 t39 := Tryz.underlying170
 a39 := Tryz.isAgg170
 z39 := Tryz.sizeOf170
 v39 := Tryz.zeroValue170
 t45 := Tryz.underlying193
 a45 := Tryz.isAgg193
 z45 := Tryz.sizeOf193
 v45 := Tryz.zeroValue193
 t46 := Tryz.underlying194
 a46 := Tryz.isAgg194
 z46 := Tryz.sizeOf194
 v46 := Tryz.zeroValue194
 t50 := Tryz.underlying148
 a50 := Tryz.isAgg148
 z50 := Tryz.sizeOf148
 v50 := Tryz.zeroValue148
 t53 := Tryz.underlying182
 a53 := Tryz.isAgg182
 z53 := Tryz.sizeOf182
 v53 := Tryz.zeroValue182
 t55 := Tryz.underlying185
 a55 := Tryz.isAgg185
 z55 := Tryz.sizeOf185
 v55 := Tryz.zeroValue185
 t66 := Tryz.underlying219
 a66 := Tryz.isAgg219
 z66 := Tryz.sizeOf219
 v66 := Tryz.zeroValue219
 t70 := Tryz.underlying223
 a70 := Tryz.isAgg223
 z70 := Tryz.sizeOf223
 v70 := Tryz.zeroValue223
 t76 := Tryz.underlying253
 a76 := Tryz.isAgg253
 z76 := Tryz.sizeOf253
 v76 := Tryz.zeroValue253
 t77 := Tryz.underlying254
 a77 := Tryz.isAgg254
 z77 := Tryz.sizeOf254
 v77 := Tryz.zeroValue254 }
def Tryz.sortRe_ren : Go.Shelf.Ren := ⟨fun | 6 => 183 | 15 => 176 | 14 => 221 | 28 => 204 | 29 => 205 | 20 => 247 | 21 => 248 | 22 => 249 | 23 => 250 | 24 => 251 | 25 => 252 | 26 => 253 | 27 => 254 | 46 => 259 | 47 => 225 | 48 => 226 | 49 => 260 | 50 => 261 | 57 => 262 | n => n, fun | 22 => 23 | 24 => 25 | 25 => 169 | 3 => 3 | 39 => 170 | 0 => 0 | 53 => 182 | 55 => 185 | 4 => 4 | 46 => 194 | 45 => 193 | 50 => 148 | 5 => 5 | 9 => 9 | 66 => 219 | 70 => 223 | 76 => 253 | 77 => 254 | n => n, fun | n => n⟩
theorem Tryz.sortRe : Go.Proofs.SlLaysF0.n6 Tryz.prog Tryz.sortRe_ren := {
 mixed := by kernel_rfl
 f6 := ⟨Tryz.f183.name, by decide, Tryz.func183.trans (congrArg some (by kernel_rfl))⟩
 f14 := ⟨Tryz.f221.name, by decide, Tryz.func221.trans (congrArg some (by kernel_rfl))⟩
 f15 := Tryz.func176.trans (congrArg some (by kernel_rfl))
 f20 := ⟨Tryz.f247.name, by decide, Tryz.func247.trans (congrArg some (by kernel_rfl))⟩
 f21 := ⟨Tryz.f248.name, by decide, Tryz.func248.trans (congrArg some (by kernel_rfl))⟩
 f22 := ⟨Tryz.f249.name, by decide, Tryz.func249.trans (congrArg some (by kernel_rfl))⟩
 f23 := ⟨Tryz.f250.name, by decide, Tryz.func250.trans (congrArg some (by kernel_rfl))⟩
 f24 := ⟨Tryz.f251.name, by decide, Tryz.func251.trans (congrArg some (by kernel_rfl))⟩
 f25 := ⟨Tryz.f252.name, by decide, Tryz.func252.trans (congrArg some (by kernel_rfl))⟩
 f26 := ⟨Tryz.f253.name, by decide, Tryz.func253.trans (congrArg some (by kernel_rfl))⟩
 f27 := ⟨Tryz.f254.name, by decide, Tryz.func254.trans (congrArg some (by kernel_rfl))⟩
 f28 := Tryz.func204.trans (congrArg some (by kernel_rfl))
 f29 := Tryz.func205.trans (congrArg some (by kernel_rfl))
 f46 := ⟨Tryz.f259.name, by decide, Tryz.func259.trans (congrArg some (by kernel_rfl))⟩
 f47 := Tryz.func225.trans (congrArg some (by kernel_rfl))
 f48 := Tryz.func226.trans (congrArg some (by kernel_rfl))
 f49 := ⟨Tryz.f260.name, by decide, Tryz.func260.trans (congrArg some (by kernel_rfl))⟩
 f50 := ⟨Tryz.f261.name, by decide, Tryz.func261.trans (congrArg some (by kernel_rfl))⟩
 f57 := ⟨Tryz.f262.name, by decide, Tryz.func262.trans (congrArg some (by kernel_rfl))⟩
 t0 := Tryz.underlying0
 a0 := Tryz.isAgg0
 z0 := Tryz.sizeOf0
 v0 := Tryz.zeroValue0
 t3 := Tryz.underlying3
 a3 := Tryz.isAgg3
 z3 := Tryz.sizeOf3
 v3 := Tryz.zeroValue3
 t4 := Tryz.underlying4
 a4 := Tryz.isAgg4
 z4 := Tryz.sizeOf4
 v4 := Tryz.zeroValue4
 t5 := Tryz.underlying5
 a5 := Tryz.isAgg5
 z5 := Tryz.sizeOf5
 v5 := Tryz.zeroValue5
 t9 := Tryz.underlying9
 a9 := Tryz.isAgg9
 z9 := Tryz.sizeOf9
 v9 := Tryz.zeroValue9
 t22 := Tryz.underlying23
 a22 := Tryz.isAgg23
 z22 := Tryz.sizeOf23
 v22 := Tryz.zeroValue23
 t25 := Tryz.underlying169
 a25 := Tryz.isAgg169
 z25 := Tryz.sizeOf169
 v25 := Tryz.zeroValue169
 t39 := Tryz.underlying170
 a39 := Tryz.isAgg170
 z39 := Tryz.sizeOf170
 v39 := Tryz.zeroValue170
 t45 := Tryz.underlying193
 a45 := Tryz.isAgg193
 z45 := Tryz.sizeOf193
 v45 := Tryz.zeroValue193
 t46 := Tryz.underlying194
 a46 := Tryz.isAgg194
 z46 := Tryz.sizeOf194
 v46 := Tryz.zeroValue194
 t50 := Tryz.underlying148
 a50 := Tryz.isAgg148
 z50 := Tryz.sizeOf148
 v50 := Tryz.zeroValue148
 t53 := Tryz.underlying182
 a53 := Tryz.isAgg182
 z53 := Tryz.sizeOf182
 v53 := Tryz.zeroValue182
 t55 := Tryz.underlying185
 a55 := Tryz.isAgg185
 z55 := Tryz.sizeOf185
 v55 := Tryz.zeroValue185
 t66 := Tryz.underlying219
 a66 := Tryz.isAgg219
 z66 := Tryz.sizeOf219
 v66 := Tryz.zeroValue219
 t70 := Tryz.underlying223
 a70 := Tryz.isAgg223
 z70 := Tryz.sizeOf223
 v70 := Tryz.zeroValue223
 t76 := Tryz.underlying253
 a76 := Tryz.isAgg253
 z76 := Tryz.sizeOf253
 v76 := Tryz.zeroValue253
 t77 := Tryz.underlying254
 a77 := Tryz.isAgg254
 z77 := Tryz.sizeOf254
 v77 := Tryz.zeroValue254 }
def Tryz.sortI_ren : Go.Shelf.Ren := ⟨fun | 189 => 147 | 125 => 176 | 257 => 175 | 128 => 204 | 129 => 205 | 294 => 195 | 295 => 196 | 296 => 197 | 297 => 198 | 298 => 199 | 299 => 200 | 216 => 201 | 300 => 202 | 301 => 203 | 328 => 224 | 329 => 225 | 330 => 226 | 331 => 227 | 332 => 228 | 215 => 180 | 343 => 256 | n => n, fun | 28 => 26 | 3 => 3 | 46 => 170 | 0 => 0 | 51 => 182 | 53 => 185 | 4 => 4 | 183 => 194 | 182 => 193 | 131 => 148 | 5 => 5 | 9 => 9 | 218 => 219 | 222 => 223 | 228 => 253 | 229 => 254 | n => n, fun | n => n⟩
theorem Tryz.sortI : Go.Proofs.Lays.n189 Tryz.prog Tryz.sortI_ren := {
 mixed := by kernel_rfl
 f125 := Tryz.func176.trans (congrArg some (by kernel_rfl))
 f128 := Tryz.func204.trans (congrArg some (by kernel_rfl))
 f129 := Tryz.func205.trans (congrArg some (by kernel_rfl))
 f189 := Tryz.func147.trans (congrArg some (by kernel_rfl))
 f215 := Tryz.func180.trans (congrArg some (by kernel_rfl))
 f216 := Tryz.func201.trans (congrArg some (by kernel_rfl))
 f257 := Tryz.func175.trans (congrArg some (by kernel_rfl))
 f294 := Tryz.func195.trans (congrArg some (by kernel_rfl))
 f295 := Tryz.func196.trans (congrArg some (by kernel_rfl))
 f296 := Tryz.func197.trans (congrArg some (by kernel_rfl))
 f297 := Tryz.func198.trans (congrArg some (by kernel_rfl))
 f298 := Tryz.func199.trans (congrArg some (by kernel_rfl))
 f299 := Tryz.func200.trans (congrArg some (by kernel_rfl))
 f300 := Tryz.func202.trans (congrArg some (by kernel_rfl))
 f301 := Tryz.func203.trans (congrArg some (by kernel_rfl))
 f328 := Tryz.func224.trans (congrArg some (by kernel_rfl))
 f329 := Tryz.func225.trans (congrArg some (by kernel_rfl))
 f330 := Tryz.func226.trans (congrArg some (by kernel_rfl))
 f331 := Tryz.func227.trans (congrArg some (by kernel_rfl))
 f332 := Tryz.func228.trans (congrArg some (by kernel_rfl))
 f343 := Tryz.func256.trans (congrArg some (by kernel_rfl))
 t0 := Tryz.underlying0
 a0 := Tryz.isAgg0
 z0 := Tryz.sizeOf0
 v0 := Tryz.zeroValue0
 t3 := Tryz.underlying3
 a3 := Tryz.isAgg3
 z3 := Tryz.sizeOf3
 v3 := Tryz.zeroValue3
 t4 := Tryz.underlying4
 a4 := Tryz.isAgg4
 z4 := Tryz.sizeOf4
 v4 := Tryz.zeroValue4
 t5 := Tryz.underlying5
 a5 := Tryz.isAgg5
 z5 := Tryz.sizeOf5
 v5 := Tryz.zeroValue5
 t9 := Tryz.underlying9
 a9 := Tryz.isAgg9
 z9 := Tryz.sizeOf9
 v9 := Tryz.zeroValue9
 t28 := Tryz.underlying26
 a28 := Tryz.isAgg26
 z28 := Tryz.sizeOf26
 v28 := Tryz.zeroValue26
 t46 := Tryz.underlying170
 a46 := Tryz.isAgg170
 z46 := Tryz.sizeOf170
 v46 := Tryz.zeroValue170
 t51 := Tryz.underlying182
 a51 := Tryz.isAgg182
 z51 := Tryz.sizeOf182
 v51 := Tryz.zeroValue182
 t53 := Tryz.underlying185
 a53 := Tryz.isAgg185
 z53 := Tryz.sizeOf185
 v53 := Tryz.zeroValue185
 t131 := Tryz.underlying148
 a131 := Tryz.isAgg148
 z131 := Tryz.sizeOf148
 v131 := Tryz.zeroValue148
 t182 := Tryz.underlying193
 a182 := Tryz.isAgg193
 z182 := Tryz.sizeOf193
 v182 := Tryz.zeroValue193
 t183 := Tryz.underlying194
 a183 := Tryz.isAgg194
 z183 := Tryz.sizeOf194
 v183 := Tryz.zeroValue194
 t218 := Tryz.underlying219
 a218 := Tryz.isAgg219
 z218 := Tryz.sizeOf219
 v218 := Tryz.zeroValue219
 t222 := Tryz.underlying223
 a222 := Tryz.isAgg223
 z222 := Tryz.sizeOf223
 v222 := Tryz.zeroValue223
 t228 := Tryz.underlying253
 a228 := Tryz.isAgg253
 z228 := Tryz.sizeOf253
 v228 := Tryz.zeroValue253
 t229 := Tryz.underlying254
 a229 := Tryz.isAgg254
 z229 := Tryz.sizeOf254
 v229 := Tryz.zeroValue254 }
def Tryz.compI_ren : Go.Shelf.Ren := ⟨fun | 20 => 148 | n => n, fun | 22 => 26 | 3 => 3 | 4 => 4 | 0 => 0 | n => n, fun | n => n⟩
theorem Tryz.compI : Go.Proofs.Lays2.n20 Tryz.prog Tryz.compI_ren := {
 mixed := by kernel_rfl
 f20 := Tryz.func148.trans (congrArg some (by kernel_rfl))
 t0 := Tryz.underlying0
 a0 := Tryz.isAgg0
 z0 := Tryz.sizeOf0
 v0 := Tryz.zeroValue0
 t3 := Tryz.underlying3
 a3 := Tryz.isAgg3
 z3 := Tryz.sizeOf3
 v3 := Tryz.zeroValue3
 t4 := Tryz.underlying4
 a4 := Tryz.isAgg4
 z4 := Tryz.sizeOf4
 v4 := Tryz.zeroValue4
 t22 := Tryz.underlying26
 a22 := Tryz.isAgg26
 z22 := Tryz.sizeOf26
 v22 := Tryz.zeroValue26
 i3 := by kernel_rfl }
end Go.Proofs
namespace Go.Proofs
open Go Go.Eng Go.Sort
set_option maxRecDepth 100000
structure VSp where
 s : Sp
 ok : vSp s
instance : Inhabited VSp := ⟨⟨(0, 0), by unfold vSp; simp⟩⟩
def encV (s : VSp) : List Value := spanV s.s
theorem sortW_chg {α : Type} [Inhabited α] (enc : α → List Value) (k : Nat) (w : World) (g off m : Nat) (dk : Array α) (os : Array Obj) : Chg (fun x => x = g) w (sortWorldK enc k w g off m dk os) := by
 refine ⟨rfl, rfl, rfl, Nat.le_add_right _ _, ?_, fun b hb hne => ?_⟩
 ·simp [sortWorldK, grow, putRowK, putRow, mapBlock, ahead]
 ·simp only [sortWorldK, grow, putRowK, putRow, mapBlock, ahead]
  rw [Array.getElem?_append_left (by simpa using hb), Array.getElem?_modify, if_neg (fun h => hne h.symm)]; rfl
theorem own_holds {w : World} {base g n c : Nat} {d : List VSp} (h : w.ownsRow base TSp 2 (.slice (some ⟨g, 0, none⟩) n c) n ((d.map VSp.s).map spanV).flatten) (hn : d.length = n) : HoldsK encV 2 w g 0 d.toArray := by
 have hat : SpansAt w (.slice (some ⟨g, 0, none⟩) n c) (d.map VSp.s) := own_slat h (by intro x hx; simp only [List.mem_map] at hx; obtain ⟨p, _, rfl⟩ := hx; rfl) (by simpa using hn) (by decide)
 intro j hj
 rw [size_flatK] at hj
 simp only [List.size_toArray] at hj
 have hj2 : j / 2 < d.length := by omega
 obtain ⟨b, o, hab, hcl⟩ := spans_cells hat (by omega)
 simp only [Option.some.injEq, Addr.mk.injEq, and_true] at hab
 obtain ⟨rfl, rfl⟩ := hab
 have hx : (d.map VSp.s)[j / 2]? = some d[j / 2].s := by rw [List.getElem?_map, List.getElem?_eq_getElem hj2]; rfl
 have hc := hcl (j / 2) _ hx
 rw [get_flatK _ _ _ _ (by simpa using hj)]
 have he : d.toArray[j / 2]! = d[j / 2] := by rw [getElem!_pos d.toArray (j / 2) (by simpa using hj2)]; simp
 rw [he]
 constructor
 ·rcases Nat.mod_two_eq_zero_or_one j with h2 | h2
  ·have := hc.at0
   rw [h2]
   rw [show 0 + j / 2 * 2 = 0 + j from by omega] at this
   simpa [encV, spanV] using this
  ·have := hc.at1
   rw [h2]
   rw [show 0 + j / 2 * 2 + 1 = 0 + j from by omega] at this
   simpa [encV, spanV] using this
 ·rcases h.2 with ⟨h1, _⟩ | ⟨g', cap, cur, hv, _, hg, _⟩
  ·simp at h1
  ·simp only [Value.slice.injEq, Option.some.injEq, Addr.mk.injEq, and_true] at hv
   obtain ⟨rfl, _⟩ := hv
   simp [World.frozen?, hg]
theorem holds_spans {w : World} {g n c : Nat} {d : Array VSp} (h : HoldsK encV 2 w g 0 d) (hn : d.size = n) (hc : n ≤ c) (hl : n ≤ 8796093022208) : SpansAt w (.slice (some ⟨g, 0, none⟩) n c) (d.toList.map VSp.s) := by
  refine ⟨_, c, by simp [hn], by simp; omega, by simp; omega, .inr ⟨g, 0, rfl, fun i r hr j u hu => ?_⟩⟩
  simp only [List.getElem?_map, Option.map_eq_some_iff] at hr
  obtain ⟨s, ⟨x, hx, rfl⟩, rfl⟩ := hr
  have hi : i < d.size := by have := lt_of_get hx; simpa using this
  have hj : j < 2 := by have := lt_of_get hu; simpa [spanV] using this
  have h1 := (HoldsK.cell h hi hj).1
  have he : d[i]! = x := by
    rw [getElem!_pos d i hi]
    rw [Array.getElem?_toList, Array.getElem?_eq_getElem hi] at hx
    simpa using hx
  rw [h1, he]
  match j, hj, hu with
  | 0, _, hu => simpa [encV, spanV] using hu
  | 1, _, hu => simpa [encV, spanV] using hu
theorem enters_callee {P : Program} {f : FuncId} {fn : Func} (hf : P.funcs[f]? = some fn) (hn : (fn.name == "runtime.NumGoroutine") = false) (hb : fn.body.isNone = false) : ∀ args w, (callFunc f args).run P w = .ok (.enter f args) w := fun args w => run_callF (vs := args) (w := w) hf hn hb
theorem bitsLen_c (w0 : World) : Ret Tryz.prog 176 #[.int .u64 0] w0 fun v w => v = .int .i64 (Lib.bitLen 0 : Nat) ∧ Ext w0 w :=
 (Any.bits_Len (SlLaysF0.n15.bits (P := Tryz.prog) (ρ := Tryz.sortSp_ren) { Tryz.sortSp with }) 0 w0 (by omega) (by omega)).mono fun _ _ ⟨he, hw⟩ => ⟨_, he, rfl, by rw [hw]; exact Ext.refl _⟩
theorem ins0_c (w0 : World) (a : Option Addr) (c : Nat) (fv : Value) : Ret Tryz.prog 212 #[.slice a 0 c, .int .i64 0, .int .i64 0, fv] w0 fun v w => v = .tuple #[] ∧ Ext w0 w := by
 refine Ret_of Tryz.func212 rfl Tryz.ntmps212 (Nat.le_of_ble_eq_true rfl) ?_
 have E : Chg none1 w0 w0 := Chg.refl _ _
 refine Wp_seq_region ?_
 refine qM (I6 0) rfl ?_
 refine qV (r_add (k := .i64) (a := 0) (b := 1) (c := 1) rfl rfl (by decide)) ?_
 refine qA (I6 1) rfl ?_
 refine WpL_nil (Wp_block ?_)
 refine Wp_loop (fun nn_ σ W1 => (∃ jj_, σ = upds jj_ [(0, (.slice a 0 c)), (1, (I6 0)), (2, (I6 0)), (3, fv), (8, (I6 1))]) ∧ Chg none1 w0 W1 ∧ nn_ = (0 : Nat)) (n := (0 : Nat)) ?_ ?_
 ·exact ⟨Fits.out ⟨rfl, rfl, rfl, rfl, rfl, trivial⟩, E, rfl⟩
 ·clear E
  rintro _ _ W1 ⟨⟨j1, rfl⟩, E, rfl⟩
  refine Wp_seq (Wp_seq_region ?_)
  refine qM (I6 1) rfl ?_
  refine qM (I6 0) rfl ?_
  refine qV (r_lss (k := .i64) (a := 1) (b := 0) rfl rfl) ?_
  refine WpL_nil ?_
  refine Wp_cond_false rfl ?_
  refine Wp_exit (thn_exit (thn_exit (inB_here ?_)))
  refine fin_none Tryz.results212 ?_
  exact ⟨rfl, E⟩
theorem pdq0_c (w0 : World) (a : Option Addr) (c : Nat) (n : Int) (fv : Value) : Ret Tryz.prog 179 #[.slice a 0 c, .int .i64 0, .int .i64 0, .int .i64 n, fv] w0 fun v w => v = .tuple #[] ∧ Ext w0 w := by
 refine Ret_of Tryz.func179 rfl Tryz.ntmps179 (Nat.le_of_ble_eq_true rfl) ?_
 have E : Chg none1 w0 w0 := Chg.refl _ _
 refine Wp_seq_region ?_
 refine qA (.bool true) rfl ?_
 refine WpL_nil (Wp_seq_region ?_)
 refine qA (.bool true) rfl ?_
 refine WpL_nil (Wp_block ?_)
 refine Wp_loop (fun nn_ σ W1 => (∃ jj_, σ = upds jj_ [(0, (.slice a 0 c)), (1, (I6 0)), (2, (I6 0)), (4, fv)]) ∧ Chg none1 w0 W1 ∧ nn_ = (0 : Nat)) (n := (0 : Nat)) ?_ ?_
 ·exact ⟨Fits.out ⟨rfl, rfl, rfl, rfl, trivial⟩, E, rfl⟩
 ·clear E
  rintro _ _ W1 ⟨⟨j1, rfl⟩, E, rfl⟩
  refine Wp_block (Wp_seq_region ?_)
  refine qM (I6 0) rfl ?_
  refine qM (I6 0) rfl ?_
  refine qV (r_sub (k := .i64) (a := 0) (b := 0) (c := 0) rfl rfl (by decide)) ?_
  refine qA (I6 0) rfl ?_
  refine WpL_nil (Wp_seq (Wp_seq_region ?_))
  refine qM (I6 0) rfl ?_
  refine qV (r_leq (k := .i64) (a := 0) (b := 12) rfl rfl) ?_
  refine WpL_nil ?_
  refine Wp_cond_true rfl ?_
  refine Wp_seq_region ?_
  refine qM (.slice a 0 c) rfl ?_
  refine qM (I6 0) rfl ?_
  refine qM (I6 0) rfl ?_
  refine qM fv rfl ?_
  refine WpL_enter rfl rfl (by decide) (r_callF (vs := [(.slice a 0 c), (I6 0), (I6 0), fv]) Tryz.func212 nm212 bd212 rfl) (ins0_c _ a c fv) ?_
  rintro _ w9 ⟨rfl, X9⟩
  replace E := E.ext X9
  refine WpL_nil (Wp_ret (thn_ret (inB_ret (thn_ret (inB_ret ?_)))))
  refine fin_noneR Tryz.results179 ?_
  exact ⟨rfl, E⟩
theorem sort0_c (w0 : World) (a : Option Addr) (c : Nat) (fv : Value) : Ret Tryz.prog 156 #[.slice a 0 c, fv] w0 fun v w => v = .tuple #[] ∧ Ext w0 w := by
 refine Ret_of Tryz.func156 rfl Tryz.ntmps156 (Nat.le_of_ble_eq_true rfl) ?_
 have E : Chg none1 w0 w0 := Chg.refl _ _
 refine Wp_seq_region ?_
 refine qM (.slice a 0 c) rfl ?_
 refine qV (r_lenSlice (ad := a) (n := 0) (cap := c) Tryz.underlying22 rfl) ?_
 refine qA (I6 0) rfl ?_
 refine WpL_nil (Wp_region ?_)
 refine qM (.slice a 0 c) rfl ?_
 refine qM (I6 0) rfl ?_
 refine qM (I6 0) rfl ?_
 refine qV (r_convInt (k := .i64) (k' := .u64) (n := 0) (c := 0) ⟨_, Tryz.underlying3⟩ Tryz.underlying170 rfl (wU64 (by omega))) ?_
 refine WpL_enter rfl rfl (by decide) (r_callF (vs := [(.int .u64 0)]) Tryz.func176 nm176 bd176 rfl) (bitsLen_c _) ?_
 rintro _ w8 ⟨rfl, X8⟩
 replace E := E.ext X8
 refine qM fv rfl ?_
 refine WpL_enter rfl rfl (by decide) (r_callF (vs := [(.slice a 0 c), (I6 0), (I6 0), (I6 (Lib.bitLen 0 : Nat)), fv]) Tryz.func179 nm179 bd179 rfl) (pdq0_c _ a c _ fv) ?_
 rintro _ w9 ⟨rfl, X9⟩
 replace E := E.ext X9
 refine WpL_nil ?_
 refine fin_none Tryz.results156 ?_
 exact ⟨rfl, E⟩
theorem sorts_c (cf : VSp → VSp → Int) (hO : SWO (ltOf cf)) {f : FuncId} {fn : Func} (hf : (Tryz.prog).funcs[f]? = some fn) (hn : (fn.name == "runtime.NumGoroutine") = false) (hb : fn.body.isNone = false)
  (hcmp : ∀ (W : World) (x y : VSp), Ret Tryz.prog f #[.agg #[.int .i64 x.s.1, .int .i64 x.s.2], .agg #[.int .i64 y.s.1, .int .i64 y.s.2]] W fun v w => v = .int .i64 (cf x y) ∧ Ext W w)
  (w0 : World) (base : Nat) (v : Value) (l : List Sp) (h : OwnS w0 base v l) (hl : l.length ≤ 8796093022208) (hok : ∀ s ∈ l, vSp s) :
  Ret Tryz.prog 156 #[v, .func (.func f) #[] #[]] w0 fun r w => r = .tuple #[] ∧ (∃ l' : List VSp, (l'.map VSp.s).Perm l ∧ l'.Pairwise (fun s t => ¬ cf t s < 0) ∧ SpansAt w v (l'.map VSp.s)) ∧ Chg (fun x => v.ownBlock = some x) w0 w := by
 have eg := enters_callee hf hn hb
 obtain ⟨d, rfl⟩ : ∃ d : List VSp, d.map VSp.s = l := ⟨l.pmap VSp.mk hok, by rw [List.map_pmap]; simp⟩
 have ht : ∀ w, (isAgg (Tryz.sortSp_ren.t 24)).run Tryz.prog w = .ok true w := fun w => aggB.run agg103 w
 have hs : ∀ w, (Go.sizeOf (Tryz.sortSp_ren.t 24)).run Tryz.prog w = .ok 2 w := fun w => siz103.run w
 rcases h.2.2 with ⟨rfl, h0⟩ | ⟨g, cap, cur, rfl, hbg, hg, hnc, hcm, hcs, htake⟩
 ·have hd : d = [] := List.eq_nil_of_length_eq_zero (by simpa using h0)
  subst hd
  exact (sort0_c w0 none 0 (.func (.func f) #[] #[])).mono fun v w' ⟨hv, hw⟩ => ⟨hv, ⟨[], List.Perm.refl _, List.Pairwise.nil, SlAt.nil _ _ _ _⟩, Ext.chg hw⟩
 ·simp only [List.length_map] at *
  have hH := own_holds (d := d) (n := d.length) (by have := h.2; rwa [List.length_map] at this) rfl
  have hblk : g < w0.heap.size := (Array.getElem?_eq_some_iff.1 hg).1
  have hc : CmpLays Tryz.prog f #[] encV 2 cf g 0 d.toArray.size w0 := fun m os dk _ x y => by
   refine Calls.mono (hcmp _ x y) ?_
   rintro e w' ⟨v, rfl, rfl, hx⟩
   obtain ⟨q, os', hw⟩ := Ext.grown hx
   exact ⟨rfl, q, os', hw⟩
  have hcon := AnyQ.slices_SortFunc Tryz.sortSp 2 ht hs encV (fun _ => rfl) (fun x u hu => by simp [encV, spanV] at hu; rcases hu with rfl | rfl <;> rfl) cf hO f #[] g 0 cap d.toArray w0 eg hc hH hblk (by simp; omega)
  refine Calls.mono hcon ?_
  rintro e w' ⟨rfl, d', n, os, hp, hso, rfl⟩
  have hsz : d'.size = d.length := by have := hp.1; simpa using this
  have hperm : d'.toList.Perm d := by
   have h3 := hp.2.2
   simp only [List.size_toArray] at h3
   rw [show d.length = d'.size from hsz.symm, Array.extract_size] at h3
   rw [hsz] at h3
   simpa using h3
  refine ⟨_, rfl, rfl, ⟨d'.toList, hperm.map _, ?_, ?_⟩, (sortW_chg encV 2 w0 g 0 n d' os).mono fun x _ hx => by subst hx; rfl⟩
  ·rw [List.pairwise_iff_getElem]
   intro i j hi hj hij
   have h4 := hso i j (Nat.zero_le _) hij (by simp at hj ⊢; omega)
   simp only [Array.length_toList] at hi hj
   rw [getElem!_pos d' i hi, getElem!_pos d' j hj] at h4
   simpa [ltOf] using h4
  ·exact holds_spans (holdsK_sortWorldK_c encV 2 w0 g 0 d.toArray d' n os hH hblk (by simpa using hsz)) hsz hnc hl
end Go.Proofs
namespace Go.Proofs
open Go Go.Eng Go.Sort
set_option maxRecDepth 100000
def cfS (x y : VSp) : Int := orL [cmpI x.s.1 y.s.1, cmpI x.s.2 y.s.2]
theorem cfS_c (w0 : World) (x y : VSp) : Ret Tryz.prog 177 #[.agg #[.int .i64 x.s.1, .int .i64 x.s.2], .agg #[.int .i64 y.s.1, .int .i64 y.s.2]] w0 fun v w => v = .int .i64 (cfS x y) ∧ Ext w0 w := by
 refine Ret_of Tryz.func177 rfl Tryz.ntmps177 (Nat.le_of_ble_eq_true rfl) ?_
 have E : Chg none1 w0 w0 := Chg.refl _ _
 refine Wp_seq_region ?_
 refine s_box (v := (.agg #[(I6 x.s.1), (I6 x.s.2)])) (c := #[(I6 x.s.1), (I6 x.s.2)]) (by decide) rfl rfl ?_
 intro b1 w1 N1
 have F1 := N1.ge E
 replace E := E.ext N1.ext
 have B1 := N1.blk
 refine s_box (v := (.agg #[(I6 y.s.1), (I6 y.s.2)])) (c := #[(I6 y.s.1), (I6 y.s.2)]) (by decide) rfl rfl ?_
 intro b2 w2 N2
 have F2 := N2.ge E
 have O2_b1 := N2.lt B1
 replace B1 := N2.keep B1
 replace E := E.ext N2.ext
 have B2 := N2.blk
 refine qA (I6 0) rfl ?_
 refine WpL_nil (Wp_seq ?_)
 obtain ⟨Fs3, hFs3⟩ : ∃ Fs : List Fact, Fs = [.eq (P6 b1 0), .eq (I6 x.s.1), .eq (P6 b2 0), .eq (I6 y.s.1), .eq (I6 (cmpI x.s.1 y.s.1)), .eq (P6 b1 1), .eq (I6 x.s.2), .eq (P6 b2 1), .eq (I6 y.s.2), .eq (I6 (cmpI x.s.2 y.s.2)), .gen (ints2F (cmpI x.s.1 y.s.1) (cmpI x.s.2 y.s.2)) (ints2F_ext _ _), .eq (I6 (cfS x y)), .eq (I6 (cfS x y))] := ⟨_, rfl⟩
 refine Wp_dag [5, 6, 7, 8, 9, 10, 11, 12, 13, 14, 15, 16, 4] [[], [0], [], [2], [1, 3], [], [5], [], [7], [4, 6, 8], [4, 9], [9, 10], [0, 1, 2, 3, 4, 5, 6, 7, 8, 9, 10, 11]] Fs3 hFs3 mixed (by kernel_rfl) (by kernel_rfl) ?_ ?_
 ·intro wd X0
  refine DagSteps.cons (fun s' w' X U H => Or.inl ⟨?_, ?_⟩) ?_
  ·exact Guarded_none rfl
  ·exact Does_val (r_fieldAddr (b := b1) (o := 0) (o' := 0) (U 2 rfl) Tryz.underlying103 rfl siz3 rfl) (Ext.refl _) rfl
  refine DagSteps.cons (fun s' w' X U H => Or.inl ⟨?_, ?_⟩) ?_
  ·exact Guarded_none rfl
  ·have e5 : s' 5 = (.pointer (some ⟨b1, 0, none⟩)) := H 0 rfl 5 (.eq (.pointer (some ⟨b1, 0, none⟩))) rfl (by rw [hFs3]; rfl)
   exact Does_val (r_load (v := (I6 x.s.1)) e5 flat3 (((X0.trans X).keep B1).cell rfl)) (Ext.refl _) rfl
  refine DagSteps.cons (fun s' w' X U H => Or.inl ⟨?_, ?_⟩) ?_
  ·exact Guarded_none rfl
  ·exact Does_val (r_fieldAddr (b := b2) (o := 0) (o' := 0) (U 3 rfl) Tryz.underlying103 rfl siz3 rfl) (Ext.refl _) rfl
  refine DagSteps.cons (fun s' w' X U H => Or.inl ⟨?_, ?_⟩) ?_
  ·exact Guarded_none rfl
  ·have e7 : s' 7 = (.pointer (some ⟨b2, 0, none⟩)) := H 2 rfl 7 (.eq (.pointer (some ⟨b2, 0, none⟩))) rfl (by rw [hFs3]; rfl)
   exact Does_val (r_load (v := (I6 y.s.1)) e7 flat3 (((X0.trans X).keep B2).cell rfl)) (Ext.refl _) rfl
  refine DagSteps.cons (fun s' w' X U H => Or.inl ⟨?_, ?_⟩) ?_
  ·exact Guarded_none rfl
  ·have e6 : s' 6 = (.int .i64 x.s.1) := H 1 rfl 6 (.eq (.int .i64 x.s.1)) rfl (by rw [hFs3]; rfl)
   have e8 : s' 8 = (.int .i64 y.s.1) := H 3 rfl 8 (.eq (.int .i64 y.s.1)) rfl (by rw [hFs3]; rfl)
   exact Does_enter (r_callF (vs := [(I6 x.s.1), (I6 y.s.1)]) Tryz.func158 nm158 bd158 (lst2 e6 e8)) (compare_c _ _ _)
  refine DagSteps.cons (fun s' w' X U H => Or.inl ⟨?_, ?_⟩) ?_
  ·exact Guarded_none rfl
  ·exact Does_val (r_fieldAddr (b := b1) (o := 0) (o' := 1) (U 2 rfl) Tryz.underlying103 rfl siz3 rfl) (Ext.refl _) rfl
  refine DagSteps.cons (fun s' w' X U H => Or.inl ⟨?_, ?_⟩) ?_
  ·exact Guarded_none rfl
  ·have e10 : s' 10 = (.pointer (some ⟨b1, 1, none⟩)) := H 5 rfl 10 (.eq (.pointer (some ⟨b1, 1, none⟩))) rfl (by rw [hFs3]; rfl)
   exact Does_val (r_load (v := (I6 x.s.2)) e10 flat3 (((X0.trans X).keep B1).cell rfl)) (Ext.refl _) rfl
  refine DagSteps.cons (fun s' w' X U H => Or.inl ⟨?_, ?_⟩) ?_
  ·exact Guarded_none rfl
  ·exact Does_val (r_fieldAddr (b := b2) (o := 0) (o' := 1) (U 3 rfl) Tryz.underlying103 rfl siz3 rfl) (Ext.refl _) rfl
  refine DagSteps.cons (fun s' w' X U H => Or.inl ⟨?_, ?_⟩) ?_
  ·exact Guarded_none rfl
  ·have e12 : s' 12 = (.pointer (some ⟨b2, 1, none⟩)) := H 7 rfl 12 (.eq (.pointer (some ⟨b2, 1, none⟩))) rfl (by rw [hFs3]; rfl)
   exact Does_val (r_load (v := (I6 y.s.2)) e12 flat3 (((X0.trans X).keep B2).cell rfl)) (Ext.refl _) rfl
  refine DagSteps.cons (fun s' w' X U H => Or.inl ⟨?_, ?_⟩) ?_
  ·exact Guarded_none rfl
  ·have e11 : s' 11 = (.int .i64 x.s.2) := H 6 rfl 11 (.eq (.int .i64 x.s.2)) rfl (by rw [hFs3]; rfl)
   have e13 : s' 13 = (.int .i64 y.s.2) := H 8 rfl 13 (.eq (.int .i64 y.s.2)) rfl (by rw [hFs3]; rfl)
   exact Does_enter (r_callF (vs := [(I6 x.s.2), (I6 y.s.2)]) Tryz.func158 nm158 bd158 (lst2 e11 e13)) (compare_c _ _ _)
  refine DagSteps.cons (fun s' w' X U H => Or.inl ⟨?_, ?_⟩) ?_
  ·exact Guarded_none rfl
  ·have e9 : s' 9 = (.int .i64 (cmpI x.s.1 y.s.1)) := H 4 rfl 9 (.eq (.int .i64 (cmpI x.s.1 y.s.1))) rfl (by rw [hFs3]; rfl)
   have e14 : s' 14 = (.int .i64 (cmpI x.s.2 y.s.2)) := H 9 rfl 14 (.eq (.int .i64 (cmpI x.s.2 y.s.2))) rfl (by rw [hFs3]; rfl)
   exact Does_ints2 e9 e14
  refine DagSteps.cons (fun s' w' X U H => Or.inl ⟨?_, ?_⟩) ?_
  ·exact Guarded_none rfl
  ·obtain ⟨b15, e15, i15⟩ := H 10 rfl 15 (.gen (ints2F (cmpI x.s.1 y.s.1) (cmpI x.s.2 y.s.2)) (ints2F_ext _ _)) rfl (by rw [hFs3]; rfl)
   exact Does_enter (r_callF (vs := [(.slice (some ⟨b15, 0, none⟩) 2 2)]) Tryz.func206 nm206 bd206 (lst1 e15)) (sor_c _ _ _ (e15 ▸ i15))
  refine DagSteps.cons (fun s' w' X U H => Or.inl ⟨?_, ?_⟩) ?_
  ·exact Guarded_none rfl
  ·have e16 : s' 16 = (.int .i64 (cfS x y)) := H 11 rfl 16 (.eq (.int .i64 (cfS x y))) rfl (by rw [hFs3]; rfl)
   exact Does_val (r_assign (v := (I6 (cfS x y))) e16) (Ext.refl _) rfl
  exact DagSteps.nil
 ·intro s' w3 X3 U H
  obtain ⟨j3, rfl⟩ := Fits.out (σ := s') (l := [(4, (.int .i64 (cfS x y)))]) ⟨(show s' 4 = (.int .i64 (cfS x y)) from H 12 4 (.eq (.int .i64 (cfS x y))) rfl (by rw [hFs3]; rfl)), trivial⟩
  clear U H
  replace B1 := X3.keep B1
  replace B2 := X3.keep B2
  replace E := E.ext X3
  refine thn_normal (Wp_ret ?_)
  refine fin_tmp Tryz.results177 (v := (.int .i64 (cfS x y))) rfl ?_
  exact ⟨rfl, E⟩
theorem cfS_lt (x y : VSp) : cfS x y < 0 ↔ x.s.1 < y.s.1 ∨ x.s.1 = y.s.1 ∧ x.s.2 < y.s.2 := by
 unfold cfS orL orL orL cmpI
 (repeat' split) <;> omega
theorem swoS : SWO (ltOf cfS) := by
 refine ⟨fun x => ?_, fun x y z => ?_, fun x y z => ?_⟩ <;> simp only [ltOf, decide_eq_true_eq, decide_eq_false_iff_not, cfS_lt] <;> omega
theorem sortC_c (w0 : World) (base : Nat) (v : Value) (l : List Sp) (h : OwnS w0 base v l) (hl : l.length ≤ 8796093022208) (hok : ∀ s ∈ l, vSp s) :
  Ret Tryz.prog 156 #[v, .func (.func 177) #[] #[]] w0 fun r w => r = .tuple #[] ∧ (∃ ls : List Sp, ls.Perm l ∧ ls.Pairwise (fun s t => s.1 ≤ t.1) ∧ SpansAt w v ls) ∧ Chg (fun x => v.ownBlock = some x) w0 w :=
 (sorts_c cfS swoS Tryz.func177 nm177 bd177 cfS_c w0 base v l h hl hok).mono fun r w ⟨h1, ⟨l', h2, h3, h4⟩, h5⟩ =>
  ⟨h1, ⟨_, h2, List.pairwise_map.2 (h3.imp fun {s t} hst => by rw [cfS_lt] at hst; omega), h4⟩, h5⟩
theorem own_write {w w' : World} {base e size n cap g i : Nat} {xs : List Value} {cur : Array Value} {v : Value} (h : w.ownsRow base e size (.slice (some ⟨g, 0, none⟩) n cap) n xs) (hB : Blk w g cur e) (hi : i < n * size) (hB' : Blk w' g (cur.setIfInBounds i v) e) : w'.ownsRow base e size (.slice (some ⟨g, 0, none⟩) n cap) n (xs.set i v) := by
 rcases h.2 with ⟨h1, _⟩ | ⟨g', cap', cur', hv, hbg, hg, hnc, hcm, hcs, htake⟩
 ·simp at h1
 ·simp only [Value.slice.injEq, Option.some.injEq, Addr.mk.injEq, and_true] at hv
  obtain ⟨rfl, _, rfl⟩ := hv
  unfold Blk at hB hB'
  rw [hB] at hg
  simp only [Option.some.injEq, Obj.cells.injEq, and_true] at hg
  obtain ⟨rfl, _⟩ := hg
  refine ⟨by simpa using h.1, .inr ⟨g, cap, _, rfl, hbg, hB', hnc, hcm, by simpa using hcs, ?_⟩⟩
  rw [← htake, Array.toList_setIfInBounds, List.take_set]
theorem own_blk {w : World} {base e size n cap g : Nat} {xs : List Value} (h : w.ownsRow base e size (.slice (some ⟨g, 0, none⟩) n cap) n xs) : ∃ cur, Blk w g cur e ∧ n * size ≤ cur.size := by
 rcases h.2 with ⟨h1, _⟩ | ⟨g', cap', cur', hv, hbg, hg, hnc, hcm, hcs, htake⟩
 ·simp at h1
 ·simp only [Value.slice.injEq, Option.some.injEq, Addr.mk.injEq, and_true] at hv
  obtain ⟨rfl, _, rfl⟩ := hv
  exact ⟨cur', hg, by rw [hcs]; exact Nat.mul_le_mul_right _ hnc⟩
theorem span_last (o : List Sp) (c : Sp) : ((o ++ [c]).map spanV).flatten[o.length * 2 + 1]? = some (.int .i64 c.2) := by
 rw [spanV_snoc, List.getElem?_append_right (by rw [spans_six]; omega), spans_six]
 rw [show o.length * 2 + 1 - o.length * 2 = 1 from by omega]; rfl
theorem span_set (o : List Sp) (c : Sp) (x : Int) : ((o ++ [c]).map spanV).flatten.set (o.length * 2 + 1) (.int .i64 x) = ((o ++ [(c.1, x)]).map spanV).flatten := by
 rw [spanV_snoc, spanV_snoc, List.set_append, if_neg (by rw [spans_six]; omega), spans_six, show o.length * 2 + 1 - o.length * 2 = 1 from by omega]; rfl
set_option maxHeartbeats 2000000 in
theorem join_c (w0 : World) (v : Value) (l : List Sp) (h : SpansAt w0 v l) (hl : l.length ≤ 8796093022208) (hok : ∀ s ∈ l, vSp s) :
  Ret Tryz.prog 149 #[v] w0 fun r w => (∃ out, JoinOf l out ∧ OwnS w w0.heap.size r out) ∧ Ext w0 w := by
 refine Ret_of Tryz.func149 rfl Tryz.ntmps149 (Nat.le_of_ble_eq_true rfl) ?_
 have E : Chg none1 w0 w0 := Chg.refl _ _
 refine Wp_seq_region ?_
 refine qA (.slice none 0 0) rfl ?_
 refine WpL_nil (Wp_seq_region ?_)
 refine qM v rfl ?_
 refine WpL_enter rfl rfl (by decide) (r_callF (vs := [v]) Tryz.func114 nm114 bd114 rfl) (clones_c _ v l h (by omega)) ?_
 rintro _ w9 ⟨⟨⟨a9, c9, rfl⟩, O9⟩, X9⟩
 replace E := E.ext X9
 refine qA (.slice a9 l.length c9) rfl ?_
 refine WpL_nil (Wp_seq_region ?_)
 refine qM (.slice a9 l.length c9) rfl ?_
 refine WpL_enter rfl rfl (by decide) (r_callF (vs := [(.slice a9 l.length c9), (.func (.func 177) #[] #[])]) Tryz.func156 nm156 bd156 rfl) (sortC_c _ w0.heap.size (.slice a9 l.length c9) l ⟨⟨_, _, rfl⟩, O9⟩ (by omega) hok) ?_
 rintro _ w10 ⟨rfl, ⟨ls, hperm, hsort, hat⟩, C10⟩
 replace E := E.step C10 (fun x hx hm => absurd (O9.lt x hm).1 (by omega))
 have hlen : ls.length = l.length := hperm.length_eq
 have hokl : ∀ s ∈ ls, vSp s := fun s hs => hok s (hperm.mem_iff.1 hs)
 have hsz0 : w0.heap.size ≤ w10.heap.size := E.size
 obtain ⟨base, hbase⟩ : ∃ base, base = w10.heap.size := ⟨_, rfl⟩
 have E2 : Chg none1 w10 w10 := Chg.refl _ _
 refine WpL_nil (Wp_seq_region ?_)
 refine qA (.slice none 0 0) rfl ?_
 refine WpL_nil (Wp_seq (Wp_seq_region ?_))
 refine qM (.slice a9 l.length c9) rfl ?_
 refine qV (r_lenSlice (ad := a9) (n := l.length) (cap := c9) Tryz.underlying22 rfl) ?_
 refine qM (I6 0) rfl ?_
 refine WpL_nil (Wp_block ?_)
 refine Wp_loop (fun nn_ σ W1 => ∃ (k : Nat) (la : Option Addr) (lc : Nat) (m : Nat) (ou : List Sp), (∃ jj_, σ = upds jj_ [(11, (.slice a9 l.length c9)), (12, (I6 (l.length : Int))), (13, (I6 (k : Int))), (3, (.slice la m lc))]) ∧ Chg none1 w0 W1 ∧ Chg none1 w10 W1 ∧ (k ≤ l.length) ∧ (m = ou.length) ∧ (m ≤ k) ∧ (∀ s ∈ ou, 0 ≤ s.2 ∧ s.2 ≤ 1114111) ∧ ((ls.drop k).foldl jstep ou = joinF ls) ∧ (W1.ownsRow base TSp 2 (.slice la m lc) m (ou.map spanV).flatten) ∧ (base ≤ W1.heap.size) ∧ nn_ = l.length - k) (n := l.length - 0) ?_ ?_
 ·exact ⟨0, none, 0, 0, [], Fits.out ⟨rfl, rfl, rfl, rfl, trivial⟩, E, E2, Nat.zero_le _, rfl, Nat.le_refl _, (fun s hs => absurd hs List.not_mem_nil), rfl, World.ownsRow_nil _ _ _ _, (by omega), rfl⟩
 ·clear E E2
  rintro _ _ W1 ⟨k, la, lc, m, ou, ⟨j1, rfl⟩, E, E2, hk, hm, hlo, hvo, hou, hown, hbs, rfl⟩
  refine Wp_seq_region ?_
  refine qV (r_lss (k := .i64) (a := (k : Int)) (b := (l.length : Int)) rfl rfl) ?_
  refine WpL_nil (Wp_seq ?_)
  refine Wp_cond (b := decide (((k : Int) : Int) < (l.length : Int))) rfl (fun hlt => ?_) (fun hlt => ?_)
  ·have khlt := hlt
   replace hlt := of_decide_eq_true hlt
   obtain ⟨s, hs⟩ := get_of_lt (l := ls) (i := k) (by omega)
   have hv := hokl s (List.mem_of_getElem? hs)
   unfold vSp at hv
   obtain ⟨b, o, hab, hcl⟩ := spans_cells hat (by omega)
   subst hab
   rw [drop_cons hs, List.foldl_cons] at hou
   have hown0 := hown
   refine Wp_skip (thn_normal (Wp_seq (Wp_block (Wp_seq_region ?_))))
   refine qV (r_indexSlice (b := b) (o := o) (len := l.length) (cap := c9) (i := k) (o' := o + k * 2) rfl rfl rfl Tryz.underlying22 siz103 (by omega) (by omega)) ?_
   refine qV (r_loadAgg (vs := [(I6 s.1), (I6 s.2)]) rfl agg103 siz103 rfl ((hcl k s hs).ext E2)) ?_
   refine s_allocStore (v := (.agg #[(I6 s.1), (I6 s.2)])) (c := #[(I6 s.1), (I6 s.2)]) (n := 2) (by decide) zer103 rfl siz103 rfl rfl rfl (by simp [Value.oneCell']) ?_
   intro bq wq Nq
   have Fq := Nq.ge E
   have Fq_E2 := Nq.ge E2
   replace hown := own_ext hown Nq.ext
   replace hbs := Nat.le_trans hbs Nq.ext.size
   replace E := E.ext Nq.ext
   have Bq := Nq.blk
   replace E2 := E2.ext Nq.ext
   refine WpL_nil ?_
   rcases Bool.eq_false_or_eq_true (decide ((0 : Int) < ((m : Nat) : Int))) with hm0 | hm0
   ·have khm0 := hm0
    replace khm0 := of_decide_eq_true khm0
    obtain ⟨oo, cc, hoc⟩ : ∃ oo cc, ou = oo ++ [cc] := by rcases snoc_cases ou with rfl | h1; simp at hm; omega; exact h1
    subst hoc
    have hvc := hvo cc (by simp)
    have hmo : m = oo.length + 1 := by simpa using hm
    obtain ⟨g, rfl, hgb, hgc⟩ := own_cells hown (by omega)
    have hgn : g ≠ bq := fun h1 => by have := (hown0.lt g rfl).2; have := Nq.eq; omega
    refine Wp_seq_region ?_
    refine qM (.slice (some ⟨g, 0, none⟩) m lc) rfl ?_
    refine qV (r_lenSlice (ad := some ⟨g, 0, none⟩) (n := m) (cap := lc) Tryz.underlying22 rfl) ?_
    refine qA (I6 (m : Int)) rfl ?_
    refine WpL_nil ?_
    refine Wp_seq_draw 13 mixed (by kernel_rfl) ?_
    intro w3 X3 _
    replace Bq := X3.keep Bq
    replace hown := own_ext hown X3
    replace hbs := Nat.le_trans hbs X3.size
    replace E := E.ext X3
    replace E2 := E2.ext X3
    refine qT (r_move (v := (I6 (m : Int))) rfl) ?_
    refine qT (r_gtr (k := .i64) (a := (m : Int)) (b := 0) rfl rfl) ?_
    refine qT (r_move (v := (.bool (decide ((0 : Int) < (m : Int))))) rfl) ?_
    refine WpT_guard_yes (oj := _) rfl rfl (by decide) (congrArg Value.bool hm0) ?_
    refine qT (r_fieldAddr (b := bq) (o := 0) (o' := 0) rfl Tryz.underlying103 rfl siz3 rfl) ?_
    refine WpT_guard_yes (oj := _) rfl rfl (by decide) (congrArg Value.bool hm0) ?_
    refine qT (r_load (v := (I6 s.1)) rfl flat3 (Bq.cell rfl)) ?_
    refine WpT_guard_yes (oj := _) rfl rfl (by decide) (congrArg Value.bool hm0) ?_
    refine qT (r_move (v := (.slice (some ⟨g, 0, none⟩) m lc)) rfl) ?_
    refine WpT_guard_yes (oj := _) rfl rfl (by decide) (congrArg Value.bool hm0) ?_
    refine qT (r_move (v := (I6 (m : Int))) rfl) ?_
    refine WpT_guard_yes (oj := _) rfl rfl (by decide) (congrArg Value.bool hm0) ?_
    refine qT (r_sub (k := .i64) (a := (m : Int)) (b := 1) (c := (m : Int) - 1) rfl rfl (wI64 (by omega))) ?_
    refine WpT_guard_yes (oj := _) rfl rfl (by decide) (congrArg Value.bool hm0) ?_
    refine qT (r_indexSlice (b := g) (o := 0) (len := m) (cap := lc) (i := m - 1) (o' := 0 + (m - 1) * 2) rfl rfl (by omega) Tryz.underlying22 siz103 (by omega) (by omega)) ?_
    refine WpT_guard_yes (oj := _) rfl rfl (by decide) (congrArg Value.bool hm0) ?_
    refine qT (r_fieldAddr (b := g) (o := 0 + (m - 1) * 2) (o' := 0 + (m - 1) * 2 + 1) rfl Tryz.underlying103 rfl siz3 rfl) ?_
    refine WpT_guard_yes (oj := _) rfl rfl (by decide) (congrArg Value.bool hm0) ?_
    refine qT (r_load (v := (I6 cc.2)) rfl flat3 ((by have h1 := (hown.cells (g := g) rfl) (oo.length * 2 + 1) _ (span_last oo cc); rwa [Addr.add_lit, show 0 + (oo.length * 2 + 1) = 0 + (m - 1) * 2 + 1 from by omega] at h1))) ?_
    refine WpT_guard_yes (oj := _) rfl rfl (by decide) (congrArg Value.bool hm0) ?_
    refine qT (r_add (k := .i64) (a := cc.2) (b := 1) (c := cc.2 + 1) rfl rfl (wI64 (by omega))) ?_
    refine WpT_guard_yes (oj := _) rfl rfl (by decide) (congrArg Value.bool hm0) ?_
    refine qT (r_leq (k := .i64) (a := s.1) (b := cc.2 + 1) rfl rfl) ?_
    refine WpT_zero ?_
    refine qV (r_pick (b := decide ((0 : Int) < (m : Int))) (v := (.bool (decide ((s.1 : Int) ≤ cc.2 + 1)))) rfl (by rw [hm0]; rfl)) ?_
    refine WpL_nil ?_
    refine Wp_cond (b := decide ((s.1 : Int) ≤ cc.2 + 1)) rfl (fun hj => ?_) (fun hj => ?_)
    ·have khj := hj
     replace hj := of_decide_eq_true hj
     obtain ⟨cur, hB, hcs⟩ := own_blk hown
     refine Wp_draw 14 mixed (by kernel_rfl) ?_
     intro w5 X5 _
     replace Bq := X5.keep Bq
     replace hB := X5.keep hB
     replace hown := own_ext hown X5
     replace hbs := Nat.le_trans hbs X5.size
     replace E := E.ext X5
     replace E2 := E2.ext X5
     refine qT (r_move (v := (.slice (some ⟨g, 0, none⟩) m lc)) rfl) ?_
     refine qT (r_move (v := (I6 (m : Int))) rfl) ?_
     refine qT (r_sub (k := .i64) (a := (m : Int)) (b := 1) (c := (m : Int) - 1) rfl rfl (wI64 (by omega))) ?_
     refine qT (r_move (v := (.slice (some ⟨g, 0, none⟩) m lc)) rfl) ?_
     refine qT (r_move (v := (I6 (m : Int))) rfl) ?_
     refine qT (r_sub (k := .i64) (a := (m : Int)) (b := 1) (c := (m : Int) - 1) rfl rfl (wI64 (by omega))) ?_
     refine qT (r_indexSlice (b := g) (o := 0) (len := m) (cap := lc) (i := m - 1) (o' := 0 + (m - 1) * 2) rfl rfl (by omega) Tryz.underlying22 siz103 (by omega) (by omega)) ?_
     refine qT (r_fieldAddr (b := g) (o := 0 + (m - 1) * 2) (o' := 0 + (m - 1) * 2 + 1) rfl Tryz.underlying103 rfl siz3 rfl) ?_
     refine qT (r_load (v := (I6 cc.2)) rfl flat3 ((by have h1 := (hown.cells (g := g) rfl) (oo.length * 2 + 1) _ (span_last oo cc); rwa [Addr.add_lit, show 0 + (oo.length * 2 + 1) = 0 + (m - 1) * 2 + 1 from by omega] at h1))) ?_
     refine qT (r_fieldAddr (b := bq) (o := 0) (o' := 1) rfl Tryz.underlying103 rfl siz3 rfl) ?_
     refine qT (r_load (v := (I6 s.2)) rfl flat3 (Bq.cell rfl)) ?_
     refine qT (r_maxI rfl rfl rfl) ?_
     refine qT (r_indexSlice (b := g) (o := 0) (len := m) (cap := lc) (i := m - 1) (o' := 0 + (m - 1) * 2) rfl rfl (by omega) Tryz.underlying22 siz103 (by omega) (by omega)) ?_
     refine qT (r_fieldAddr (b := g) (o := 0 + (m - 1) * 2) (o' := 0 + (m - 1) * 2 + 1) rfl Tryz.underlying103 rfl siz3 rfl) ?_
     refine WpT_zero ?_
     have hB0 := hB
     refine s_store (b := g) (o := 0 + (m - 1) * 2 + 1) (c' := cur.setIfInBounds (0 + (m - 1) * 2 + 1) (I6 (max cc.2 s.2))) (v := (I6 (max cc.2 s.2))) rfl rfl rfl siz3 hB (by omega) (rfl) ?_
     intro w6 S6
     replace Bq := S6.keep (by omega) Bq
     replace E := S6.step E (by first | exact Or.inl (by omega) | exact Or.inr rfl | exact Or.inr (by assumption) | exact Or.inr (by simp) | exact Or.inr (by omega) | exact Or.inr (by dsimp only; omega))
     replace E2 := S6.step E2 (Or.inl (by omega))
     replace hB := S6.blk
     have hown1 := own_write hown hB0 (i := 0 + (m - 1) * 2 + 1) (by omega) hB
     refine WpL_nil (inB_normal (thn_normal (Wp_region ?_)))
     refine qV (r_add (k := .i64) (a := (k : Int)) (b := 1) (c := (k : Int) + 1) rfl rfl (wI64 (by omega))) ?_
     refine qM (I6 ((k : Int) + 1)) rfl ?_
     refine WpL_nil (thn_normal ?_)
     exact ⟨l.length - (k + 1), by omega, k + 1, some ⟨g, 0, none⟩, lc, m, oo ++ [(cc.1, max cc.2 s.2)], Fits.out ⟨rfl, rfl, rfl, rfl, trivial⟩, E, E2, (by omega), (by simp [hmo]), (by omega), (fun u hu => by rcases List.mem_append.1 hu with hu | hu; exact hvo u (by simp [hu]); rw [List.mem_singleton] at hu; subst hu; simp only; omega), (by rw [← hou, jstep_snoc, if_pos hj]), (by rw [show 0 + (m - 1) * 2 + 1 = oo.length * 2 + 1 from by omega, span_set] at hown1; exact hown1), (by have := hown1.lt g rfl; omega), rfl⟩
    ·have khj := hj
     replace hj := of_decide_eq_false hj
     refine Wp_region ?_
     refine qM (.slice (some ⟨g, 0, none⟩) m lc) rfl ?_
     refine qV (r_loadAgg (vs := [(I6 s.1), (I6 s.2)]) rfl agg103 siz103 rfl (Bq.cells rfl)) ?_
     refine s_buildSlice (ps := [(0, (.agg #[(I6 s.1), (I6 s.2)]))]) (c := #[(I6 s.1), (I6 s.2)]) (by decide) rfl Tryz.underlying22 siz103 zer103 (by decide) (by decide) (by kernel_rfl) ?_
     intro br wr Nr
     have Fr := Nr.ge E
     have Fr_E2 := Nr.ge E2
     have Or_bq := Nr.lt Bq
     replace Bq := Nr.keep Bq
     replace hown := own_ext hown Nr.ext
     replace hbs := Nat.le_trans hbs Nr.ext.size
     replace E := E.ext Nr.ext
     have Br := Nr.blk
     replace E2 := E2.ext Nr.ext
     refine s_append (base := base) (n := m) (m := 1) (xs := ((oo ++ [cc]).map spanV).flatten) (news := [(I6 s.1), (I6 s.2)]) (size := 2) (bytes := 16) (v := (.slice (some ⟨g, 0, none⟩) m lc)) (by decide) Tryz.underlying22 siz103 byt103 zer103 rfl (by decide) rfl hown rfl (rfl) (Br.cells rfl) (by simp [Value.oneCell']) (by unfold maxLen; omega) (by omega) (hbs) ?_
     intro v9 w29 Ov9 Cv9 Dv9
     replace Bq := Cv9.keep (fun h => by have := (hown0.lt _ h).2; have := Nq.eq; omega) Bq
     replace E := E.step Cv9 (fun x hx h => absurd (hown.lt x h).1 (by omega))
     replace E2 := E2.step Cv9 (fun x hx h => absurd (hown.lt x h).1 (by omega))
     obtain ⟨la2, lc2, rfl⟩ := own_form Ov9
     refine qA (.slice la2 (m + 1) lc2) rfl ?_
     refine WpL_nil (inB_normal (thn_normal (Wp_region ?_)))
     refine qV (r_add (k := .i64) (a := (k : Int)) (b := 1) (c := (k : Int) + 1) rfl rfl (wI64 (by omega))) ?_
     refine qM (I6 ((k : Int) + 1)) rfl ?_
     refine WpL_nil (thn_normal ?_)
     exact ⟨l.length - (k + 1), by omega, k + 1, la2, lc2, m + 1, oo ++ [cc] ++ [s], Fits.out ⟨rfl, rfl, rfl, rfl, trivial⟩, E, E2, (by omega), (by simp [hmo]), (by omega), (fun u hu => by rcases List.mem_append.1 hu with hu | hu; exact hvo u hu; rw [List.mem_singleton] at hu; subst hu; omega), (by rw [← hou, jstep_snoc, if_neg hj]), (by rw [spanV_snoc]; exact Ov9), Nat.le_trans hbs Cv9.size, rfl⟩
   ·have khm0 := hm0
    replace khm0 := of_decide_eq_false khm0
    have hm1 : m = 0 := by omega
    have hou0 : ou = [] := List.eq_nil_of_length_eq_zero (by omega)
    subst hou0
    refine Wp_seq_region ?_
    refine qM (.slice la m lc) rfl ?_
    refine qV (r_lenSlice (ad := la) (n := m) (cap := lc) Tryz.underlying22 rfl) ?_
    refine qA (I6 (m : Int)) rfl ?_
    refine WpL_nil ?_
    refine Wp_seq_draw 13 mixed (by kernel_rfl) ?_
    intro w7 X7 _
    replace Bq := X7.keep Bq
    replace hown := own_ext hown X7
    replace hbs := Nat.le_trans hbs X7.size
    replace E := E.ext X7
    replace E2 := E2.ext X7
    refine qT (r_move (v := (I6 (m : Int))) rfl) ?_
    refine qT (r_gtr (k := .i64) (a := (m : Int)) (b := 0) rfl rfl) ?_
    refine qT (r_move (v := (.bool (decide ((0 : Int) < (m : Int))))) rfl) ?_
    refine WpT_guard_no (oj := _) rfl rfl (by decide) (v := .bool false) (congrArg Value.bool hm0) (Or.inl rfl) ?_
    refine WpT_guard_no (oj := _) rfl rfl (by decide) (v := .bool false) (congrArg Value.bool hm0) (Or.inl rfl) ?_
    refine WpT_guard_no (oj := _) rfl rfl (by decide) (v := .bool false) (congrArg Value.bool hm0) (Or.inl rfl) ?_
    refine WpT_guard_no (oj := _) rfl rfl (by decide) (v := .bool false) (congrArg Value.bool hm0) (Or.inl rfl) ?_
    refine WpT_guard_no (oj := _) rfl rfl (by decide) (v := .bool false) (congrArg Value.bool hm0) (Or.inl rfl) ?_
    refine WpT_guard_no (oj := _) rfl rfl (by decide) (v := .bool false) (congrArg Value.bool hm0) (Or.inl rfl) ?_
    refine WpT_guard_no (oj := _) rfl rfl (by decide) (v := .bool false) (congrArg Value.bool hm0) (Or.inl rfl) ?_
    refine WpT_guard_no (oj := _) rfl rfl (by decide) (v := .bool false) (congrArg Value.bool hm0) (Or.inl rfl) ?_
    refine WpT_guard_no (oj := _) rfl rfl (by decide) (v := .bool false) (congrArg Value.bool hm0) (Or.inl rfl) ?_
    refine WpT_guard_no (oj := _) rfl rfl (by decide) (v := .bool false) (congrArg Value.bool hm0) (Or.inl rfl) ?_
    refine WpT_zero ?_
    refine qV (r_pick (b := decide ((0 : Int) < (m : Int))) (v := (.bool false)) rfl (by rw [hm0]; rfl)) ?_
    refine WpL_nil ?_
    refine Wp_cond_false rfl ?_
    refine Wp_region ?_
    refine qM (.slice la m lc) rfl ?_
    refine qV (r_loadAgg (vs := [(I6 s.1), (I6 s.2)]) rfl agg103 siz103 rfl (Bq.cells rfl)) ?_
    refine s_buildSlice (ps := [(0, (.agg #[(I6 s.1), (I6 s.2)]))]) (c := #[(I6 s.1), (I6 s.2)]) (by decide) rfl Tryz.underlying22 siz103 zer103 (by decide) (by decide) (by kernel_rfl) ?_
    intro b8 w8 N8
    have F8 := N8.ge E
    have F8_E2 := N8.ge E2
    have O8_bq := N8.lt Bq
    replace Bq := N8.keep Bq
    replace hown := own_ext hown N8.ext
    replace hbs := Nat.le_trans hbs N8.ext.size
    replace E := E.ext N8.ext
    have B8 := N8.blk
    replace E2 := E2.ext N8.ext
    refine s_append (base := base) (n := m) (m := 1) (xs := []) (news := [(I6 s.1), (I6 s.2)]) (size := 2) (bytes := 16) (v := (.slice la m lc)) (by decide) Tryz.underlying22 siz103 byt103 zer103 rfl (by decide) rfl hown rfl (rfl) (B8.cells rfl) (by simp [Value.oneCell']) (by unfold maxLen; omega) (by omega) (hbs) ?_
    intro v9 w29 Ov9 Cv9 Dv9
    replace Bq := Cv9.keep (fun h => by have := (hown0.lt _ h).2; have := Nq.eq; omega) Bq
    replace E := E.step Cv9 (fun x hx h => absurd (hown.lt x h).1 (by omega))
    replace E2 := E2.step Cv9 (fun x hx h => absurd (hown.lt x h).1 (by omega))
    obtain ⟨la2, lc2, rfl⟩ := own_form Ov9
    refine qA (.slice la2 (m + 1) lc2) rfl ?_
    refine WpL_nil (inB_normal (thn_normal (Wp_region ?_)))
    refine qV (r_add (k := .i64) (a := (k : Int)) (b := 1) (c := (k : Int) + 1) rfl rfl (wI64 (by omega))) ?_
    refine qM (I6 ((k : Int) + 1)) rfl ?_
    refine WpL_nil (thn_normal ?_)
    exact ⟨l.length - (k + 1), by omega, k + 1, la2, lc2, m + 1, [s], Fits.out ⟨rfl, rfl, rfl, rfl, trivial⟩, E, E2, (by omega), (by simp [hm1]), (by omega), (fun u hu => by rw [List.mem_singleton] at hu; subst hu; omega), (by rw [← hou, jstep_nil]), (by simpa [spanV] using Ov9), Nat.le_trans hbs Cv9.size, rfl⟩
  ·have khlt := hlt
   replace hlt := of_decide_eq_false hlt
   have hkk : ls.drop k = [] := List.drop_eq_nil_of_le (by omega)
   rw [hkk, List.foldl_nil] at hou
   refine Wp_exit (thn_exit (thn_exit (inB_here (thn_normal (Wp_seq_region ?_)))))
   refine qM (.slice la m lc) rfl ?_
   refine qA (.slice la m lc) rfl ?_
   refine WpL_nil (Wp_ret ?_)
   refine fin_tmp Tryz.results149 (v := (.slice la m lc)) rfl ?_
   subst hou; subst hm
   exact ⟨⟨joinF ls, ⟨ls, hperm, hsort, rfl⟩, ⟨la, lc, rfl⟩, own_low hown (by omega)⟩, E⟩
theorem checkL_canon : ∀ (l : List Sp) (p : Option Int), checkL p l = 0 → Canon l ∧ (∀ h, p = some h → ∀ s ∈ l, h + 2 ≤ s.1)
  | [], _, _ => ⟨Canon.nil, fun _ _ _ h => absurd h List.not_mem_nil⟩
  | s :: r, p, h0 => by
    rw [checkL_cons] at h0
    by_cases hv : validB s = false
    · rw [if_pos hv] at h0; cases h0
    rw [if_neg hv] at h0
    have hg : checkL (some s.2) r = 0 ∧ ∀ h, p = some h → h + 2 ≤ s.1 := by
      cases p with
      | none => exact ⟨by simpa using h0, fun _ he => by cases he⟩
      | some q =>
        by_cases hq : s.1 < q + 2
        · simp [hq] at h0
        · simp [hq] at h0; exact ⟨h0, fun h he => by cases he; omega⟩
    obtain ⟨h1, h2⟩ := checkL_canon r (some s.2) hg.1
    have hv2 : vSp s := by unfold vSp; unfold validB at hv; simp at hv; omega
    have h3 := h2 s.2 rfl
    refine ⟨Canon.cons hv2 h3 h1, fun h he t ht => ?_⟩
    have h4 := hg.2 h he
    rcases List.mem_cons.1 ht with rfl | ht
    · omega
    · have := h3 t ht; unfold vSp at hv2; omega
theorem checkE_canon {l : List Sp} (h : checkE l = 0) : Canon l ∧ l.length ≤ 16 := by
 unfold checkE at h
 split at h
 ·cases h
 ·exact ⟨(checkL_canon l none h).1, by omega⟩
def IsSet (out : List Sp) (f : Int → Bool) : Prop := Canon out ∧ ∀ r, 0 ≤ r → r ≤ 1114111 → inS out r = f r
theorem IsSet.eq {a b : List Sp} {f g : Int → Bool} (ha : IsSet a f) (hb : IsSet b g) (h : ∀ r, 0 ≤ r → r ≤ 1114111 → f r = g r) : a = b :=
 canon_ext ha.1 hb.1 fun r h0 h1 => by rw [ha.2 r h0 h1, hb.2 r h0 h1, h r h0 h1]
def SetAt (w : World) (v : Value) (out : List Sp) : Prop := (∃ a c, v = .slice a out.length c) ∧ SpansAt w v out
theorem SetAt.ext {w w' : World} {v : Value} {l : List Sp} (h : SetAt w v l) (e : Ext w w') : SetAt w' v l := ⟨h.1, h.2.ext e⟩
theorem SetAt.nil (w : World) : SetAt w (.slice none 0 0) [] := ⟨⟨none, 0, rfl⟩, SlAt.nil _ _ _ _⟩
theorem OwnS.set {w : World} {base : Nat} {r : Value} {l : List Sp} (h : OwnS w base r l) : SetAt w r l := ⟨h.1, h.at⟩
def fitsP (j out : List Sp) (e : Int) : Prop := if 16 < j.length then e = 2 ∧ out = [] else e = 0 ∧ out = j
def twoE (a b : List Sp) : Int := if checkE a ≠ 0 then checkE a else checkE b
theorem IsSet.join {l out : List Sp} (h : JoinOf l out) (hv : ∀ s ∈ l, vSp s) : IsSet out (inS l) ∧ out.length ≤ l.length :=
 let ⟨h1, h2, h3⟩ := h.all hv
 ⟨⟨h1, fun r _ _ => h2 r⟩, h3⟩
theorem IsSet.rest {l : List Sp} {f : Int → Bool} (h : IsSet l f) : IsSet (notS l) (fun r => !f r) := ⟨notS_canon h.1, fun r h0 h1 => by rw [notS_mem h.1 h0 h1, h.2 r h0 h1]⟩
theorem IsSet.self {l : List Sp} (h : Canon l) : IsSet l (inS l) := ⟨h, fun _ _ _ => rfl⟩
def uniP (a b out : List Sp) (e : Int) : Prop := (twoE a b ≠ 0 ∧ e = twoE a b ∧ out = []) ∨ (twoE a b = 0 ∧ ∃ j, IsSet j (fun r => inS a r || inS b r) ∧ j.length ≤ a.length + b.length ∧ fitsP j out e)
def bothP (f : Int → Bool) (n : Nat) (a b out : List Sp) (e : Int) : Prop := (twoE a b ≠ 0 ∧ e = twoE a b ∧ out = []) ∨ (twoE a b = 0 ∧ ∃ j, IsSet j f ∧ j.length ≤ a.length + b.length + n ∧ fitsP j out e)
def normP (a out : List Sp) (e : Int) : Prop := ((∃ s ∈ a, ¬ vSp s) ∧ e = 1 ∧ out = []) ∨ ((∀ s ∈ a, vSp s) ∧ ∃ j, IsSet j (inS a) ∧ j.length ≤ a.length ∧ fitsP j out e)
end Go.Proofs
namespace Go.Eng
open Go
section
variable {κ ν : Type} [DecidableEq κ]
def getM : List (κ × ν) → κ → Option ν
  | [], _ => none
  | p :: r, k => if p.1 = k then some p.2 else getM r k
def putM : List (κ × ν) → κ → ν → List (κ × ν)
  | [], k, v => [(k, v)]
  | p :: r, k, v => if p.1 = k then (k, v) :: r else p :: putM r k v
def findM (eV : ν → Value) : List (κ × ν) → κ → Nat → Option (Nat × Value)
  | [], _, _ => none
  | p :: r, k, i => if p.1 = k then some (i, eV p.2) else findM eV r k (i + 1)
theorem findM_none {eV : ν → Value} : ∀ {es : List (κ × ν)} {k : κ} {i : Nat}, getM es k = none → findM eV es k i = none
  | [], _, _, _ => rfl
  | p :: r, k, i, h => by
    unfold getM at h
    unfold findM
    split at h
    · cases h
    · rename_i hne; rw [if_neg hne]; exact findM_none h
theorem findM_some {eV : ν → Value} : ∀ {es : List (κ × ν)} {k : κ} {i : Nat} {v : ν}, getM es k = some v → ∃ j, findM eV es k i = some (i + j, eV v) ∧ es[j]? = some (k, v) ∧ ∀ u, putM es k u = es.set j (k, u)
  | [], _, _, _, h => by cases h
  | p :: r, k, i, v, h => by
    unfold getM at h
    unfold findM
    split at h
    · rename_i he
      cases h
      rw [if_pos he]
      exact ⟨0, rfl, by obtain ⟨a, b⟩ := p; simp at he; subst he; rfl, fun u => by unfold putM; rw [if_pos he]; rfl⟩
    · rename_i hne
      rw [if_neg hne]
      obtain ⟨j, h1, h2, h3⟩ := findM_some (eV := eV) (i := i + 1) h
      exact ⟨j + 1, by rw [h1]; congr 2; omega, by simpa using h2, fun u => by unfold putM; rw [if_neg hne, h3 u]; rfl⟩
theorem putM_none : ∀ {es : List (κ × ν)} {k : κ} (v : ν), getM es k = none → putM es k v = es ++ [(k, v)]
  | [], _, _, _ => rfl
  | p :: r, k, v, h => by
    unfold getM at h
    unfold putM
    split at h
    · cases h
    · rename_i hne; rw [if_neg hne, putM_none v h]; rfl
theorem getM_put (es : List (κ × ν)) (k : κ) (v : ν) (q : κ) : getM (putM es k v) q = if k = q then some v else getM es q := by
  induction es with
  | nil => unfold putM getM getM; rfl
  | cons p r ih =>
    unfold putM
    split
    · rename_i he
      unfold getM
      by_cases h : k = q
      · rw [if_pos h, if_pos h]
      · rw [if_neg h, if_neg h, if_neg (by rw [he]; exact h)]
    · rename_i hne
      unfold getM
      rw [ih]
      by_cases h : k = q
      · rw [if_pos h, if_neg (by rw [← h]; exact hne), if_pos h]
      · rw [if_neg h, if_neg h]
theorem getM_some_mem {es : List (κ × ν)} {k : κ} {v : ν} (h : getM es k = some v) : (k, v) ∈ es := by
 obtain ⟨j, _, h2, _⟩ := findM_some (eV := fun _ => undef) (i := 0) h
 exact List.mem_of_getElem? h2
theorem getM_isSome {es : List (κ × ν)} {k : κ} : (getM es k).isSome = true ↔ k ∈ es.map (·.1) := by
  induction es with
  | nil => simp [getM]
  | cons p r ih =>
    unfold getM
    by_cases h : p.1 = k
    · simp [h]
    · rw [if_neg h, ih]
      simp [Ne.symm h]
def KeysOk (es : List (κ × ν)) : Prop := (es.map (·.1)).Nodup
omit [DecidableEq κ] in
theorem KeysOk.nil : KeysOk ([] : List (κ × ν)) := List.nodup_nil
theorem KeysOk.put {es : List (κ × ν)} (h : KeysOk es) (k : κ) (v : ν) : KeysOk (putM es k v) := by
  cases hg : getM es k with
  | none =>
    rw [putM_none v hg]
    unfold KeysOk
    rw [List.map_append, List.nodup_append]
    refine ⟨h, by simp, fun a ha b hb => ?_⟩
    simp at hb
    subst hb
    intro he
    subst he
    have := getM_isSome.2 ha
    rw [hg] at this; cases this
  | some u =>
    obtain ⟨j, _, h2, h3⟩ := findM_some (eV := fun _ => undef) (i := 0) hg
    rw [h3 v]
    unfold KeysOk
    have : (es.set j (k, v)).map (·.1) = es.map (·.1) := by
      apply List.ext_getElem?
      intro i
      rw [List.getElem?_map, List.getElem?_map, List.getElem?_set]
      by_cases hi : j = i
      · subst hi
        have hlt := lt_of_get h2
        rw [if_pos rfl, if_pos hlt, h2]; rfl
      · simp [hi]
    rw [this]; exact h
end
/-- A map in memory: its entries in the order in which the keys came. -/
def ents {κ ν : Type} (ek : κ → Value) (eV : ν → Value) (es : List (κ × ν)) : List MapEntry := es.zipIdx.map fun p => { key := ek p.1.1, val := eV p.1.2, born := p.2 }
def MapAt {κ ν : Type} (w : World) (b : Nat) (ek : κ → Value) (eV : ν → Value) (es : List (κ × ν)) : Prop := w.heap[b]? = some (.map (ents ek eV es).toArray es.length)
theorem ents_get {κ ν : Type} {ek : κ → Value} {eV : ν → Value} {es : List (κ × ν)} {i : Nat} : (ents ek eV es)[i]? = (es[i]?).map fun p => { key := ek p.1, val := eV p.2, born := i } := by
 unfold ents; rw [List.getElem?_map, List.getElem?_zipIdx]; cases es[i]? <;> simp
theorem ents_kv {κ ν : Type} (ek : κ → Value) (eV : ν → Value) (es : List (κ × ν)) : (ents ek eV es).map (fun e => (e.key, e.val)) = es.map fun p => (ek p.1, eV p.2) := by
 apply List.ext_getElem?
 intro i
 rw [List.getElem?_map, ents_get, List.getElem?_map]
 cases es[i]? <;> rfl
section
variable {κ ν : Type} {ek : κ → Value} {eV : ν → Value} {es : List (κ × ν)} {w w' : World} {b : Nat}
theorem MapAt.lt (h : MapAt w b ek eV es) : b < w.heap.size := (Array.getElem?_eq_some_iff.1 h).1
theorem Chg.keepM {M : Nat → Prop} (h : Chg M w w') (hm : ¬ M b) (hb : MapAt w b ek eV es) : MapAt w' b ek eV es := (h.blk b hb.lt hm).trans hb
theorem Ext.keepM (h : Ext w w') (hb : MapAt w b ek eV es) : MapAt w' b ek eV es := Chg.keepM h (fun f => f) hb
theorem New.keepM {n : Nat} {c : Array Value} {t : TypeId} (h : New w w' n c t) (hb : MapAt w b ek eV es) : MapAt w' b ek eV es := h.ext.keepM hb
theorem New.ltM {n : Nat} {c : Array Value} {t : TypeId} (h : New w w' n c t) (hb : MapAt w b ek eV es) : b < n := by rw [h.eq]; exact hb.lt
theorem Put.keepM {n : Nat} {c : Array Value} {t : TypeId} (h : Put w w' n c t) (hne : b ≠ n) (hb : MapAt w b ek eV es) : MapAt w' b ek eV es := h.chg.keepM hne hb
end
/-- A new object that is no row of cells. -/
structure NewO (w w' : World) (b : Nat) (o : Obj) : Prop where
 at' : w'.heap[b]? = some o
 ext : Ext w w'
 eq : b = w.heap.size
 size : w'.heap.size = w.heap.size + 1
theorem NewO.mk' (w : World) (o : Obj) : NewO w { w with heap := w.heap.push o } w.heap.size o :=
 ⟨by simp, ⟨rfl, rfl, rfl, Nat.le_refl _, by simp, fun x hx _ => by simp [Array.getElem?_push, Nat.ne_of_lt hx]⟩, rfl, by simp⟩
section
variable {w w' : World} {b : Nat} {o : Obj}
theorem NewO.keep (h : NewO w w' b o) {b' : Nat} {c' : Array Value} {t' : TypeId} (hb : Blk w b' c' t') : Blk w' b' c' t' := h.ext.keep hb
theorem NewO.lt (h : NewO w w' b o) {b' : Nat} {c' : Array Value} {t' : TypeId} (hb : Blk w b' c' t') : b' < b := by rw [h.eq]; exact hb.lt
theorem NewO.ge (h : NewO w w' b o) {w0 : World} {M : Nat → Prop} (e : Chg M w0 w) : w0.heap.size ≤ b := by rw [h.eq]; exact e.size
variable {κ ν : Type} {ek : κ → Value} {eV : ν → Value} {es : List (κ × ν)} {b' : Nat}
theorem NewO.keepM (h : NewO w w' b o) (hb : MapAt w b' ek eV es) : MapAt w' b' ek eV es := h.ext.keepM hb
theorem NewO.ltM (h : NewO w w' b o) (hb : MapAt w b' ek eV es) : b' < b := by rw [h.eq]; exact hb.lt
end
/-- An object that is no row of cells is replaced. -/
structure PutO (w w' : World) (b : Nat) (o : Obj) : Prop where
 at' : w'.heap[b]? = some o
 chg : Chg (fun x => x = b) w w'
 size : w'.heap.size = w.heap.size
theorem PutO.mk' {w : World} {b : Nat} (o : Obj) (hb : b < w.heap.size) : PutO w { w with heap := w.heap.setIfInBounds b o } b o :=
 ⟨by simp [hb], ⟨rfl, rfl, rfl, Nat.le_refl _, by simp, fun x hx hne => by simp [Array.getElem?_setIfInBounds, Ne.symm hne]⟩, by simp⟩
section
variable {w w' : World} {b : Nat} {o : Obj}
theorem PutO.keep (h : PutO w w' b o) {b' : Nat} {c' : Array Value} {t' : TypeId} (hne : b' ≠ b) (hb : Blk w b' c' t') : Blk w' b' c' t' := h.chg.keep hne hb
theorem PutO.step (h : PutO w w' b o) {w0 : World} {M : Nat → Prop} (e : Chg M w0 w) (hb : w0.heap.size ≤ b ∨ M b) : Chg M w0 w' :=
 e.step h.chg fun x hx hm => by subst hm; rcases hb with hb | hb; omega; exact hb
variable {κ ν : Type} {ek : κ → Value} {eV : ν → Value} {es : List (κ × ν)} {b' : Nat}
theorem PutO.keepM (h : PutO w w' b o) (hne : b' ≠ b) (hb : MapAt w b' ek eV es) : MapAt w' b' ek eV es := h.chg.keepM hne hb
end
/-- What is asked of a key's type. -/
structure KeyOk (P : Program) (kt : TypeId) {κ : Type} [DecidableEq κ] (ek : κ → Value) : Prop where
 check : ∀ (b : Bool) (w : World) (k : κ), (Instr.checkKey b 10000 kt (ek k)).run P w = .ok () w
 find : ∀ (ν : Type) (w : World) (k : κ) (es : List (κ × ν)) (eV : ν → Value) (L : List MapEntry), L.map (fun e => (e.key, e.val)) = es.map (fun p => (ek p.1, eV p.2)) → (Instr.findKey kt (ek k) L).run P w = .ok (findM eV es k 0) w
 same : ∀ k, Instr.sameBits 10000 (ek k) (ek k) = true
def kInt (x : Int) : Value := .int .i64 x
def kStr (s : ByteArray) : Value := .string s
theorem keyStr {P : Program} {kt : TypeId} (hu : P.underlying kt = some .string) : KeyOk P kt kStr where
  check := fun b w k => by rw [show (10000 : Nat) = 9999 + 1 from rfl, Instr.checkKey]; simp only [Sem.run_bind, run_underlying hu, Result.andThen_ok, kStr]; rfl
  find := fun ν w k es eV L hL => by
    have key : ∀ (L : List MapEntry) (es : List (ByteArray × ν)) (i : Nat), L.map (fun e => (e.key, e.val)) = es.map (fun p => (kStr p.1, eV p.2)) → Instr.findNow .string (kStr k) L i = some (findM eV es k i) := by
      intro L
      induction L with
      | nil =>
        intro es i h
        cases es with
        | nil => rfl
        | cons _ _ => simp at h
      | cons e L ih =>
        intro es i h
        cases es with
        | nil => simp at h
        | cons p es =>
          simp only [List.map_cons, List.cons.injEq, Prod.mk.injEq] at h
          obtain ⟨⟨h1, h2⟩, h3⟩ := h
          unfold Instr.findNow findM
          rw [h1]
          simp only [kStr, Instr.sameNow]
          by_cases hk : p.1 = k
          · rw [if_pos hk, hk, (MapKept.bytes_beq k k).2 rfl]; simp [h2]
          · have : (k == p.1) = false := by rw [Bool.eq_false_iff]; exact fun h => hk ((MapKept.bytes_beq _ _).1 h).symm
            rw [if_neg hk, this]
            exact ih es (i + 1) h3
    simp [Instr.findKey, run_underlying hu, key L es 0 hL]
  same := fun k => by unfold kStr; rw [Instr.sameBits]; exact (MapKept.bytes_beq k k).2 rfl
section
variable {P : Program} {N : Nat} {Q : Post} {σ : Env} {w : World} {K : Env → World → Prop} {ops : Array Oper} {rest : List Oper} {d : Nat} {ty : TypeId} {pos : String} {af : Array Edge} {g : Option (Nat × Bool)} {dst : Option Tmp} {t kt et : TypeId} {m x y : Operand} {b : Nat}
variable {κ ν : Type} [DecidableEq κ] {ek : κ → Value} {eV : ν → Value} {es : List (κ × ν)} {k : κ} {v : ν}
omit [DecidableEq κ] in
theorem s_makeMap (ek : κ → Value) (eV : ν → Value) (hN : d < N) (kk : ∀ b w', NewO w w' b (.map #[] 0) → MapAt w' b ek eV [] → WpL P N ops K Q rest (upd σ d (.map (some b))) w') :
  WpL P N ops K Q (⟨some d, .makeMap t none, ty, pos, af, none⟩ :: rest) σ w := by
 refine WpL_val (v := .map (some w.heap.size)) (w' := { w with heap := w.heap.push (.map #[] 0) }) rfl rfl hN ?_ (kk _ _ (NewO.mk' w _) (NewO.mk' w _).at')
 simp [execOp, Instr.makeMap]
theorem run_mapUpdate (hu : P.underlying t = some (.map kt et)) (hk : KeyOk P kt ek) (hm : MapAt w b ek eV es) :
    (Instr.mapUpdate t (.map (some b)) (ek k) (eV v)).run P w = .ok () { w with heap := w.heap.setIfInBounds b (.map (ents ek eV (putM es k v)).toArray (putM es k v).length) } := by
  have hlt := hm.lt
  unfold MapAt at hm
  have hg : (getObj b).run P w = .ok (.map (ents ek eV es).toArray es.length) w := by simp [getObj, Sem.run, hm]
  have hs : ∀ o, (setObj b o).run P w = .ok () { w with heap := w.heap.setIfInBounds b o } := fun o => by simp [setObj, Sem.run, hm]
  have hf := hk.find ν w k es eV (ents ek eV es) (ents_kv ek eV es)
  simp only [Instr.mapUpdate, Sem.run_bind, run_underlying hu, Result.andThen_ok, hg, hk.check, hf]
  cases hgm : getM es k with
  | none =>
    rw [findM_none hgm]
    simp only [hs]
    congr 4
    · apply Array.ext'
      rw [putM_none v hgm]
      simp [ents, List.zipIdx_append]
    · rw [putM_none v hgm]; simp
  | some u =>
    obtain ⟨j, h1, h2, h3⟩ := findM_some (eV := eV) (i := 0) hgm
    rw [Nat.zero_add] at h1
    rw [h1]
    have hj := lt_of_get h2
    have he : (ents ek eV es).toArray[j]? = some { key := ek k, val := eV u, born := j } := by rw [List.getElem?_toArray, ents_get, h2]; rfl
    simp only [he, Option.map_some, Option.getD_some, Instr.keyThatStays, hk.same, if_true, Sem.run_bind, Sem.run_pure, Result.andThen_ok, hs]
    congr 4
    · apply Array.ext'
      rw [h3 v]
      apply List.ext_getElem?
      intro i
      rw [List.getElem?_toArray.symm.trans (by rfl)] <;> simp only [Array.getElem?_toList, Array.getElem?_modify, List.getElem?_toArray, ents_get, List.getElem?_set]
      by_cases hi : j = i
      · subst hi; simp [h2, hj]
      · simp [hi]
    · rw [h3 v]; simp
theorem s_mapUpdate (hu : P.underlying t = some (.map kt et)) (hk : KeyOk P kt ek) (hm : MapAt w b ek eV es) (h1 : ev σ m = .map (some b)) (h2 : ev σ x = ek k) (h3 : ev σ y = eV v)
  (kk : ∀ w', PutO w w' b (.map (ents ek eV (putM es k v)).toArray (putM es k v).length) → MapAt w' b ek eV (putM es k v) → WpL P N ops K Q rest σ w') :
  WpL P N ops K Q (⟨none, .mapUpdate t m x y, ty, pos, af, none⟩ :: rest) σ w := by
 have hr := run_mapUpdate (k := k) (v := v) hu hk hm
 refine WpL_skip rfl rfl (w' := { w with heap := w.heap.setIfInBounds b (.map (ents ek eV (putM es k v)).toArray (putM es k v).length) }) ?_ (kk _ (PutO.mk' _ hm.lt) (PutO.mk' _ hm.lt).at')
 simp [execOp, h1, h2, h3, hr]
theorem run_lookup (c : Bool) {z : ν} (hu : P.underlying t = some (.map kt et)) (hk : KeyOk P kt ek) (hz : Zer P et (eV z)) (hm : MapAt w b ek eV es) :
    (Instr.lookup t (.map (some b)) (ek k) c).run P w = .ok (if c then .tuple #[eV ((getM es k).getD z), .bool (getM es k).isSome] else eV ((getM es k).getD z)) w := by
  unfold MapAt at hm
  have hg : (getObj b).run P w = .ok (.map (ents ek eV es).toArray es.length) w := by simp [getObj, Sem.run, hm]
  have hf := hk.find ν w k es eV (ents ek eV es) (ents_kv ek eV es)
  simp only [Instr.lookup, Sem.run_bind, run_underlying hu, Result.andThen_ok, hg, Sem.run_pure, hk.check, hf]
  cases hgm : getM es k with
  | none => rw [findM_none hgm]; simp [hz.run]
  | some u =>
    obtain ⟨j, h1, _, _⟩ := findM_some (eV := eV) (i := 0) hgm
    rw [h1]; simp
theorem r_lookup2 {z : ν} (hu : P.underlying t = some (.map kt et)) (hk : KeyOk P kt ek) (hz : Zer P et (eV z)) (hm : MapAt w b ek eV es) (h1 : ev σ m = .map (some b)) (h2 : ev σ x = ek k) :
  (execOp (ev σ) ⟨dst, .lookup t m x true, ty, pos, af, g⟩).run P w = .ok (.value (.tuple #[eV ((getM es k).getD z), .bool (getM es k).isSome])) w := by
 simp [execOp, h1, h2, run_lookup true hu hk hz hm]
end
def IterAt (w : World) (it b n : Nat) (seen : List Nat) : Prop := w.heap[it]? = some (.mapIter (some b) n seen.toArray n)
theorem IterAt.lt {w : World} {it b n : Nat} {seen : List Nat} (h : IterAt w it b n seen) : it < w.heap.size := (Array.getElem?_eq_some_iff.1 h).1
theorem IterAt.chg {M : Nat → Prop} {w w' : World} {it b n : Nat} {seen : List Nat} (h : IterAt w it b n seen) (c : Chg M w w') (hm : ¬ M it) : IterAt w' it b n seen := (c.blk it h.lt hm).trans h
theorem IterAt.ext {w w' : World} {it b n : Nat} {seen : List Nat} (h : IterAt w it b n seen) (c : Ext w w') : IterAt w' it b n seen := h.chg c fun f => f
end Go.Eng
namespace Go.Proofs
open Go Go.Eng Go.Sort
set_option maxRecDepth 100000
abbrev TInt : Nat := 3
def OwnI (w : World) (base : Nat) (r : Value) (l : List Int) : Prop := (∃ a c, r = .slice a l.length c) ∧ w.ownsRow base TInt 1 r l.length (l.map (Value.int .i64))
theorem ints_flat (l : List Int) : (l.map intV).flatten = l.map (Value.int .i64) := by
  induction l with
  | nil => rfl
  | cons x l ih => simp [intV]; simpa [intV] using ih
theorem OwnI.at {w : World} {base : Nat} {r : Value} {l : List Int} (h : OwnI w base r l) : IntsAt w r l := by
 have h2 := h.2
 rw [← ints_flat] at h2
 exact own_slat h2 (by intro x hx; simp only [List.mem_map] at hx; obtain ⟨p, _, rfl⟩ := hx; rfl) (by simp) (by decide)
theorem ownI_holds {w : World} {base g n c : Nat} {l : List Int} (h : w.ownsRow base TInt 1 (.slice (some ⟨g, 0, none⟩) n c) n (l.map (Value.int .i64))) : Sort.Holds (Value.int .i64) w g 0 l.toArray := by
 intro j hj
 simp only [List.size_toArray] at hj
 have hx : l[j]? = some l[j] := List.getElem?_eq_getElem hj
 have h1 := h.cells (g := g) rfl j (.int .i64 l[j]) (by simp [hx])
 rw [Addr.add_lit] at h1
 have he : l.toArray[j]! = l[j] := by rw [getElem!_pos l.toArray j (by simpa using hj)]; simp
 rw [he]
 refine ⟨h1, ?_⟩
 rcases h.2 with ⟨h1, _⟩ | ⟨g', cap, cur, hv, _, hg, _⟩
 ·simp at h1
 ·simp only [Value.slice.injEq, Option.some.injEq, Addr.mk.injEq, and_true] at hv
  obtain ⟨rfl, _⟩ := hv
  simp [World.frozen?, hg]
theorem holds_ints {w : World} {g n c : Nat} {l : List Int} (h : Sort.Holds (Value.int .i64) w g 0 l.toArray) (hn : l.length = n) (hc : n ≤ c) (hl : n ≤ 9223372036854775807) : IntsAt w (.slice (some ⟨g, 0, none⟩) n c) l := by
 refine ⟨_, c, by simp [hn], by simp; omega, by simp; omega, .inr ⟨g, 0, rfl, fun i r hr j u hu => ?_⟩⟩
 simp only [List.getElem?_map, Option.map_eq_some_iff] at hr
 obtain ⟨x, hx, rfl⟩ := hr
 have hi := lt_of_get hx
 have hj : j < 1 := by have := lt_of_get hu; simpa [intV] using this
 obtain rfl : j = 0 := by omega
 have h1 := (h i (by simpa using hi)).1
 have he : l.toArray[i]! = x := by
  rw [getElem!_pos l.toArray i (by simpa using hi)]
  rw [List.getElem?_eq_getElem hi] at hx
  simpa using hx
 rw [he] at h1
 simp [intV] at hu
 subst hu
 simpa using h1
theorem putRowS_chg {α : Type} [Inhabited α] (enc : α → Value) (w : World) (g off m : Nat) (dk : Array α) (os : Array Obj) : Chg (fun x => x = g) w (grow (putRow enc (Sort.ahead w m) g off dk) os) := by
 refine ⟨rfl, rfl, rfl, Nat.le_add_right _ _, ?_, fun b hb hne => ?_⟩
 ·simp [grow, putRow, mapBlock, Sort.ahead]
 ·simp only [grow, putRow, mapBlock, Sort.ahead]
  rw [Array.getElem?_append_left (by simpa using hb), Array.getElem?_modify, if_neg (fun h => hne h.symm)]
def leB (x y : Int) : Bool := decide (x ≤ y)
def PieceP (l : List Sp) (k : Int) : Prop := k = 0 ∨ ∃ s ∈ l, k = s.1 ∨ (s.2 < 1114111 ∧ k = s.2 + 1)
def KP (es : List (Int × Bool)) (l : List Sp) : Prop := KeysOk es ∧ ∀ k, k ∈ es.map (·.1) ↔ PieceP l k
theorem mem_putM {κ ν : Type} [DecidableEq κ] {es : List (κ × ν)} {k q : κ} {v : ν} : q ∈ (putM es k v).map (·.1) ↔ q = k ∨ q ∈ es.map (·.1) := by
 rw [← getM_isSome, getM_put]
 by_cases h : k = q
 ·simp [h]
 ·rw [if_neg h, getM_isSome]; simp [Ne.symm h]
theorem KP.start : KP (putM [] 0 true) [] := by
 refine ⟨KeysOk.nil.put _ _, fun k => ?_⟩
 simp [putM, PieceP]
theorem KP.lo {es : List (Int × Bool)} {l : List Sp} (h : KP es l) (s : Sp) (hs : ¬ s.2 < 1114111) : KP (putM es s.1 true) (l ++ [s]) := by
 refine ⟨h.1.put _ _, fun k => ?_⟩
 rw [mem_putM, h.2 k]
 unfold PieceP
 constructor
 ·rintro (h1 | h1 | ⟨t, ht, h1⟩)
  ·exact .inr ⟨s, by simp, .inl h1⟩
  ·exact .inl h1
  ·exact .inr ⟨t, by simp [ht], h1⟩
 ·rintro (h1 | ⟨t, ht, h1⟩)
  ·exact .inr (.inl h1)
  ·rcases List.mem_append.1 ht with ht | ht
   ·exact .inr (.inr ⟨t, ht, h1⟩)
   ·rw [List.mem_singleton] at ht; subst ht
    rcases h1 with h1 | ⟨h1, _⟩
    ·exact .inl h1
    ·exact absurd h1 hs
theorem take_snoc {α : Type} {l : List α} {k : Nat} {x : α} (h : l[k]? = some x) : l.take (k + 1) = l.take k ++ [x] := by rw [List.take_add_one, h]; rfl
def PcsOf (l : List Sp) (p : List Int) : Prop := p.Pairwise (· < ·) ∧ ∀ k, k ∈ p ↔ PieceP l k
end Go.Proofs
namespace Go.Proofs
open Go Go.Eng Go.Sort
set_option maxRecDepth 100000
def nx (p : List Int) (k : Nat) : Int := (p[k]?).getD 1114112
def Const (f : Int → Bool) (p : List Int) : Prop := ∀ a r, a ∈ p → a ≤ r → r ≤ 1114111 → (∀ k ∈ p, k ≤ a ∨ r < k) → f r = f a
structure CInv (p : List Int) (f : Int → Bool) (ou : List Sp) (k : Nat) : Prop where
 can : Canon ou
 low : ∀ s ∈ ou, s.2 < nx p k
 mem : ∀ r, 0 ≤ r → r < nx p k → inS ou r = f r
theorem pcs_range {l : List Sp} {p : List Int} (h : PcsOf l p) (hok : ∀ s ∈ l, vSp s) {k : Int} (hk : k ∈ p) : 0 ≤ k ∧ k ≤ 1114111 := by
 rcases (h.2 k).1 hk with h1 | ⟨s, hs, h1⟩
 ·omega
 ·have := hok s hs; unfold vSp at this; omega
theorem nx_mono {p : List Int} (h : p.Pairwise (· < ·)) {k : Nat} {x : Int} (hx : p[k]? = some x) (hb : ∀ q ∈ p, q ≤ 1114111) : x < nx p (k + 1) := by
  unfold nx
  cases hy : p[k + 1]? with
  | none => have := hb x (List.mem_of_getElem? hx); simp; omega
  | some y =>
    have h1 := lt_of_get hy
    have h2 := List.pairwise_iff_getElem.1 h k (k + 1) (by omega) h1 (by omega)
    rw [List.getElem?_eq_getElem (by omega)] at hx hy
    simp at hx hy
    simp; omega
theorem nx_between {p : List Int} (h : p.Pairwise (· < ·)) {k : Nat} {x r : Int} (hx : p[k]? = some x) (hr : r < nx p (k + 1)) : ∀ q ∈ p, q ≤ x ∨ r < q := by
 intro q hq
 obtain ⟨j, hj⟩ := List.mem_iff_getElem?.1 hq
 have hjl := lt_of_get hj
 have hkl := lt_of_get hx
 rw [List.getElem?_eq_getElem hjl] at hj
 rw [List.getElem?_eq_getElem hkl] at hx
 simp at hj hx
 rcases Nat.lt_trichotomy j k with h1 | h1 | h1
 ·have := List.pairwise_iff_getElem.1 h j k hjl hkl h1; omega
 ·subst h1; omega
 ·right
  unfold nx at hr
  rw [List.getElem?_eq_getElem (show k + 1 < p.length by omega)] at hr
  simp at hr
  rcases Nat.eq_or_lt_of_le (show k + 1 ≤ j by omega) with h2 | h2
  ·subst h2; omega
  ·have := List.pairwise_iff_getElem.1 h (k + 1) j (by omega) hjl h2; omega
theorem pcs_first {l : List Sp} {p : List Int} (h : PcsOf l p) (hok : ∀ s ∈ l, vSp s) : nx p 0 = 0 := by
  have h0 : (0 : Int) ∈ p := (h.2 0).2 (.inl rfl)
  cases p with
  | nil => cases h0
  | cons x r =>
    unfold nx
    simp
    rcases List.mem_cons.1 h0 with h1 | h1
    · omega
    · have h2 := (List.pairwise_cons.1 h.1).1 0 h1
      have h3 := pcs_range h hok (k := x) List.mem_cons_self
      omega
theorem CInv.start {l : List Sp} {p : List Int} {f : Int → Bool} (h : PcsOf l p) (hok : ∀ s ∈ l, vSp s) : CInv p f [] 0 :=
 ⟨Canon.nil, fun _ h => absurd h List.not_mem_nil, fun r h0 h1 => by rw [pcs_first h hok] at h1; omega⟩
theorem CInv.same {l : List Sp} {p : List Int} {f : Int → Bool} (h : PcsOf l p) (hok : ∀ s ∈ l, vSp s) (hc : Const f p) {k : Nat} {lo r : Int} (hlo : p[k]? = some lo) (h0 : lo ≤ r) (h1 : r < nx p (k + 1)) : f r = f lo := by
  have hb : nx p (k + 1) ≤ 1114112 := by
    unfold nx
    cases hy : p[k + 1]? with
    | none => simp
    | some y => have := pcs_range h hok (List.mem_of_getElem? hy); simp; omega
  exact hc lo r (List.mem_of_getElem? hlo) h0 (by omega) (nx_between h.1 hlo h1)
theorem nx_at {p : List Int} {k : Nat} {x : Int} (h : p[k]? = some x) : nx p k = x := by unfold nx; rw [h]; rfl
theorem CInv.high {p : List Int} {f : Int → Bool} {ou : List Sp} {k : Nat} (h : CInv p f ou k) {r : Int} (hr : nx p k ≤ r) : inS ou r = false := by
  cases e : inS ou r with
  | false => rfl
  | true => obtain ⟨s, hs, _, h2⟩ := inS_iff.1 e; have := h.low s hs; omega
theorem CInv.skip {l : List Sp} {p : List Int} {f : Int → Bool} {ou : List Sp} {k : Nat} {lo : Int} (h : CInv p f ou k) (hP : PcsOf l p) (hok : ∀ s ∈ l, vSp s) (hc : Const f p) (hlo : p[k]? = some lo) (hf : f lo = false) : CInv p f ou (k + 1) := by
 have hm := nx_mono hP.1 hlo fun q hq => (pcs_range hP hok hq).2
 have he := nx_at hlo
 refine ⟨h.can, fun s hs => by have := h.low s hs; omega, fun r h0 h1 => ?_⟩
 rcases ltLe r lo with h2 | h2
 ·exact h.mem r h0 (by omega)
 ·rw [h.high (by omega), CInv.same hP hok hc hlo h2 h1, hf]
def cstep (ou : List Sp) (lo hi : Int) : List Sp := match ou.getLast? with
  | some c => if c.2 = lo - 1 then ou.dropLast ++ [(c.1, hi)] else ou ++ [(lo, hi)]
  | none => [(lo, hi)]
theorem cstep_snoc (o : List Sp) (c : Sp) (lo hi : Int) : cstep (o ++ [c]) lo hi = if c.2 = lo - 1 then o ++ [(c.1, hi)] else o ++ [c] ++ [(lo, hi)] := by unfold cstep; simp
theorem CInv.take {l : List Sp} {p : List Int} {f : Int → Bool} {ou : List Sp} {k : Nat} {lo : Int} (h : CInv p f ou k) (hP : PcsOf l p) (hok : ∀ s ∈ l, vSp s) (hc : Const f p) (hlo : p[k]? = some lo) (hf : f lo = true) : CInv p f (cstep ou lo (nx p (k + 1) - 1)) (k + 1) := by
  have hm := nx_mono hP.1 hlo fun q hq => (pcs_range hP hok hq).2
  have he := nx_at hlo
  have hlr := pcs_range hP hok (List.mem_of_getElem? hlo)
  have hb : nx p (k + 1) ≤ 1114112 := by
    unfold nx
    cases hy : p[k + 1]? with
    | none => simp
    | some y => have := pcs_range hP hok (List.mem_of_getElem? hy); simp; omega
  obtain ⟨hi, hhi⟩ : ∃ hi, hi = nx p (k + 1) - 1 := ⟨_, rfl⟩
  rw [← hhi]
  have hmem : ∀ {ou' : List Sp}, (∀ r, 0 ≤ r → inS ou' r = (inS ou r || (decide (lo ≤ r) && decide (r ≤ hi)))) → ∀ r, 0 ≤ r → r < nx p (k + 1) → inS ou' r = f r := fun hh r h0 h1 => by
    rw [hh r h0]
    rcases ltLe r lo with h2 | h2
    · rw [h.mem r h0 (by omega), decide_eq_false (p := lo ≤ r) (by omega)]; simp
    · rw [CInv.same hP hok hc hlo h2 h1, hf, decide_eq_true h2, decide_eq_true (by omega)]; simp
  rcases snoc_cases ou with rfl | ⟨o, c, rfl⟩
  · refine ⟨Canon.one ⟨hlr.1, by simp only; omega, by simp only; omega⟩, fun s hs => ?_, hmem fun r h0 => ?_⟩
    · simp [cstep] at hs; subst hs; simp only; omega
    · show inS [(lo, hi)] r = _
      rw [inS_cons, inS_nil, Bool.or_false, Bool.false_or]
  · obtain ⟨h1, h2, h3⟩ := canon_snoc.1 h.can
    have hcl := h.low c (by simp)
    unfold vSp at h2
    rw [cstep_snoc]
    split
    · rename_i h4
      refine ⟨canon_snoc.2 ⟨h1, ⟨h2.1, by simp only; omega, by simp only; omega⟩, h3⟩, fun s hs => ?_, hmem fun r h0 => ?_⟩
      · rcases List.mem_append.1 hs with hs | hs
        · have := h.low s (by simp [hs]); omega
        · rw [List.mem_singleton] at hs; subst hs; simp only; omega
      · rw [inS_append, inS_append, Bool.or_assoc]
        congr 1
        rw [Bool.eq_iff_iff]
        simp only [inS_cons, inS_nil, Bool.or_false, Bool.or_eq_true, Bool.and_eq_true, decide_eq_true_eq]
        omega
    · rename_i h4
      refine ⟨canon_snoc.2 ⟨h.can, ⟨hlr.1, by simp only; omega, by simp only; omega⟩, fun t ht => ?_⟩, fun s hs => ?_, hmem fun r h0 => ?_⟩
      · rcases List.mem_append.1 ht with ht | ht
        · have := h3 t ht; simp only; omega
        · rw [List.mem_singleton] at ht; subst ht; simp only; omega
      · rcases List.mem_append.1 hs with hs | hs
        · have := h.low s hs; omega
        · rw [List.mem_singleton] at hs; subst hs; simp only; omega
      · rw [inS_append _ [(lo, hi)]]
        congr 1
        rw [inS_cons, inS_nil, Bool.or_false]
theorem CInv.done {p : List Int} {f : Int → Bool} {ou : List Sp} (h : CInv p f ou p.length) : IsSet ou f :=
 ⟨h.can, fun r h0 h1 => h.mem r h0 (by unfold nx; rw [List.getElem?_eq_none (Nat.le_refl _)]; simp; omega)⟩
theorem inS_const {l : List Sp} {p : List Int} (h1 : ∀ s ∈ l, s.1 ∈ p) (h2 : ∀ s ∈ l, s.2 < 1114111 → s.2 + 1 ∈ p) : Const (inS l) p := by
 intro a r ha har hr hno
 rw [Bool.eq_iff_iff, inS_iff, inS_iff]
 have key : ∀ s ∈ l, (s.1 ≤ r ∧ r ≤ s.2) ↔ (s.1 ≤ a ∧ a ≤ s.2) := fun s hs => by
  have q1 := hno s.1 (h1 s hs)
  by_cases h3 : s.2 < 1114111
  ·have q2 := hno (s.2 + 1) (h2 s hs h3); omega
  ·omega
 constructor
 ·rintro ⟨s, hs, h⟩; exact ⟨s, hs, (key s hs).1 h⟩
 ·rintro ⟨s, hs, h⟩; exact ⟨s, hs, (key s hs).2 h⟩
theorem pcs_const {ll : List (List Sp)} {p : List Int} (h : PcsOf ll.flatten p) {l : List Sp} (hl : l ∈ ll) : Const (inS l) p :=
 inS_const (fun s hs => (h.2 _).2 (.inr ⟨s, List.mem_flatten.2 ⟨l, hl, hs⟩, .inl rfl⟩)) (fun s hs hm => (h.2 _).2 (.inr ⟨s, List.mem_flatten.2 ⟨l, hl, hs⟩, .inr ⟨hm, rfl⟩⟩))
theorem lt_seq : ∀ {p : List Int} {lo hi : Int}, p.Pairwise (· < ·) → (∀ q ∈ p, lo ≤ q ∧ q ≤ hi) → lo ≤ hi + 1 → ((p.length : Nat) : Int) ≤ hi - lo + 1
  | [], _, _, _, _, h => by simp; omega
  | x :: r, lo, hi, hp, hb, h => by
    have h1 := hb x List.mem_cons_self
    have h2 := lt_seq (lo := x + 1) (hi := hi) (List.pairwise_cons.1 hp).2 (fun q hq => ⟨by have := (List.pairwise_cons.1 hp).1 q hq; omega, (hb q (List.mem_cons_of_mem _ hq)).2⟩) (by omega)
    simp only [List.length_cons]; omega
theorem pcs_len {p : List Int} (hp : p.Pairwise (· < ·)) (hb : ∀ q ∈ p, 0 ≤ q ∧ q ≤ 1114111) : p.length ≤ 1114112 := by
 have := lt_seq (lo := 0) (hi := 1114111) hp hb (by omega)
 omega
def norm2P (a out : List Sp) (e : Int) : Prop := ((∃ s ∈ a, ¬ vSp s) ∧ e = 1 ∧ out = []) ∨ ((∀ s ∈ a, vSp s) ∧ ∃ j, IsSet j (inS a) ∧ fitsP j out e)
theorem normP.two {a out : List Sp} {e : Int} (h : normP a out e) : norm2P a out e := h.imp id fun ⟨h1, j, h2, _, h3⟩ => ⟨h1, j, h2, h3⟩
def comb2P (f : Int → Bool) (a b out : List Sp) (e : Int) : Prop := (twoE a b ≠ 0 ∧ e = twoE a b ∧ out = []) ∨ (twoE a b = 0 ∧ ∃ j, IsSet j f ∧ fitsP j out e)
end Go.Proofs
namespace Go.Proofs
open Go Go.Eng Go.Sort
set_option maxRecDepth 100000
def IntsN (n0 : Nat) (w : World) (v : Value) (l : List Int) : Prop := (∃ a c, v = .slice a l.length c) ∧ SlIn (fun b => n0 ≤ b ∧ b < w.heap.size) w 1 v (l.map intV)
theorem IntsN.at {n0 : Nat} {w : World} {v : Value} {l : List Int} (h : IntsN n0 w v l) : IntsAt w v l := SlIn.at h.2
end Go.Proofs
namespace Go.Proofs
open Go Go.Eng Go.Sort
set_option maxRecDepth 100000
theorem uniP.two {a b out : List Sp} {e : Int} (h : uniP a b out e) : comb2P (fun r => inS a r || inS b r) a b out e := h.imp id fun ⟨h1, j, h2, _, h3⟩ => ⟨h1, j, h2, h3⟩
theorem bothP.two {f : Int → Bool} {n : Nat} {a b out : List Sp} {e : Int} (h : bothP f n a b out e) : comb2P f a b out e := h.imp id fun ⟨h1, j, h2, _, h3⟩ => ⟨h1, j, h2, h3⟩
end Go.Proofs
namespace Go.Proofs
open Go Go.Eng Go.Sort
set_option maxRecDepth 100000
def AllT (es : List (Int × Bool)) : Prop := ∀ q ∈ es, q.2 = true
theorem AllT.put {es : List (Int × Bool)} (h : AllT es) (k : Int) : AllT (putM es k true) := by
  intro q hq
  induction es with
  | nil => simp [putM] at hq; subst hq; rfl
  | cons p r ih =>
    unfold putM at hq
    split at hq
    · rcases List.mem_cons.1 hq with rfl | hq
      · rfl
      · exact h q (List.mem_cons_of_mem _ hq)
    · rcases List.mem_cons.1 hq with rfl | hq
      · exact h _ List.mem_cons_self
      · exact ih (fun z hz => h z (List.mem_cons_of_mem _ hz)) hq
theorem AllT.get {es : List (Int × Bool)} (h : AllT es) (k : Int) : (getM es k).getD false = (es.map (·.1)).contains k := by
  cases hg : getM es k with
  | none =>
    have : ¬ k ∈ es.map (·.1) := fun h => by have := getM_isSome.2 h; rw [hg] at this; cases this
    symm; simpa using this
  | some u =>
    have h1 := h _ (getM_some_mem hg)
    have hin : k ∈ es.map (·.1) := getM_isSome.1 (by rw [hg]; rfl)
    simp only [Option.getD_some]
    rw [show u = true from h1]; symm; simpa using hin
end Go.Proofs
namespace Go.Proofs
open Go Go.Eng Go.Sort
def markL (ll : List (List Sp)) (r : Int) : List Bool := ll.map fun l => inS l r
def addF (acc : List (List Bool)) (m : List Bool) : List (List Bool) := if m ∈ acc then acc else acc ++ [m]
def firsts (l : List (List Bool)) : List (List Bool) := l.foldl addF []
theorem firsts_snoc (l : List (List Bool)) (m : List Bool) : firsts (l ++ [m]) = addF (firsts l) m := by simp [firsts, List.foldl_append]
theorem addF_mem {acc : List (List Bool)} {m x : List Bool} : x ∈ addF acc m ↔ x ∈ acc ∨ x = m := by
 unfold addF
 split
 ·constructor
  ·exact .inl
  ·rintro (h | rfl) <;> assumption
 ·simp
theorem addF_nodup {acc : List (List Bool)} {m : List Bool} (h : acc.Nodup) : (addF acc m).Nodup := by
 unfold addF
 split
 ·exact h
 ·rename_i hm
  rw [List.nodup_append]
  exact ⟨h, by simp, fun a ha b hb => by rw [List.mem_singleton] at hb; subst hb; exact fun e => hm (e ▸ ha)⟩
theorem same_piece {ll : List (List Sp)} {p : List Int} (hp : PcsOf ll.flatten p) (hok : ∀ s ∈ ll.flatten, vSp s) {i : Nat} {lo r : Int} (hlo : p[i]? = some lo) (h0 : lo ≤ r) (h1 : r < nx p (i + 1)) : markL ll r = markL ll lo := by
 unfold markL
 apply List.map_congr_left
 intro l hl
 exact CInv.same hp hok (pcs_const hp hl) hlo h0 h1
structure GInv (ll : List (List Sp)) (p : List Int) (i : Nat) (ks : List (List Bool)) (outs : List (List Sp)) : Prop where
 keys : ks = firsts ((p.take i).map (markL ll))
 nd : ks.Nodup
 len : outs.length = ks.length
 cnt : ks.length ≤ i
 ok : ∀ (k : Nat) o, outs[k]? = some o → (∀ s ∈ o, vSp s) ∧ o.length ≤ i
 cov : ∀ r, 0 ≤ r → r < nx p i → markL ll r ∈ ks
 mem : ∀ (k : Nat) key o r, ks[k]? = some key → outs[k]? = some o → 0 ≤ r → r ≤ 1114111 → inS o r = (decide (r < nx p i) && decide (markL ll r = key))
theorem GInv.start {ll : List (List Sp)} {p : List Int} (hp : PcsOf ll.flatten p) (hok : ∀ s ∈ ll.flatten, vSp s) : GInv ll p 0 [] [] where
 keys := rfl
 nd := List.nodup_nil
 len := rfl
 cnt := Nat.le_refl _
 ok := fun k o h => by simp at h
 cov := fun r h0 h1 => by rw [pcs_first hp hok] at h1; omega
 mem := fun k key o r h => by simp at h
theorem get_nodup {l : List (List Bool)} (h : l.Nodup) {i j : Nat} {x : List Bool} (hi : l[i]? = some x) (hj : l[j]? = some x) : i = j := by
 have h1 := lt_of_get hi
 have h2 := lt_of_get hj
 rw [List.getElem?_eq_getElem h1] at hi
 rw [List.getElem?_eq_getElem h2] at hj
 have e := (Option.some.inj hi).trans (Option.some.inj hj).symm
 rcases Nat.lt_trichotomy i j with h3 | h3 | h3
 ·exact absurd e (List.pairwise_iff_getElem.1 h i j h1 h2 h3)
 ·exact h3
 ·exact absurd e.symm (List.pairwise_iff_getElem.1 h j i h2 h1 h3)
theorem inS_snoc (o : List Sp) (x : Sp) (r : Int) : inS (o ++ [x]) r = (inS o r || (decide (x.1 ≤ r) && decide (r ≤ x.2))) := by
  induction o with
  | nil => simp [inS_cons, inS_nil]
  | cons y o ih => simp only [List.cons_append, inS_cons, ih, Bool.or_assoc]
theorem GInv.step {ll : List (List Sp)} {p : List Int} {i k : Nat} {ks ks1 : List (List Bool)} {outs outs1 : List (List Sp)} {o : List Sp} {lo : Int} (h : GInv ll p i ks outs) (hp : PcsOf ll.flatten p) (hok : ∀ s ∈ ll.flatten, vSp s) (hlo : p[i]? = some lo)
    (hk : ks1 = addF ks (markL ll lo)) (hl1 : outs1.length = ks1.length) (hsame : ∀ (j : Nat) q, outs1[j]? = some q → outs[j]? = some q ∨ (j = ks.length ∧ q = [] ∧ markL ll lo ∉ ks)) (hkm : ks1[k]? = some (markL ll lo)) (ho : outs1[k]? = some o) :
    GInv ll p (i + 1) ks1 (outs1.set k (o ++ [(lo, nx p (i + 1) - 1)])) := by
  have hrng := pcs_range hp hok (List.mem_of_getElem? hlo)
  have hub : ∀ q ∈ p, q ≤ 1114111 := fun q hq => (pcs_range hp hok hq).2
  have hnx := nx_mono hp.1 hlo hub
  have hnx0 : nx p i = lo := by unfold nx; rw [hlo]; rfl
  have hnx1 : nx p (i + 1) ≤ 1114112 := by
    unfold nx
    cases hq : p[i + 1]? with
    | none => simp
    | some y => have := hub y (List.mem_of_getElem? hq); simp; omega
  have hkl := lt_of_get ho
  have nd1 : ks1.Nodup := by rw [hk]; exact addF_nodup h.nd
  have hvx : vSp (lo, nx p (i + 1) - 1) := by unfold vSp; simp; omega
  have hold : ∀ (j : Nat) key, ks1[j]? = some key → j < ks.length → ks[j]? = some key := by
    intro j key h1 h2
    rw [hk] at h1
    unfold addF at h1
    split at h1
    · exact h1
    · rwa [List.getElem?_append_left h2] at h1
  refine ⟨?_, nd1, by simp [hl1], by rw [hk]; unfold addF; have := h.cnt; split; omega; simp; omega, ?_, ?_, ?_⟩
  · rw [hk, take_snoc hlo, List.map_append, List.map_cons, List.map_nil, firsts_snoc, ← h.keys]
  · intro j q hq
    rw [List.getElem?_set] at hq
    split at hq
    · rename_i hkj
      have hq' := Option.some.inj hq
      subst hq'
      rcases hsame k o ho with h2 | ⟨_, h2, _⟩
      · have h3 := h.ok k o h2
        exact ⟨fun s hs => by rcases List.mem_append.1 hs with h4 | h4; exact h3.1 s h4; rw [List.mem_singleton] at h4; subst h4; exact hvx, by simp; omega⟩
      · subst h2
        exact ⟨fun s hs => by simp at hs; subst hs; exact hvx, by simp⟩
    · rcases hsame j q hq with h2 | ⟨_, h2, _⟩
      · exact ⟨(h.ok j q h2).1, by have := (h.ok j q h2).2; omega⟩
      · subst h2; exact ⟨fun s hs => absurd hs List.not_mem_nil, by simp⟩
  · intro r h0 h1
    rw [hk, addF_mem]
    rcases ltLe r lo with h2 | h2
    · exact .inl (h.cov r h0 (by rw [hnx0]; exact h2))
    · exact .inr (same_piece hp hok hlo h2 h1)
  · intro j key q r hj hq h0 h1
    rw [List.getElem?_set] at hq
    split at hq
    · rename_i hkj
      have hq' := Option.some.inj hq
      subst hq'
      subst hkj
      rw [hkm] at hj
      have hkey := Option.some.inj hj
      subst hkey
      rw [inS_snoc]
      have hin : inS o r = (decide (r < lo) && decide (markL ll r = markL ll lo)) := by
        rcases hsame k o ho with h2 | ⟨_, h2, h3⟩
        · have := h.mem k _ o r (hold k _ hkm (by have := lt_of_get h2; have := h.len; omega)) h2 h0 h1
          rw [hnx0] at this; exact this
        · subst h2
          symm
          rw [inS_nil, Bool.and_eq_false_iff]
          rcases ltLe r lo with h4 | h4
          · right; rw [decide_eq_false_iff_not]; intro h5; exact h3 (h5 ▸ h.cov r h0 (by rw [hnx0]; exact h4))
          · left; rw [decide_eq_false_iff_not]; omega
      rw [hin]
      rcases ltLe r lo with h4 | h4
      · have e1 : decide (r < lo) = true := decide_eq_true h4
        have e2 : decide (lo ≤ r) = false := decide_eq_false (by omega)
        have e3 : decide (r < nx p (i + 1)) = true := decide_eq_true (by omega)
        simp only [e1, e2, e3, Bool.true_and, Bool.false_and, Bool.or_false]
      · have e1 : decide (r < lo) = false := decide_eq_false (by omega)
        have e2 : decide (lo ≤ r) = true := decide_eq_true h4
        simp only [e1, e2, Bool.true_and, Bool.false_and, Bool.false_or]
        rcases ltLe r (nx p (i + 1)) with h5 | h5
        · rw [decide_eq_true h5, decide_eq_true (same_piece hp hok hlo h4 h5)]
          simp; omega
        · rw [decide_eq_false (show ¬ r < nx p (i + 1) by omega)]
          simp; omega
    · rename_i hkj
      have hne : key ≠ markL ll lo := fun e => by subst e; exact hkj (get_nodup nd1 hkm hj)
      rcases hsame j q hq with h2 | ⟨h2, _, h3⟩
      · have hjl : j < ks.length := by have := lt_of_get h2; have := h.len; omega
        have := h.mem j key q r (hold j key hj hjl) h2 h0 h1
        rw [this, hnx0]
        rcases ltLe r lo with h4 | h4
        · rw [decide_eq_true h4, decide_eq_true (show r < nx p (i + 1) by omega)]
        · rw [decide_eq_false (show ¬ r < lo by omega)]
          rcases ltLe r (nx p (i + 1)) with h5 | h5
          · rw [same_piece hp hok hlo h4 h5, decide_eq_false (show ¬ markL ll lo = key from fun e => hne e.symm)]; simp
          · rw [decide_eq_false (show ¬ r < nx p (i + 1) by omega)]
      · exfalso
        subst h2
        rw [hk] at hj
        unfold addF at hj
        rw [if_neg h3, List.getElem?_append_right (Nat.le_refl _)] at hj
        simp at hj
        exact hne hj.symm
def badE : List (List Sp) → Int
  | [] => 0
  | l :: ll => if checkE l ≠ 0 then checkE l else badE ll
def clsL (ll : List (List Sp)) (cs : List (List Sp)) : Prop := ∃ p, PcsOf ll.flatten p ∧ cs.length = (firsts (p.map (markL ll))).length ∧ ∀ (k : Nat) key c, (firsts (p.map (markL ll)))[k]? = some key → cs[k]? = some c → IsSet c (fun r => decide (markL ll r = key))
def largeB (cs : List (List Sp)) : Prop := (∃ c ∈ cs, 16 < c.length) ∨ 16 < cs.length
def clsP (ll out : List (List Sp)) (e : Int) : Prop := (badE ll ≠ 0 ∧ e = badE ll ∧ out = []) ∨ (badE ll = 0 ∧ ∃ cs, clsL ll cs ∧ ((largeB cs ∧ e = 2 ∧ out = []) ∨ (¬ largeB cs ∧ e = 0 ∧ out = cs)))
theorem GInv.done {ll : List (List Sp)} {p : List Int} {ks : List (List Bool)} {outs cs : List (List Sp)} (h : GInv ll p p.length ks outs) (hp : PcsOf ll.flatten p) (hl : cs.length = outs.length) (hj : ∀ (k : Nat) o c, outs[k]? = some o → cs[k]? = some c → JoinOf o c) : clsL ll cs := by
 have hks := h.keys
 rw [List.take_length] at hks
 refine ⟨p, hp, by rw [← hks, hl, h.len], fun k key c hk hc => ?_⟩
 rw [← hks] at hk
 obtain ⟨o, ho⟩ := get_of_lt (l := outs) (i := k) (by have := lt_of_get hc; omega)
 have h1 := IsSet.join (hj k o c ho hc) (h.ok k o ho).1
 refine ⟨h1.1.1, fun r r0 r1 => ?_⟩
 rw [h1.1.2 r r0 r1, h.mem k key o r hk ho r0 r1]
 have : r < nx p p.length := by unfold nx; rw [List.getElem?_eq_none (Nat.le_refl _)]; simp; omega
 rw [decide_eq_true this]; simp
end Go.Proofs
namespace Go.Proofs
open Go Go.Eng Go.Sort
abbrev TSs : Nat := 22
structure CSt (w : World) (base : Nat) (vo : Value) (vs : List Value) (outs : List (List Sp)) : Prop where
 o : w.ownsRow base TSs 1 vo outs.length vs
 len : vs.length = outs.length
 inn : ∀ (i : Nat) v l, vs[i]? = some v → outs[i]? = some l → w.ownsRow base TSp 2 v l.length (l.map spanV).flatten
 ap : ∀ (i j : Nat) v u b, vs[i]? = some v → vs[j]? = some u → v.ownBlock = some b → u.ownBlock = some b → i = j
 apo : ∀ (i : Nat) v b, vs[i]? = some v → v.ownBlock = some b → vo.ownBlock ≠ some b
theorem CSt.start (w : World) (base : Nat) : CSt w base (.slice none 0 0) [] [] :=
 ⟨World.ownsRow_nil _ _ _ _, rfl, fun i v l h => by simp at h, fun i j v u b h => by simp at h, fun i v b h => by simp at h⟩
theorem CSt.some {w : World} {base : Nat} {vo : Value} {vs : List Value} {outs : List (List Sp)} (h : CSt w base vo vs outs) {i : Nat} {v : Value} (hv : vs[i]? = some v) : ∃ l, outs[i]? = some l :=
 get_of_lt (by have := lt_of_get hv; have := h.len; omega)
theorem CSt.chg {M : Nat → Prop} {w w' : World} {base : Nat} {vo : Value} {vs : List Value} {outs : List (List Sp)} (h : CSt w base vo vs outs) (c : Chg M w w') (hM : ∀ b, base ≤ b → b < w.heap.size → ¬ M b) : CSt w' base vo vs outs :=
 ⟨own_chg h.o c fun k hk => hM k (h.o.lt k hk).1 (h.o.lt k hk).2, h.len, fun i v l hv hl => own_chg (h.inn i v l hv hl) c fun k hk => hM k ((h.inn i v l hv hl).lt k hk).1 ((h.inn i v l hv hl).lt k hk).2, h.ap, h.apo⟩
theorem CSt.ext {w w' : World} {base : Nat} {vo : Value} {vs : List Value} {outs : List (List Sp)} (h : CSt w base vo vs outs) (c : Ext w w') : CSt w' base vo vs outs := h.chg c fun _ _ _ f => f
theorem CSt.push {w w' : World} {base : Nat} {vo v' : Value} {vs : List Value} {outs : List (List Sp)} (h : CSt w base vo vs outs) (Ov : w'.ownsRow base TSs 1 v' (outs.length + 1) (vs ++ [.slice none 0 0])) (Cv : Chg (fun x => vo.ownBlock = .some x) w w')
  (Wv : ∀ k, v'.ownBlock = .some k → vo.ownBlock = .some k ∨ w.heap.size ≤ k) : CSt w' base v' (vs ++ [.slice none 0 0]) (outs ++ [[]]) := by
 have hold : ∀ (i : Nat) v, (vs ++ [.slice none 0 0])[i]? = .some v → vs[i]? = .some v ∨ (i = vs.length ∧ v = .slice none 0 0) := by
  intro i v hv
  rcases Nat.lt_or_ge i vs.length with h1 | h1
  ·left; rwa [List.getElem?_append_left h1] at hv
  ·right
   rw [List.getElem?_append_right h1] at hv
   have h2 := lt_of_get hv
   simp at h2
   obtain rfl : i = vs.length := by omega
   simp at hv
   exact ⟨rfl, hv.symm⟩
 refine ⟨by simpa using Ov, by simp [h.len], ?_, ?_, ?_⟩
 ·intro i v l hv hl
  rcases hold i v hv with h1 | ⟨h1, rfl⟩
  ·rw [List.getElem?_append_left (by have := lt_of_get h1; have := h.len; omega)] at hl
   exact own_chg (h.inn i v l h1 hl) Cv fun k hk => h.apo i v k h1 hk
  ·rw [h1, h.len] at hl
   simp at hl
   subst hl
   exact World.ownsRow_nil _ _ _ _
 ·intro i j v u b hv hu hb hb'
  rcases hold i v hv with h1 | ⟨_, rfl⟩
  ·rcases hold j u hu with h2 | ⟨_, rfl⟩
   ·exact h.ap i j v u b h1 h2 hb hb'
   ·cases hb'
  ·cases hb
 ·intro i v b hv hb hb'
  rcases hold i v hv with h1 | ⟨_, rfl⟩
  ·rcases Wv b hb' with h2 | h2
   ·exact h.apo i v b h1 hb h2
   ·obtain ⟨l, hl⟩ := h.some h1
    have := ((h.inn i v l h1 hl).lt b hb).2
    omega
  ·cases hb
/-- One list grows, and its new slice is stored in the outer one. -/
theorem CSt.grow {w w' w2 : World} {base g cap k n : Nat} {v v' : Value} {vs : List Value} {outs : List (List Sp)} {l : List Sp} {x : Sp} {cur : Array Value} (h : CSt w base (.slice (.some ⟨g, 0, none⟩) n cap) vs outs) (hn : n = outs.length) (hv : vs[k]? = .some v) (hl : outs[k]? = .some l)
  (Ov : w'.ownsRow base TSp 2 v' (l.length + 1) ((l ++ [x]).map spanV).flatten) (Cv : Chg (fun x => v.ownBlock = .some x) w w') (Wv : ∀ k, v'.ownBlock = .some k → v.ownBlock = .some k ∨ w.heap.size ≤ k)
  (hB : Blk w' g cur TSs) (P2 : Put w' w2 g (cur.setIfInBounds k v') TSs) : CSt w2 base (.slice (.some ⟨g, 0, none⟩) n cap) (vs.set k v') (outs.set k (l ++ [x])) := by
 have hkl := lt_of_get hv
 have hgv : v.ownBlock ≠ .some g := fun e => h.apo k v g hv e rfl
 have hgl := (h.o.lt g rfl).2
 have hv'g : v'.ownBlock ≠ .some g := fun e => by rcases Wv g e with h1 | h1; exact hgv h1; omega
 have ho1 : w'.ownsRow base TSs 1 (.slice (.some ⟨g, 0, none⟩) n cap) outs.length vs := own_chg h.o Cv fun q hq => by cases hq; exact hgv
 rw [← hn] at ho1
 have ho2 := own_write ho1 hB (i := k) (by have := h.len; omega) P2.blk
 have hset : ∀ (i : Nat) u, (vs.set k v')[i]? = .some u → (i = k ∧ u = v') ∨ (i ≠ k ∧ vs[i]? = .some u) := by
  intro i u hu
  rw [List.getElem?_set] at hu
  split at hu
  ·rename_i he
   exact .inl ⟨he.symm, (Option.some.inj hu).symm⟩
  ·rename_i he
   exact .inr ⟨fun e => he e.symm, hu⟩
 have hne : ∀ (i : Nat) u b, i ≠ k → vs[i]? = .some u → u.ownBlock = .some b → v.ownBlock ≠ .some b ∧ v'.ownBlock ≠ .some b ∧ b ≠ g := by
  intro i u b hi hu hb
  have h1 : v.ownBlock ≠ .some b := fun e => hi (h.ap i k u v b hu hv hb e)
  refine ⟨h1, fun e => ?_, fun e => h.apo i u b hu hb (by rw [e]; rfl)⟩
  rcases Wv b e with h2 | h2
  ·exact h1 h2
  ·obtain ⟨q, hq⟩ := h.some hu
   have := ((h.inn i u q hu hq).lt b hb).2
   omega
 refine ⟨by rw [List.length_set, ← hn]; exact ho2, by simp [h.len], ?_, ?_, ?_⟩
 ·intro i u q hu hq
  rcases hset i u hu with ⟨rfl, rfl⟩ | ⟨h1, h2⟩
  ·rw [List.getElem?_set] at hq
   rw [if_pos rfl, if_pos (by have := h.len; omega)] at hq
   have hq' := Option.some.inj hq
   subst hq'
   rw [List.length_append]
   exact own_chg Ov P2.chg fun b hb e => hv'g (e ▸ hb)
  ·rw [List.getElem?_set, if_neg (fun e => h1 e.symm)] at hq
   exact own_chg (own_chg (h.inn i u q h2 hq) Cv fun b hb => (hne i u b h1 h2 hb).1) P2.chg fun b hb e => (hne i u b h1 h2 hb).2.2 e
 ·intro i j u z b hu hz hb hb'
  rcases hset i u hu with ⟨rfl, rfl⟩ | ⟨h1, h2⟩ <;> rcases hset j z hz with ⟨rfl, rfl⟩ | ⟨h3, h4⟩
  ·rfl
  ·exact absurd hb (hne j z b h3 h4 hb').2.1
  ·exact absurd hb' (hne i u b h1 h2 hb).2.1
  ·exact h.ap i j u z b h2 h4 hb hb'
 ·intro i u b hu hb
  rcases hset i u hu with ⟨rfl, rfl⟩ | ⟨h1, h2⟩
  ·intro e; cases e; exact hv'g hb
  ·exact h.apo i u b h2 hb
def bitN (b : Bool) : Int := if b then 1 else 0
def encB (m : List Bool) : ByteArray := strOfNums (m.map bitN)
theorem encB_inj {m m' : List Bool} (h : encB m = encB m') : m = m' := by
 have h1 := congrArg (fun s => s.data.toList) h
 simp only [encB, strOfNums_data, List.map_map] at h1
 exact (List.map_inj_right (fun x y hxy => by cases x <;> cases y <;> first | rfl | (simp [bitN] at hxy; done) | (exact absurd hxy (by decide)))).1 h1
def keysM : List (List Bool) → Nat → List (ByteArray × Int)
  | [], _ => []
  | m :: ks, n => (encB m, ((n : Nat) : Int)) :: keysM ks (n + 1)
theorem keysM_snoc : ∀ (ks : List (List Bool)) (m : List Bool) (n : Nat), keysM (ks ++ [m]) n = keysM ks n ++ [(encB m, (((n + ks.length : Nat) : Nat) : Int))]
  | [], m, n => rfl
  | x :: ks, m, n => by
    show (encB x, _) :: keysM (ks ++ [m]) (n + 1) = (encB x, _) :: (keysM ks (n + 1) ++ _)
    rw [keysM_snoc ks m (n + 1), List.length_cons, show n + 1 + ks.length = n + (ks.length + 1) by omega]
theorem keysM_mem : ∀ {ks : List (List Bool)} {n : Nat} {q : ByteArray × Int}, q ∈ keysM ks n → ∃ (j : Nat) (m : List Bool), ks[j]? = some m ∧ q = (encB m, (((n + j : Nat) : Nat) : Int))
  | [], _, _, h => by cases h
  | x :: ks, n, q, h => by
    rcases List.mem_cons.1 h with h | h
    · exact ⟨0, x, rfl, h⟩
    · obtain ⟨j, m, h1, h2⟩ := keysM_mem h
      exact ⟨j + 1, m, h1, by rw [h2]; congr 2; omega⟩
theorem keysM_key : ∀ {ks : List (List Bool)} {n : Nat} {m : List Bool}, m ∈ ks → encB m ∈ (keysM ks n).map (·.1)
  | x :: ks, n, m, h => by
    rcases List.mem_cons.1 h with rfl | h
    · exact List.mem_cons_self
    · exact List.mem_cons_of_mem _ (keysM_key (n := n + 1) h)
theorem keysM_get {ks : List (List Bool)} {m : List Bool} {v : Int} (h : getM (keysM ks 0) (encB m) = some v) : ∃ j : Nat, v = ((j : Nat) : Int) ∧ ks[j]? = some m := by
 obtain ⟨j, m', h1, h2⟩ := keysM_mem (getM_some_mem h)
 simp only [Prod.mk.injEq, Nat.zero_add] at h2
 obtain rfl := encB_inj h2.1
 exact ⟨j, h2.2, h1⟩
theorem keysM_none {ks : List (List Bool)} {m : List Bool} (h : getM (keysM ks 0) (encB m) = none) : m ∉ ks ∧ putM (keysM ks 0) (encB m) ((ks.length : Nat) : Int) = keysM (ks ++ [m]) 0 := by
 refine ⟨fun hm => ?_, ?_⟩
 ·have := getM_isSome.2 (keysM_key (n := 0) hm)
  rw [h] at this; cases this
 ·rw [putM_none _ h, keysM_snoc, Nat.zero_add]
end Go.Proofs
namespace Go.Proofs
open Go Go.Eng Go.Sort
theorem sorti_h (w0 : World) (base g c : Nat) (l : List Int) (h : w0.ownsRow base TInt 1 (.slice (some ⟨g, 0, none⟩) l.length c) l.length (l.map (Value.int .i64))) (hl : l.length ≤ 17592186044416) :
  Ret Tryz.prog 147 #[.slice (some ⟨g, 0, none⟩) l.length c] w0 fun r w => r = .tuple #[] ∧ Sort.Holds (Value.int .i64) w g 0 (l.mergeSort leB).toArray ∧ Chg (fun x => x = g) w0 w := by
 have hH := ownI_holds h
 have hblk : g < w0.heap.size := (h.lt g rfl).2
 refine Calls.mono (Any.slices_Sort_int Tryz.sortI g 0 c l w0 hH hblk (by omega)) ?_
 rintro e w' ⟨rfl, n, os, rfl⟩
 refine ⟨_, rfl, rfl, ?_, putRowS_chg _ w0 g 0 n _ os⟩
 exact holds_grow _ _ os g 0 _ (by simpa [putRow, mapBlock, Sort.ahead] using hblk) (holds_putRow _ (Sort.ahead w0 n) g 0 l.toArray _ hH (by simp))
theorem compi_c (w0 : World) (g c : Nat) (l : List Int) (hH : Sort.Holds (Value.int .i64) w0 g 0 l.toArray) (hc : l.length ≤ c ∧ c ≤ 9223372036854775807) :
  Ret Tryz.prog 148 #[.slice (some ⟨g, 0, none⟩) l.length c] w0 fun r w => r = .slice (some ⟨g, 0, none⟩) (Lib.compact l).length c ∧ IntsAt w r (Lib.compact l) ∧ Chg (fun x => x = g) w0 w := by
 refine Calls.mono (Any.slices_Compact_int Tryz.compI g 0 c l w0 hH (by omega) hc.1) ?_
 rintro e w' ⟨rfl, q, rfl⟩
 have hlen : (Lib.compact l).length ≤ l.length := by
  unfold Lib.compact Lib.compactUpTo
  rw [List.length_map]
  exact Nat.le_trans (List.length_filter_le _ _) (by simp)
 have hcg := putRowS_chg (Value.int .i64) w0 g 0 q (Lib.compact l ++ List.replicate (l.length - (Lib.compact l).length) 0).toArray #[]
 have hgr : ∀ w : World, grow w #[] = w := fun w => by simp [grow]
 rw [hgr] at hcg
 refine ⟨_, rfl, rfl, ?_, hcg⟩
 have hh : Sort.Holds (Value.int .i64) (putRow (Value.int .i64) (Sort.ahead w0 q) g 0 (Lib.compact l ++ List.replicate (l.length - (Lib.compact l).length) 0).toArray) g 0 (Lib.compact l ++ List.replicate (l.length - (Lib.compact l).length) 0).toArray :=
  holds_putRow _ (Sort.ahead w0 q) g 0 l.toArray _ hH (by simp; omega)
 have hh2 : Sort.Holds (Value.int .i64) (putRow (Value.int .i64) (Sort.ahead w0 q) g 0 (Lib.compact l ++ List.replicate (l.length - (Lib.compact l).length) 0).toArray) g 0 (Lib.compact l).toArray := by
  intro j hj
  simp only [List.size_toArray] at hj
  have h1 := hh j (by simp; omega)
  rw [getElem!_pos _ j (by simp; omega)] at h1
  rw [getElem!_pos _ j (by simpa using hj)]
  simpa [List.getElem_append_left hj] using h1
 exact holds_ints (l := Lib.compact l) hh2 rfl (by omega) (by omega)
theorem compact_step {l : List Int} (hs : l.Pairwise (· ≤ ·)) : ∀ m, m ≤ l.length → (Lib.compactUpTo l.toArray m).Pairwise (· < ·) ∧ ∀ x, x ∈ Lib.compactUpTo l.toArray m ↔ x ∈ l.take m := by
  intro m
  induction m with
  | zero => intro _; simp [Lib.compactUpTo]
  | succ m ih =>
    intro hm
    obtain ⟨h1, h2⟩ := ih (by omega)
    have hx : l[m]? = some l[m] := List.getElem?_eq_getElem (by omega)
    have hg : l.toArray[m]! = l[m] := by rw [getElem!_pos _ m (by simp; omega)]; simp
    rw [Lib.compactUpTo_succ, take_snoc hx]
    have hle : ∀ x ∈ l.take m, ∃ j, j < m ∧ ∃ hj : j < l.length, l[j] = x := fun x hx => by
      obtain ⟨j, hj⟩ := List.mem_iff_getElem?.1 hx
      have h3 := lt_of_get hj
      rw [List.length_take] at h3
      have h31 : j < m := by omega
      have h32 : j < l.length := by omega
      rw [List.getElem?_take, if_pos h31, List.getElem?_eq_getElem h32] at hj
      exact ⟨j, h31, h32, Option.some.inj hj⟩
    have hmono : ∀ (i j : Nat) (hi : i < l.length) (hj : j < l.length), i ≤ j → l[i] ≤ l[j] := fun i j hi hj hij => by
      rcases Nat.eq_or_lt_of_le hij with h3 | h3
      · subst h3; exact Int.le_refl _
      · exact List.pairwise_iff_getElem.1 hs i j hi hj h3
    by_cases hk : Lib.keeps l.toArray m = true
    · rw [if_pos hk, hg]
      have hlt : ∀ x ∈ l.take m, x < l[m] := fun x hx => by
        obtain ⟨j, hjm, hj, rfl⟩ := hle x hx
        have h4 : l[j] ≤ l[m - 1] := hmono j (m - 1) hj (by omega) (by omega)
        have h5 : l[m - 1] ≤ l[m] := hmono (m - 1) m (by omega) (by omega) (by omega)
        have h6 : l[m] ≠ l[m - 1] := by
          unfold Lib.keeps at hk
          rw [decide_eq_true_eq] at hk
          rcases hk with h7 | h7
          · omega
          · rw [hg, getElem!_pos _ (m - 1) (by simp; omega)] at h7; simpa using h7
        omega
      refine ⟨?_, fun x => by rw [List.mem_append, List.mem_append, h2 x]⟩
      rw [List.pairwise_append]
      exact ⟨h1, by simp, fun x hx y hy => by rw [List.mem_singleton] at hy; subst hy; exact hlt x ((h2 x).1 hx)⟩
    · rw [if_neg hk, List.append_nil]
      refine ⟨h1, fun x => ?_⟩
      rw [h2 x, List.mem_append, List.mem_singleton]
      constructor
      · exact .inl
      · rintro (h3 | h3)
        · exact h3
        · have h4 : m ≠ 0 ∧ l.toArray[m]! = l.toArray[m - 1]! := by
            unfold Lib.keeps at hk
            simp only [decide_eq_true_eq, not_or, Decidable.not_not] at hk
            exact hk
          rw [hg, getElem!_pos _ (m - 1) (by simp; omega)] at h4
          have h5 : l[m] = l[m - 1] := by simpa using h4.2
          rw [h3, h5]
          exact List.mem_iff_getElem?.2 ⟨m - 1, by rw [List.getElem?_take, if_pos (by omega), List.getElem?_eq_getElem (by omega)]⟩
theorem compact_sorted (l : List Int) : (Lib.compact (l.mergeSort leB)).Pairwise (· < ·) ∧ ∀ x, x ∈ Lib.compact (l.mergeSort leB) ↔ x ∈ l := by
 have hs : (l.mergeSort leB).Pairwise (· ≤ ·) := by
  have := List.pairwise_mergeSort (le := leB) (fun a b c h1 h2 => by simp [leB] at *; omega) (fun a b => by simp [leB]; omega) l
  exact this.imp fun h => by simpa [leB] using h
 have h := compact_step hs (l.mergeSort leB).length (Nat.le_refl _)
 refine ⟨h.1, fun x => ?_⟩
 have h2 := h.2 x
 rw [List.take_length, List.mem_mergeSort] at h2
 exact h2
def rawC (l : List Sp) : List Int := 0 :: l.flatMap fun s => [s.1, s.2 + 1]
theorem rawC_mem {l : List Sp} {k : Int} : k ∈ rawC l ↔ k = 0 ∨ ∃ s ∈ l, k = s.1 ∨ k = s.2 + 1 := by
 unfold rawC
 simp [List.mem_flatMap]
theorem rawC_len (l : List Sp) : (rawC l).length = 1 + 2 * l.length := by
  unfold rawC
  rw [List.length_cons]
  have : (l.flatMap fun s => [s.1, s.2 + 1]).length = 2 * l.length := by
    induction l with
    | nil => rfl
    | cons x l ih => rw [List.flatMap_cons, List.length_append, ih]; simp; omega
  omega
theorem cuts_pcs {l : List Sp} {q : List Int} (hok : ∀ s ∈ l, vSp s) (hq : q.Pairwise (· < ·)) (hm : ∀ x, x ∈ q ↔ x ∈ rawC l) : ∃ p, PcsOf l p ∧ (q = p ∨ q = p ++ [1114112]) := by
 have hb : ∀ x ∈ q, 0 ≤ x ∧ x ≤ 1114112 := fun x hx => by
  rcases rawC_mem.1 ((hm x).1 hx) with h1 | ⟨s, hs, h1⟩
  ·omega
  ·have := hok s hs; unfold vSp at this; omega
 have hP : ∀ k, k ≤ 1114111 → (k ∈ rawC l ↔ PieceP l k) := fun k hk => by
  rw [rawC_mem]
  unfold PieceP
  constructor
  ·rintro (h1 | ⟨s, hs, h1 | h1⟩)
   ·exact .inl h1
   ·exact .inr ⟨s, hs, .inl h1⟩
   ·exact .inr ⟨s, hs, .inr ⟨by omega, h1⟩⟩
  ·rintro (h1 | ⟨s, hs, h1 | h1⟩)
   ·exact .inl h1
   ·exact .inr ⟨s, hs, .inl h1⟩
   ·exact .inr ⟨s, hs, .inr h1.2⟩
 have hP2 : ∀ k, PieceP l k → k ≤ 1114111 := fun k hk => by
  rcases hk with h1 | ⟨s, hs, h1⟩
  ·omega
  ·have := hok s hs; unfold vSp at this; omega
 rcases List.eq_nil_or_concat q with rfl | ⟨q', x, rfl⟩
 ·exact ⟨[], ⟨hq, fun k => ⟨fun h => (hP k (by cases h)).1 ((hm k).1 h), fun h => (hm k).2 ((hP k (hP2 k h)).2 h)⟩⟩, .inl rfl⟩
 ·rw [List.concat_eq_append] at *
  have hlt : ∀ y ∈ q', y < x := fun y hy => (List.pairwise_append.1 hq).2.2 y hy x (by simp)
  have hxb := hb x (by simp)
  by_cases hx : x = 1114112
  ·subst hx
   refine ⟨q', ⟨(List.pairwise_append.1 hq).1, fun k => ⟨fun h => ?_, fun h => ?_⟩⟩, .inr rfl⟩
   ·have := hlt k h
    exact (hP k (by omega)).1 ((hm k).1 (by simp [h]))
   ·have h1 := hP2 k h
    have h2 := (hm k).2 ((hP k h1).2 h)
    rcases List.mem_append.1 h2 with h3 | h3
    ·exact h3
    ·rw [List.mem_singleton] at h3; omega
  ·refine ⟨q' ++ [x], ⟨hq, fun k => ⟨fun h => ?_, fun h => (hm k).2 ((hP k (hP2 k h)).2 h)⟩⟩, .inl rfl⟩
   have : k ≤ 1114111 := by
    rcases List.mem_append.1 h with h3 | h3
    ·have := hlt k h3; omega
    ·rw [List.mem_singleton] at h3; omega
   exact (hP k this).1 ((hm k).1 h)
end Go.Proofs
