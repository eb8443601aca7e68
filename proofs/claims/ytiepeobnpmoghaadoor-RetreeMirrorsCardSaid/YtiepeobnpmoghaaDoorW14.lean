/- Contracts: the makers Re, ReAll and Text. -/
import Derived.Test.YtiepeobnpmoghaaDoorW13
namespace Go.Proofs
open Go Go.Eng
set_option maxRecDepth 100000

theorem mkRe_c (w0 : World) (v : Value) (l : List Int) (hl : IntsAt w0 v l) : Ret Tryd.prog 9 #[v] w0 fun r w => ∃ t vs, r = .agg vs.toArray ∧ allRe (genP 8) t ∧ t.size ≤ 31 ∧ ReIn (fun b => w0.heap.size ≤ b) w t vs ∧ Ext w0 w := by
  obtain ⟨a, c, rfl⟩ := SlAt.form hl
  simp only [List.length_map] at hl ⊢
  refine Ret_of Tryd.func9 rfl Tryd.ntmps9 (Nat.le_of_ble_eq_true rfl) ?_
  have E : Chg none1 w0 w0 := Chg.refl _ _
  refine Wp_seq_region ?_
  refine s_alloc (c := #[(.int .i64 0), (.slice none 0 0), (.slice none 0 0), (.int .i64 0), (.int .i64 0), (.bool false)]) (by decide) zer27 rfl ?_
  intro br wr Nr
  have Fr := Nr.ge E
  replace E := E.ext Nr.ext
  have Br := Nr.blk
  refine WpL_nil ?_
  refine Wp_seq_region ?_
  refine WpL_val rfl rfl (by decide) (r_move (v := (.slice a l.length c)) rfl) ?_
  refine WpL_val rfl rfl (by decide) (r_build (ps := [(0, (.slice a l.length c))]) (v := (.agg #[(.slice a l.length c)])) rfl (by kernel_rfl)) ?_
  refine s_box (v := (.agg #[(.slice a l.length c)])) (c := #[(.slice a l.length c)]) (by decide) rfl rfl ?_
  intro bs ws Ns
  have Fs := Ns.ge E
  have Os_br := Ns.lt Br
  replace Br := Ns.keep Br
  replace E := E.ext Ns.ext
  have Bs := Ns.blk
  have hne : br < bs := by omega
  have hz1 := Br.lt
  have hz2 := E.size
  refine WpL_enter rfl rfl (by decide) (r_callF (vs := [(.pointer (some ⟨bs, 0, none⟩)), (.int .i64 4), (.int .i64 8)]) Tryd.func35 nm35 bd35 rfl) (gen_c wr bs 8 (by omega) (by have := Ns.eq; omega) 4 (by decide) ws l Ns.ext ⟨a, c, Bs, hl.ext Nr.ext⟩) ?_
  rintro _ w9 ⟨t, us, l', rfl, hg, hs, ht, hS, C9⟩
  replace Br := C9.keep (by omega) Br
  replace E := E.step C9 (by intro x hx hm; omega)
  obtain ⟨sa, sc, aa, ac, rfl, _, _, _⟩ := ht.form
  refine s_storeAgg (b := br) (o := 0) (c' := #[(.int .i64 t.kind), (.slice sa t.set.length sc), (.slice aa t.args.length ac), (.int .i64 t.mn), (.int .i64 t.mx), (.bool t.neg)]) rfl rfl (by simp [Value.oneCell']) siz27 rfl Br (by simp) rfl ?_
  intro w1 S1
  replace ht := ReIn.chg S1.chg (fun x hx hm => by have hx' := hx; have hm' : x = br := hm; omega) t ht
  replace E := S1.step E (by first | exact Or.inl (by omega) | exact Or.inr rfl | exact Or.inr (by assumption) | exact Or.inr (by simp) | exact Or.inr (by omega) | exact Or.inr (by dsimp only; omega))
  replace Br := S1.blk
  refine WpL_nil ?_
  refine Wp_ret ?_
  refine fin_agg Tryd.results9 (vs := [(.int .i64 t.kind), (.slice sa t.set.length sc), (.slice aa t.args.length ac), (.int .i64 t.mn), (.int .i64 t.mx), (.bool t.neg)]) (b := br) rfl agg27 siz27 rfl (Br.cells rfl) ?_
  exact ⟨t, _, rfl, hg, by omega, ReIn.mono (fun b (h : _ ≤ b) => by omega) t ht, E⟩
theorem mkReAll_c (w0 : World) (v : Value) (l : List Int) (hl : IntsAt w0 v l) : Ret Tryd.prog 25 #[v] w0 fun r w => ∃ t vs, r = .agg vs.toArray ∧ allRe (genP 10) t ∧ t.size ≤ 31 ∧ ReIn (fun b => w0.heap.size ≤ b) w t vs ∧ Ext w0 w := by
  obtain ⟨a, c, rfl⟩ := SlAt.form hl
  simp only [List.length_map] at hl ⊢
  refine Ret_of Tryd.func25 rfl Tryd.ntmps25 (Nat.le_of_ble_eq_true rfl) ?_
  have E : Chg none1 w0 w0 := Chg.refl _ _
  refine Wp_seq_region ?_
  refine s_alloc (c := #[(.int .i64 0), (.slice none 0 0), (.slice none 0 0), (.int .i64 0), (.int .i64 0), (.bool false)]) (by decide) zer27 rfl ?_
  intro br wr Nr
  have Fr := Nr.ge E
  replace E := E.ext Nr.ext
  have Br := Nr.blk
  refine WpL_nil ?_
  refine Wp_seq_region ?_
  refine WpL_val rfl rfl (by decide) (r_move (v := (.slice a l.length c)) rfl) ?_
  refine WpL_val rfl rfl (by decide) (r_build (ps := [(0, (.slice a l.length c))]) (v := (.agg #[(.slice a l.length c)])) rfl (by kernel_rfl)) ?_
  refine s_box (v := (.agg #[(.slice a l.length c)])) (c := #[(.slice a l.length c)]) (by decide) rfl rfl ?_
  intro bs ws Ns
  have Fs := Ns.ge E
  have Os_br := Ns.lt Br
  replace Br := Ns.keep Br
  replace E := E.ext Ns.ext
  have Bs := Ns.blk
  have hne : br < bs := by omega
  have hz1 := Br.lt
  have hz2 := E.size
  refine WpL_enter rfl rfl (by decide) (r_callF (vs := [(.pointer (some ⟨bs, 0, none⟩)), (.int .i64 4), (.int .i64 10)]) Tryd.func35 nm35 bd35 rfl) (gen_c wr bs 10 (by omega) (by have := Ns.eq; omega) 4 (by decide) ws l Ns.ext ⟨a, c, Bs, hl.ext Nr.ext⟩) ?_
  rintro _ w9 ⟨t, us, l', rfl, hg, hs, ht, hS, C9⟩
  replace Br := C9.keep (by omega) Br
  replace E := E.step C9 (by intro x hx hm; omega)
  obtain ⟨sa, sc, aa, ac, rfl, _, _, _⟩ := ht.form
  refine s_storeAgg (b := br) (o := 0) (c' := #[(.int .i64 t.kind), (.slice sa t.set.length sc), (.slice aa t.args.length ac), (.int .i64 t.mn), (.int .i64 t.mx), (.bool t.neg)]) rfl rfl (by simp [Value.oneCell']) siz27 rfl Br (by simp) rfl ?_
  intro w1 S1
  replace ht := ReIn.chg S1.chg (fun x hx hm => by have hx' := hx; have hm' : x = br := hm; omega) t ht
  replace E := S1.step E (by first | exact Or.inl (by omega) | exact Or.inr rfl | exact Or.inr (by assumption) | exact Or.inr (by simp) | exact Or.inr (by omega) | exact Or.inr (by dsimp only; omega))
  replace Br := S1.blk
  refine WpL_nil ?_
  refine Wp_ret ?_
  refine fin_agg Tryd.results25 (vs := [(.int .i64 t.kind), (.slice sa t.set.length sc), (.slice aa t.args.length ac), (.int .i64 t.mn), (.int .i64 t.mx), (.bool t.neg)]) (b := br) rfl agg27 siz27 rfl (Br.cells rfl) ?_
  exact ⟨t, _, rfl, hg, by omega, ReIn.mono (fun b (h : _ ≤ b) => by omega) t ht, E⟩

def textArr : Array Value := #[.int .i64 97, .int .i64 98, .int .i64 99, .int .i64 97, .int .i64 98, .int .i64 122, .int .i64 0, .int .i64 233, .int .i64 8364, .int .i64 1114111]
theorem text_tab : ∀ i, i < 10 → ∃ r, textArr[i]? = some (.int .i64 r) ∧ runeB r = true := by
  intro i h
  match i, h with
  | 0, _ => exact ⟨97, rfl, by decide⟩
  | 1, _ => exact ⟨98, rfl, by decide⟩
  | 2, _ => exact ⟨99, rfl, by decide⟩
  | 3, _ => exact ⟨97, rfl, by decide⟩
  | 4, _ => exact ⟨98, rfl, by decide⟩
  | 5, _ => exact ⟨122, rfl, by decide⟩
  | 6, _ => exact ⟨0, rfl, by decide⟩
  | 7, _ => exact ⟨233, rfl, by decide⟩
  | 8, _ => exact ⟨8364, rfl, by decide⟩
  | 9, _ => exact ⟨1114111, rfl, by decide⟩
theorem r_min2 {P : Program} {σ : Env} {w : World} {dst : Option Tmp} {ty : TypeId} {pos : String} {af : Array Edge} {g : Option (Nat × Bool)} {tys : Array TypeId} {x y : Operand} {k : IntKind} {a b c : Int} (hx : ev σ x = .int k a) (hy : ev σ y = .int k b) (hc : min a b = c) :
    (execOp (ev σ) ⟨dst, .call ⟨.builtin .min, #[x, y], tys⟩, ty, pos, af, g⟩).run P w = .ok (.value (.int k c)) w := by
  subst hc
  have : (if b < a then b else a) = min a b := by split <;> omega
  simp [execOp, resolve, invoke, builtin, Builtin.min_, Builtin.min2, hx, hy, this]

set_option maxHeartbeats 1000000 in
theorem text_c (w0 : World) (v : Value) (l : List Int) (hl : IntsAt w0 v l) : Ret Tryd.prog 10 #[v] w0 fun r w => ∃ a c text, r = .slice a text.length c ∧ IntsAt w (.slice a text.length c) text ∧ text.length ≤ 10 ∧ (∀ x ∈ text, runeB x = true) ∧ Ext w0 w := by
  obtain ⟨a, c, rfl⟩ := SlAt.form hl
  have hlen : l.length ≤ 9223372036854775807 := by simpa using SlAt.le hl
  have hcap := SlAt.cap hl
  simp only [List.length_map] at hl hcap ⊢
  obtain ⟨m, hm⟩ : ∃ m, m = min l.length 10 := ⟨_, rfl⟩
  obtain ⟨base, hbase⟩ : ∃ base, base = w0.heap.size := ⟨_, rfl⟩
  refine Ret_of Tryd.func10 rfl Tryd.ntmps10 (Nat.le_of_ble_eq_true rfl) ?_
  have E : Chg none1 w0 w0 := Chg.refl _ _
  refine Wp_seq_region ?_
  refine WpL_val rfl rfl (by decide) (r_assign (v := (.slice none 0 0)) rfl) ?_
  refine WpL_nil ?_
  refine Wp_seq_region ?_
  refine WpL_val rfl rfl (by decide) (r_assign (v := (.slice none 0 0)) rfl) ?_
  refine WpL_nil ?_
  refine Wp_seq ?_
  refine Wp_seq_region ?_
  refine WpL_val rfl rfl (by decide) (r_move (v := (.slice a l.length c)) rfl) ?_
  refine WpL_val rfl rfl (by decide) (r_move (v := (.slice a l.length c)) rfl) ?_
  refine WpL_val rfl rfl (by decide) (r_lenSlice (ad := a) (n := l.length) (cap := c) Tryd.underlying22 rfl) ?_
  refine WpL_val rfl rfl (by decide) (r_min2 (a := ((l.length : Nat) : Int)) (b := 10) (c := ((m : Nat) : Int)) rfl rfl (by omega)) ?_
  obtain ⟨sl, hsl⟩ : ∃ a' : Option Addr, (if c = 0 then a else Option.map (fun q : Addr => q.add (0 * 1)) a) = a' := ⟨_, rfl⟩
  refine WpL_val rfl rfl (by decide) (r_sliceHi (a := a) (len := l.length) (cap := c) (hi := m) (l := ((m : Nat) : Int)) Tryd.underlying22 siz3 rfl rfl (by omega) (by omega) hsl) ?_
  refine WpL_val rfl rfl (by decide) (r_lenSlice (ad := sl) (n := m) (cap := c) Tryd.underlying22 rfl) ?_
  refine WpL_val rfl rfl (by decide) (r_move (v := (.int .i64 0)) rfl) ?_
  refine WpL_nil ?_
  refine Wp_block ?_
  have hcut := SlAt.cut (lo := 0) (hi := m) hl (by omega) (by omega) hsl rfl rfl
  simp only [Nat.sub_zero, List.drop_zero] at hcut
  have hcut2 : IntsAt w0 (.slice sl m c) (l.take m) := by unfold IntsAt; rw [List.map_take]; exact hcut
  refine Wp_loop (fun nn_ σ W1 => ∃ (k : Nat) (la : Option Addr) (lc : Nat) (ts : List Int), (∃ jj_, σ = upds jj_ [(10, (.slice sl m c)), (11, (.int .i64 ((m : Nat) : Int))), (12, (.int .i64 ((k : Nat) : Int))), (3, (.slice la k lc))]) ∧ Chg none1 w0 W1 ∧ (k ≤ m) ∧ (W1.ownsRow base 3 1 (.slice la k lc) k (ts.map intV).flatten) ∧ (ts.length = k ∧ ∀ x ∈ ts, runeB x = true) ∧ (base ≤ W1.heap.size) ∧ nn_ = m - k) (n := m - 0) ?_ ?_
  · exact ⟨0, none, 0, [], Fits.out ⟨rfl, rfl, rfl, rfl, trivial⟩, E, Nat.zero_le _, World.ownsRow_nil _ _ _ _, ⟨rfl, by simp⟩, (by omega), rfl⟩
  · clear E
    rintro _ _ W1 ⟨k, la, lc, ts, ⟨j1, rfl⟩, E, hk, hown, hts, hbs, rfl⟩
    refine Wp_seq_region ?_
    refine WpL_val rfl rfl (by decide) (r_lss (k := .i64) (a := ((k : Nat) : Int)) (b := ((m : Nat) : Int)) rfl rfl) ?_
    refine WpL_nil ?_
    refine Wp_seq ?_
    refine Wp_cond (b := decide ((((k : Nat) : Int) : Int) < ((m : Nat) : Int))) rfl (fun hlt => ?_) (fun hlt => ?_)
    · have khlt := hlt
      replace hlt := of_decide_eq_true hlt
      obtain ⟨x, hx⟩ := get_of_lt (l := l.take m) (i := k) (by simp; omega)
      obtain ⟨b, o, rfl, hcl⟩ := ints_cells hcut2 (by omega)
      refine Wp_skip ?_
      refine thn_normal ?_
      refine Wp_seq ?_
      refine Wp_block ?_
      refine Wp_seq_region ?_
      refine WpL_val rfl rfl (by decide) (r_indexSlice (b := b) (o := o) (len := m) (cap := c) (i := k) (o' := o + k) rfl rfl rfl Tryd.underlying22 siz3 (by omega) (by omega)) ?_
      refine WpL_val rfl rfl (by decide) (r_load (v := (.int .i64 x)) rfl flat3 (E.cell (fun f => f) (hcl k x hx))) ?_
      have hx10 : 0 ≤ x % 10 ∧ x % 10 < 10 := by omega
      refine WpL_val rfl rfl (by decide) (r_assign (v := (.int .i64 x)) rfl) ?_
      refine WpL_nil ?_
      refine Wp_region ?_
      refine WpL_val rfl rfl (by decide) (r_move (v := (.slice la k lc)) rfl) ?_
      refine s_buildSlice (ps := [(0, (.int .i64 97)), (1, (.int .i64 98)), (2, (.int .i64 99)), (3, (.int .i64 97)), (4, (.int .i64 98)), (5, (.int .i64 122)), (6, (.int .i64 0)), (7, (.int .i64 233)), (8, (.int .i64 8364)), (9, (.int .i64 1114111))]) (c := #[(.int .i64 97), (.int .i64 98), (.int .i64 99), (.int .i64 97), (.int .i64 98), (.int .i64 122), (.int .i64 0), (.int .i64 233), (.int .i64 8364), (.int .i64 1114111)]) (by decide) rfl Tryd.underlying22 siz3 zer3 (by decide) (by decide) (by kernel_rfl) ?_
      intro bq wq Nq
      have Fq := Nq.ge E
      replace hown := own_ext hown Nq.ext
      replace hbs := Nat.le_trans hbs Nq.ext.size
      replace E := E.ext Nq.ext
      have Bq := Nq.blk
      refine WpL_val rfl rfl (by decide) (r_move (v := (.int .i64 x)) rfl) ?_
      refine WpL_enter rfl rfl (by decide) (r_callF (vs := [(.int .i64 x), (.int .i64 10)]) Tryd.func36 nm36 bd36 rfl) (below_c x 10 (by decide) (by decide) _) ?_
      rintro _ _ ⟨rfl, rfl⟩
      obtain ⟨r, hr, hrb⟩ := text_tab (x % 10).toNat (by omega)
      refine WpL_val rfl rfl (by decide) (r_indexSlice (b := bq) (o := 0) (len := 10) (cap := 10) (i := (x % 10).toNat) (o' := 0 + ((x % 10).toNat)) rfl rfl (by omega) Tryd.underlying22 siz3 (by omega) (by omega)) ?_
      refine WpL_val rfl rfl (by decide) (r_load (v := (.int .i64 r)) rfl flat3 (Bq.cell (by rw [Nat.zero_add]; exact hr))) ?_
      refine s_buildSlice (ps := [(0, (.int .i64 r))]) (c := #[(.int .i64 r)]) (by decide) rfl Tryd.underlying22 siz3 zer3 (by decide) (by decide) (by kernel_rfl) ?_
      intro b3 w3 N3
      have F3 := N3.ge E
      have O3_bq := N3.lt Bq
      replace Bq := N3.keep Bq
      replace hown := own_ext hown N3.ext
      replace hbs := Nat.le_trans hbs N3.ext.size
      replace E := E.ext N3.ext
      have B3 := N3.blk
      refine s_append (base := base) (n := k) (m := 1) (xs := (ts.map intV).flatten) (news := [(.int .i64 r)]) (size := 1) (bytes := 8) (v := (.slice la k lc)) (by decide) Tryd.underlying22 siz3 byt3 zer3 rfl (by decide) rfl hown rfl (rfl) (B3.cells rfl) (by simp [Value.oneCell']) (by unfold maxLen; omega) (by omega) (hbs) ?_
      intro v9 w29 Ov9 Cv9 Dv9
      replace E := E.step Cv9 (fun x hx h => absurd (hown.lt x h).1 (by omega))
      obtain ⟨la2, lc2, rfl⟩ := own_form Ov9
      refine WpL_val rfl rfl (by decide) (r_assign (v := (.slice la2 (k + 1) lc2)) rfl) ?_
      refine WpL_nil ?_
      refine inB_normal ?_
      refine thn_normal ?_
      refine Wp_region ?_
      refine WpL_val rfl rfl (by decide) (r_add (k := .i64) (a := ((k : Nat) : Int)) (b := 1) (c := ((k : Nat) : Int) + 1) rfl rfl (wI64 (by omega))) ?_
      refine WpL_val rfl rfl (by decide) (r_move (v := (.int .i64 (((k : Nat) : Int) + 1))) rfl) ?_
      refine WpL_nil ?_
      refine thn_normal ?_
      exact ⟨m - (k + 1), by omega, k + 1, la2, lc2, ts ++ [r], Fits.out ⟨rfl, rfl, rfl, rfl, trivial⟩, E, (by omega), (by simpa [intV] using Ov9), ⟨by simp [hts.1], by intro y hy; simp at hy; rcases hy with h | h; exact hts.2 y h; subst h; exact hrb⟩, Nat.le_trans hbs Cv9.size, rfl⟩
    · have khlt := hlt
      replace hlt := of_decide_eq_false hlt
      obtain ⟨rfl, htr⟩ := hts
      refine Wp_exit ?_
      refine thn_exit ?_
      refine thn_exit ?_
      refine inB_here ?_
      refine thn_normal ?_
      refine Wp_seq_region ?_
      refine WpL_val rfl rfl (by decide) (r_move (v := (.slice la ts.length lc)) rfl) ?_
      refine WpL_val rfl rfl (by decide) (r_assign (v := (.slice la ts.length lc)) rfl) ?_
      refine WpL_nil ?_
      refine Wp_ret ?_
      refine fin_tmp Tryd.results10 (v := (.slice la ts.length lc)) rfl ?_
      exact ⟨la, lc, ts, rfl, own_slat hown (by intro r hr; simp only [List.mem_map] at hr; obtain ⟨p, _, rfl⟩ := hr; rfl) (by simp) (by decide), by omega, htr, E⟩
end Go.Proofs
