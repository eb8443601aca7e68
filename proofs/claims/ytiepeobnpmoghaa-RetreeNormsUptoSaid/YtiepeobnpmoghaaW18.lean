/- Contracts: the reference's nodes in preorder, and its check of expressions. -/
import Derived.Test.YtiepeobnpmoghaaW17
import Derived.Test.YtiepeobnpmoghaaW9
namespace Go.Proofs
open Go Go.Eng
set_option maxRecDepth 100000
abbrev TE : Nat := 25

mutual
def preL : Re → List Re
  | .mk k set args mn mx ng => .mk k set args mn mx ng :: preLs args
def preLs : List Re → List Re
  | [] => []
  | t :: ts => preL t ++ preLs ts
end
theorem preL_eq (t : Re) : preL t = t :: preLs t.args := by cases t; simp only [preL, Re.args]
theorem preLs_append : ∀ (a b : List Re), preLs (a ++ b) = preLs a ++ preLs b
  | [], b => by simp [preLs]
  | x :: a, b => by simp only [List.cons_append, preLs, preLs_append a b, List.append_assoc]
mutual
theorem preL_len : ∀ (t : Re), (preL t).length = t.size
  | .mk k set args mn mx ng => by simp only [preL, Re.size, List.length_cons, preLs_len args]
theorem preLs_len : ∀ (ts : List Re), (preLs ts).length = Re.sizes ts
  | [] => by simp [preLs, Re.sizes]
  | t :: ts => by simp only [preLs, Re.sizes, List.length_append, preL_len t, preLs_len ts]
end
theorem len_le_sizes : ∀ (ts : List Re), ts.length ≤ Re.sizes ts
  | [] => by simp
  | t :: ts => by have := len_le_sizes ts; have := t.size_pos; simp only [Re.sizes, List.length_cons]; omega
theorem sizes_reverse (ts : List Re) : Re.sizes ts.reverse = Re.sizes ts := by
  induction ts with
  | nil => rfl
  | cons t ts ih => simp only [List.reverse_cons, Re.sizes_append, ih, Re.sizes]; omega

def RowsOf (w : World) : List Re → List (List Value) → Prop
  | [], [] => True
  | t :: ts, r :: rs => ReAt w t r ∧ RowsOf w ts rs
  | _, _ => False
theorem RowsOf.ext {w w' : World} (e : Ext w w') : ∀ {ts : List Re} {rs : List (List Value)}, RowsOf w ts rs → RowsOf w' ts rs
  | [], [], _ => trivial
  | t :: ts, r :: rs, h => ⟨ReAt.ext e t h.1, RowsOf.ext e h.2⟩
  | [], _ :: _, h => h.elim
  | _ :: _, [], h => h.elim
theorem RowsOf.len {w : World} : ∀ {ts : List Re} {rs : List (List Value)}, RowsOf w ts rs → rs.length = ts.length
  | [], [], _ => rfl
  | t :: ts, r :: rs, h => by simp only [List.length_cons, RowsOf.len h.2]
  | [], _ :: _, h => h.elim
  | _ :: _, [], h => h.elim
theorem RowsOf.six {w : World} : ∀ {ts : List Re} {rs : List (List Value)}, RowsOf w ts rs → ∀ r ∈ rs, r.length = 6
  | [], [], _, r, hr => by cases hr
  | t :: ts, r :: rs, h, r', hr => by
    rcases List.mem_cons.1 hr with rfl | hr
    · exact h.1.len
    · exact RowsOf.six h.2 r' hr
  | [], _ :: _, h, _, _ => h.elim
  | _ :: _, [], h, _, _ => h.elim
theorem RowsOf.snoc {w : World} : ∀ {ts : List Re} {rs : List (List Value)}, RowsOf w ts rs → ∀ {t : Re} {r : List Value}, ReAt w t r → RowsOf w (ts ++ [t]) (rs ++ [r])
  | [], [], _, _, _, h => ⟨h, trivial⟩
  | t :: ts, r :: rs, h, _, _, h' => ⟨h.1, RowsOf.snoc h.2 h'⟩
  | [], _ :: _, h, _, _, _ => h.elim
  | _ :: _, [], h, _, _, _ => h.elim
theorem RowsOf.get {w : World} : ∀ {ts : List Re} {rs : List (List Value)}, RowsOf w ts rs → ∀ {i : Nat} {t : Re}, ts[i]? = some t → ∃ r, rs[i]? = some r ∧ ReAt w t r
  | [], [], _, _, _, h => by simp at h
  | t :: ts, r :: rs, h, 0, _, h' => by simp at h'; subst h'; exact ⟨r, rfl, h.1⟩
  | t :: ts, r :: rs, h, i + 1, _, h' => by
    obtain ⟨r', h1, h2⟩ := RowsOf.get h.2 (i := i) (by simpa using h')
    exact ⟨r', by simpa using h1, h2⟩
  | [], _ :: _, h, _, _, _ => h.elim
  | _ :: _, [], h, _, _, _ => h.elim
theorem RowsOf.pop {w : World} : ∀ {ts : List Re} {rs : List (List Value)} {t : Re}, RowsOf w (ts ++ [t]) rs → ∃ rs' r, rs = rs' ++ [r] ∧ RowsOf w ts rs' ∧ ReAt w t r
  | [], [], _, h => h.elim
  | [], [r], _, h => ⟨[], r, rfl, trivial, h.1⟩
  | [], r :: r' :: rs, _, h => h.2.elim
  | t :: ts, [], _, h => h.elim
  | t :: ts, r :: rs, t', h => by
    obtain ⟨rs', r', h1, h2, h3⟩ := RowsOf.pop (ts := ts) h.2
    exact ⟨r :: rs', r', by rw [h1]; rfl, ⟨h.1, h2⟩, h3⟩

def Apart (u v : Value) : Prop := ∀ k, u.ownBlock = some k → v.ownBlock ≠ some k
theorem Apart.symm {u v : Value} (h : Apart u v) : Apart v u := fun k h1 h2 => h k h2 h1
theorem Apart.slc {a : Option Addr} {n c n' c' : Nat} {v : Value} (h : Apart (.slice a n c) v) : Apart (.slice a n' c') v := by
  cases a <;> exact h
theorem Apart.app {w : World} {base e size n : Nat} {u u' v : Value} {xs : List Value} (h : Apart u v) (hv : w.ownsRow base e size v n xs) (D : ∀ k, u'.ownBlock = some k → u.ownBlock = some k ∨ w.heap.size ≤ k) : Apart u' v := fun k h1 h2 => by
  rcases D k h1 with h3 | h3
  · exact h k h3 h2
  · have := (hv.lt k h2).2; omega
theorem Apart.nil (v : Value) : Apart (.slice none 0 0) v := fun k h => by cases h
theorem own_apart {w w' : World} {base e size n : Nat} {u v : Value} {xs : List Value} (h : w.ownsRow base e size v n xs) (C : Chg (fun x => u.ownBlock = some x) w w') (hd : Apart u v) : w'.ownsRow base e size v n xs :=
  own_chg h C fun k hk hm => hd k hm hk
theorem sl_zero {a : Option Addr} {c m : Nat} : (if c = 0 then a else Option.map (fun q : Addr => q.add (0 * m)) a) = a := by
  split
  · rfl
  · cases a <;> simp [Addr.add]
theorem own_rows {w : World} {base e n : Nat} {v : Value} {ts : List Re} {rs : List (List Value)} {w0 : World} (h : w.ownsRow base e 6 v n rs.flatten) (hr : RowsOf w0 ts rs) (hn : ts.length = n) : SlAt w 6 v rs :=
  own_slat h hr.six (by rw [hr.len, hn]) (by decide)
theorem flat_len {rs : List (List Value)} (h : ∀ r ∈ rs, r.length = 6) : rs.flatten.length = rs.length * 6 := by
  induction rs with
  | nil => rfl
  | cons r rs ih => rw [List.flatten_cons, List.length_append, ih (fun r' hr' => h r' (List.mem_cons_of_mem _ hr')), h r List.mem_cons_self, List.length_cons]; omega
theorem flat_pop {rs : List (List Value)} {r : List Value} {n : Nat} (h : ∀ r ∈ rs, r.length = 6) (hn : rs.length = n) : ((rs ++ [r]).flatten).take (n * 6) = rs.flatten := by
  rw [List.flatten_append, List.take_append_of_le_length (by rw [flat_len h, hn]; exact Nat.le_refl _), List.take_of_length_le (by rw [flat_len h, hn]; exact Nat.le_refl _)]
theorem snoc_of {α : Type} {l : List α} (h : 0 < l.length) : ∃ l' x, l = l' ++ [x] := by
  rcases List.eq_nil_or_concat l with rfl | ⟨l', x, rfl⟩
  · simp at h
  · exact ⟨l', x, List.concat_eq_append⟩

abbrev rowX (x : Re) (xa : Option Addr) (xc : Nat) (ya : Option Addr) (yc : Nat) : List Value := [.int .i64 x.kind, .slice xa x.set.length xc, .slice ya x.args.length yc, .int .i64 x.mn, .int .i64 x.mx, .bool x.neg]
set_option maxHeartbeats 4000000 in
theorem pre_c (w0 : World) (t : Re) (vs : List Value) (most : Int) (ht : ReAt w0 t vs) (hs : t.size ≤ 2097152) :
    Ret Try.prog 16 #[.agg vs.toArray, .int .i64 most] w0 fun v w => ∃ a c rows, v = .slice a ((preL t).take most.toNat).length c ∧ SlAt w 6 v rows ∧ RowsOf w0 ((preL t).take most.toNat) rows ∧ Ext w0 w := by
  have ht0 := ht
  obtain ⟨sa, sc, aa, ac, rfl, hset, hlen, hargs⟩ := ht.form
  refine Ret_of Try.func16 rfl Try.ntmps16 (Nat.le_of_ble_eq_true rfl) ?_
  have E : Chg none1 w0 w0 := Chg.refl _ _
  refine Wp_seq_region ?_
  refine s_box (v := (.agg #[(.int .i64 t.kind), (.slice sa t.set.length sc), (.slice aa t.args.length ac), (.int .i64 t.mn), (.int .i64 t.mx), (.bool t.neg)])) (c := #[(.int .i64 t.kind), (.slice sa t.set.length sc), (.slice aa t.args.length ac), (.int .i64 t.mn), (.int .i64 t.mx), (.bool t.neg)]) (by decide) rfl rfl ?_
  intro bp wp Np
  have Fp := Np.ge E
  replace E := E.ext Np.ext
  have Bp := Np.blk
  refine WpL_val rfl rfl (by decide) (r_assign (v := (.slice none 0 0)) rfl) ?_
  refine WpL_nil ?_
  refine Wp_seq_region ?_
  refine WpL_val rfl rfl (by decide) (r_assign (v := (.slice none 0 0)) rfl) ?_
  refine WpL_nil ?_
  refine Wp_seq_region ?_
  refine WpL_val rfl rfl (by decide) (r_loadAgg (vs := [(.int .i64 t.kind), (.slice sa t.set.length sc), (.slice aa t.args.length ac), (.int .i64 t.mn), (.int .i64 t.mx), (.bool t.neg)]) rfl agg25 siz25 rfl (Bp.cells rfl)) ?_
  refine s_buildSlice (ps := [(0, (.agg #[(.int .i64 t.kind), (.slice sa t.set.length sc), (.slice aa t.args.length ac), (.int .i64 t.mn), (.int .i64 t.mx), (.bool t.neg)]))]) (c := #[(.int .i64 t.kind), (.slice sa t.set.length sc), (.slice aa t.args.length ac), (.int .i64 t.mn), (.int .i64 t.mx), (.bool t.neg)]) (by decide) rfl Try.underlying23 siz25 zer25 (by decide) (by decide) (by kernel_rfl) ?_
  intro bq wq Nq
  have Fq := Nq.ge E
  have Oq_bp := Nq.lt Bp
  replace Bp := Nq.keep Bp
  replace E := E.ext Nq.ext
  have Bq := Nq.blk
  refine WpL_val rfl rfl (by decide) (r_assign (v := (.slice (some ⟨bq, 0, none⟩) 1 1)) rfl) ?_
  refine WpL_nil ?_
  refine Wp_seq ?_
  refine Wp_block ?_
  obtain ⟨base, hbase⟩ : ∃ base, base = wp.heap.size := ⟨_, rfl⟩
  have hb0 : w0.heap.size ≤ base := by have := Np.size; omega
  have hpb : bp < base := by have := Np.size; have := Np.eq; omega
  have hqb : base ≤ bq := by have := Nq.eq; omega
  have hrow1 : wq.ownsRow base TE 6 (.slice (some ⟨bq, 0, none⟩) 1 1) 1 ([[.int .i64 t.kind, .slice sa t.set.length sc, .slice aa t.args.length ac, .int .i64 t.mn, .int .i64 t.mx, .bool t.neg]] : List (List Value)).flatten := ⟨rfl, .inr ⟨bq, 1, _, rfl, hqb, Bq, by decide, by decide, rfl, rfl⟩⟩
  have hbsq : base ≤ wq.heap.size := by have := Nq.size; omega
  refine Wp_loop (fun nn_ σ W1 => ∃ (outs sts : List Re) (ro rs : List (List Value)) (oa : Option Addr) (oc : Nat) (ka : Option Addr) (kc : Nat), (∃ jj_, σ = upds jj_ [(1, (.int .i64 most)), (5, (.slice oa outs.length oc)), (6, (.slice ka sts.length kc))]) ∧ Chg none1 w0 W1 ∧ Blk W1 bp #[(.int .i64 t.kind), (.slice sa t.set.length sc), (.slice aa t.args.length ac), (.int .i64 t.mn), (.int .i64 t.mx), (.bool t.neg)] 25 ∧ (W1.ownsRow base TE 6 (.slice oa outs.length oc) outs.length ro.flatten) ∧ (W1.ownsRow base TE 6 (.slice ka sts.length kc) sts.length rs.flatten) ∧ (Apart (.slice oa outs.length oc) (.slice ka sts.length kc)) ∧ (RowsOf w0 outs ro) ∧ (RowsOf w0 sts rs) ∧ (preL t = outs ++ preLs sts.reverse) ∧ (outs.length ≤ most.toNat) ∧ (base ≤ W1.heap.size) ∧ nn_ = t.size - outs.length) (n := t.size - ([] : List Re).length) ?_ ?_
  · exact ⟨([] : List Re), [t], ([] : List (List Value)), [[.int .i64 t.kind, .slice sa t.set.length sc, .slice aa t.args.length ac, .int .i64 t.mn, .int .i64 t.mx, .bool t.neg]], none, 0, some ⟨bq, 0, none⟩, 1, Fits.out ⟨rfl, rfl, rfl, trivial⟩, E, Bp, World.ownsRow_nil _ _ _ _, hrow1, Apart.nil _, trivial, ⟨ht0, trivial⟩, (by simp [preLs]), Nat.zero_le _, hbsq, rfl⟩
  · clear E Bp
    rintro _ _ W1 ⟨outs, sts, ro, rs, oa, oc, ka, kc, ⟨j1, rfl⟩, E, Bp, hO, hS, hAp, hro, hrs, hpre, hmo, hbs, rfl⟩
    have hsz : outs.length + Re.sizes sts = t.size := by rw [← preL_len t, hpre, List.length_append, preLs_len, sizes_reverse]
    have hsl := len_le_sizes sts
    refine Wp_seq ?_
    refine Wp_seq_region ?_
    refine WpL_val rfl rfl (by decide) (r_move (v := (.slice ka sts.length kc)) rfl) ?_
    refine WpL_val rfl rfl (by decide) (r_lenSlice (ad := ka) (n := sts.length) (cap := kc) Try.underlying23 rfl) ?_
    obtain ⟨e2, he2⟩ : ∃ e, (decide ((0 : Int) < ((sts.length : Nat) : Int))) = e := ⟨_, rfl⟩
    refine WpL_val rfl rfl (by decide) ((r_gtr (k := .i64) (a := ((sts.length : Nat) : Int)) (b := 0) rfl rfl).trans (by rw [he2]; try rfl)) ?_
    refine WpL_val rfl rfl (by decide) (r_move (v := (.bool e2)) rfl) ?_
    refine WpL_guard_any (oj := _) (gv := (.bool e2)) (u := (bif e2 then (.slice oa outs.length oc) else undef)) rfl rfl (by decide) (by decide) rfl (by cases e2 <;> first | exact Or.inr ⟨Or.inl rfl, rfl⟩ | exact Or.inr ⟨Or.inr rfl, rfl⟩ | exact Or.inl ⟨rfl, r_move (v := (.slice oa outs.length oc)) rfl⟩) ?_
    refine WpL_guard_any (oj := _) (gv := (.bool e2)) (u := (bif e2 then (.int .i64 ((outs.length : Nat) : Int)) else undef)) rfl rfl (by decide) (by decide) rfl (by cases e2 <;> first | exact Or.inr ⟨Or.inl rfl, rfl⟩ | exact Or.inr ⟨Or.inr rfl, rfl⟩ | exact Or.inl ⟨rfl, r_lenSlice (ad := oa) (n := outs.length) (cap := oc) Try.underlying23 rfl⟩) ?_
    refine WpL_guard_any (oj := _) (gv := (.bool e2)) (u := (bif e2 then (.int .i64 most) else undef)) rfl rfl (by decide) (by decide) rfl (by cases e2 <;> first | exact Or.inr ⟨Or.inl rfl, rfl⟩ | exact Or.inr ⟨Or.inr rfl, rfl⟩ | exact Or.inl ⟨rfl, r_move (v := (.int .i64 most)) rfl⟩) ?_
    obtain ⟨e3, he3⟩ : ∃ e, (decide ((((outs.length : Nat) : Int) : Int) < most)) = e := ⟨_, rfl⟩
    refine WpL_guard_any (oj := _) (gv := (.bool e2)) (u := (bif e2 then (.bool e3) else undef)) rfl rfl (by decide) (by decide) rfl (by cases e2 <;> first | exact Or.inr ⟨Or.inl rfl, rfl⟩ | exact Or.inr ⟨Or.inr rfl, rfl⟩ | exact Or.inl ⟨rfl, (r_lss (k := .i64) (a := ((outs.length : Nat) : Int)) (b := most) rfl rfl).trans (by rw [he3]; try rfl)⟩) ?_
    obtain ⟨e4, he4⟩ : ∃ e, (e2 && e3) = e := ⟨_, rfl⟩
    refine WpL_val rfl rfl (by decide) (r_pick (b := e2) (v := .bool e4) rfl (by rw [← he4]; cases e2 <;> rfl)) ?_
    refine WpL_nil ?_
    subst he4
    subst he3
    subst he2
    refine Wp_cond (b := ((decide ((0 : Int) < ((sts.length : Nat) : Int))) && (decide ((((outs.length : Nat) : Int) : Int) < most)))) rfl (fun hlt => ?_) (fun hlt => ?_)
    · have khlt := hlt
      simp at hlt
      have hOw := fun k h => (hO.lt k h).2
      have hSw := fun k h => (hS.lt k h).2
      obtain ⟨st', x, rfl⟩ := snoc_of (l := sts) (by omega)
      obtain ⟨rs', r, rfl, hrs', hxr⟩ := hrs.pop
      obtain ⟨xa, xc, ya, yc, rfl, hxset, hxlen, hxargs⟩ := hxr.form
      have hS6 : RowsOf w0 (st' ++ [x]) (rs' ++ [_]) := hrs'.snoc hxr
      obtain ⟨kb, ko, rfl, hkc⟩ := SlAt.at (own_rows hS hS6 rfl) (by omega)
      have hkl : (st' ++ [x]).length = st'.length + 1 := by simp
      have hr' := hkc st'.length _ (by rw [List.getElem?_append_right (by rw [hrs'.len]; exact Nat.le_refl _), hrs'.len]; simp; rfl)
      have hkcap := (SlAt.cap (own_rows hS hS6 rfl)).1
      refine Wp_skip ?_
      refine thn_normal ?_
      refine Wp_block ?_
      refine Wp_seq_region ?_
      refine WpL_val rfl rfl (by decide) (r_move (v := (.slice (some ⟨kb, ko, none⟩) ((st' ++ [x]).length) kc)) rfl) ?_
      refine WpL_val rfl rfl (by decide) (r_move (v := (.slice (some ⟨kb, ko, none⟩) ((st' ++ [x]).length) kc)) rfl) ?_
      refine WpL_val rfl rfl (by decide) (r_lenSlice (ad := some ⟨kb, ko, none⟩) (n := (st' ++ [x]).length) (cap := kc) Try.underlying23 rfl) ?_
      refine WpL_val rfl rfl (by decide) (r_sub (k := .i64) (a := (((st' ++ [x]).length : Nat) : Int)) (b := 1) (c := (((st' ++ [x]).length : Nat) : Int) - 1) rfl rfl (wI64 (by omega))) ?_
      refine WpL_val rfl rfl (by decide) (r_indexSlice (b := kb) (o := ko) (len := (st' ++ [x]).length) (cap := kc) (i := st'.length) (o' := ko + st'.length * 6) rfl rfl (by omega) Try.underlying23 siz25 (by omega) (by omega)) ?_
      refine WpL_val rfl rfl (by decide) (r_loadAgg (vs := [(.int .i64 x.kind), (.slice xa x.set.length xc), (.slice ya x.args.length yc), (.int .i64 x.mn), (.int .i64 x.mx), (.bool x.neg)]) rfl agg25 siz25 rfl (hr')) ?_
      refine s_allocStore (v := (.agg #[(.int .i64 x.kind), (.slice xa x.set.length xc), (.slice ya x.args.length yc), (.int .i64 x.mn), (.int .i64 x.mx), (.bool x.neg)])) (c := #[(.int .i64 x.kind), (.slice xa x.set.length xc), (.slice ya x.args.length yc), (.int .i64 x.mn), (.int .i64 x.mx), (.bool x.neg)]) (n := 6) (by decide) zer25 rfl siz25 rfl rfl rfl (by simp [Value.oneCell']) ?_
      intro bx wx Nx
      have Fx := Nx.ge E
      have Ox_bp := Nx.lt Bp
      replace Bp := Nx.keep Bp
      replace hO := own_ext hO Nx.ext
      replace hS := own_ext hS Nx.ext
      replace hbs := Nat.le_trans hbs Nx.ext.size
      replace E := E.ext Nx.ext
      have Bx := Nx.blk
      refine WpL_nil ?_
      refine Wp_seq_region ?_
      refine WpL_val rfl rfl (by decide) (r_move (v := (.slice (some ⟨kb, ko, none⟩) ((st' ++ [x]).length) kc)) rfl) ?_
      refine WpL_val rfl rfl (by decide) (r_move (v := (.slice (some ⟨kb, ko, none⟩) ((st' ++ [x]).length) kc)) rfl) ?_
      refine WpL_val rfl rfl (by decide) (r_lenSlice (ad := some ⟨kb, ko, none⟩) (n := (st' ++ [x]).length) (cap := kc) Try.underlying23 rfl) ?_
      refine WpL_val rfl rfl (by decide) (r_sub (k := .i64) (a := (((st' ++ [x]).length : Nat) : Int)) (b := 1) (c := (((st' ++ [x]).length : Nat) : Int) - 1) rfl rfl (wI64 (by omega))) ?_
      obtain ⟨k2, hk2⟩ : ∃ a' : Option Addr, (if kc = 0 then (some ⟨kb, ko, none⟩) else Option.map (fun q : Addr => q.add (0 * 6)) (some ⟨kb, ko, none⟩)) = a' := ⟨_, rfl⟩
      refine WpL_val rfl rfl (by decide) (r_sliceHi (a := (some ⟨kb, ko, none⟩)) (len := (st' ++ [x]).length) (cap := kc) (hi := st'.length) (l := (((st' ++ [x]).length : Nat) : Int) - 1) Try.underlying23 siz25 rfl rfl (by omega) (by omega) hk2) ?_
      refine WpL_val rfl rfl (by decide) (r_assign (v := (.slice k2 st'.length kc)) rfl) ?_
      refine WpL_nil ?_
      refine Wp_seq_region ?_
      refine WpL_val rfl rfl (by decide) (r_move (v := (.slice oa outs.length oc)) rfl) ?_
      refine WpL_val rfl rfl (by decide) (r_loadAgg (vs := [(.int .i64 x.kind), (.slice xa x.set.length xc), (.slice ya x.args.length yc), (.int .i64 x.mn), (.int .i64 x.mx), (.bool x.neg)]) rfl agg25 siz25 rfl (Bx.cells rfl)) ?_
      refine s_buildSlice (ps := [(0, (.agg #[(.int .i64 x.kind), (.slice xa x.set.length xc), (.slice ya x.args.length yc), (.int .i64 x.mn), (.int .i64 x.mx), (.bool x.neg)]))]) (c := #[(.int .i64 x.kind), (.slice xa x.set.length xc), (.slice ya x.args.length yc), (.int .i64 x.mn), (.int .i64 x.mx), (.bool x.neg)]) (by decide) rfl Try.underlying23 siz25 zer25 (by decide) (by decide) (by kernel_rfl) ?_
      intro bn wn Nn
      have Fn := Nn.ge E
      have On_bp := Nn.lt Bp
      have On_bx := Nn.lt Bx
      replace Bp := Nn.keep Bp
      replace Bx := Nn.keep Bx
      replace hO := own_ext hO Nn.ext
      replace hS := own_ext hS Nn.ext
      replace hbs := Nat.le_trans hbs Nn.ext.size
      replace E := E.ext Nn.ext
      have Bn := Nn.blk
      rw [sl_zero] at hk2
      subst hk2
      have hS' := own_cut (m := st'.length) hS (by omega) (by omega)
      rw [flat_pop hrs'.six hrs'.len] at hS'
      clear hS
      refine s_append (base := base) (n := outs.length) (m := 1) (xs := ro.flatten) (news := [(.int .i64 x.kind), (.slice xa x.set.length xc), (.slice ya x.args.length yc), (.int .i64 x.mn), (.int .i64 x.mx), (.bool x.neg)]) (size := 6) (bytes := 80) (v := (.slice oa outs.length oc)) (by decide) Try.underlying23 siz25 byt25 zer25 rfl (by decide) rfl hO rfl (rfl) (Bn.cells rfl) (by simp [Value.oneCell']) (by unfold maxLen; omega) (by omega) (hbs) ?_
      intro v9 w9 Ov9 Cv9 Dv9
      replace Bp := Cv9.keep (fun h => by have := (hO.lt _ h).1; omega) Bp
      replace Bx := Cv9.keep (fun h => absurd (hOw _ h) (by have := Nx.eq; omega)) Bx
      replace E := E.step Cv9 (fun x hx h => absurd (hO.lt x h).1 (by omega))
      obtain ⟨oa2, oc2, rfl⟩ := own_form Ov9
      have hS2 := own_apart hS' Cv9 hAp.slc.symm.slc.symm
      have hAp2 := Apart.app (hAp.slc.symm.slc.symm) hS' Dv9
      have hsz2 : Re.sizes (st' ++ [x]) = Re.sizes st' + x.size := by rw [Re.sizes_append]; simp [Re.sizes]
      have hxs := x.size_eq
      have hal := len_le_sizes x.args
      have hstl := len_le_sizes st'
      have hbs2 := Nat.le_trans hbs Cv9.size
      refine WpL_val rfl rfl (by decide) (r_assign (v := (.slice oa2 (outs.length + 1) oc2)) rfl) ?_
      refine WpL_nil ?_
      refine Wp_seq_region ?_
      refine WpL_val rfl rfl (by decide) (r_fieldAddr (b := bx) (o := 0) (o' := 2) rfl Try.underlying25 rfl siz23 rfl) ?_
      refine WpL_val rfl rfl (by decide) (r_load (v := (.slice ya x.args.length yc)) rfl flat23 (Bx.cell rfl)) ?_
      refine WpL_val rfl rfl (by decide) (r_lenSlice (ad := ya) (n := x.args.length) (cap := yc) Try.underlying23 rfl) ?_
      refine WpL_val rfl rfl (by decide) (r_sub (k := .i64) (a := ((x.args.length : Nat) : Int)) (b := 1) (c := ((x.args.length : Nat) : Int) - 1) rfl rfl (wI64 (by omega))) ?_
      refine WpL_val rfl rfl (by decide) (r_assign (v := (.int .i64 (((x.args.length : Nat) : Int) - 1))) rfl) ?_
      refine WpL_nil ?_
      refine Wp_block ?_
      refine Wp_loop (fun nn_ σ W6 => ∃ (i : Nat) (st2 : List Re) (rs2 : List (List Value)) (ka : Option Addr) (kc : Nat), (∃ jj_, σ = upds jj_ [(1, (.int .i64 most)), (5, (.slice oa2 (outs.length + 1) oc2)), (7, (.pointer (some ⟨bx, 0, none⟩))), (8, (.int .i64 (((i : Nat) : Int) - 1))), (6, (.slice ka st2.length kc))]) ∧ Chg none1 w0 W6 ∧ Blk W6 bp #[(.int .i64 t.kind), (.slice sa t.set.length sc), (.slice aa t.args.length ac), (.int .i64 t.mn), (.int .i64 t.mx), (.bool t.neg)] 25 ∧ Blk W6 bx #[(.int .i64 x.kind), (.slice xa x.set.length xc), (.slice ya x.args.length yc), (.int .i64 x.mn), (.int .i64 x.mx), (.bool x.neg)] 25 ∧ (i ≤ x.args.length) ∧ (W6.ownsRow base TE 6 (.slice oa2 (outs.length + 1) oc2) (outs.length + 1) (ro ++ [rowX x xa xc ya yc]).flatten) ∧ (W6.ownsRow base TE 6 (.slice ka st2.length kc) st2.length rs2.flatten) ∧ (Apart (.slice oa2 (outs.length + 1) oc2) (.slice ka st2.length kc)) ∧ (RowsOf w0 st2 rs2) ∧ (st2 = st' ++ (x.args.drop i).reverse) ∧ (base ≤ W6.heap.size) ∧ (∀ k, (Value.slice ka st2.length kc).ownBlock = some k → k ≠ bx) ∧ nn_ = 2 * i) (n := 2 * x.args.length) ?_ ?_
      · exact ⟨x.args.length, st', rs', _, _, Fits.out ⟨rfl, rfl, rfl, rfl, rfl, trivial⟩, E, Bp, Bx, Nat.le_refl _, (by simpa using Ov9), hS2, hAp2, hrs', (by simp), hbs2, (fun k h e => by have h1 : k < _ := hSw k h; have := Nx.eq; omega), rfl⟩
      · clear E Bp Bx
        rintro _ _ W6 ⟨i, st2, rs2, ka, kc, ⟨j6, rfl⟩, E, Bp, Bx, hi, hO2, hS2, hAp2, hrs2, hst, hbs2, hSx, rfl⟩
        refine Wp_seq ?_
        refine Wp_seq_region ?_
        refine WpL_val rfl rfl (by decide) (r_move (v := (.int .i64 (((i : Nat) : Int) - 1))) rfl) ?_
        refine WpL_val rfl rfl (by decide) (r_geq (k := .i64) (a := ((i : Nat) : Int) - 1) (b := 0) rfl rfl) ?_
        refine WpL_nil ?_
        refine Wp_cond (b := decide ((0 : Int) ≤ ((i : Nat) : Int) - 1)) rfl (fun hge => ?_) (fun hge => ?_)
        · have khge := hge
          replace hge := of_decide_eq_true hge
          obtain ⟨y, hy⟩ := get_of_lt (l := x.args) (i := i - 1) (by omega)
          obtain ⟨ab, ao, rfl, hres⟩ : ∃ b o, ya = some ⟨b, o, none⟩ ∧ ResAt w0 b o x.args := by
            rcases hxargs with h | h
            · rw [h] at hy; simp at hy
            · exact h
          obtain ⟨us, hus, hyt⟩ := hres.get hy
          obtain ⟨va, vc, za, zc, rfl, _, _, _⟩ := hyt.form
          have hbxl := Bx.lt
          refine Wp_skip ?_
          refine thn_normal ?_
          refine Wp_seq ?_
          refine Wp_block ?_
          refine Wp_region ?_
          refine WpL_val rfl rfl (by decide) (r_move (v := (.slice ka st2.length kc)) rfl) ?_
          refine WpL_val rfl rfl (by decide) (r_fieldAddr (b := bx) (o := 0) (o' := 2) rfl Try.underlying25 rfl siz23 rfl) ?_
          refine WpL_val rfl rfl (by decide) (r_load (v := (.slice (some ⟨ab, ao, none⟩) x.args.length yc)) rfl flat23 (Bx.cell rfl)) ?_
          refine WpL_val rfl rfl (by decide) (r_move (v := (.int .i64 (((i : Nat) : Int) - 1))) rfl) ?_
          refine WpL_val rfl rfl (by decide) (r_indexSlice (b := ab) (o := ao) (len := x.args.length) (cap := yc) (i := i - 1) (o' := ao + (i - 1) * 6) rfl rfl (by omega) Try.underlying23 siz25 (by omega) (by omega)) ?_
          refine WpL_val rfl rfl (by decide) (r_loadAgg (vs := [(.int .i64 y.kind), (.slice va y.set.length vc), (.slice za y.args.length zc), (.int .i64 y.mn), (.int .i64 y.mx), (.bool y.neg)]) rfl agg25 siz25 rfl (hus.ext E)) ?_
          have hst2l : st2.length = st'.length + (x.args.length - i) := by rw [hst]; simp
          refine s_buildSlice (ps := [(0, (.agg #[(.int .i64 y.kind), (.slice va y.set.length vc), (.slice za y.args.length zc), (.int .i64 y.mn), (.int .i64 y.mx), (.bool y.neg)]))]) (c := #[(.int .i64 y.kind), (.slice va y.set.length vc), (.slice za y.args.length zc), (.int .i64 y.mn), (.int .i64 y.mx), (.bool y.neg)]) (by decide) rfl Try.underlying23 siz25 zer25 (by decide) (by decide) (by kernel_rfl) ?_
          intro bm wm Nm
          have Fm := Nm.ge E
          have Om_bp := Nm.lt Bp
          have Om_bx := Nm.lt Bx
          replace Bp := Nm.keep Bp
          replace Bx := Nm.keep Bx
          replace hO2 := own_ext hO2 Nm.ext
          replace hS2 := own_ext hS2 Nm.ext
          replace hbs2 := Nat.le_trans hbs2 Nm.ext.size
          replace E := E.ext Nm.ext
          have Bm := Nm.blk
          refine s_append (base := base) (n := st2.length) (m := 1) (xs := rs2.flatten) (news := [(.int .i64 y.kind), (.slice va y.set.length vc), (.slice za y.args.length zc), (.int .i64 y.mn), (.int .i64 y.mx), (.bool y.neg)]) (size := 6) (bytes := 80) (v := (.slice ka st2.length kc)) (by decide) Try.underlying23 siz25 byt25 zer25 rfl (by decide) rfl hS2 rfl (rfl) (Bm.cells rfl) (by simp [Value.oneCell']) (by unfold maxLen; omega) (by omega) (hbs2) ?_
          intro v19 w19 Ov19 Cv19 Dv19
          replace Bp := Cv19.keep (fun h => by have := (hS2.lt _ h).1; omega) Bp
          replace Bx := Cv19.keep (fun h => hSx _ h rfl) Bx
          replace E := E.step Cv19 (fun x hx h => absurd (hS2.lt x h).1 (by omega))
          obtain ⟨ka2, kc2, rfl⟩ := own_form Ov19
          have hO3 := own_apart hO2 Cv19 hAp2.symm
          have hAp3 := (Apart.app hAp2.symm hO2 Dv19).symm
          have hl2 : (st2 ++ [y]).length = st2.length + 1 := by simp
          rw [← hl2] at Ov19 hAp3 Dv19 ⊢
          refine WpL_val rfl rfl (by decide) (r_assign (v := (.slice ka2 ((st2 ++ [y]).length) kc2)) rfl) ?_
          refine WpL_nil ?_
          refine inB_normal ?_
          refine thn_normal ?_
          refine Wp_region ?_
          refine WpL_val rfl rfl (by decide) (r_move (v := (.int .i64 (((i : Nat) : Int) - 1))) rfl) ?_
          refine WpL_val rfl rfl (by decide) (r_sub (k := .i64) (a := ((i : Nat) : Int) - 1) (b := 1) (c := (((i - 1 : Nat) : Nat) : Int) - 1) rfl rfl (by rw [wI64 (by omega)]; omega)) ?_
          refine WpL_val rfl rfl (by decide) (r_assign (v := (.int .i64 ((((i - 1 : Nat) : Nat) : Int) - 1))) rfl) ?_
          refine WpL_nil ?_
          refine thn_normal ?_
          exact ⟨2 * (i - 1), by omega, i - 1, st2 ++ [y], rs2 ++ [_], ka2, kc2, Fits.out ⟨rfl, rfl, rfl, rfl, rfl, trivial⟩, E, Bp, Bx, (by omega), hO3, (by simpa using Ov19), hAp3, hrs2.snoc hyt, (by rw [hst, drop_cons hy, show i - 1 + 1 = i from by omega]; simp), Nat.le_trans hbs2 Cv19.size, (fun k h e => by rcases Dv19 k h with h1 | h1; exact hSx k h1 e; have := Nm.size; omega), rfl⟩
        · have khge := hge
          replace hge := of_decide_eq_false hge
          obtain rfl : i = 0 := by omega
          have hl3 : (outs ++ [x]).length = outs.length + 1 := by simp
          rw [← hl3] at hO2 hAp2 ⊢
          refine Wp_exit ?_
          refine thn_exit ?_
          refine thn_exit ?_
          refine inB_here ?_
          refine inB_normal ?_
          refine thn_normal ?_
          exact ⟨t.size - (outs ++ [x]).length, by omega, outs ++ [x], st2, ro ++ [_], rs2, oa2, oc2, ka, kc, Fits.out ⟨rfl, rfl, rfl, trivial⟩, E, Bp, hO2, hS2, hAp2, hro.snoc hxr, hrs2, (by rw [hpre, hst]; simp [preLs, preLs_append, preL_eq x]), (by simp; omega), hbs2, rfl⟩
    · have khlt := hlt
      have hfin : outs = (preL t).take most.toNat := by
        simp at hlt
        rcases Nat.eq_zero_or_pos sts.length with h | h
        · have : sts = [] := List.eq_nil_of_length_eq_zero h
          subst this
          have hp : preL t = outs := by rw [hpre]; simp [preLs]
          rw [hp, List.take_of_length_le (by omega)]
        · have hle := hlt h
          have : outs.length = most.toNat := by omega
          rw [hpre, ← this, List.take_left' rfl]
      rw [← hfin]
      refine Wp_exit ?_
      refine thn_exit ?_
      refine thn_exit ?_
      refine inB_here ?_
      refine thn_normal ?_
      refine Wp_seq_region ?_
      refine WpL_val rfl rfl (by decide) (r_move (v := (.slice oa outs.length oc)) rfl) ?_
      refine WpL_val rfl rfl (by decide) (r_assign (v := (.slice oa outs.length oc)) rfl) ?_
      refine WpL_nil ?_
      refine Wp_ret ?_
      refine fin_tmp Try.results16 (v := (.slice oa outs.length oc)) rfl ?_
      exact ⟨oa, oc, ro, rfl, own_rows hO hro rfl, hro, E⟩
end Go.Proofs
