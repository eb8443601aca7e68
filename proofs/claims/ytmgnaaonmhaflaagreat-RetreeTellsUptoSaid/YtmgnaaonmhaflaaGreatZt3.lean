/- Contracts and plain lemmas, part 3. -/
import Derived.Tactics
import Derived.Deep.Quiet
import Derived.Laws.AppendOwn
import Derived.KernelRfl
import Derived.Laws.Entries
import Derived.Laws.Build
import Derived.Below
import Derived.RowKit3
import Derived.StillTail
import Derived.Sort.Grow
import Derived.Deep.Draws
import Derived.Test.YtmgnaaonmhaflaaGreatChecked
import Derived.Laws.StructEq
import Derived.MapKept
import Derived.Laws.BytesArg
import Derived.DeepKeys3
import Derived.Shelf.SlSortCmp.WholeK
import Derived.Shelf.Sort.Plain
import Derived.Shelf.Slices.CompactI
import Derived.Test.YtmgnaaonmhaflaaGreatProg
import Derived.Defers
import Derived.Recover
import Derived.OpenShut
import Derived.ChangeSlices
import Derived.Test.YtmgnaaonmhaflaaGreatRows
import Derived.SizedLaws
import Derived.Test.YtmgnaaonmhaflaaGreatZt2
namespace Go.Proofs
open Go Go.Eng
set_option maxRecDepth 100000
set_option linter.unusedVariables false
abbrev TE : Nat := 25
mutual
def preL : Re → List Re
  | .mk k set args mn mx ng => .mk k set args mn mx ng :: preLs args
def preLs : List Re → List Re
  | [] => []
  | t :: ts => preL t ++ preLs ts
end
theorem preL_eq (t : Re) : preL t = t :: preLs t.args := by cases t; simp only [preL, Re.args]
theorem preLs_append : ∀ (a b : List Re), preLs (a ++ b) = preLs a ++ preLs b
  | [], b => by simp [preLs]
  | x :: a, b => by simp only [List.cons_append, preLs, preLs_append a b, List.append_assoc]
mutual
theorem preL_len : ∀ (t : Re), (preL t).length = t.size
  | .mk k set args mn mx ng => by simp only [preL, Re.size, List.length_cons, preLs_len args]
theorem preLs_len : ∀ (ts : List Re), (preLs ts).length = Re.sizes ts
  | [] => by simp [preLs, Re.sizes]
  | t :: ts => by simp only [preLs, Re.sizes, List.length_append, preL_len t, preLs_len ts]
end
theorem len_le_sizes : ∀ (ts : List Re), ts.length ≤ Re.sizes ts
  | [] => by simp
  | t :: ts => by have := len_le_sizes ts; have := t.size_pos; simp only [Re.sizes, List.length_cons]; omega
theorem sizes_reverse (ts : List Re) : Re.sizes ts.reverse = Re.sizes ts := by
  induction ts with
  | nil => rfl
  | cons t ts ih => simp only [List.reverse_cons, Re.sizes_append, ih, Re.sizes]; omega
def RowsOf (w : World) : List Re → List (List Value) → Prop
  | [], [] => True
  | t :: ts, r :: rs => ReAt w t r ∧ RowsOf w ts rs
  | _, _ => False
theorem RowsOf.ext {w w' : World} (e : Ext w w') : ∀ {ts : List Re} {rs : List (List Value)}, RowsOf w ts rs → RowsOf w' ts rs
  | [], [], _ => trivial
  | t :: ts, r :: rs, h => ⟨ReAt.ext e t h.1, RowsOf.ext e h.2⟩
  | [], _ :: _, h => h.elim
  | _ :: _, [], h => h.elim
theorem RowsOf.len {w : World} : ∀ {ts : List Re} {rs : List (List Value)}, RowsOf w ts rs → rs.length = ts.length
  | [], [], _ => rfl
  | t :: ts, r :: rs, h => by simp only [List.length_cons, RowsOf.len h.2]
  | [], _ :: _, h => h.elim
  | _ :: _, [], h => h.elim
theorem RowsOf.six {w : World} : ∀ {ts : List Re} {rs : List (List Value)}, RowsOf w ts rs → ∀ r ∈ rs, r.length = 6
  | [], [], _, r, hr => by cases hr
  | t :: ts, r :: rs, h, r', hr => by
    rcases List.mem_cons.1 hr with rfl | hr
    · exact h.1.len
    · exact RowsOf.six h.2 r' hr
  | [], _ :: _, h, _, _ => h.elim
  | _ :: _, [], h, _, _ => h.elim
theorem RowsOf.snoc {w : World} : ∀ {ts : List Re} {rs : List (List Value)}, RowsOf w ts rs → ∀ {t : Re} {r : List Value}, ReAt w t r → RowsOf w (ts ++ [t]) (rs ++ [r])
  | [], [], _, _, _, h => ⟨h, trivial⟩
  | t :: ts, r :: rs, h, _, _, h' => ⟨h.1, RowsOf.snoc h.2 h'⟩
  | [], _ :: _, h, _, _, _ => h.elim
  | _ :: _, [], h, _, _, _ => h.elim
theorem RowsOf.get {w : World} : ∀ {ts : List Re} {rs : List (List Value)}, RowsOf w ts rs → ∀ {i : Nat} {t : Re}, ts[i]? = some t → ∃ r, rs[i]? = some r ∧ ReAt w t r
  | [], [], _, _, _, h => by simp at h
  | t :: ts, r :: rs, h, 0, _, h' => by simp at h'; subst h'; exact ⟨r, rfl, h.1⟩
  | t :: ts, r :: rs, h, i + 1, _, h' => by
    obtain ⟨r', h1, h2⟩ := RowsOf.get h.2 (i := i) (by simpa using h')
    exact ⟨r', by simpa using h1, h2⟩
  | [], _ :: _, h, _, _, _ => h.elim
  | _ :: _, [], h, _, _, _ => h.elim
theorem RowsOf.pop {w : World} : ∀ {ts : List Re} {rs : List (List Value)} {t : Re}, RowsOf w (ts ++ [t]) rs → ∃ rs' r, rs = rs' ++ [r] ∧ RowsOf w ts rs' ∧ ReAt w t r
  | [], [], _, h => h.elim
  | [], [r], _, h => ⟨[], r, rfl, trivial, h.1⟩
  | [], r :: r' :: rs, _, h => h.2.elim
  | t :: ts, [], _, h => h.elim
  | t :: ts, r :: rs, t', h => by
    obtain ⟨rs', r', h1, h2, h3⟩ := RowsOf.pop (ts := ts) h.2
    exact ⟨r :: rs', r', by rw [h1]; rfl, ⟨h.1, h2⟩, h3⟩
def Apart (u v : Value) : Prop := ∀ k, u.ownBlock = some k → v.ownBlock ≠ some k
theorem Apart.symm {u v : Value} (h : Apart u v) : Apart v u := fun k h1 h2 => h k h2 h1
theorem Apart.slc {a : Option Addr} {n c n' c' : Nat} {v : Value} (h : Apart (.slice a n c) v) : Apart (.slice a n' c') v := by
 cases a <;> exact h
theorem Apart.app {w : World} {base e size n : Nat} {u u' v : Value} {xs : List Value} (h : Apart u v) (hv : w.ownsRow base e size v n xs) (D : ∀ k, u'.ownBlock = some k → u.ownBlock = some k ∨ w.heap.size ≤ k) : Apart u' v := fun k h1 h2 => by
 rcases D k h1 with h3 | h3
 ·exact h k h3 h2
 ·have := (hv.lt k h2).2; omega
theorem Apart.nil (v : Value) : Apart (.slice none 0 0) v := fun k h => by cases h
theorem own_apart {w w' : World} {base e size n : Nat} {u v : Value} {xs : List Value} (h : w.ownsRow base e size v n xs) (C : Chg (fun x => u.ownBlock = some x) w w') (hd : Apart u v) : w'.ownsRow base e size v n xs :=
 own_chg h C fun k hk hm => hd k hm hk
theorem sl_zero {a : Option Addr} {c m : Nat} : (if c = 0 then a else Option.map (fun q : Addr => q.add (0 * m)) a) = a := by
 split
 ·rfl
 ·cases a <;> simp [Addr.add]
theorem own_rows {w : World} {base e n : Nat} {v : Value} {ts : List Re} {rs : List (List Value)} {w0 : World} (h : w.ownsRow base e 6 v n rs.flatten) (hr : RowsOf w0 ts rs) (hn : ts.length = n) : SlAt w 6 v rs :=
 own_slat h hr.six (by rw [hr.len, hn]) (by decide)
theorem flat_len {rs : List (List Value)} (h : ∀ r ∈ rs, r.length = 6) : rs.flatten.length = rs.length * 6 := by
  induction rs with
  | nil => rfl
  | cons r rs ih => rw [List.flatten_cons, List.length_append, ih (fun r' hr' => h r' (List.mem_cons_of_mem _ hr')), h r List.mem_cons_self, List.length_cons]; omega
theorem flat_pop {rs : List (List Value)} {r : List Value} {n : Nat} (h : ∀ r ∈ rs, r.length = 6) (hn : rs.length = n) : ((rs ++ [r]).flatten).take (n * 6) = rs.flatten := by
 rw [List.flatten_append, List.take_append_of_le_length (by rw [flat_len h, hn]; exact Nat.le_refl _), List.take_of_length_le (by rw [flat_len h, hn]; exact Nat.le_refl _)]
theorem snoc_of {α : Type} {l : List α} (h : 0 < l.length) : ∃ l' x, l = l' ++ [x] := by
 rcases List.eq_nil_or_concat l with rfl | ⟨l', x, rfl⟩
 ·simp at h
 ·exact ⟨l', x, List.concat_eq_append⟩
abbrev rowX (x : Re) (xa : Option Addr) (xc : Nat) (ya : Option Addr) (yc : Nat) : List Value := [.int .i64 x.kind, .slice xa x.set.length xc, .slice ya x.args.length yc, .int .i64 x.mn, .int .i64 x.mx, .bool x.neg]
set_option maxHeartbeats 4000000 in
theorem pre_c (w0 : World) (t : Re) (vs : List Value) (most : Int) (ht : ReAt w0 t vs) (hs : t.size ≤ 2097152) :
  Ret Tryz.prog 11 #[.agg vs.toArray, .int .i64 most] w0 fun v w => ∃ a c rows, v = .slice a ((preL t).take most.toNat).length c ∧ SlAt w 6 v rows ∧ RowsOf w0 ((preL t).take most.toNat) rows ∧ Ext w0 w := by
 have ht0 := ht
 obtain ⟨sa, sc, aa, ac, rfl, hset, hlen, hargs⟩ := ht.form
 refine Ret_of Tryz.func11 rfl Tryz.ntmps11 (Nat.le_of_ble_eq_true rfl) ?_
 have E : Chg none1 w0 w0 := Chg.refl _ _
 refine Wp_seq_region ?_
 refine s_box (v := (.agg (R6 t sa sc aa ac))) (c := (R6 t sa sc aa ac)) (by decide) rfl rfl ?_
 intro bp wp Np
 have Fp := Np.ge E
 replace E := E.ext Np.ext
 have Bp := Np.blk
 refine qA _ rfl ?_
 refine WpL_nil (Wp_seq_region ?_)
 refine qA _ rfl ?_
 refine WpL_nil (Wp_seq_region ?_)
 refine qV (r_loadAgg (vs := [(I6 t.kind), (.slice sa t.set.length sc), (.slice aa t.args.length ac), (I6 t.mn), (I6 t.mx), (.bool t.neg)]) rfl agg25 siz25 rfl (Bp.cells rfl)) ?_
 refine s_buildSlice (ps := [(0, (.agg (R6 t sa sc aa ac)))]) (c := (R6 t sa sc aa ac)) (by decide) rfl Tryz.underlying23 siz25 zer25 (by decide) (by decide) (by kernel_rfl) ?_
 intro bq wq Nq
 have Fq := Nq.ge E
 have Oq_bp := Nq.lt Bp
 replace Bp := Nq.keep Bp
 replace E := E.ext Nq.ext
 have Bq := Nq.blk
 refine qA _ rfl ?_
 refine WpL_nil (Wp_seq (Wp_block ?_))
 obtain ⟨base, hbase⟩ : ∃ base, base = wp.heap.size := ⟨_, rfl⟩
 have hb0 : w0.heap.size ≤ base := by have := Np.size; omega
 have hpb : bp < base := by have := Np.size; have := Np.eq; omega
 have hqb : base ≤ bq := by have := Nq.eq; omega
 have hrow1 : wq.ownsRow base TE 6 (.slice (some ⟨bq, 0, none⟩) 1 1) 1 ([[.int .i64 t.kind, .slice sa t.set.length sc, .slice aa t.args.length ac, .int .i64 t.mn, .int .i64 t.mx, .bool t.neg]] : List (List Value)).flatten := ⟨rfl, .inr ⟨bq, 1, _, rfl, hqb, Bq, by decide, by decide, rfl, rfl⟩⟩
 have hbsq : base ≤ wq.heap.size := by have := Nq.size; omega
 refine Wp_loop (fun nn_ σ W1 => ∃ (outs sts : List Re) (ro rs : List (List Value)) (oa : Option Addr) (oc : Nat) (ka : Option Addr) (kc : Nat), (∃ jj_, σ = upds jj_ [(1, (I6 most)), (5, (.slice oa outs.length oc)), (6, (.slice ka sts.length kc))]) ∧ Chg none1 w0 W1 ∧ Blk W1 bp (R6 t sa sc aa ac) 25 ∧ (W1.ownsRow base TE 6 (.slice oa outs.length oc) outs.length ro.flatten) ∧ (W1.ownsRow base TE 6 (.slice ka sts.length kc) sts.length rs.flatten) ∧ (Apart (.slice oa outs.length oc) (.slice ka sts.length kc)) ∧ (RowsOf w0 outs ro) ∧ (RowsOf w0 sts rs) ∧ (preL t = outs ++ preLs sts.reverse) ∧ (outs.length ≤ most.toNat) ∧ (base ≤ W1.heap.size) ∧ nn_ = t.size - outs.length) (n := t.size - ([] : List Re).length) ?_ ?_
 ·exact ⟨([] : List Re), [t], ([] : List (List Value)), [[.int .i64 t.kind, .slice sa t.set.length sc, .slice aa t.args.length ac, .int .i64 t.mn, .int .i64 t.mx, .bool t.neg]], none, 0, some ⟨bq, 0, none⟩, 1, Fits.out ⟨rfl, rfl, rfl, trivial⟩, E, Bp, World.ownsRow_nil _ _ _ _, hrow1, Apart.nil _, trivial, ⟨ht0, trivial⟩, (by simp [preLs]), Nat.zero_le _, hbsq, rfl⟩
 ·clear E Bp
  rintro _ _ W1 ⟨outs, sts, ro, rs, oa, oc, ka, kc, ⟨j1, rfl⟩, E, Bp, hO, hS, hAp, hro, hrs, hpre, hmo, hbs, rfl⟩
  have hsz : outs.length + Re.sizes sts = t.size := by rw [← preL_len t, hpre, List.length_append, preLs_len, sizes_reverse]
  have hsl := len_le_sizes sts
  refine Wp_seq (Wp_seq_region ?_)
  refine qM _ rfl ?_
  refine qV (r_lenSlice Tryz.underlying23 rfl) ?_
  obtain ⟨e2, he2⟩ : ∃ e, (decide ((0 : Int) < ((sts.length : Nat) : Int))) = e := ⟨_, rfl⟩
  refine qV ((r_gtr rfl rfl).trans (by rw [he2]; try rfl)) ?_
  refine qM _ rfl ?_
  refine qG (.bool e2) (yU e2 (.slice oa outs.length oc)) (by cases e2 <;> first | exact gA | exact gB | exact .inl ⟨rfl, r_move rfl⟩) ?_
  refine qG (.bool e2) (yU e2 (I6 (outs.length : Int))) (by cases e2 <;> first | exact gA | exact gB | exact .inl ⟨rfl, r_lenSlice Tryz.underlying23 rfl⟩) ?_
  refine qG (.bool e2) (yU e2 (I6 most)) (by cases e2 <;> first | exact gA | exact gB | exact .inl ⟨rfl, r_move rfl⟩) ?_
  obtain ⟨e3, he3⟩ : ∃ e, (decide ((((outs.length : Nat) : Int) : Int) < most)) = e := ⟨_, rfl⟩
  refine qG (.bool e2) (yU e2 (.bool e3)) (by cases e2 <;> first | exact gA | exact gB | exact .inl ⟨rfl, (r_lss rfl rfl).trans (by rw [he3]; try rfl)⟩) ?_
  obtain ⟨e4, he4⟩ : ∃ e, (e2 && e3) = e := ⟨_, rfl⟩
  refine qV (r_pick (v := .bool e4) rfl (by rw [← he4]; cases e2 <;> rfl)) ?_
  refine WpL_nil ?_
  subst he4
  subst he3
  subst he2
  refine Wp_cond rfl (fun hlt => ?_) (fun hlt => ?_)
  ·have khlt := hlt
   simp at hlt
   have hOw := fun k h => (hO.lt k h).2
   have hSw := fun k h => (hS.lt k h).2
   obtain ⟨st', x, rfl⟩ := snoc_of (l := sts) (by omega)
   obtain ⟨rs', r, rfl, hrs', hxr⟩ := hrs.pop
   obtain ⟨xa, xc, ya, yc, rfl, hxset, hxlen, hxargs⟩ := hxr.form
   have hS6 : RowsOf w0 (st' ++ [x]) (rs' ++ [_]) := hrs'.snoc hxr
   obtain ⟨kb, ko, rfl, hkc⟩ := SlAt.at (own_rows hS hS6 rfl) (by omega)
   have hkl : (st' ++ [x]).length = st'.length + 1 := by simp
   have hr' := hkc st'.length _ (by rw [List.getElem?_append_right (by rw [hrs'.len]; exact Nat.le_refl _), hrs'.len]; simp; rfl)
   have hkcap := (SlAt.cap (own_rows hS hS6 rfl)).1
   refine Wp_skip (thn_normal (Wp_block (Wp_seq_region ?_)))
   refine qM _ rfl ?_
   refine qM _ rfl ?_
   refine qV (r_lenSlice Tryz.underlying23 rfl) ?_
   refine qV (r_sub rfl rfl (wI64 (by omega))) ?_
   refine qV (r_indexSlice (b := kb) (o := ko) (len := (st' ++ [x]).length) (cap := kc) (i := st'.length) (o' := ko + st'.length * 6) rfl rfl (by omega) Tryz.underlying23 siz25 (by omega) (by omega)) ?_
   refine qV (r_loadAgg rfl agg25 siz25 rfl (hr')) ?_
   refine s_allocStore (v := (.agg (R6 x xa xc ya yc))) (c := (R6 x xa xc ya yc)) (n := 6) (by decide) zer25 rfl siz25 rfl rfl rfl (by simp [Value.oneCell']) ?_
   intro bx wx Nx
   have Fx := Nx.ge E
   have Ox_bp := Nx.lt Bp
   replace Bp := Nx.keep Bp
   replace hO := own_ext hO Nx.ext
   replace hS := own_ext hS Nx.ext
   replace hbs := Nat.le_trans hbs Nx.ext.size
   replace E := E.ext Nx.ext
   have Bx := Nx.blk
   refine WpL_nil (Wp_seq_region ?_)
   refine qM _ rfl ?_
   refine qM _ rfl ?_
   refine qV (r_lenSlice Tryz.underlying23 rfl) ?_
   refine qV (r_sub rfl rfl (wI64 (by omega))) ?_
   obtain ⟨k2, hk2⟩ : ∃ a' : Option Addr, (if kc = 0 then (some ⟨kb, ko, none⟩) else Option.map (fun q : Addr => q.add (0 * 6)) (some ⟨kb, ko, none⟩)) = a' := ⟨_, rfl⟩
   refine qV (r_sliceHi (hi := st'.length) Tryz.underlying23 siz25 rfl rfl (by omega) (by omega) hk2) ?_
   refine qA _ rfl ?_
   refine WpL_nil (Wp_seq_region ?_)
   refine qM _ rfl ?_
   refine qV (r_loadAgg (vs := [(I6 x.kind), (.slice xa x.set.length xc), (.slice ya x.args.length yc), (I6 x.mn), (I6 x.mx), (.bool x.neg)]) rfl agg25 siz25 rfl (Bx.cells rfl)) ?_
   refine s_buildSlice (ps := [(0, (.agg (R6 x xa xc ya yc)))]) (c := (R6 x xa xc ya yc)) (by decide) rfl Tryz.underlying23 siz25 zer25 (by decide) (by decide) (by kernel_rfl) ?_
   intro bn wn Nn
   have Fn := Nn.ge E
   have On_bp := Nn.lt Bp
   have On_bx := Nn.lt Bx
   replace Bp := Nn.keep Bp
   replace Bx := Nn.keep Bx
   replace hO := own_ext hO Nn.ext
   replace hS := own_ext hS Nn.ext
   replace hbs := Nat.le_trans hbs Nn.ext.size
   replace E := E.ext Nn.ext
   have Bn := Nn.blk
   rw [sl_zero] at hk2
   subst hk2
   have hS' := own_cut (m := st'.length) hS (by omega) (by omega)
   rw [flat_pop hrs'.six hrs'.len] at hS'
   clear hS
   refine s_append (base := base) (n := outs.length) (m := 1) (xs := ro.flatten) (news := [(I6 x.kind), (.slice xa x.set.length xc), (.slice ya x.args.length yc), (I6 x.mn), (I6 x.mx), (.bool x.neg)]) (size := 6) (bytes := 80) (v := (.slice oa outs.length oc)) (by decide) Tryz.underlying23 siz25 byt25 zer25 rfl (by decide) rfl hO rfl (rfl) (Bn.cells rfl) (by simp [Value.oneCell']) (by unfold maxLen; omega) (by omega) (hbs) ?_
   intro v9 w9 Ov9 Cv9 Dv9
   replace Bp := Cv9.keep (fun h => by have := (hO.lt _ h).1; omega) Bp
   replace Bx := Cv9.keep (fun h => absurd (hOw _ h) (by have := Nx.eq; omega)) Bx
   replace E := E.step Cv9 (fun x hx h => absurd (hO.lt x h).1 (by omega))
   obtain ⟨oa2, oc2, rfl⟩ := own_form Ov9
   have hS2 := own_apart hS' Cv9 hAp.slc.symm.slc.symm
   have hAp2 := Apart.app (hAp.slc.symm.slc.symm) hS' Dv9
   have hsz2 : Re.sizes (st' ++ [x]) = Re.sizes st' + x.size := by rw [Re.sizes_append]; simp [Re.sizes]
   have hxs := x.size_eq
   have hal := len_le_sizes x.args
   have hstl := len_le_sizes st'
   have hbs2 := Nat.le_trans hbs Cv9.size
   refine qA _ rfl ?_
   refine WpL_nil (Wp_seq_region ?_)
   refine qF bx 0 2 rfl Tryz.underlying25 rfl siz23 rfl ?_
   refine qV (r_load rfl flat23 (Bx.cell rfl)) ?_
   refine qV (r_lenSlice Tryz.underlying23 rfl) ?_
   refine qV (r_sub rfl rfl (wI64 (by omega))) ?_
   refine qA _ rfl ?_
   refine WpL_nil (Wp_block ?_)
   refine Wp_loop (fun nn_ σ W6 => ∃ (i : Nat) (st2 : List Re) (rs2 : List (List Value)) (ka : Option Addr) (kc : Nat), (∃ jj_, σ = upds jj_ [(1, (I6 most)), (5, (.slice oa2 (outs.length + 1) oc2)), (7, (P6 bx 0)), (8, (I6 ((i : Int) - 1))), (6, (.slice ka st2.length kc))]) ∧ Chg none1 w0 W6 ∧ Blk W6 bp (R6 t sa sc aa ac) 25 ∧ Blk W6 bx (R6 x xa xc ya yc) 25 ∧ (i ≤ x.args.length) ∧ (W6.ownsRow base TE 6 (.slice oa2 (outs.length + 1) oc2) (outs.length + 1) (ro ++ [rowX x xa xc ya yc]).flatten) ∧ (W6.ownsRow base TE 6 (.slice ka st2.length kc) st2.length rs2.flatten) ∧ (Apart (.slice oa2 (outs.length + 1) oc2) (.slice ka st2.length kc)) ∧ (RowsOf w0 st2 rs2) ∧ (st2 = st' ++ (x.args.drop i).reverse) ∧ (base ≤ W6.heap.size) ∧ (∀ k, (Value.slice ka st2.length kc).ownBlock = some k → k ≠ bx) ∧ nn_ = 2 * i) (n := 2 * x.args.length) ?_ ?_
   ·exact ⟨x.args.length, st', rs', _, _, Fits.out ⟨rfl, rfl, rfl, rfl, rfl, trivial⟩, E, Bp, Bx, Nat.le_refl _, (by simpa using Ov9), hS2, hAp2, hrs', (by simp), hbs2, (fun k h e => by have h1 : k < _ := hSw k h; have := Nx.eq; omega), rfl⟩
   ·clear E Bp Bx
    rintro _ _ W6 ⟨i, st2, rs2, ka, kc, ⟨j6, rfl⟩, E, Bp, Bx, hi, hO2, hS2, hAp2, hrs2, hst, hbs2, hSx, rfl⟩
    refine Wp_seq (Wp_seq_region ?_)
    refine qM _ rfl ?_
    refine qV (r_geq rfl rfl) ?_
    refine WpL_nil ?_
    refine Wp_cond rfl (fun hge => ?_) (fun hge => ?_)
    ·have khge := hge
     replace hge := of_decide_eq_true hge
     obtain ⟨y, hy⟩ := get_of_lt (l := x.args) (i := i - 1) (by omega)
     obtain ⟨ab, ao, rfl, hres⟩ : ∃ b o, ya = some ⟨b, o, none⟩ ∧ ResAt w0 b o x.args := by
      rcases hxargs with h | h
      ·rw [h] at hy; simp at hy
      ·exact h
     obtain ⟨us, hus, hyt⟩ := hres.get hy
     obtain ⟨va, vc, za, zc, rfl, _, _, _⟩ := hyt.form
     have hbxl := Bx.lt
     refine Wp_skip (thn_normal (Wp_seq (Wp_block (Wp_region ?_))))
     refine qM _ rfl ?_
     refine qF bx 0 2 rfl Tryz.underlying25 rfl siz23 rfl ?_
     refine qV (r_load rfl flat23 (Bx.cell rfl)) ?_
     refine qM _ rfl ?_
     refine qV (r_indexSlice (b := ab) (o := ao) (len := x.args.length) (cap := yc) (i := i - 1) (o' := ao + (i - 1) * 6) rfl rfl (by omega) Tryz.underlying23 siz25 (by omega) (by omega)) ?_
     refine qV (r_loadAgg rfl agg25 siz25 rfl (hus.ext E)) ?_
     have hst2l : st2.length = st'.length + (x.args.length - i) := by rw [hst]; simp
     refine s_buildSlice (ps := [(0, (.agg (R6 y va vc za zc)))]) (c := (R6 y va vc za zc)) (by decide) rfl Tryz.underlying23 siz25 zer25 (by decide) (by decide) (by kernel_rfl) ?_
     intro bm wm Nm
     have Fm := Nm.ge E
     have Om_bp := Nm.lt Bp
     have Om_bx := Nm.lt Bx
     replace Bp := Nm.keep Bp
     replace Bx := Nm.keep Bx
     replace hO2 := own_ext hO2 Nm.ext
     replace hS2 := own_ext hS2 Nm.ext
     replace hbs2 := Nat.le_trans hbs2 Nm.ext.size
     replace E := E.ext Nm.ext
     have Bm := Nm.blk
     refine s_append (base := base) (n := st2.length) (m := 1) (xs := rs2.flatten) (news := [(I6 y.kind), (.slice va y.set.length vc), (.slice za y.args.length zc), (I6 y.mn), (I6 y.mx), (.bool y.neg)]) (size := 6) (bytes := 80) (v := (.slice ka st2.length kc)) (by decide) Tryz.underlying23 siz25 byt25 zer25 rfl (by decide) rfl hS2 rfl (rfl) (Bm.cells rfl) (by simp [Value.oneCell']) (by unfold maxLen; omega) (by omega) (hbs2) ?_
     intro v19 w19 Ov19 Cv19 Dv19
     replace Bp := Cv19.keep (fun h => by have := (hS2.lt _ h).1; omega) Bp
     replace Bx := Cv19.keep (fun h => hSx _ h rfl) Bx
     replace E := E.step Cv19 (fun x hx h => absurd (hS2.lt x h).1 (by omega))
     obtain ⟨ka2, kc2, rfl⟩ := own_form Ov19
     have hO3 := own_apart hO2 Cv19 hAp2.symm
     have hAp3 := (Apart.app hAp2.symm hO2 Dv19).symm
     have hl2 : (st2 ++ [y]).length = st2.length + 1 := by simp
     rw [← hl2] at Ov19 hAp3 Dv19 ⊢
     refine qA _ rfl ?_
     refine WpL_nil (inB_normal (thn_normal (Wp_region ?_)))
     refine qM _ rfl ?_
     refine qV (r_sub (c := (((i - 1 : Nat) : Nat) : Int) - 1) rfl rfl (by rw [wI64 (by omega)]; omega)) ?_
     refine qA _ rfl ?_
     refine WpL_nil (thn_normal ?_)
     exact ⟨2 * (i - 1), by omega, i - 1, st2 ++ [y], rs2 ++ [_], ka2, kc2, Fits.out ⟨rfl, rfl, rfl, rfl, rfl, trivial⟩, E, Bp, Bx, (by omega), hO3, (by simpa using Ov19), hAp3, hrs2.snoc hyt, (by rw [hst, drop_cons hy, show i - 1 + 1 = i from by omega]; simp), Nat.le_trans hbs2 Cv19.size, (fun k h e => by rcases Dv19 k h with h1 | h1; exact hSx k h1 e; have := Nm.size; omega), rfl⟩
    ·have khge := hge
     replace hge := of_decide_eq_false hge
     obtain rfl : i = 0 := by omega
     have hl3 : (outs ++ [x]).length = outs.length + 1 := by simp
     rw [← hl3] at hO2 hAp2 ⊢
     refine Wp_exit (thn_exit (thn_exit (inB_here (inB_normal (thn_normal ?_)))))
     exact ⟨t.size - (outs ++ [x]).length, by omega, outs ++ [x], st2, ro ++ [_], rs2, oa2, oc2, ka, kc, Fits.out ⟨rfl, rfl, rfl, trivial⟩, E, Bp, hO2, hS2, hAp2, hro.snoc hxr, hrs2, (by rw [hpre, hst]; simp [preLs, preLs_append, preL_eq x]), (by simp; omega), hbs2, rfl⟩
  ·have khlt := hlt
   have hfin : outs = (preL t).take most.toNat := by
    simp at hlt
    rcases Nat.eq_zero_or_pos sts.length with h | h
    ·have : sts = [] := List.eq_nil_of_length_eq_zero h
     subst this
     have hp : preL t = outs := by rw [hpre]; simp [preLs]
     rw [hp, List.take_of_length_le (by omega)]
    ·have hle := hlt h
     have : outs.length = most.toNat := by omega
     rw [hpre, ← this, List.take_left' rfl]
   rw [← hfin]
   refine Wp_exit (thn_exit (thn_exit (inB_here (thn_normal (Wp_seq_region ?_)))))
   refine qM _ rfl ?_
   refine qA _ rfl ?_
   refine WpL_nil (Wp_ret ?_)
   refine fin_tmp Tryz.results11 (v := (.slice oa outs.length oc)) rfl ?_
   exact ⟨oa, oc, ro, rfl, own_rows hO hro rfl, hro, E⟩
end Go.Proofs
namespace Go.Proofs
open Go Go.Eng
set_option maxRecDepth 100000
section
variable {S : Type} (F : S → Re → Bool × S)
def walkL : List Re → S → Bool × S
  | [], s => (true, s)
  | t :: ts, s => if (F s t).1 then walkL ts (F s t).2 else (false, (F s t).2)
theorem walkL_append : ∀ (a b : List Re) (s : S), walkL F (a ++ b) s = if (walkL F a s).1 then walkL F b (walkL F a s).2 else (false, (walkL F a s).2)
  | [], b, s => by simp [walkL]
  | x :: a, b, s => by
    simp only [List.cons_append, walkL]
    split
    · exact walkL_append a b _
    · simp
mutual
theorem walkF_list : ∀ (t : Re) (s : S), walkF F t s = walkL F (preL t) s
  | .mk k set args mn mx ng, s => by
    rw [walkF_eq, preL_eq]
    simp only [walkL, Re.args]
    rw [walkFs_list args]
theorem walkFs_list : ∀ (ts : List Re) (s : S), walkFs F ts s = walkL F (preLs ts) s
  | [], s => by simp only [walkFs, preLs, walkL]
  | t :: ts, s => by
    rw [walkFs_cons]
    simp only [preLs]
    rw [walkL_append, ← walkF_list t, ← walkFs_list ts]
end
end
def chkL (m : Nat) : Nat → List Re → Int
  | _, [] => 0
  | i, x :: xs => if i = m then 2 else if nodeE x ≠ 0 then nodeE x else chkL m (i + 1) xs
theorem chk_walk (m : Nat) (hm : m ≤ 1000000) : ∀ (l : List Re) (n : Nat), n ≤ m → (walkL (fitF (m : Int)) l ((n : Int), 0)).2.2 = chkL m n (l.take (m + 1 - n))
  | [], n, _ => by simp [walkL, chkL]
  | x :: xs, n, hn => by
    simp only [walkL]
    rw [fitF_eq x (by omega) (by omega)]
    rw [show m + 1 - n = (m - n) + 1 from by omega, List.take_succ_cons]
    simp only [chkL]
    by_cases h : n = m
    · rw [if_pos h, if_pos (by omega : (m : Int) < (n : Int) + 1)]; simp
    · rw [if_neg h, if_neg (by omega : ¬ (m : Int) < (n : Int) + 1)]
      by_cases h2 : nodeE x = 0
      · have := chk_walk m hm xs (n + 1) (by omega)
        rw [show m + 1 - (n + 1) = m - n from by omega] at this
        simp only [h2, decide_true, if_true, ne_eq, not_true, if_false]
        rw [← this]; rfl
      · rw [if_pos h2]; simp [h2]
theorem fits_chk {t : Re} {m : Nat} (hm : m ≤ 1000000) : fitsE t (m : Int) = chkL m 0 ((preL t).take (m + 1)) := by
 unfold fitsE
 rw [walkF_list]
 exact chk_walk m hm (preL t) 0 (Nat.zero_le _)
set_option maxHeartbeats 1000000 in
theorem refck_c (w0 : World) (t : Re) (vs : List Value) (m : Nat) (hm : m ≤ 1000000) (ht : ReAt w0 t vs) (hs : t.size ≤ 2097152) :
  Ret Tryz.prog 7 #[.agg vs.toArray, .int .i64 (m : Int)] w0 fun v w => v = .int .i64 (fitsE t (m : Int)) ∧ Ext w0 w := by
 have ht0 := ht
 obtain ⟨sa, sc, aa, ac, rfl, hset, hlen, hargs⟩ := ht.form
 rw [fits_chk hm]
 refine Ret_of Tryz.func7 rfl Tryz.ntmps7 (Nat.le_of_ble_eq_true rfl) ?_
 have E : Chg none1 w0 w0 := Chg.refl _ _
 refine Wp_seq_region ?_
 refine s_box (v := (.agg (R6 t sa sc aa ac))) (c := (R6 t sa sc aa ac)) (by decide) rfl rfl ?_
 intro b1 w1 N1
 have F1 := N1.ge E
 replace E := E.ext N1.ext
 have B1 := N1.blk
 refine qA _ rfl ?_
 refine WpL_nil (Wp_seq (Wp_seq_region ?_))
 refine qV (r_loadAgg (vs := [(I6 t.kind), (.slice sa t.set.length sc), (.slice aa t.args.length ac), (I6 t.mn), (I6 t.mx), (.bool t.neg)]) rfl agg25 siz25 rfl (B1.cells rfl)) ?_
 refine qM _ rfl ?_
 refine qV (r_add (c := ((m + 1 : Nat) : Int)) rfl rfl (by rw [wI64 (by omega)]; omega)) ?_
 refine WpL_enter rfl rfl (by decide) (r_callF Tryz.func11 nm11 bd11 rfl) (pre_c _ t _ _ (ReAt.ext E t ht0) hs) ?_
 rintro _ w9 ⟨la, lc, rows, rfl, hsl, hrows, X9⟩
 replace B1 := X9.keep B1
 replace E := E.ext X9
 have hll : ((preL t).take (m + 1)).length ≤ m + 1 := by simp; omega
 obtain ⟨L, hL⟩ : ∃ L, L = (preL t).take (m + 1) := ⟨_, rfl⟩
 have hrows' : RowsOf w9 L rows := by rw [hL]; exact RowsOf.ext X9 hrows
 clear hrows
 rw [show ((m + 1 : Nat) : Int).toNat = m + 1 from rfl] at hsl
 rw [show ((m + 1 : Nat) : Int).toNat = m + 1 from rfl]
 rw [← hL] at hsl hll ⊢
 clear hL
 have wq0 : Ext w9 w9 := Ext.refl _
 have EQ : Chg none1 w9 w9 := Chg.refl _ _
 refine qV (r_lenSlice Tryz.underlying23 rfl) ?_
 refine qM _ rfl ?_
 refine WpL_nil (Wp_block ?_)
 refine Wp_loop (fun nn_ σ W2 => ∃ (k : Nat), (∃ jj_, σ = upds jj_ [(1, (I6 (m : Int))), (11, (.slice la L.length lc)), (12, (I6 (L.length : Int))), (13, (I6 (k : Int)))]) ∧ Chg none1 w0 W2 ∧ Chg none1 w9 W2 ∧ Blk W2 b1 (R6 t sa sc aa ac) 25 ∧ (k ≤ L.length) ∧ (chkL m 0 L = chkL m k (L.drop k)) ∧ nn_ = L.length - k) (n := L.length - 0) ?_ ?_
 ·exact ⟨0, Fits.out ⟨rfl, rfl, rfl, rfl, trivial⟩, E, EQ, B1, Nat.zero_le _, rfl, rfl⟩
 ·clear E EQ B1
  rintro _ _ W2 ⟨k, ⟨j2, rfl⟩, E, EQ, B1, hk, hp, rfl⟩
  refine Wp_seq_region ?_
  refine qV (r_lss rfl rfl) ?_
  refine WpL_nil (Wp_seq ?_)
  refine Wp_cond rfl (fun hlt => ?_) (fun hlt => ?_)
  ·have khlt := hlt
   replace hlt := of_decide_eq_true hlt
   obtain ⟨x, hx⟩ := get_of_lt (l := L) (i := k) (by omega)
   obtain ⟨r, hr, hxr⟩ := hrows'.get hx
   obtain ⟨b, o, rfl, hcl⟩ := SlAt.at hsl (by omega)
   have hd := drop_cons hx
   have hcr := (hcl k r hr).ext EQ
   obtain ⟨xa, xc, ya, yc, rfl, hxset, hxlen, hxargs⟩ := hxr.form
   refine Wp_skip (thn_normal (Wp_seq (Wp_block (Wp_seq_region ?_))))
   refine qM _ rfl ?_
   refine qV (r_indexSlice (b := b) (o := o) (len := L.length) (cap := lc) (i := k) (o' := o + k * 6) rfl rfl rfl Tryz.underlying23 siz25 (by omega) (by omega)) ?_
   refine qV (r_loadAgg rfl agg25 siz25 rfl (hcr)) ?_
   refine s_alloc (c := #[(I6 0), (.slice none 0 0), (.slice none 0 0), (I6 0), (I6 0), (.bool false)]) (by decide) zer25 rfl ?_
   intro b4 w4 N4
   have F4 := N4.ge E
   have F4_EQ := N4.ge EQ
   have O4_b1 := N4.lt B1
   replace B1 := N4.keep B1
   replace E := E.ext N4.ext
   have B4 := N4.blk
   replace EQ := EQ.ext N4.ext
   refine qA _ rfl ?_
   refine s_storeAgg (b := b4) (o := 0) (c' := (R6 x xa xc ya yc)) rfl rfl (by simp [Value.oneCell']) siz25 rfl B4 (by first | (simp; done) | exact Nat.le_of_ble_eq_true rfl) rfl ?_
   intro w5 S5
   replace B1 := S5.keep (by omega) B1
   replace E := S5.step E (by first | exact Or.inl (by omega) | exact Or.inr rfl | exact Or.inr (by assumption) | exact Or.inr (by simp) | exact Or.inr (by omega) | exact Or.inr (by dsimp only; omega))
   replace EQ := S5.step EQ (Or.inl (by omega))
   replace B4 := S5.blk
   refine WpL_nil (Wp_seq (Wp_seq_region ?_))
   refine qM _ rfl ?_
   refine qM _ rfl ?_
   refine qV (r_eql rfl rfl) ?_
   refine WpL_nil ?_
   refine Wp_cond rfl (fun he => ?_) (fun he => ?_)
   ·have khe := he
    replace he := of_decide_eq_true he
    refine Wp_seq_region ?_
    refine qA _ rfl ?_
    refine WpL_nil (Wp_ret (thn_ret (inB_ret (thn_ret (thn_ret (inB_ret (thn_ret ?_)))))))
    refine fin_tmp Tryz.results7 (v := (.int .i64 2)) rfl ?_
    exact ⟨int_eq (by rw [hp, hd]; simp only [chkL]; rw [if_pos (by omega)]), E⟩
   ·have khe := he
    replace he := of_decide_eq_false he
    refine Wp_skip (thn_normal (Wp_seq_region ?_))
    refine qV (r_loadAgg (vs := [(I6 x.kind), (.slice xa x.set.length xc), (.slice ya x.args.length yc), (I6 x.mn), (I6 x.mx), (.bool x.neg)]) rfl agg25 siz25 rfl (B4.cells rfl)) ?_
    refine WpL_enter rfl rfl (by decide) (r_callF Tryz.func40 nm40 bd40 rfl) (cnode_c _ _ x _ hxr EQ) ?_
    rintro _ w19 ⟨rfl, X19⟩
    replace B1 := X19.keep B1
    replace B4 := X19.keep B4
    replace E := E.ext X19
    replace EQ := EQ.ext X19
    refine qA _ rfl ?_
    refine WpL_nil (Wp_seq_region ?_)
    refine qM _ rfl ?_
    refine qV (r_neq rfl rfl) ?_
    refine WpL_nil ?_
    refine Wp_cond rfl (fun hne => ?_) (fun hne => ?_)
    ·have khne := hne
     replace hne := of_decide_eq_true hne
     refine Wp_seq_region ?_
     refine qM _ rfl ?_
     refine qA _ rfl ?_
     refine WpL_nil (Wp_ret (inB_ret (thn_ret (thn_ret (inB_ret (thn_ret ?_))))))
     refine fin_tmp Tryz.results7 (v := (.int .i64 (nodeE x))) rfl ?_
     exact ⟨int_eq (by rw [hp, hd]; simp only [chkL]; rw [if_neg (by omega), if_pos hne]), E⟩
    ·have khne := hne
     replace hne := of_decide_eq_false hne
     refine Wp_skip (inB_normal (thn_normal (Wp_region ?_)))
     refine qV (r_add rfl rfl (wI64 (by omega))) ?_
     refine qM _ rfl ?_
     refine WpL_nil (thn_normal ?_)
     exact ⟨L.length - (k + 1), by omega, k + 1, Fits.out ⟨rfl, rfl, rfl, rfl, trivial⟩, E, EQ, B1, (by omega), (by rw [hp, hd]; simp only [chkL]; rw [if_neg (by omega), if_neg hne]), rfl⟩
  ·have khlt := hlt
   replace hlt := of_decide_eq_false hlt
   have hkl : L.drop k = [] := List.drop_eq_nil_of_le (by omega)
   refine Wp_exit (thn_exit (thn_exit (inB_here (thn_normal (Wp_seq_region ?_)))))
   refine qA _ rfl ?_
   refine WpL_nil (Wp_ret ?_)
   refine fin_tmp Tryz.results7 (v := (.int .i64 0)) rfl ?_
   exact ⟨int_eq (by rw [hp, hkl]; rfl), E⟩
theorem r_max2 {P : Program} {σ : Env} {w : World} {dst : Option Tmp} {ty : TypeId} {pos : String} {af : Array Edge} {g : Option (Nat × Bool)} {tys : Array TypeId} {x y : Operand} {k : IntKind} {a b c : Int} (hx : ev σ x = .int k a) (hy : ev σ y = .int k b) (hc : max a b = c) :
  (execOp (ev σ) ⟨dst, .call ⟨.builtin .max, #[x, y], tys⟩, ty, pos, af, g⟩).run P w = .ok (.value (.int k c)) w := by
 subst hc
 have : (if a < b then b else a) = max a b := by split <;> omega
 simp [execOp, resolve, invoke, builtin, Builtin.max_, Builtin.max2, hx, hy, this]
end Go.Proofs
namespace Go.Proofs
open Go Go.Eng
def Wf (n : Nat) (R : Rl) : Prop := ∀ i j, R i j = true → i ≤ j ∧ j ≤ n
theorem wf_no (n : Nat) : Wf n noR := fun i j h => by simp [noR] at h
theorem wf_id (n : Nat) : Wf n (idR n) := fun i j h => by simp [idR] at h; omega
theorem wf_or {n : Nat} {A B : Rl} (a : Wf n A) (b : Wf n B) : Wf n (orR A B) := fun i j h => by
 simp only [orR, Bool.or_eq_true] at h; rcases h with h | h; exact a i j h; exact b i j h
theorem wf_and {n : Nat} {A B : Rl} (a : Wf n A) : Wf n (andR A B) := fun i j h => by
 simp only [andR, Bool.and_eq_true] at h; exact a i j h.1
theorem wf_then {n : Nat} {A B : Rl} (a : Wf n A) (b : Wf n B) : Wf n (thenR A B n) := fun i k h => by
 simp only [thenR, Bool.and_eq_true, List.any_eq_true] at h
 obtain ⟨_, j, _, h1, h2⟩ := h
 have := a i j h1; have := b j k h2; omega
theorem wf_star {n : Nat} {A : Rl} (a : Wf n A) : ∀ m, Wf n (starN n A m)
  | 0 => wf_id n
  | m + 1 => wf_or (wf_star a m) (wf_then (wf_star a m) a)
theorem wf_pow {n : Nat} {A : Rl} (a : Wf n A) : ∀ m, Wf n (powR n A m)
  | 0 => wf_id n
  | m + 1 => wf_then (wf_pow a m) a
theorem wf_rep {n : Nat} {A : Rl} (a : Wf n A) (mn : Int) : ∀ m, Wf n (repR n A mn m)
  | 0 => wf_no n
  | m + 1 => by
    simp only [repR]
    split
    · exact wf_or (wf_rep a mn m) (wf_pow a m)
    · exact wf_rep a mn m
theorem wf_not (n : Nat) (A : Rl) : Wf n (notR n A) := fun i j h => by simp [notR] at h; omega
theorem wf_look (n : Nat) (A : Rl) (ng : Bool) : Wf n (lookR n A ng) := fun i j h => by simp [lookR] at h; omega
theorem wf_set (text : List Int) (set : List (Int × Int)) : Wf text.length (setR text set) := fun i j h => by
  simp only [setR, Bool.and_eq_true, decide_eq_true_eq] at h
  obtain ⟨h1, rfl⟩ := h
  cases hx : text[i]? with
  | none => simp [hx] at h1
  | some c => have := lt_of_get hx; omega
theorem wf_head {n : Nat} {L : List Rl} (h : ∀ x ∈ L, Wf n x) : Wf n (L.headD noR) := by
  cases L with
  | nil => exact wf_no n
  | cons x r => exact h x (by simp)
theorem wf_foldThen {n : Nat} : ∀ (L : List Rl) (A : Rl), Wf n A → (∀ x ∈ L, Wf n x) → Wf n (L.foldl (fun a x => thenR a x n) A)
  | [], _, h, _ => h
  | x :: L, A, h, hl => wf_foldThen L _ (wf_then h (hl x (by simp))) fun y hy => hl y (by simp [hy])
theorem wf_foldOr {n : Nat} : ∀ (L : List Rl) (A : Rl), Wf n A → (∀ x ∈ L, Wf n x) → Wf n (L.foldl orR A)
  | [], _, h, _ => h
  | x :: L, A, h, hl => wf_foldOr L _ (wf_or h (hl x (by simp))) fun y hy => hl y (by simp [hy])
theorem wf_foldAnd {n : Nat} : ∀ (L : List Rl) (A : Rl), Wf n A → Wf n (L.foldl andR A)
  | [], _, h => h
  | x :: L, A, h => wf_foldAnd L _ (wf_and h)
theorem wf_relK (text : List Int) (k : Int) (set : List (Int × Int)) (L : List Rl) (mn mx : Int) (ng : Bool) (h : ∀ x ∈ L, Wf text.length x) : Wf text.length (relK text k set L mn mx ng) := by
 unfold relK
 repeat' split
 ·exact wf_id _
 ·exact wf_set _ _
 ·exact wf_foldThen _ _ (wf_id _) h
 ·exact wf_foldOr _ _ (wf_no _) h
 ·exact wf_foldAnd _ _ (wf_head h)
 ·exact wf_not _ _
 ·exact wf_star (wf_head h) _
 ·exact wf_rep (wf_head h) _ _
 ·exact wf_head h
 ·exact wf_look _ _ _
 ·exact wf_no _
mutual
theorem wf_rel (text : List Int) : ∀ (t : Re), Wf text.length (relOf text t)
  | .mk k set args mn mx ng => by simp only [relOf]; exact wf_relK _ _ _ _ _ _ _ (wf_rels text args)
theorem wf_rels (text : List Int) : ∀ (ts : List Re), ∀ x ∈ relsOf text ts, Wf text.length x
  | [], _, h => by simp [relsOf] at h
  | t :: ts, x, h => by
    simp only [relsOf, List.mem_cons] at h
    rcases h with rfl | h
    · exact wf_rel text t
    · exact wf_rels text ts x h
end
theorem rl_ext {A B : Rl} (h : ∀ i j, A i j = true ↔ B i j = true) : A = B := by
 funext i j; exact Bool.eq_iff_iff.2 (h i j)
theorem then_iff {n : Nat} (hn : n ≤ 24) {A B : Rl} (a : Wf n A) (i k : Nat) : thenR A B n i k = true ↔ ∃ j, A i j = true ∧ B j k = true := by
 simp only [thenR, Bool.and_eq_true, List.any_eq_true, List.mem_range, decide_eq_true_eq]
 constructor
 ·rintro ⟨_, j, _, h⟩; exact ⟨j, h⟩
 ·rintro ⟨j, h1, h2⟩; have := a i j h1; exact ⟨by omega, j, by omega, h1, h2⟩
theorem id_iff (n i j : Nat) : idR n i j = true ↔ i ≤ n ∧ j = i := by simp [idR]
theorem id_then {n : Nat} (hn : n ≤ 24) {A : Rl} (a : Wf n A) : thenR (idR n) A n = A := rl_ext fun i k => by
 rw [then_iff hn (wf_id n)]
 constructor
 ·rintro ⟨j, h1, h2⟩; rw [id_iff] at h1; obtain ⟨_, rfl⟩ := h1; exact h2
 ·intro h; have := a i k h; exact ⟨i, (id_iff n i i).2 ⟨by omega, rfl⟩, h⟩
theorem then_assoc {n : Nat} (hn : n ≤ 24) {A B C : Rl} (a : Wf n A) (b : Wf n B) : thenR A (thenR B C n) n = thenR (thenR A B n) C n := rl_ext fun i k => by
 rw [then_iff hn a, then_iff hn (wf_then a b)]
 constructor
 ·rintro ⟨j, h1, h2⟩; rw [then_iff hn b] at h2; obtain ⟨m, h3, h4⟩ := h2; exact ⟨m, (then_iff hn a i m).2 ⟨j, h1, h3⟩, h4⟩
 ·rintro ⟨j, h1, h2⟩; rw [then_iff hn a] at h1; obtain ⟨m, h3, h4⟩ := h1; exact ⟨m, h3, (then_iff hn b m k).2 ⟨j, h4, h2⟩⟩
abbrev catT (s t : Re) : Re := .mk 3 [] [s, t] 0 0 false
abbrev emptyT : Re := .mk 1 [] [] 0 0 false
abbrev noneT : Re := .mk 0 [] [] 0 0 false
section
variable (text : List Int)
theorem rel_cat (hn : text.length ≤ 24) (s t : Re) : relOf text (catT s t) = thenR (relOf text s) (relOf text t) text.length := by
 simp only [relOf, relsOf, relK, List.foldl]
 simp [id_then hn (wf_rel text s)]
end
theorem ok_two {k : Int} (h : k = 3 ∨ k = 4 ∨ k = 7) {s t : Re} (a : okRe s) (b : okRe t) : okRe (.mk k [] [s, t] 0 0 false) := by simp only [okRe, okRes]; exact ⟨node_two h s t, a, b, trivial⟩
theorem ok_leaf {k : Int} (h : k = 0 ∨ k = 1) : okRe (.mk k [] [] 0 0 false) := by simp only [okRe, okRes]; exact ⟨node_leaf h, trivial⟩
def Txt (text : List Int) : Prop := text.length ≤ 24 ∧ ∀ x ∈ text, runeB x = true
theorem check_zero {t : Re} {text : List Int} (ht : okRe t) (hs : t.size ≤ 40) (h : Txt text) : checkP t text = 0 := by
 have h1 : fitsE t 40 = 0 := (fitsE_zero (by decide) (by decide)).2 ⟨ht, by omega⟩
 unfold checkP
 rw [if_neg (by simp [h1]), if_neg (by have := h.1; omega), if_neg]
 simp only [List.any_eq_true, Bool.not_eq_true', not_exists, not_and]
 intro x hx
 simp [h.2 x hx]
/-- Two expressions of which the program says that they match the same parts of a text. -/
def Sm (s t : Re) (text : List Int) : Prop := checkP s text = 0 ∧ checkP t text = 0 ∧ pairsL (relOf text s) (text.length + 1) = pairsL (relOf text t) (text.length + 1)
theorem sm_mk {s t : Re} {text : List Int} (h : Txt text) (a : okRe s) (b : okRe t) (ha : s.size ≤ 40) (hb : t.size ≤ 40) (he : relOf text s = relOf text t) : Sm s t text :=
 ⟨check_zero a ha h, check_zero b hb h, by rw [he]⟩
section
variable {text : List Int} (h : Txt text) {a b c : Re} (oa : okRe a) (ob : okRe b) (oc : okRe c)
include h oa
theorem kl1 (ob : okRe b) (oc : okRe c) (hs : a.size + b.size + c.size ≤ 18) : Sm (catT a (catT b c)) (catT (catT a b) c) text :=
 sm_mk h (ok_two (by simp) oa (ok_two (by simp) ob oc)) (ok_two (by simp) (ok_two (by simp) oa ob) oc) (by simp [Re.size, Re.sizes]; omega) (by simp [Re.size, Re.sizes]; omega)
  (by simp only [rel_cat text h.1]; exact then_assoc h.1 (wf_rel text a) (wf_rel text b))
end
end Go.Proofs
namespace Go.Proofs
open Go Go.Eng
section
variable {n : Nat} (hn : n ≤ 24)
include hn
theorem fold_then {A B : Rl} (a : Wf n A) (b : Wf n B) : ∀ (L : List Rl), (∀ x ∈ L, Wf n x) → L.foldl (fun a x => thenR a x n) (thenR A B n) = thenR A (L.foldl (fun a x => thenR a x n) B) n
  := by
  intro L
  induction L generalizing B with
  | nil => intro _; rfl
  | cons x L ih =>
    intro h
    simp only [List.foldl_cons]
    rw [← then_assoc hn a b]
    exact ih (wf_then b (h x (by simp))) fun y hy => h y (by simp [hy])
theorem cat_cons {A : Rl} (a : Wf n A) (L : List Rl) (h : ∀ x ∈ L, Wf n x) : (A :: L).foldl (fun a x => thenR a x n) (idR n) = thenR A (L.foldl (fun a x => thenR a x n) (idR n)) n := by
 rw [List.foldl_cons, id_then hn a]
 have h1 := fold_then hn a (wf_id n) L h
 have h2 : thenR A (idR n) n = A := rl_ext fun i k => by
  rw [then_iff hn a]
  constructor
  ·rintro ⟨j, h1, h2⟩
   rw [id_iff] at h2
   rw [h2.2]; exact h1
  ·intro h; exact ⟨k, h, by rw [id_iff]; have := a i k h; omega⟩
 rw [h2] at h1
 exact h1
end
end Go.Proofs
namespace Go.Proofs
open Go Go.Eng
set_option maxRecDepth 100000
theorem okRe_mx {t : Re} (h : okRe t) (hk : t.kind ≠ 6) : t.mx = 0 := by
 have := (okRe_form h).2.2
 unfold formB at this
 simp [hk] at this
 omega
def okM (t : Re) : Prop := (t.kind = 3 ∧ 0 < t.args.length ∧ okRes t.args ∧ t.mx = 0) ∨ (okRe t ∧ t.kind ≠ 3)
theorem okM_of {t : Re} (h : okRe t) : okM t := by
 by_cases hk : t.kind = 3
 ·exact .inl ⟨hk, by have := okRe_two h (.inl hk); omega, okRe_args h, okRe_mx h (by omega)⟩
 ·exact .inr ⟨h, hk⟩
theorem okM_mx {t : Re} (h : okM t) : t.mx.toNat ≤ 8 := by
 rcases h with ⟨_, _, _, h⟩ | ⟨h, _⟩
 ·omega
 ·by_cases hk : t.kind = 6
  ·have := okRe_rep h hk; omega
  ·have := okRe_mx h hk; omega
theorem okM_args {t : Re} (h : okM t) : okRes t.args := by
 rcases h with ⟨_, _, h, _⟩ | ⟨h, _⟩
 ·exact h
 ·exact okRe_args h
theorem bool_true {b : Bool} (h : b = true) : Value.bool true = .bool b := by rw [h]
theorem bool_false {b : Bool} (h : ¬ b = true) : Value.bool false = .bool b := by simp at h; rw [h]
theorem search_next {P : Nat → Prop} {lo k : Nat} (hp : ∀ m, lo ≤ m → m < k → ¬ P m) (hk : ¬ P k) : ∀ m, lo ≤ m → m < k + 1 → ¬ P m := by
 intro m h1 h2
 rcases Nat.lt_or_ge m k with h | h
 ·exact hp m h1 h
 ·obtain rfl : m = k := by omega
  exact hk
end Go.Proofs
namespace Go.Proofs
open Go Go.Eng
set_option maxRecDepth 100000
def bl (m : Nat) : Nat := if m = 0 then 0 else Nat.log2 m + 1
end Go.Proofs
namespace Go.Proofs
open Go Go.Eng Go.Sort
set_option maxRecDepth 100000
abbrev Sps := List (Int × Int)
mutual
def foldT (cl : Sps → Sps) : Re → Re
  | .mk k set args mn mx ng => .mk k (if k = 2 then cl set else set) (foldTs cl args) mn mx ng
def foldTs (cl : Sps → Sps) : List Re → List Re
  | [] => []
  | t :: ts => foldT cl t :: foldTs cl ts
end
theorem foldTs_map (cl : Sps → Sps) (ts : List Re) : foldTs cl ts = ts.map (foldT cl) := by
  induction ts with
  | nil => rfl
  | cons t ts ih => simp [foldTs, ih]
end Go.Proofs
namespace Go.Eng
open Go
abbrev TRe : Nat := 25
mutual
def Tree (Z : Nat → Prop) (w : World) : Re → List Value → (Nat → Prop) → Prop
  | .mk k set args mn mx ng, vs, L => ∃ sa sc aa ac, vs = [.int .i64 k, .slice sa set.length sc, .slice aa args.length ac, .int .i64 mn, .int .i64 mx, .bool ng] ∧ SlIn Z w 2 (.slice sa set.length sc) (set.map spanV) ∧ (args.length ≤ ac ∧ ac ≤ 9223372036854775807) ∧
      (args = [] ∨ ∃ b rows rest L', L b ∧ aa = some ⟨b, 0, none⟩ ∧ Blk w b (rows.flatten ++ rest).toArray TRe ∧ (∀ r ∈ rows, r.length = 6) ∧ Trees Z w args rows L' ∧ (∀ x, L' x → L x ∧ x ≠ b))
def Trees (Z : Nat → Prop) (w : World) : List Re → List (List Value) → (Nat → Prop) → Prop
  | [], rows, _ => rows = []
  | t :: ts, rows, L => ∃ vs rs L1 L2, rows = vs :: rs ∧ Tree Z w t vs L1 ∧ Trees Z w ts rs L2 ∧ (∀ x, L1 x → L x ∧ ¬ L2 x) ∧ (∀ x, L2 x → L x)
end
mutual
theorem Tree.chg {Z M : Nat → Prop} {w w' : World} (c : Chg M w w') (hz : ∀ b, Z b → ¬ M b) : ∀ (t : Re) {vs : List Value} {L : Nat → Prop}, (∀ b, L b → ¬ M b) → Tree Z w t vs L → Tree Z w' t vs L
  | .mk k set args mn mx ng, vs, L, hl, h => by
    simp only [Tree] at h ⊢
    obtain ⟨sa, sc, aa, ac, hv, hs, hn, ha⟩ := h
    refine ⟨sa, sc, aa, ac, hv, hs.chg c hz, hn, ?_⟩
    rcases ha with h | ⟨b, rows, rest, L', h1, h2, h3, h4, h5, h6⟩
    · exact .inl h
    · exact .inr ⟨b, rows, rest, L', h1, h2, c.keep (hl b h1) h3, h4, Trees.chg c hz args (fun x hx => hl x (h6 x hx).1) h5, h6⟩
theorem Trees.chg {Z M : Nat → Prop} {w w' : World} (c : Chg M w w') (hz : ∀ b, Z b → ¬ M b) : ∀ (ts : List Re) {rows : List (List Value)} {L : Nat → Prop}, (∀ b, L b → ¬ M b) → Trees Z w ts rows L → Trees Z w' ts rows L
  | [], _, _, _, h => by simp only [Trees] at h ⊢; exact h
  | t :: ts, rows, L, hl, h => by
    simp only [Trees] at h ⊢
    obtain ⟨vs, rs, L1, L2, h1, h2, h3, h4, h5⟩ := h
    exact ⟨vs, rs, L1, L2, h1, Tree.chg c hz t (fun x hx => hl x (h4 x hx).1) h2, Trees.chg c hz ts (fun x hx => hl x (h5 x hx)) h3, h4, h5⟩
end
theorem Tree.ext {Z : Nat → Prop} {w w' : World} (e : Ext w w') (t : Re) {vs : List Value} {L : Nat → Prop} (h : Tree Z w t vs L) : Tree Z w' t vs L := Tree.chg e (fun _ _ f => f) t (fun _ _ f => f) h
theorem Trees.ext {Z : Nat → Prop} {w w' : World} (e : Ext w w') (ts : List Re) {rows : List (List Value)} {L : Nat → Prop} (h : Trees Z w ts rows L) : Trees Z w' ts rows L := Trees.chg e (fun _ _ f => f) ts (fun _ _ f => f) h
mutual
theorem Tree.mono {Z Z' : Nat → Prop} {w : World} (hz : ∀ b, Z b → Z' b) : ∀ (t : Re) {vs : List Value} {L L' : Nat → Prop}, (∀ b, L b → L' b) → Tree Z w t vs L → Tree Z' w t vs L'
  | .mk k set args mn mx ng, vs, L, L', hl, h => by
    simp only [Tree] at h ⊢
    obtain ⟨sa, sc, aa, ac, hv, hs, hn, ha⟩ := h
    refine ⟨sa, sc, aa, ac, hv, hs.mono hz, hn, ?_⟩
    rcases ha with h | ⟨b, rows, rest, K, h1, h2, h3, h4, h5, h6⟩
    · exact .inl h
    · exact .inr ⟨b, rows, rest, K, hl b h1, h2, h3, h4, Trees.mono hz args (fun _ h => h) h5, fun x hx => ⟨hl x (h6 x hx).1, (h6 x hx).2⟩⟩
theorem Trees.mono {Z Z' : Nat → Prop} {w : World} (hz : ∀ b, Z b → Z' b) : ∀ (ts : List Re) {rows : List (List Value)} {L L' : Nat → Prop}, (∀ b, L b → L' b) → Trees Z w ts rows L → Trees Z' w ts rows L'
  | [], _, _, _, _, h => by simp only [Trees] at h ⊢; exact h
  | t :: ts, rows, L, L', hl, h => by
    simp only [Trees] at h ⊢
    obtain ⟨vs, rs, L1, L2, h1, h2, h3, h4, h5⟩ := h
    exact ⟨vs, rs, L1, L2, h1, Tree.mono hz t (fun _ h => h) h2, Trees.mono hz ts (fun _ h => h) h3, fun x hx => ⟨hl x (h4 x hx).1, (h4 x hx).2⟩, fun x hx => hl x (h5 x hx)⟩
end
theorem Tree.form {Z : Nat → Prop} {w : World} {t : Re} {vs : List Value} {L : Nat → Prop} (h : Tree Z w t vs L) : ∃ sa sc aa ac, vs = [.int .i64 t.kind, .slice sa t.set.length sc, .slice aa t.args.length ac, .int .i64 t.mn, .int .i64 t.mx, .bool t.neg] ∧ SlIn Z w 2 (.slice sa t.set.length sc) (t.set.map spanV) ∧ (t.args.length ≤ ac ∧ ac ≤ 9223372036854775807) ∧
   (t.args = [] ∨ ∃ b rows rest L', L b ∧ aa = some ⟨b, 0, none⟩ ∧ Blk w b (rows.flatten ++ rest).toArray TRe ∧ (∀ r ∈ rows, r.length = 6) ∧ Trees Z w t.args rows L' ∧ (∀ x, L' x → L x ∧ x ≠ b)) := by
 cases t; simp only [Tree] at h; exact h
theorem Tree.len {Z : Nat → Prop} {w : World} {t : Re} {vs : List Value} {L : Nat → Prop} (h : Tree Z w t vs L) : vs.length = 6 := by
 obtain ⟨_, _, _, _, rfl, _⟩ := h.form; rfl
theorem Tree.one {Z : Nat → Prop} {w : World} {t : Re} {vs : List Value} {L : Nat → Prop} (h : Tree Z w t vs L) : ∀ u ∈ vs, u.oneCell' = true := by
 obtain ⟨_, _, _, _, rfl, _⟩ := h.form
 simp [Value.oneCell']
theorem Trees.len {Z : Nat → Prop} {w : World} : ∀ {ts : List Re} {rows : List (List Value)} {L : Nat → Prop}, Trees Z w ts rows L → rows.length = ts.length
  | [], _, _, h => by simp only [Trees] at h; subst h; rfl
  | t :: ts, rows, L, h => by
    simp only [Trees] at h
    obtain ⟨vs, rs, L1, L2, rfl, _, h3, _⟩ := h
    simp [Trees.len h3]
theorem Trees.six {Z : Nat → Prop} {w : World} : ∀ {ts : List Re} {rows : List (List Value)} {L : Nat → Prop}, Trees Z w ts rows L → ∀ r ∈ rows, r.length = 6
  | [], _, _, h => by simp only [Trees] at h; subst h; simp
  | t :: ts, rows, L, h => by
    simp only [Trees] at h
    obtain ⟨vs, rs, L1, L2, rfl, h2, h3, _⟩ := h
    intro r hr
    rcases List.mem_cons.1 hr with rfl | hr
    · exact h2.len
    · exact Trees.six h3 r hr
theorem Trees.snoc {Z : Nat → Prop} {w : World} {t : Re} {vs : List Value} {K : Nat → Prop} (ht : Tree Z w t vs K) : ∀ {ts : List Re} {rows : List (List Value)} {L : Nat → Prop}, Trees Z w ts rows L → (∀ x, L x → ¬ K x) → Trees Z w (ts ++ [t]) (rows ++ [vs]) (fun x => L x ∨ K x)
  | [], rows, L, h, hd => by
    simp only [Trees] at h
    subst h
    simp only [List.nil_append, Trees]
    exact ⟨vs, [], K, fun _ => False, rfl, ht, rfl, fun x hx => ⟨.inr hx, fun f => f⟩, fun x f => f.elim⟩
  | u :: ts, rows, L, h, hd => by
    simp only [Trees] at h
    obtain ⟨us, rs, L1, L2, rfl, h2, h3, h4, h5⟩ := h
    have := Trees.snoc ht h3 fun x hx => hd x (h5 x hx)
    simp only [List.cons_append, Trees]
    exact ⟨us, rs ++ [vs], L1, _, rfl, h2, this, fun x hx => ⟨.inl (h4 x hx).1, fun hh => hh.elim (h4 x hx).2 (hd x (h4 x hx).1)⟩, fun x hx => hx.elim (fun h => .inl (h5 x h)) .inr⟩
theorem rows_cells {rows : List (List Value)} {rest : List Value} {k : Nat} (hk : ∀ r ∈ rows, r.length = k) : ∀ {i : Nat} {r : List Value}, rows[i]? = some r → ∀ (j : Nat) (u : Value), r[j]? = some u → (rows.flatten ++ rest)[i * k + j]? = some u := by
  induction rows with
  | nil => intro i r h; simp at h
  | cons x rs ih =>
    intro i r hr j u hu
    have hx : x.length = k := hk x (by simp)
    cases i with
    | zero =>
      simp at hr; subst hr
      have hj := lt_of_get hu
      simp only [List.flatten_cons, Nat.zero_mul, Nat.zero_add, List.append_assoc]
      rw [List.getElem?_append_left hj]; exact hu
    | succ i =>
      simp at hr
      simp only [List.flatten_cons, List.append_assoc]
      rw [List.getElem?_append_right (by rw [hx, Nat.succ_mul]; omega)]
      rw [show (i + 1) * k + j - x.length = i * k + j from by rw [hx, Nat.succ_mul]; omega]
      exact ih (fun r hr => hk r (by simp [hr])) hr j u hu
theorem rows_at {w : World} {b T k : Nat} {rows : List (List Value)} {rest : List Value} (h : Blk w b (rows.flatten ++ rest).toArray T) (hk : ∀ r ∈ rows, r.length = k) {i : Nat} {r : List Value} (hr : rows[i]? = some r) : CellsAt w b (i * k) r := by
 intro j u hu
 exact h.cell (by simpa using rows_cells hk hr j u hu)
theorem rows_set {k : Nat} {v : List Value} (hv : v.length = k) : ∀ {rows : List (List Value)} {rest : List Value} {i : Nat}, (∀ r ∈ rows, r.length = k) → i < rows.length → (rows.flatten ++ rest).take (i * k) ++ v ++ (rows.flatten ++ rest).drop (i * k + k) = (rows.set i v).flatten ++ rest
  | [], _, _, _, hi => by simp at hi
  | x :: rs, rest, 0, hk, hi => by
    have hx : x.length = k := hk x (by simp)
    simp only [List.flatten_cons, Nat.zero_mul, List.take_zero, Nat.zero_add, List.set_cons_zero, List.nil_append, List.append_assoc]
    rw [List.drop_append_of_le_length (by omega), List.drop_of_length_le (by omega)]; simp
  | x :: rs, rest, i + 1, hk, hi => by
    have hx : x.length = k := hk x (by simp)
    have ih := rows_set hv (rows := rs) (rest := rest) (i := i) (fun r hr => hk r (by simp [hr])) (by simpa using hi)
    simp only [List.flatten_cons, List.set_cons_succ, List.append_assoc] at ih ⊢
    rw [← ih, Nat.succ_mul]
    have e1 : ∀ (A : List Value) (m : Nat), (x ++ A).take (x.length + m) = x ++ A.take m := fun A m => by rw [List.take_append, List.take_of_length_le (by omega), Nat.add_sub_cancel_left]
    have e2 : ∀ (A : List Value) (m : Nat), (x ++ A).drop (x.length + m) = A.drop m := fun A m => by rw [List.drop_append, List.drop_of_length_le (by omega), Nat.add_sub_cancel_left, List.nil_append]
    rw [show i * k + k = x.length + i * k from by omega, e1, show x.length + i * k + k = x.length + (i * k + k) from by omega, e2]
    rw [List.append_assoc, show x.length + i * k = i * k + k from by omega]
theorem rows_len {k : Nat} : ∀ {rows : List (List Value)}, (∀ r ∈ rows, r.length = k) → rows.flatten.length = rows.length * k
  | [], _ => by simp
  | x :: rs, h => by
    have := rows_len (rows := rs) (fun r hr => h r (by simp [hr]))
    have hx : x.length = k := h x (by simp)
    simp only [List.flatten_cons, List.length_append, List.length_cons, this, hx, Nat.succ_mul]; omega
theorem resin_of {S : Nat → Prop} {w : World} {b : Nat} : ∀ {ts : List Re} {o : Nat}, (∀ i t, ts[i]? = some t → ∃ vs, CellsAt w b (o + i * 6) vs ∧ ReIn S w t vs) → ResIn S w b o ts
  | [], _, _ => by simp only [ResIn]
  | t :: ts, o, h => by
    simp only [ResIn]
    refine ⟨by simpa using h 0 t rfl, resin_of fun i u hu => ?_⟩
    have := h (i + 1) u (by simpa using hu)
    rwa [show o + (i + 1) * 6 = o + 6 + i * 6 from by omega] at this
end Go.Eng
namespace Go.Proofs
open Go Go.Eng
mutual
def sameT : Re → Re → Bool
  | .mk k s a m x g, .mk k' s' a' m' x' g' => decide (k = k') && decide (s = s') && decide (m = m') && decide (x = x') && decide (g = g') && sameTs a a'
def sameTs : List Re → List Re → Bool
  | [], [] => true
  | t :: ts, u :: us => sameT t u && sameTs ts us
  | _, _ => false
end
mutual
theorem sameT_iff : ∀ (t u : Re), sameT t u = true ↔ t = u
  | .mk k s a m x g, .mk k' s' a' m' x' g' => by
    simp only [sameT, Bool.and_eq_true, decide_eq_true_eq, sameTs_iff a a', Re.mk.injEq]
    constructor
    · rintro ⟨⟨⟨⟨⟨h1, h2⟩, h3⟩, h4⟩, h5⟩, h6⟩; exact ⟨h1, h2, h6, h3, h4, h5⟩
    · rintro ⟨h1, h2, h6, h3, h4, h5⟩; exact ⟨⟨⟨⟨⟨h1, h2⟩, h3⟩, h4⟩, h5⟩, h6⟩
theorem sameTs_iff : ∀ (ts us : List Re), sameTs ts us = true ↔ ts = us
  | [], [] => by simp [sameTs]
  | t :: ts, u :: us => by simp only [sameTs, Bool.and_eq_true, sameT_iff t u, sameTs_iff ts us, List.cons.injEq]
  | [], _ :: _ => by simp [sameTs]
  | _ :: _, [] => by simp [sameTs]
end
/-- Arguments of a kind replaced by their arguments. -/
def flatT (k : Int) (l : List Re) : List Re := l.flatMap fun x => if x.kind = k then x.args else [x]
/-- Each once, the first stays. -/
def onceT : List Re → List Re → List Re
  | out, [] => out
  | out, x :: l => if (out.any fun y => sameT x y) = true then onceT out l else onceT (out ++ [x]) l
def listT (k : Int) (l : List Re) : Re :=
  let l1 := flatT k l
  let l2 := if k = 3 then l1.filter fun x => !decide (x.kind = 1) else if k = 4 then l1.filter fun x => !decide (x.kind = 0) else l1
  if k ≠ 4 ∧ (l2.any fun x => decide (x.kind = 0)) = true then noneT
  else
    match (if k = 3 then l2 else onceT [] l2) with
    | [x] => x
    | [] => if k = 3 then emptyT else noneT
    | out => .mk k [] out 0 0 false
def normN (k : Int) (set : List (Int × Int)) (a : List Re) (mn mx : Int) (ng : Bool) : Re :=
  if k = 3 ∨ k = 4 ∨ k = 7 then listT k a
  else if k = 5 ∨ k = 6 then
    match a with
    | x :: _ =>
      if x.kind = 1 ∨ (k = 6 ∧ mx = 0) then emptyT
      else if x.kind = 0 ∧ (k = 5 ∨ mn = 0) then emptyT
      else if x.kind = 0 then noneT
      else if x.kind = 5 ∨ (k = 6 ∧ mn = 1 ∧ mx = 1) then x
      else .mk k set a mn mx ng
    | [] => .mk k set a mn mx ng
  else if k = 8 then
    match a with
    | x :: _ => if x.kind = 8 then x.args.headD noneT else .mk k set a mn mx ng
    | [] => .mk k set a mn mx ng
  else if k = 10 then
    match a with
    | x :: _ =>
      if (x.kind = 1 ∧ ng = true) ∨ (x.kind = 0 ∧ ng = false) then noneT
      else if x.kind = 1 ∨ x.kind = 0 then emptyT
      else .mk k set a mn mx ng
    | [] => .mk k set a mn mx ng
  else .mk k set a mn mx ng
mutual
def normT : Re → Re
  | .mk k set args mn mx ng => normN k set (normTs args) mn mx ng
def normTs : List Re → List Re
  | [] => []
  | t :: ts => normT t :: normTs ts
end
theorem normTs_map (ts : List Re) : normTs ts = ts.map normT := by
  induction ts with
  | nil => rfl
  | cons t ts ih => simp [normTs, ih]
def catR (text : List Int) (l : List Re) : Rl := (l.map (relOf text)).foldl (fun a x => thenR a x text.length) (idR text.length)
theorem catR_cons {text : List Int} (hn : text.length ≤ 24) (x : Re) (l : List Re) : catR text (x :: l) = thenR (relOf text x) (catR text l) text.length := by
 unfold catR
 rw [List.map_cons]
 refine cat_cons hn (wf_rel text x) _ ?_
 intro R hR
 rw [List.mem_map] at hR
 obtain ⟨y, _, rfl⟩ := hR
 exact wf_rel text y
theorem wf_catR {text : List Int} (l : List Re) : Wf text.length (catR text l) := by
 unfold catR
 refine wf_foldThen _ _ (wf_id _) ?_
 intro R hR
 rw [List.mem_map] at hR
 obtain ⟨y, _, rfl⟩ := hR
 exact wf_rel text y
theorem catR_append {text : List Int} (hn : text.length ≤ 24) : ∀ (a b : List Re), catR text (a ++ b) = thenR (catR text a) (catR text b) text.length
  | [], b => by
    have : catR text [] = idR text.length := rfl
    rw [this, List.nil_append, id_then hn (wf_catR b)]
  | x :: a, b => by
    rw [List.cons_append, catR_cons hn, catR_append hn a b, catR_cons hn, then_assoc hn (wf_rel text x) (wf_catR a)]
theorem rel_kcat {text : List Int} {t : Re} (h : t.kind = 3) : relOf text t = catR text t.args := by
 rw [relOf_eq]; simp [relK, h, catR]
section
variable {text : List Int} (hn : text.length ≤ 24)
include hn
theorem cat_flat : ∀ (l : List Re), catR text (flatT 3 l) = catR text l
  | [] => rfl
  | x :: l => by
    have ih := cat_flat l
    show catR text ((if x.kind = 3 then x.args else [x]) ++ flatT 3 l) = _
    rw [catR_append hn, ih, catR_cons hn]
    by_cases h : x.kind = 3
    · rw [if_pos h, rel_kcat h]
    · rw [if_neg h, catR_cons hn]
      have h1 : catR text [] = idR text.length := rfl
      have h2 : thenR (relOf text x) (idR text.length) text.length = relOf text x := rl_ext fun i k => by
        rw [then_iff hn (wf_rel text x)]
        constructor
        · rintro ⟨j, h1, h2⟩; rw [id_iff] at h2; rw [h2.2]; exact h1
        · intro h; exact ⟨k, h, by rw [id_iff]; have := wf_rel text x i k h; omega⟩
      rw [h1, h2]
omit hn in
theorem once_mem (x : Re) : ∀ (l out : List Re), x ∈ onceT out l ↔ x ∈ out ∨ x ∈ l
  | [], out => by simp [onceT]
  | y :: l, out => by
    unfold onceT
    split
    · rename_i h
      rw [once_mem x l out]
      rw [List.any_eq_true] at h
      obtain ⟨z, hz, hs⟩ := h
      rw [sameT_iff] at hs
      subst hs
      constructor
      · rintro (h | h); exact .inl h; exact .inr (by simp [h])
      · rintro (h | h)
        · exact .inl h
        · rcases List.mem_cons.1 h with rfl | h; exact .inl hz; exact .inr h
    · rw [once_mem x l]
      simp only [List.mem_append, List.mem_cons, List.not_mem_nil, or_false]
      constructor
      · rintro ((h | h) | h); exact .inl h; exact .inr (.inl h); exact .inr (.inr h)
      · rintro (h | (h | h)); exact .inl (.inl h); exact .inl (.inr h); exact .inr h
end
theorem okRes_iff (ts : List Re) : okRes ts ↔ ∀ x ∈ ts, okRe x := by
  induction ts with
  | nil => simp [okRes]
  | cons t ts ih => simp [okRes, ih]
theorem ok_many {k : Int} {l : List Re} (h : k = 3 ∨ k = 4 ∨ k = 7) (h2 : 2 ≤ l.length) (ho : ∀ x ∈ l, okRe x) : okRe (.mk k [] l 0 0 false) := by
 simp only [okRe]
 refine ⟨?_, (okRes_iff l).2 ho⟩
 have h2' : (2 : Int) ≤ (l.length : Int) := by omega
 rcases h with rfl | rfl | rfl <;> simp [nodeE, formB, okB, Re.kind, Re.set, Re.args, Re.mn, Re.mx, Re.neg, h2']
theorem flat_ok {k : Int} {l : List Re} (ho : ∀ x ∈ l, okRe x) : ∀ x ∈ flatT k l, okRe x := by
 intro x hx
 unfold flatT at hx
 rw [List.mem_flatMap] at hx
 obtain ⟨y, hy, hx⟩ := hx
 split at hx
 ·exact (okRes_iff _).1 (okRe_args (ho y hy)) x hx
 ·simp at hx; subst hx; exact ho x hy
theorem ok_listT {k : Int} {l : List Re} (h : k = 3 ∨ k = 4 ∨ k = 7) (ho : ∀ x ∈ l, okRe x) : okRe (listT k l) := by
  have hn : okRe noneT := ok_leaf (.inl rfl)
  have he : okRe emptyT := ok_leaf (.inr rfl)
  unfold listT
  simp only []
  have hf := flat_ok (k := k) ho
  generalize hl2 : (if k = 3 then (flatT k l).filter fun x => !decide (x.kind = 1) else if k = 4 then (flatT k l).filter fun x => !decide (x.kind = 0) else flatT k l) = l2
  have ho2 : ∀ x ∈ l2, okRe x := by
    intro x hx
    rw [← hl2] at hx
    split at hx
    · exact hf x (List.mem_filter.1 hx).1
    · split at hx
      · exact hf x (List.mem_filter.1 hx).1
      · exact hf x hx
  generalize hl3 : (if k = 3 then l2 else onceT [] l2) = l3
  have ho3 : ∀ x ∈ l3, okRe x := by
    intro x hx
    rw [← hl3] at hx
    split at hx
    · exact ho2 x hx
    · exact ho2 x (by simpa using (once_mem x l2 []).1 hx)
  split
  · exact hn
  · split
    · exact ho3 _ (by simp)
    · split
      · exact he
      · exact hn
    · rename_i h1 h2
      refine ok_many h ?_ ho3
      match l3, h1, h2 with
      | [], _, h2 => exact absurd rfl h2
      | [x], h1, _ => exact absurd rfl (h1 x)
      | _ :: _ :: _, _, _ => simp
theorem ok_same {k : Int} {set : List (Int × Int)} {a b : List Re} {mn mx : Int} {ng : Bool} (h : okRe (.mk k set a mn mx ng)) (hl : b.length = a.length) (hb : ∀ x ∈ b, okRe x) : okRe (.mk k set b mn mx ng) := by
 simp only [okRe] at h ⊢
 refine ⟨?_, (okRes_iff b).2 hb⟩
 have h1 := h.1
 have hf : formB (.mk k set b mn mx ng) = formB (.mk k set a mn mx ng) := by
  unfold formB
  simp only [Re.kind, Re.set, Re.args, Re.mn, Re.mx, Re.neg, hl]
  rfl
 unfold nodeE at h1 ⊢
 rw [hf]
 exact h1
theorem ok_normN {k : Int} {set : List (Int × Int)} {a b : List Re} {mn mx : Int} {ng : Bool} (h : okRe (.mk k set a mn mx ng)) (hl : b.length = a.length) (hb : ∀ x ∈ b, okRe x) : okRe (normN k set b mn mx ng) := by
  have hn : okRe noneT := ok_leaf (.inl rfl)
  have he : okRe emptyT := ok_leaf (.inr rfl)
  have hs := ok_same h hl hb
  unfold normN
  split
  · rename_i hk; exact ok_listT hk hb
  · split
    · split
      · rename_i x r
        have hx := hb x (by simp)
        split; exact he
        split; exact he
        split; exact hn
        split; exact hx
        exact hs
      · exact hs
    · split
      · split
        · rename_i x r
          have hx := hb x (by simp)
          split
          · rename_i hk
            have h1 := okRe_one hx (by omega)
            have ho := okRe_args hx
            match hh : x.args, h1, ho with
            | [y], _, ho => simp only [okRes] at ho; exact ho.1
          · exact hs
        · exact hs
      · split
        · split
          · split; exact hn
            split; exact he
            exact hs
          · exact hs
        · exact hs
mutual
theorem ok_normT : ∀ (t : Re), okRe t → okRe (normT t)
  | .mk k set args mn mx ng, h => by
    simp only [normT]
    exact ok_normN h (by rw [normTs_map]; simp) (ok_normTs args (okRe_args h))
theorem ok_normTs : ∀ (ts : List Re), okRes ts → ∀ x ∈ normTs ts, okRe x
  | [], _, x, hx => by simp [normTs] at hx
  | t :: ts, h, x, hx => by
    simp only [okRes] at h
    simp only [normTs] at hx
    rcases List.mem_cons.1 hx with rfl | hx
    · exact ok_normT t h.1
    · exact ok_normTs ts h.2 x hx
end
theorem okRe_len2 {t : Re} (h : okRe t) (hk : t.kind = 3 ∨ t.kind = 4 ∨ t.kind = 7) : 2 ≤ t.args.length := by
  cases t with
  | mk k set args mn mx ng =>
  simp only [okRe] at h
  have h1 := h.1
  simp only [Re.kind] at hk
  match args, h1 with
  | [], h1 => rcases hk with rfl | rfl | rfl <;> simp [nodeE, formB, okB, Re.kind, Re.set, Re.args, Re.mn, Re.mx, Re.neg] at h1
  | [x], h1 => rcases hk with rfl | rfl | rfl <;> simp [nodeE, formB, okB, Re.kind, Re.set, Re.args, Re.mn, Re.mx, Re.neg] at h1
  | _ :: _ :: _, _ => simp [Re.args]
theorem sizes_flat (k : Int) : ∀ (l : List Re), Re.sizes (flatT k l) ≤ Re.sizes l
  | [] => by simp [flatT, Re.sizes]
  | x :: l => by
    have ih := sizes_flat k l
    show Re.sizes ((if x.kind = k then x.args else [x]) ++ flatT k l) ≤ _
    rw [Re.sizes_append]
    have := x.size_eq
    simp only [Re.sizes]
    split
    · omega
    · simp only [Re.sizes]; omega
theorem sizes_filter (p : Re → Bool) : ∀ (l : List Re), Re.sizes (l.filter p) ≤ Re.sizes l
  | [] => by simp [Re.sizes]
  | x :: l => by
    have ih := sizes_filter p l
    rw [List.filter_cons]
    simp only [Re.sizes]
    split
    · simp only [Re.sizes]; omega
    · omega
theorem sizes_once : ∀ (l out : List Re), Re.sizes (onceT out l) ≤ Re.sizes out + Re.sizes l
  | [], out => by simp [onceT, Re.sizes]
  | x :: l, out => by
    unfold onceT
    simp only [Re.sizes]
    split
    · have := sizes_once l out; omega
    · have := sizes_once l (out ++ [x])
      rw [Re.sizes_append] at this
      simp only [Re.sizes] at this
      omega
theorem size_listT (k : Int) (l : List Re) : (listT k l).size ≤ Re.sizes l + 1 := by
 have h0 : noneT.size = 1 := rfl
 have h1 : emptyT.size = 1 := rfl
 have hf := sizes_flat k l
 unfold listT
 simp only []
 generalize hl2 : (if k = 3 then (flatT k l).filter fun x => !decide (x.kind = 1) else if k = 4 then (flatT k l).filter fun x => !decide (x.kind = 0) else flatT k l) = l2
 have ho2 : Re.sizes l2 ≤ Re.sizes l := by
  rw [← hl2]
  split
  ·exact Nat.le_trans (sizes_filter _ _) hf
  ·split
   ·exact Nat.le_trans (sizes_filter _ _) hf
   ·exact hf
 generalize hl3 : (if k = 3 then l2 else onceT [] l2) = l3
 have ho3 : Re.sizes l3 ≤ Re.sizes l := by
  rw [← hl3]
  split
  ·exact ho2
  ·have := sizes_once l2 []; simp only [Re.sizes] at this; omega
 split
 ·omega
 ·split
  ·simp only [Re.sizes] at ho3; omega
  ·split <;> omega
  ·simp only [Re.size]; omega
theorem size_normN (k : Int) (set : List (Int × Int)) (a : List Re) (mn mx : Int) (ng : Bool) : (normN k set a mn mx ng).size ≤ Re.sizes a + 1 := by
  have h0 : noneT.size = 1 := rfl
  have h1 : emptyT.size = 1 := rfl
  unfold normN
  split
  · exact size_listT k a
  · split
    · split
      · rename_i x r
        simp only [Re.sizes]
        split; omega
        split; omega
        split; omega
        split; omega
        simp only [Re.size, Re.sizes]; omega
      · simp only [Re.size]; omega
    · split
      · split
        · rename_i x r
          simp only [Re.sizes]
          split
          · have hx := x.size_eq
            cases hh : x.args with
            | nil => simp only [List.headD]; omega
            | cons z r => rw [hh] at hx; simp only [Re.sizes, List.headD] at hx ⊢; omega
          · simp only [Re.size, Re.sizes]; omega
        · simp only [Re.size]; omega
      · split
        · split
          · rename_i x r
            simp only [Re.sizes]
            split; omega
            split; omega
            simp only [Re.size, Re.sizes]; omega
          · simp only [Re.size]; omega
        · simp only [Re.size]; omega
mutual
theorem size_normT : ∀ (t : Re), (normT t).size ≤ t.size
  | .mk k set args mn mx ng => by
    simp only [normT, Re.size]
    have := size_normN k set (normTs args) mn mx ng
    have := size_normTs args
    omega
theorem size_normTs : ∀ (ts : List Re), Re.sizes (normTs ts) ≤ Re.sizes ts
  | [] => by simp [normTs, Re.sizes]
  | t :: ts => by
    simp only [normTs, Re.sizes]
    have := size_normT t
    have := size_normTs ts
    omega
end
def isL (k : Int) : Prop := k = 3 ∨ k = 4 ∨ k = 7
mutual
def Nf : Re → Prop
  | .mk k set args mn mx ng => Nfs args ∧ (isL k → set = [] ∧ mn = 0 ∧ mx = 0 ∧ ng = false ∧ 2 ≤ args.length ∧ (∀ x ∈ args, x.kind ≠ k) ∧ (k = 3 → ∀ x ∈ args, x.kind ≠ 1) ∧ (∀ x ∈ args, x.kind ≠ 0) ∧ (k ≠ 3 → args.Nodup)) ∧
      (¬ isL k → normN k set args mn mx ng = .mk k set args mn mx ng)
def Nfs : List Re → Prop
  | [] => True
  | t :: ts => Nf t ∧ Nfs ts
end
end Go.Proofs
namespace Go.Proofs
open Go Go.Eng
set_option maxRecDepth 100000
def RsAt (w : World) (v : Value) (ts : List Re) : Prop := ∃ aa ac, v = .slice aa ts.length ac ∧ (ts.length ≤ ac ∧ ac ≤ 9223372036854775807) ∧ (ts = [] ∨ ∃ b o, aa = some ⟨b, o, none⟩ ∧ ResAt w b o ts)
theorem RsAt.ext {w w' : World} {v : Value} {ts : List Re} (h : RsAt w v ts) (e : Ext w w') : RsAt w' v ts := by
 obtain ⟨aa, ac, h1, h2, h3⟩ := h
 refine ⟨aa, ac, h1, h2, ?_⟩
 rcases h3 with h | ⟨b, o, h4, h5⟩
 ·exact .inl h
 ·exact .inr ⟨b, o, h4, ResAt.ext e ts h5⟩
theorem RsAt.cells {w : World} {aa : Option Addr} {n ac : Nat} {ts : List Re} (h : RsAt w (.slice aa n ac) ts) (hn : 0 < n) : ∃ b o, aa = some ⟨b, o, none⟩ ∧ ∀ i t, ts[i]? = some t → ∃ vs, CellsAt w b (o + i * 6) vs ∧ ReAt w t vs := by
 obtain ⟨aa', ac', h1, h2, h3⟩ := h
 simp only [Value.slice.injEq] at h1
 obtain ⟨rfl, rfl, rfl⟩ := h1
 rcases h3 with rfl | ⟨b, o, h4, h5⟩
 ·simp at hn
 ·exact ⟨b, o, h4, fun i t ht => ResAt.get h5 ht⟩
theorem ReAt.rs {w : World} {t : Re} {sa aa : Option Addr} {k m x : Int} {n sc n' ac : Nat} {ng : Bool} (h : ReAt w t [.int .i64 k, .slice sa n sc, .slice aa n' ac, .int .i64 m, .int .i64 x, .bool ng]) : RsAt w (.slice aa n' ac) t.args := by
 obtain ⟨sa', sc', aa', ac', hv, _, h2, h3⟩ := h.form
 simp at hv
 obtain ⟨_, _, ⟨rfl, rfl, rfl⟩, _⟩ := hv
 exact ⟨_, _, rfl, h2, h3⟩
theorem sameT_eq (t u : Re) : sameT t u = (decide (t.kind = u.kind) && decide (t.set = u.set) && decide (t.mn = u.mn) && decide (t.mx = u.mx) && decide (t.neg = u.neg) && sameTs t.args u.args) := by
 cases t; cases u; simp only [sameT, Re.kind, Re.set, Re.args, Re.mn, Re.mx, Re.neg]; try rfl
set_option maxHeartbeats 1000000 in
theorem eqf_c (w0 : World) (v1 v2 fv : Value) (l1 l2 : List Re) (h1 : RsAt w0 v1 l1) (h2 : RsAt w0 v2 l2)
  (hf : ∀ (w : World) (x u : Re) (vs us : List Value), Ext w0 w → x ∈ l1 → ReAt w x vs → ReAt w u us → CallV Tryz.prog fv #[.agg vs.toArray, .agg us.toArray] w fun r w' => r = .bool (sameT x u) ∧ Ext w w') :
  Ret Tryz.prog 46 #[v1, v2, fv] w0 fun v w => v = .bool (sameTs l1 l2) ∧ Ext w0 w := by
 have g1 := h1
 have g2 := h2
 obtain ⟨a1, c1, rfl, hb1, _⟩ := h1
 obtain ⟨a2, c2, rfl, hb2, _⟩ := h2
 refine Ret_of Tryz.func46 rfl Tryz.ntmps46 (Nat.le_of_ble_eq_true rfl) ?_
 have E : Chg none1 w0 w0 := Chg.refl _ _
 refine Wp_seq_region ?_
 refine qA _ rfl ?_
 refine WpL_nil (Wp_seq (Wp_seq_region ?_))
 refine qM _ rfl ?_
 refine qV (r_lenSlice Tryz.underlying23 rfl) ?_
 refine qM _ rfl ?_
 refine qV (r_lenSlice Tryz.underlying23 rfl) ?_
 refine qV (r_neq rfl rfl) ?_
 refine WpL_nil ?_
 refine Wp_cond rfl (fun hl => ?_) (fun hl => ?_)
 ·have khl := hl
  replace hl := of_decide_eq_true hl
  refine Wp_seq_region ?_
  refine qA _ rfl ?_
  refine WpL_nil (Wp_ret (thn_ret ?_))
  refine fin_tmp Tryz.results46 (v := (.bool false)) rfl ?_
  exact ⟨bool_eq (by symm; rw [← Bool.not_eq_true, sameTs_iff]; intro h; rw [h] at hl; exact hl rfl), E⟩
 ·have khl := hl
  replace hl := of_decide_eq_false hl
  refine Wp_skip (thn_normal (Wp_seq (Wp_seq_region ?_)))
  refine qM _ rfl ?_
  refine qV (r_lenSlice Tryz.underlying23 rfl) ?_
  refine qM _ rfl ?_
  refine WpL_nil (Wp_block ?_)
  refine Wp_loop (fun nn_ σ W2 => ∃ (k : Nat), (∃ jj_, σ = upds jj_ [(1, (.slice a2 l2.length c2)), (2, fv), (15, (.slice a1 l1.length c1)), (16, (I6 (l1.length : Int))), (17, (I6 (k : Int)))]) ∧ Chg none1 w0 W2 ∧ (k ≤ l1.length) ∧ (∀ (i : Nat), i < k → l1[i]? = l2[i]?) ∧ nn_ = l1.length - k) (n := l1.length - 0) ?_ ?_
  ·exact ⟨0, Fits.out ⟨rfl, rfl, rfl, rfl, rfl, trivial⟩, E, Nat.zero_le _, (fun i h => absurd h (Nat.not_lt_zero _)), rfl⟩
  ·clear E
   rintro _ _ W2 ⟨k, ⟨j2, rfl⟩, E, hk, heq, rfl⟩
   refine Wp_seq_region ?_
   refine qV (r_lss rfl rfl) ?_
   refine WpL_nil (Wp_seq ?_)
   refine Wp_cond rfl (fun hlt => ?_) (fun hlt => ?_)
   ·have khlt := hlt
    replace hlt := of_decide_eq_true hlt
    obtain ⟨p, hp⟩ := get_of_lt (l := l1) (i := k) (by omega)
    obtain ⟨q, hq⟩ := get_of_lt (l := l2) (i := k) (by omega)
    obtain ⟨b1, o1, rfl, hc1⟩ := g1.cells (by omega)
    obtain ⟨b2, o2, rfl, hc2⟩ := g2.cells (by omega)
    obtain ⟨vs, hcv, hpv⟩ := hc1 k p hp
    obtain ⟨us, hcu, hqu⟩ := hc2 k q hq
    have hpv0 := hpv
    have hqu0 := hqu
    obtain ⟨sa, sc, aa, ac, rfl, _, _, _⟩ := hpv.form
    obtain ⟨sa2, sc2, aa2, ac2, rfl, _, _, _⟩ := hqu.form
    refine Wp_skip (thn_normal (Wp_seq (Wp_block (Wp_seq_region ?_))))
    refine qM _ rfl ?_
    refine qV (r_indexSlice (b := b1) (o := o1) (len := l1.length) (cap := c1) (i := k) (o' := o1 + k * 6) rfl rfl rfl Tryz.underlying23 siz25 (by omega) (by omega)) ?_
    refine qV (r_loadAgg rfl agg25 siz25 rfl (hcv.ext E)) ?_
    refine s_alloc (c := #[(I6 0), (.slice none 0 0), (.slice none 0 0), (I6 0), (I6 0), (.bool false)]) (by decide) zer25 rfl ?_
    intro bp wp Np
    have Fp := Np.ge E
    replace E := E.ext Np.ext
    have Bp := Np.blk
    refine qA _ rfl ?_
    refine s_storeAgg (b := bp) (o := 0) (c' := (R6 p sa sc aa ac)) rfl rfl (by simp [Value.oneCell']) siz25 rfl Bp (by first | (simp; done) | exact Nat.le_of_ble_eq_true rfl) rfl ?_
    intro w4 S4
    replace E := S4.step E (by first | exact Or.inl (by omega) | exact Or.inr rfl | exact Or.inr (by assumption) | exact Or.inr (by simp) | exact Or.inr (by omega) | exact Or.inr (by dsimp only; omega))
    replace Bp := S4.blk
    refine WpL_nil (Wp_seq_region ?_)
    refine qM _ rfl ?_
    refine qM _ rfl ?_
    refine qV (r_indexSlice (b := b2) (o := o2) (len := l2.length) (cap := c2) (i := k) (o' := o2 + k * 6) rfl rfl rfl Tryz.underlying23 siz25 (by omega) (by omega)) ?_
    refine qV (r_loadAgg rfl agg25 siz25 rfl (hcu.ext E)) ?_
    refine s_allocStore (v := (.agg (R6 q sa2 sc2 aa2 ac2))) (c := (R6 q sa2 sc2 aa2 ac2)) (n := 6) (by decide) zer25 rfl siz25 rfl rfl rfl (by simp [Value.oneCell']) ?_
    intro bq wq Nq
    have Fq := Nq.ge E
    have Oq_bp := Nq.lt Bp
    replace Bp := Nq.keep Bp
    replace E := E.ext Nq.ext
    have Bq := Nq.blk
    refine WpL_nil (Wp_seq_region ?_)
    refine qM _ rfl ?_
    refine qV (r_loadAgg (vs := [(I6 p.kind), (.slice sa p.set.length sc), (.slice aa p.args.length ac), (I6 p.mn), (I6 p.mx), (.bool p.neg)]) rfl agg25 siz25 rfl (Bp.cells rfl)) ?_
    refine qV (r_loadAgg (vs := [(I6 q.kind), (.slice sa2 q.set.length sc2), (.slice aa2 q.args.length ac2), (I6 q.mn), (I6 q.mx), (.bool q.neg)]) rfl agg25 siz25 rfl (Bq.cells rfl)) ?_
    refine WpL_callV (by decide) rfl rfl (hf _ p q _ _ E (List.mem_of_getElem? hp) (ReAt.ext E p hpv0) (ReAt.ext E q hqu0)) ?_
    rintro _ w9 ⟨rfl, X9⟩
    replace Bp := X9.keep Bp
    replace Bq := X9.keep Bq
    replace E := E.ext X9
    refine qV (r_not rfl) ?_
    refine WpL_nil ?_
    refine Wp_cond rfl (fun hpq => ?_) (fun hpq => ?_)
    ·have khpq := hpq
     replace hpq := by simpa using hpq
     refine Wp_seq_region ?_
     refine qA _ rfl ?_
     refine WpL_nil (Wp_ret (inB_ret (thn_ret (thn_ret (inB_ret (thn_ret ?_))))))
     refine fin_tmp Tryz.results46 (v := (.bool false)) rfl ?_
     exact ⟨bool_eq (by symm; rw [← Bool.not_eq_true, sameTs_iff]; intro h; subst h; rw [hp] at hq; cases hq; rw [(sameT_iff p p).2 rfl] at hpq; cases hpq), E⟩
    ·have khpq := hpq
     replace hpq := by simpa using hpq
     have hpq2 : p = q := (sameT_iff p q).1 (by simpa using hpq)
     refine Wp_skip (inB_normal (thn_normal (Wp_region ?_)))
     refine qV (r_add rfl rfl (wI64 (by omega))) ?_
     refine qM _ rfl ?_
     refine WpL_nil (thn_normal ?_)
     exact ⟨l1.length - (k + 1), by omega, k + 1, Fits.out ⟨rfl, rfl, rfl, rfl, rfl, trivial⟩, E, (by omega), (fun i hi => by rcases Nat.lt_or_ge i k with h | h; exact heq i h; obtain rfl : i = k := (by omega); rw [hp, hq, hpq2]), rfl⟩
   ·have khlt := hlt
    replace hlt := of_decide_eq_false hlt
    have hkk : k = l1.length := by omega
    refine Wp_exit (thn_exit (thn_exit (inB_here (thn_normal (Wp_seq_region ?_)))))
    refine qA _ rfl ?_
    refine WpL_nil (Wp_ret ?_)
    refine fin_tmp Tryz.results46 (v := (.bool true)) rfl ?_
    exact ⟨bool_eq (by symm; rw [sameTs_iff]; exact get_ext (by omega) (fun i hi => heq i (by omega))), E⟩
set_option maxHeartbeats 1000000 in
theorem resame_c : ∀ (n : Nat) (t u : Re) (w0 : World) (vs us : List Value), t.size ≤ n → ReAt w0 t vs → ReAt w0 u us →
    Ret Tryz.prog 12 #[.agg vs.toArray, .agg us.toArray] w0 fun v w => v = .bool (sameT t u) ∧ Ext w0 w := by
  intro n
  induction n with
  | zero => intro t u w0 vs us hn; have := t.size_pos; omega
  | succ n ih =>
  intro t u w0 vs us hn ht hu
  have ht0 := ht
  have hu0 := hu
  obtain ⟨sa, sc, aa, ac, rfl, hts, _, _⟩ := ht.form
  obtain ⟨sa2, sc2, aa2, ac2, rfl, hus, _, _⟩ := hu.form
  have hF : sameT t u = (decide (t.kind = u.kind) && decide (t.set = u.set) && decide (t.mn = u.mn) && decide (t.mx = u.mx) && decide (t.neg = u.neg) && sameTs t.args u.args) := sameT_eq t u
  refine Ret_of Tryz.func12 rfl Tryz.ntmps12 (Nat.le_of_ble_eq_true rfl) ?_
  have E : Chg none1 w0 w0 := Chg.refl _ _
  refine Wp_seq_region ?_
  refine s_box (v := (.agg (R6 t sa sc aa ac))) (c := (R6 t sa sc aa ac)) (by decide) rfl rfl ?_
  intro b1 w1 N1
  have F1 := N1.ge E
  replace E := E.ext N1.ext
  have B1 := N1.blk
  refine s_box (v := (.agg (R6 u sa2 sc2 aa2 ac2))) (c := (R6 u sa2 sc2 aa2 ac2)) (by decide) rfl rfl ?_
  intro b2 w2 N2
  have F2 := N2.ge E
  have O2_b1 := N2.lt B1
  replace B1 := N2.keep B1
  replace E := E.ext N2.ext
  have B2 := N2.blk
  refine qA _ rfl ?_
  refine WpL_nil (Wp_seq_region ?_)
  refine qF b1 0 0 rfl Tryz.underlying25 rfl siz3 rfl ?_
  refine qV (r_load rfl flat3 (B1.cell rfl)) ?_
  refine qF b2 0 0 rfl Tryz.underlying25 rfl siz3 rfl ?_
  refine qV (r_load rfl flat3 (B2.cell rfl)) ?_
  refine qV (r_eql rfl rfl) ?_
  refine qM _ rfl ?_
  rcases Bool.eq_false_or_eq_true (decide ((t.kind : Int) = u.kind)) with g1 | g1
  · have kg1 := g1
    replace kg1 := of_decide_eq_true kg1
    refine WpL_guard_yes rfl rfl (by decide) (congrArg Value.bool g1) ?_
    refine qF b1 0 1 rfl Tryz.underlying25 rfl siz22 rfl ?_
    refine WpL_guard_yes rfl rfl (by decide) (congrArg Value.bool g1) ?_
    refine qV (r_load rfl flat22 (B1.cell rfl)) ?_
    refine WpL_guard_yes rfl rfl (by decide) (congrArg Value.bool g1) ?_
    refine qF b2 0 1 rfl Tryz.underlying25 rfl siz22 rfl ?_
    refine WpL_guard_yes rfl rfl (by decide) (congrArg Value.bool g1) ?_
    refine qV (r_load rfl flat22 (B2.cell rfl)) ?_
    refine WpL_guard_yes rfl rfl (by decide) (congrArg Value.bool g1) ?_
    refine WpL_enter rfl rfl (by decide) (r_callF Tryz.func45 nm45 bd45 rfl) (speq_c _ _ _ t.set u.set (SlAt.ext hts E) (SlAt.ext hus E)) ?_
    rintro _ w9 ⟨rfl, X9⟩
    replace B1 := X9.keep B1
    replace B2 := X9.keep B2
    replace E := E.ext X9
    refine qV (r_pick (v := (.bool (decide (t.set = u.set)))) rfl (by rw [g1]; rfl)) ?_
    refine qM _ rfl ?_
    rcases Bool.eq_false_or_eq_true (decide (t.set = u.set)) with g2 | g2
    · have kg2 := g2
      replace kg2 := of_decide_eq_true kg2
      refine WpL_guard_yes rfl rfl (by decide) (congrArg Value.bool g2) ?_
      refine qF b1 0 3 rfl Tryz.underlying25 rfl siz3 rfl ?_
      refine WpL_guard_yes rfl rfl (by decide) (congrArg Value.bool g2) ?_
      refine qV (r_load rfl flat3 (B1.cell rfl)) ?_
      refine WpL_guard_yes rfl rfl (by decide) (congrArg Value.bool g2) ?_
      refine qF b2 0 3 rfl Tryz.underlying25 rfl siz3 rfl ?_
      refine WpL_guard_yes rfl rfl (by decide) (congrArg Value.bool g2) ?_
      refine qV (r_load rfl flat3 (B2.cell rfl)) ?_
      refine WpL_guard_yes rfl rfl (by decide) (congrArg Value.bool g2) ?_
      refine qV (r_eql rfl rfl) ?_
      refine qV (r_pick (v := (.bool (decide ((t.mn : Int) = u.mn)))) rfl (by rw [g2]; rfl)) ?_
      refine qM _ rfl ?_
      rcases Bool.eq_false_or_eq_true (decide ((t.mn : Int) = u.mn)) with g3 | g3
      · have kg3 := g3
        replace kg3 := of_decide_eq_true kg3
        refine WpL_guard_yes rfl rfl (by decide) (congrArg Value.bool g3) ?_
        refine qF b1 0 4 rfl Tryz.underlying25 rfl siz3 rfl ?_
        refine WpL_guard_yes rfl rfl (by decide) (congrArg Value.bool g3) ?_
        refine qV (r_load rfl flat3 (B1.cell rfl)) ?_
        refine WpL_guard_yes rfl rfl (by decide) (congrArg Value.bool g3) ?_
        refine qF b2 0 4 rfl Tryz.underlying25 rfl siz3 rfl ?_
        refine WpL_guard_yes rfl rfl (by decide) (congrArg Value.bool g3) ?_
        refine qV (r_load rfl flat3 (B2.cell rfl)) ?_
        refine WpL_guard_yes rfl rfl (by decide) (congrArg Value.bool g3) ?_
        refine qV (r_eql rfl rfl) ?_
        refine qV (r_pick (v := (.bool (decide ((t.mx : Int) = u.mx)))) rfl (by rw [g3]; rfl)) ?_
        refine qM _ rfl ?_
        rcases Bool.eq_false_or_eq_true (decide ((t.mx : Int) = u.mx)) with g4 | g4
        · have kg4 := g4
          replace kg4 := of_decide_eq_true kg4
          refine WpL_guard_yes rfl rfl (by decide) (congrArg Value.bool g4) ?_
          refine qF b1 0 5 rfl Tryz.underlying25 rfl siz4 rfl ?_
          refine WpL_guard_yes rfl rfl (by decide) (congrArg Value.bool g4) ?_
          refine qV (r_load rfl flat4 (B1.cell rfl)) ?_
          refine WpL_guard_yes rfl rfl (by decide) (congrArg Value.bool g4) ?_
          refine qF b2 0 5 rfl Tryz.underlying25 rfl siz4 rfl ?_
          refine WpL_guard_yes rfl rfl (by decide) (congrArg Value.bool g4) ?_
          refine qV (r_load rfl flat4 (B2.cell rfl)) ?_
          refine WpL_guard_yes rfl rfl (by decide) (congrArg Value.bool g4) ?_
          refine qV (r_eqlB Tryz.underlying4 rfl rfl) ?_
          refine qV (r_pick (v := (.bool (t.neg == u.neg))) rfl (by rw [g4]; rfl)) ?_
          refine qM _ rfl ?_
          rcases Bool.eq_false_or_eq_true (t.neg == u.neg) with g5 | g5
          · have kg5 := g5
            refine WpL_guard_yes rfl rfl (by decide) (congrArg Value.bool g5) ?_
            refine qF b1 0 2 rfl Tryz.underlying25 rfl siz23 rfl ?_
            refine WpL_guard_yes rfl rfl (by decide) (congrArg Value.bool g5) ?_
            refine qV (r_load rfl flat23 (B1.cell rfl)) ?_
            refine WpL_guard_yes rfl rfl (by decide) (congrArg Value.bool g5) ?_
            refine qF b2 0 2 rfl Tryz.underlying25 rfl siz23 rfl ?_
            refine WpL_guard_yes rfl rfl (by decide) (congrArg Value.bool g5) ?_
            refine qV (r_load rfl flat23 (B2.cell rfl)) ?_
            refine WpL_guard_yes rfl rfl (by decide) (congrArg Value.bool g5) ?_
            refine WpL_enter rfl rfl (by decide) (r_callF Tryz.func46 nm46 bd46 rfl) (eqf_c _ _ _ _ t.args u.args ((ReAt.rs ht0).ext E) ((ReAt.rs hu0).ext E) (fun w x y vs us hE hx h1 h2 => CallV.mk (first := #[]) (cap := #[]) Tryz.func12 nm12 bd12 rfl (ih x y w vs us (by obtain ⟨i, hi⟩ := List.mem_iff_getElem?.1 hx; have := Re.size_arg hi; omega) h1 h2))) ?_
            rintro _ w19 ⟨rfl, X19⟩
            replace B1 := X19.keep B1
            replace B2 := X19.keep B2
            replace E := E.ext X19
            refine qV (r_pick (v := (.bool (sameTs t.args u.args))) rfl (by rw [g5]; rfl)) ?_
            refine qA _ rfl ?_
            refine WpL_nil (Wp_ret ?_)
            refine fin_tmp Tryz.results12 (v := (.bool (sameTs t.args u.args))) rfl ?_
            exact ⟨bool_eq (by rw [hF, g1, g2, g3, g4]; simp at g5; simp [g5]), E⟩
          · have kg5 := g5
            refine WpL_guard_no rfl rfl (by decide) (v := .bool false) (congrArg Value.bool g5) (Or.inl rfl) ?_
            refine WpL_guard_no rfl rfl (by decide) (v := .bool false) (congrArg Value.bool g5) (Or.inl rfl) ?_
            refine WpL_guard_no rfl rfl (by decide) (v := .bool false) (congrArg Value.bool g5) (Or.inl rfl) ?_
            refine WpL_guard_no rfl rfl (by decide) (v := .bool false) (congrArg Value.bool g5) (Or.inl rfl) ?_
            refine WpL_guard_no rfl rfl (by decide) (v := .bool false) (congrArg Value.bool g5) (Or.inl rfl) ?_
            refine qV (r_pick (v := (.bool false)) rfl (by rw [g5]; rfl)) ?_
            refine qA _ rfl ?_
            refine WpL_nil (Wp_ret ?_)
            refine fin_tmp Tryz.results12 (v := (.bool false)) rfl ?_
            exact ⟨bool_eq (by rw [hF]; simp at g5; simp [g5]), E⟩
        · have kg4 := g4
          replace kg4 := of_decide_eq_false kg4
          refine WpL_guard_no rfl rfl (by decide) (v := .bool false) (congrArg Value.bool g4) (Or.inl rfl) ?_
          refine WpL_guard_no rfl rfl (by decide) (v := .bool false) (congrArg Value.bool g4) (Or.inl rfl) ?_
          refine WpL_guard_no rfl rfl (by decide) (v := .bool false) (congrArg Value.bool g4) (Or.inl rfl) ?_
          refine WpL_guard_no rfl rfl (by decide) (v := .bool false) (congrArg Value.bool g4) (Or.inl rfl) ?_
          refine WpL_guard_no rfl rfl (by decide) (v := .bool false) (congrArg Value.bool g4) (Or.inl rfl) ?_
          refine qV (r_pick (v := (.bool false)) rfl (by rw [g4]; rfl)) ?_
          refine qM _ rfl ?_
          refine WpL_guard_no rfl rfl (by decide) (v := .bool false) rfl (Or.inl rfl) ?_
          refine WpL_guard_no rfl rfl (by decide) (v := .bool false) rfl (Or.inl rfl) ?_
          refine WpL_guard_no rfl rfl (by decide) (v := .bool false) rfl (Or.inl rfl) ?_
          refine WpL_guard_no rfl rfl (by decide) (v := .bool false) rfl (Or.inl rfl) ?_
          refine WpL_guard_no rfl rfl (by decide) (v := .bool false) rfl (Or.inl rfl) ?_
          refine qV (r_pick rfl rfl) ?_
          refine qA _ rfl ?_
          refine WpL_nil (Wp_ret ?_)
          refine fin_tmp Tryz.results12 (v := (.bool false)) rfl ?_
          exact ⟨bool_eq (by rw [hF]; simp at g4; simp [g4]), E⟩
      · have kg3 := g3
        replace kg3 := of_decide_eq_false kg3
        refine WpL_guard_no rfl rfl (by decide) (v := .bool false) (congrArg Value.bool g3) (Or.inl rfl) ?_
        refine WpL_guard_no rfl rfl (by decide) (v := .bool false) (congrArg Value.bool g3) (Or.inl rfl) ?_
        refine WpL_guard_no rfl rfl (by decide) (v := .bool false) (congrArg Value.bool g3) (Or.inl rfl) ?_
        refine WpL_guard_no rfl rfl (by decide) (v := .bool false) (congrArg Value.bool g3) (Or.inl rfl) ?_
        refine WpL_guard_no rfl rfl (by decide) (v := .bool false) (congrArg Value.bool g3) (Or.inl rfl) ?_
        refine qV (r_pick (v := (.bool false)) rfl (by rw [g3]; rfl)) ?_
        refine qM _ rfl ?_
        refine WpL_guard_no rfl rfl (by decide) (v := .bool false) rfl (Or.inl rfl) ?_
        refine WpL_guard_no rfl rfl (by decide) (v := .bool false) rfl (Or.inl rfl) ?_
        refine WpL_guard_no rfl rfl (by decide) (v := .bool false) rfl (Or.inl rfl) ?_
        refine WpL_guard_no rfl rfl (by decide) (v := .bool false) rfl (Or.inl rfl) ?_
        refine WpL_guard_no rfl rfl (by decide) (v := .bool false) rfl (Or.inl rfl) ?_
        refine qV (r_pick rfl rfl) ?_
        refine qM _ rfl ?_
        refine WpL_guard_no rfl rfl (by decide) (v := .bool false) rfl (Or.inl rfl) ?_
        refine WpL_guard_no rfl rfl (by decide) (v := .bool false) rfl (Or.inl rfl) ?_
        refine WpL_guard_no rfl rfl (by decide) (v := .bool false) rfl (Or.inl rfl) ?_
        refine WpL_guard_no rfl rfl (by decide) (v := .bool false) rfl (Or.inl rfl) ?_
        refine WpL_guard_no rfl rfl (by decide) (v := .bool false) rfl (Or.inl rfl) ?_
        refine qV (r_pick rfl rfl) ?_
        refine qA _ rfl ?_
        refine WpL_nil (Wp_ret ?_)
        refine fin_tmp Tryz.results12 (v := (.bool false)) rfl ?_
        exact ⟨bool_eq (by rw [hF]; simp at g3; simp [g3]), E⟩
    · have kg2 := g2
      replace kg2 := of_decide_eq_false kg2
      refine WpL_guard_no rfl rfl (by decide) (v := .bool false) (congrArg Value.bool g2) (Or.inl rfl) ?_
      refine WpL_guard_no rfl rfl (by decide) (v := .bool false) (congrArg Value.bool g2) (Or.inl rfl) ?_
      refine WpL_guard_no rfl rfl (by decide) (v := .bool false) (congrArg Value.bool g2) (Or.inl rfl) ?_
      refine WpL_guard_no rfl rfl (by decide) (v := .bool false) (congrArg Value.bool g2) (Or.inl rfl) ?_
      refine WpL_guard_no rfl rfl (by decide) (v := .bool false) (congrArg Value.bool g2) (Or.inl rfl) ?_
      refine qV (r_pick (v := (.bool false)) rfl (by rw [g2]; rfl)) ?_
      refine qM _ rfl ?_
      refine WpL_guard_no rfl rfl (by decide) (v := .bool false) rfl (Or.inl rfl) ?_
      refine WpL_guard_no rfl rfl (by decide) (v := .bool false) rfl (Or.inl rfl) ?_
      refine WpL_guard_no rfl rfl (by decide) (v := .bool false) rfl (Or.inl rfl) ?_
      refine WpL_guard_no rfl rfl (by decide) (v := .bool false) rfl (Or.inl rfl) ?_
      refine WpL_guard_no rfl rfl (by decide) (v := .bool false) rfl (Or.inl rfl) ?_
      refine qV (r_pick rfl rfl) ?_
      refine qM _ rfl ?_
      refine WpL_guard_no rfl rfl (by decide) (v := .bool false) rfl (Or.inl rfl) ?_
      refine WpL_guard_no rfl rfl (by decide) (v := .bool false) rfl (Or.inl rfl) ?_
      refine WpL_guard_no rfl rfl (by decide) (v := .bool false) rfl (Or.inl rfl) ?_
      refine WpL_guard_no rfl rfl (by decide) (v := .bool false) rfl (Or.inl rfl) ?_
      refine WpL_guard_no rfl rfl (by decide) (v := .bool false) rfl (Or.inl rfl) ?_
      refine qV (r_pick rfl rfl) ?_
      refine qM _ rfl ?_
      refine WpL_guard_no rfl rfl (by decide) (v := .bool false) rfl (Or.inl rfl) ?_
      refine WpL_guard_no rfl rfl (by decide) (v := .bool false) rfl (Or.inl rfl) ?_
      refine WpL_guard_no rfl rfl (by decide) (v := .bool false) rfl (Or.inl rfl) ?_
      refine WpL_guard_no rfl rfl (by decide) (v := .bool false) rfl (Or.inl rfl) ?_
      refine WpL_guard_no rfl rfl (by decide) (v := .bool false) rfl (Or.inl rfl) ?_
      refine qV (r_pick rfl rfl) ?_
      refine qA _ rfl ?_
      refine WpL_nil (Wp_ret ?_)
      refine fin_tmp Tryz.results12 (v := (.bool false)) rfl ?_
      exact ⟨bool_eq (by rw [hF]; simp at g2; simp [g2]), E⟩
  · have kg1 := g1
    replace kg1 := of_decide_eq_false kg1
    refine WpL_guard_no rfl rfl (by decide) (v := .bool false) (congrArg Value.bool g1) (Or.inl rfl) ?_
    refine WpL_guard_no rfl rfl (by decide) (v := .bool false) (congrArg Value.bool g1) (Or.inl rfl) ?_
    refine WpL_guard_no rfl rfl (by decide) (v := .bool false) (congrArg Value.bool g1) (Or.inl rfl) ?_
    refine WpL_guard_no rfl rfl (by decide) (v := .bool false) (congrArg Value.bool g1) (Or.inl rfl) ?_
    refine WpL_guard_no rfl rfl (by decide) (v := .bool false) (congrArg Value.bool g1) (Or.inl rfl) ?_
    refine qV (r_pick (v := (.bool false)) rfl (by rw [g1]; rfl)) ?_
    refine qM _ rfl ?_
    refine WpL_guard_no rfl rfl (by decide) (v := .bool false) rfl (Or.inl rfl) ?_
    refine WpL_guard_no rfl rfl (by decide) (v := .bool false) rfl (Or.inl rfl) ?_
    refine WpL_guard_no rfl rfl (by decide) (v := .bool false) rfl (Or.inl rfl) ?_
    refine WpL_guard_no rfl rfl (by decide) (v := .bool false) rfl (Or.inl rfl) ?_
    refine WpL_guard_no rfl rfl (by decide) (v := .bool false) rfl (Or.inl rfl) ?_
    refine qV (r_pick rfl rfl) ?_
    refine qM _ rfl ?_
    refine WpL_guard_no rfl rfl (by decide) (v := .bool false) rfl (Or.inl rfl) ?_
    refine WpL_guard_no rfl rfl (by decide) (v := .bool false) rfl (Or.inl rfl) ?_
    refine WpL_guard_no rfl rfl (by decide) (v := .bool false) rfl (Or.inl rfl) ?_
    refine WpL_guard_no rfl rfl (by decide) (v := .bool false) rfl (Or.inl rfl) ?_
    refine WpL_guard_no rfl rfl (by decide) (v := .bool false) rfl (Or.inl rfl) ?_
    refine qV (r_pick rfl rfl) ?_
    refine qM _ rfl ?_
    refine WpL_guard_no rfl rfl (by decide) (v := .bool false) rfl (Or.inl rfl) ?_
    refine WpL_guard_no rfl rfl (by decide) (v := .bool false) rfl (Or.inl rfl) ?_
    refine WpL_guard_no rfl rfl (by decide) (v := .bool false) rfl (Or.inl rfl) ?_
    refine WpL_guard_no rfl rfl (by decide) (v := .bool false) rfl (Or.inl rfl) ?_
    refine WpL_guard_no rfl rfl (by decide) (v := .bool false) rfl (Or.inl rfl) ?_
    refine qV (r_pick rfl rfl) ?_
    refine qM _ rfl ?_
    refine WpL_guard_no rfl rfl (by decide) (v := .bool false) rfl (Or.inl rfl) ?_
    refine WpL_guard_no rfl rfl (by decide) (v := .bool false) rfl (Or.inl rfl) ?_
    refine WpL_guard_no rfl rfl (by decide) (v := .bool false) rfl (Or.inl rfl) ?_
    refine WpL_guard_no rfl rfl (by decide) (v := .bool false) rfl (Or.inl rfl) ?_
    refine WpL_guard_no rfl rfl (by decide) (v := .bool false) rfl (Or.inl rfl) ?_
    refine qV (r_pick rfl rfl) ?_
    refine qA _ rfl ?_
    refine WpL_nil (Wp_ret ?_)
    refine fin_tmp Tryz.results12 (v := (.bool false)) rfl ?_
    exact ⟨bool_eq (by rw [hF]; simp at g1; simp [g1]), E⟩
theorem res_idx_c (w0 : World) (v fv : Value) (l : List Re) (p : Re → Bool) (hs : RsAt w0 v l) (hf : ∀ (w : World) (x : Re) (vs : List Value), Ext w0 w → x ∈ l → ReAt w x vs → CallV Tryz.prog fv #[.agg vs.toArray] w fun r w' => r = .bool (p x) ∧ Ext w w') :
  Ret Tryz.prog 168 #[v, fv] w0 fun r w => r = .int .i64 (idx p l) ∧ Ext w0 w := by
 have g1 := hs
 obtain ⟨a, c, rfl, hb1, _⟩ := hs
 refine Ret_of Tryz.func168 rfl Tryz.ntmps168 (Nat.le_of_ble_eq_true rfl) ?_
 have E : Chg none1 w0 w0 := Chg.refl _ _
 refine Wp_seq_region ?_
 refine qA _ rfl ?_
 refine WpL_nil (Wp_seq (Wp_seq_region ?_))
 refine qM _ rfl ?_
 refine qV (r_lenSlice Tryz.underlying23 rfl) ?_
 refine qM _ rfl ?_
 refine WpL_nil (Wp_block ?_)
 refine Wp_loop (fun nn_ σ W1 => ∃ (k : Nat), (∃ jj_, σ = upds jj_ [(0, (.slice a l.length c)), (1, fv), (7, (I6 (l.length : Int))), (8, (I6 (k : Int)))]) ∧ Chg none1 w0 W1 ∧ (k ≤ l.length) ∧ (∀ (i : Nat) (y : Re), i < k → l[i]? = some y → p y = false) ∧ nn_ = l.length - k) (n := l.length - 0) ?_ ?_
 ·exact ⟨0, Fits.out ⟨rfl, rfl, rfl, rfl, trivial⟩, E, Nat.zero_le _, (fun i y h => absurd h (Nat.not_lt_zero _)), rfl⟩
 ·clear E
  rintro _ _ W1 ⟨k, ⟨j1, rfl⟩, E, hk, hno, rfl⟩
  refine Wp_seq_region ?_
  refine qV (r_lss rfl rfl) ?_
  refine WpL_nil (Wp_seq ?_)
  refine Wp_cond rfl (fun hlt => ?_) (fun hlt => ?_)
  ·have khlt := hlt
   replace hlt := of_decide_eq_true hlt
   obtain ⟨x, hx⟩ := get_of_lt (l := l) (i := k) (by omega)
   obtain ⟨b, o, rfl, hc1⟩ := g1.cells (by omega)
   obtain ⟨vs, hcv, hpv⟩ := hc1 k x hx
   have hpv0 := hpv
   obtain ⟨sa, sc, aa, ac, rfl, _, _, _⟩ := hpv.form
   refine Wp_skip (thn_normal (Wp_seq (Wp_block (Wp_seq_region ?_))))
   refine qM _ rfl ?_
   refine qA _ rfl ?_
   refine WpL_nil (Wp_seq_region ?_)
   refine qM _ rfl ?_
   refine qM _ rfl ?_
   refine qM _ rfl ?_
   refine qV (r_indexSlice (b := b) (o := o) (len := l.length) (cap := c) (i := k) (o' := o + k * 6) rfl rfl rfl Tryz.underlying23 siz25 (by omega) (by omega)) ?_
   refine qV (r_loadAgg rfl agg25 siz25 rfl (hcv.ext E)) ?_
   refine WpL_callV (by decide) rfl rfl (hf _ x _ E (List.mem_of_getElem? hx) (ReAt.ext E x hpv0)) ?_
   rintro _ w9 ⟨rfl, X9⟩
   replace E := E.ext X9
   refine WpL_nil ?_
   refine Wp_cond rfl (fun hp => ?_) (fun hp => ?_)
   ·have khp := hp
    refine Wp_seq_region ?_
    refine qM _ rfl ?_
    refine qA _ rfl ?_
    refine WpL_nil (Wp_ret (inB_ret (thn_ret (thn_ret (inB_ret (thn_ret ?_))))))
    refine fin_tmp Tryz.results168 (v := (.int .i64 ((k : Nat) : Int))) rfl ?_
    exact ⟨int_eq (idx_hit hx hp hno).symm, E⟩
   ·have khp := hp
    refine Wp_skip (inB_normal (thn_normal (Wp_region ?_)))
    refine qV (r_add rfl rfl (wI64 (by omega))) ?_
    refine qM _ rfl ?_
    refine WpL_nil (thn_normal ?_)
    exact ⟨l.length - (k + 1), by omega, k + 1, Fits.out ⟨rfl, rfl, rfl, rfl, trivial⟩, E, (by omega), below_next hx hp hno, rfl⟩
  ·have khlt := hlt
   replace hlt := of_decide_eq_false hlt
   have hkk : k = l.length := by omega
   refine Wp_exit (thn_exit (thn_exit (inB_here (thn_normal (Wp_seq_region ?_)))))
   refine qA _ rfl ?_
   refine WpL_nil (Wp_ret ?_)
   refine fin_tmp Tryz.results168 (v := (.int .i64 (-1))) rfl ?_
   exact ⟨int_eq (idx_miss fun i y hy => hno i y (by have := lt_of_get hy; omega) hy).symm, E⟩
theorem res_has_c (w0 : World) (v fv : Value) (l : List Re) (p : Re → Bool) (hs : RsAt w0 v l) (hf : ∀ (w : World) (x : Re) (vs : List Value), Ext w0 w → x ∈ l → ReAt w x vs → CallV Tryz.prog fv #[.agg vs.toArray] w fun r w' => r = .bool (p x) ∧ Ext w w') :
  Ret Tryz.prog 146 #[v, fv] w0 fun r w => r = .bool (l.any p) ∧ Ext w0 w := by
 refine Ret_of Tryz.func146 rfl Tryz.ntmps146 (Nat.le_of_ble_eq_true rfl) ?_
 have E : Chg none1 w0 w0 := Chg.refl _ _
 refine Wp_seq_region ?_
 refine qA _ rfl ?_
 refine WpL_nil (Wp_seq_region ?_)
 refine qM v rfl ?_
 refine qM _ rfl ?_
 refine WpL_enter rfl rfl (by decide) (r_callF Tryz.func168 nm168 bd168 rfl) (res_idx_c _ v fv l p hs hf) ?_
 rintro _ w9 ⟨rfl, X9⟩
 replace E := E.ext X9
 refine qV (r_geq rfl rfl) ?_
 refine qA _ rfl ?_
 refine WpL_nil (Wp_ret ?_)
 refine fin_tmp Tryz.results146 (v := (.bool (decide ((0 : Int) ≤ idx p l)))) rfl ?_
 exact ⟨bool_eq (idx_any p l), E⟩
end Go.Proofs
namespace Go.Proofs
open Go Go.Eng
set_option maxRecDepth 100000
set_option maxHeartbeats 400000 in
theorem clone_c (w0 : World) (v : Value) (l : List (Int × Int)) (h : SpansAt w0 v l) (hl : l.length ≤ 2000000) :
  Ret Tryz.prog 48 #[v] w0 fun r w => ∃ a c, r = .slice a l.length c ∧ SlIn (fun b => w0.heap.size ≤ b ∧ b < w.heap.size) w 2 r (l.map spanV) ∧ Ext w0 w := by
 obtain ⟨a, c, rfl⟩ := SlAt.form h
 simp only [List.length_map] at h ⊢
 obtain ⟨base, hbase⟩ : ∃ base, base = w0.heap.size := ⟨_, rfl⟩
 refine Ret_of Tryz.func48 rfl Tryz.ntmps48 (Nat.le_of_ble_eq_true rfl) ?_
 have E : Chg none1 w0 w0 := Chg.refl _ _
 refine Wp_seq_region ?_
 refine qA _ rfl ?_
 refine WpL_nil (Wp_seq (Wp_seq_region ?_))
 refine qM _ rfl ?_
 refine WpL_val (v := (.bool a.isNone)) rfl rfl (by decide) (r_eqlNil Tryz.underlying22 rfl rfl) ?_
 refine WpL_nil ?_
 refine Wp_cond rfl (fun hn => ?_) (fun hn => ?_)
 ·have khn := hn
  have hl0 : l.length = 0 := by rcases Nat.eq_zero_or_pos l.length with h0 | h0; exact h0; obtain ⟨b, o, rfl, _⟩ := spans_cells h h0; simp at hn
  have hl1 : l = [] := List.eq_nil_of_length_eq_zero hl0
  refine Wp_seq_region ?_
  refine qA _ rfl ?_
  refine WpL_nil (Wp_ret (thn_ret ?_))
  refine fin_tmp Tryz.results48 (v := (.slice none 0 0)) rfl ?_
  exact ⟨none, 0, by rw [hl0], by subst hl1; exact SlIn.nil _ _ _ _ _, E⟩
 ·have khn := hn
  rcases Bool.eq_false_or_eq_true (decide (l.length = 0)) with hz | hz
  ·have khz := hz
   replace khz := of_decide_eq_true khz
   refine Wp_skip (thn_normal (Wp_seq_region ?_))
   refine s_build0 (by decide) Tryz.underlying22 siz67 ?_
   intro bq wq Nq
   have Fq := Nq.ge E
   replace E := E.ext Nq.ext
   have Bq := Nq.blk
   refine qM _ rfl ?_
   refine qV (r_append0 Tryz.underlying22 siz67 (a' := a) (c' := c) rfl (Nat.le_refl _) (by show Value.slice a l.length c = _; rw [khz])) ?_
   refine qA _ rfl ?_
   refine WpL_nil (Wp_ret ?_)
   refine fin_tmp Tryz.results48 (v := (.slice (some ⟨bq, 0, none⟩) 0 0)) rfl ?_
   have hl1 : l = [] := List.eq_nil_of_length_eq_zero khz
   exact ⟨some ⟨bq, 0, none⟩, 0, by rw [khz], by subst hl1; exact SlIn.nil _ _ _ _ _, E⟩
  ·have khz := hz
   replace khz := of_decide_eq_false khz
   obtain ⟨b, o, rfl, hcl⟩ := spans_cells h (by omega)
   refine Wp_skip (thn_normal (Wp_seq_region ?_))
   refine s_build0 (by decide) Tryz.underlying22 siz67 ?_
   intro bq wq Nq
   have Fq := Nq.ge E
   replace E := E.ext Nq.ext
   have Bq := Nq.blk
   refine qM _ rfl ?_
   have hown := own_empty (base := base) (size := 2) Bq (by omega)
   have hbs : base ≤ wq.heap.size := by have := Nq.ext.size; omega
   refine s_append (base := base) (n := 0) (m := l.length) (xs := []) (news := (l.map spanV).flatten) (size := 2) (bytes := 16) (v := (.slice (some ⟨bq, 0, none⟩) 0 0)) (by decide) Tryz.underlying22 siz67 byt67 zer67 rfl (by decide) rfl hown rfl (spans_six l) ((spans_flat hcl).ext Nq.ext) (spans_one l) (by unfold maxLen; omega) (by omega) (hbs) ?_
   intro v9 w29 Ov9 Cv9 Dv9
   replace E := E.step Cv9 (fun x hx h => absurd (hown.lt x h).1 (by omega))
   obtain ⟨la, lc, rfl⟩ := own_form Ov9
   refine qA _ rfl ?_
   refine WpL_nil (Wp_ret ?_)
   refine fin_tmp Tryz.results48 (v := (.slice la (0 + l.length) lc)) rfl ?_
   simp only [Nat.zero_add, List.nil_append] at Ov9
   have hsl := own_slat Ov9 (by intro r hr; simp only [List.mem_map] at hr; obtain ⟨p, _, rfl⟩ := hr; rfl) (by simp) (by decide)
   obtain ⟨gq, rfl, hgq, _⟩ := own_cells Ov9 (by omega)
   simp only [Nat.zero_add]
   exact ⟨some ⟨gq, 0, none⟩, lc, rfl, SlIn.mk hsl ⟨by omega, (Ov9.lt gq rfl).2⟩, E⟩
mutual
def setsOk : Re → Prop
  | .mk _ set args _ _ _ => set.length ≤ 2000000 ∧ setsOks args
def setsOks : List Re → Prop
  | [] => True
  | t :: ts => setsOk t ∧ setsOks ts
end
theorem setsOk_set {t : Re} (h : setsOk t) : t.set.length ≤ 2000000 := by cases t; simp only [setsOk] at h; exact h.1
theorem setsOk_arg {t : Re} (h : setsOk t) {i : Nat} {x : Re} (hx : t.args[i]? = some x) : setsOk x := by
  cases t with
  | mk k set args mn mx ng =>
  simp only [setsOk] at h
  replace h := h.2
  simp only [Re.args] at hx
  induction args generalizing i with
  | nil => simp at hx
  | cons u us ih =>
    simp only [setsOks] at h
    cases i with
    | zero => simp at hx; subst hx; exact h.1
    | succ i => simp at hx; exact ih hx h.2
def copyF (n0 : Nat) (t : Re) : Fct := fun v w => ∃ vs Z L, v = .agg vs.toArray ∧ Tree Z w t vs L ∧ (∀ x, Z x → ¬ L x) ∧ (∀ x, Z x ∨ L x → n0 ≤ x ∧ x < w.heap.size)
theorem copyF_ext (n0 : Nat) (t : Re) : ∀ v w w', Chg none1 w w' → copyF n0 t v w → copyF n0 t v w' := by
 rintro v w w' e ⟨vs, Z, L, h1, h2, h3, h4⟩
 exact ⟨vs, Z, L, h1, Tree.ext e t h2, h3, fun x hx => ⟨(h4 x hx).1, Nat.lt_of_lt_of_le (h4 x hx).2 e.size⟩⟩
def copyG (n0 : Nat) (t : Re) : Fct := fun v w => ∃ b vs Z L, v = .slice (some ⟨b, 0, none⟩) 1 1 ∧ Blk w b vs.toArray TRe ∧ Tree Z w t vs L ∧ (∀ x, Z x → ¬ L x) ∧ (∀ x, Z x ∨ L x → n0 ≤ x ∧ x < w.heap.size)
theorem copyG_ext (n0 : Nat) (t : Re) : ∀ v w w', Chg none1 w w' → copyG n0 t v w → copyG n0 t v w' := by
 rintro v w w' e ⟨b, vs, Z, L, h0, h1, h2, h3, h4⟩
 exact ⟨b, vs, Z, L, h0, Ext.keep e h1, Tree.ext e t h2, h3, fun x hx => ⟨(h4 x hx).1, Nat.lt_of_lt_of_le (h4 x hx).2 e.size⟩⟩
theorem DoesT_one {N n0 : Nat} {σ : Env} {w : World} {dst : Option Tmp} {ty : TypeId} {pos : String} {af : Array Edge} {g : Option (Nat × Bool)} {x : Operand} {t : Re} {vs : List Value} {Z L : Nat → Prop} (hx : ev σ x = .agg vs.toArray) (h2 : Tree Z w t vs L) (h3 : ∀ x, Z x → ¬ L x) (h4 : ∀ x, Z x ∨ L x → n0 ≤ x ∧ x < w.heap.size) :
  DoesT none1 Tryz.prog N ⟨dst, .buildSlice 23 1 #[(0, x)], ty, pos, af, g⟩ (copyG n0 t) σ w := by
 have h2' := h2
 obtain ⟨sa, sc, aa, ac, rfl, _⟩ := h2.form
 have hn := New.mk' w #[.int .i64 t.kind, .slice sa t.set.length sc, .slice aa t.args.length ac, .int .i64 t.mn, .int .i64 t.mx, .bool t.neg] TRe
 refine DoesT_val (run_buildSlice (parts := [(0, x)]) (ps := [(0, .agg #[.int .i64 t.kind, .slice sa t.set.length sc, .slice aa t.args.length ac, .int .i64 t.mn, .int .i64 t.mx, .bool t.neg])]) (by simp only [List.map, hx]) Tryz.underlying23 siz25 zer25 (by decide) (by decide) (by kernel_rfl)) hn.ext ?_
 exact ⟨_, _, Z, L, rfl, hn.blk, Tree.ext hn.ext t h2', h3, fun x hx => ⟨(h4 x hx).1, Nat.lt_of_lt_of_le (h4 x hx).2 hn.ext.size⟩⟩
theorem copy_step {w1 w2 w3 : World} {base n1 b3 : Nat} {v v' : Value} {x : Re} {vs : List Value} {ts : List Re} {rows : List (List Value)} {Z L Z1 L1 : Nat → Prop}
  (hTs : Trees Z w1 ts rows L) (hT : Tree Z1 w1 x vs L1) (hd1 : ∀ y, Z y → ¬ L y) (hd2 : ∀ y, Z y ∨ L y → base ≤ y ∧ y < n1) (hd3 : ∀ q, v.ownBlock = some q → (¬ Z q ∧ ¬ L q) ∧ (base ≤ q ∧ q < n1)) (he1 : ∀ y, Z1 y → ¬ L1 y) (he2 : ∀ y, Z1 y ∨ L1 y → n1 ≤ y ∧ y < w1.heap.size)
  (C : Chg (fun y => v.ownBlock = some y) w1 w2) (hD : ∀ q, v'.ownBlock = some q → v.ownBlock = some q ∨ w1.heap.size ≤ q) (C3 : Chg (fun y => y = b3) w2 w3) (hb3 : b3 < base) (hbn : base ≤ n1) (hnw : n1 ≤ w1.heap.size) :
  Trees (fun y => Z y ∨ Z1 y) w3 (ts ++ [x]) (rows ++ [vs]) (fun y => L y ∨ L1 y) ∧ (∀ y, (Z y ∨ Z1 y) → ¬ (L y ∨ L1 y)) ∧ (∀ y, (Z y ∨ Z1 y) ∨ (L y ∨ L1 y) → base ≤ y ∧ y < w3.heap.size) ∧ (∀ q, v'.ownBlock = some q → ¬ (Z q ∨ Z1 q) ∧ ¬ (L q ∨ L1 q)) := by
 have hs2 := C.size
 have hs3 := C3.size
 have kz : ∀ y, Z y → ¬ v.ownBlock = some y := fun y hy h => (hd3 y h).1.1 hy
 have kl : ∀ y, L y → ¬ v.ownBlock = some y := fun y hy h => (hd3 y h).1.2 hy
 have kz1 : ∀ y, Z1 y → ¬ v.ownBlock = some y := fun y hy h => by have := (hd3 y h).2; have := he2 y (.inl hy); omega
 have kl1 : ∀ y, L1 y → ¬ v.ownBlock = some y := fun y hy h => by have := (hd3 y h).2; have := he2 y (.inr hy); omega
 have mz : ∀ y, Z y → ¬ y = b3 := fun y hy h => by have := hd2 y (.inl hy); omega
 have ml : ∀ y, L y → ¬ y = b3 := fun y hy h => by have := hd2 y (.inr hy); omega
 have mz1 : ∀ y, Z1 y → ¬ y = b3 := fun y hy h => by have := he2 y (.inl hy); omega
 have ml1 : ∀ y, L1 y → ¬ y = b3 := fun y hy h => by have := he2 y (.inr hy); omega
 have h1 := Trees.chg C3 mz ts ml (Trees.chg C kz ts kl hTs)
 have h2 := Tree.chg C3 mz1 x ml1 (Tree.chg C kz1 x kl1 hT)
 refine ⟨Trees.snoc (Tree.mono (fun _ h => .inr h) x (fun _ h => h) h2) (Trees.mono (fun _ h => .inl h) ts (fun _ h => h) h1) (fun y a b => by have := hd2 y (.inr a); have := he2 y (.inr b); omega), ?_, ?_, ?_⟩
 ·rintro y (a | a) (b | b)
  ·exact hd1 y a b
  ·have := hd2 y (.inl a); have := he2 y (.inr b); omega
  ·have := hd2 y (.inr b); have := he2 y (.inl a); omega
  ·exact he1 y a b
 ·rintro y ((a | a) | (a | a))
  ·have := hd2 y (.inl a); omega
  ·have := he2 y (.inl a); omega
  ·have := hd2 y (.inr a); omega
  ·have := he2 y (.inr a); omega
 ·intro q hq
  rcases hD q hq with h | h
  ·refine ⟨?_, ?_⟩
   ·rintro (a | a); exact kz q a h; exact kz1 q a h
   ·rintro (a | a); exact kl q a h; exact kl1 q a h
  ·refine ⟨?_, ?_⟩
   ·rintro (a | a); have := hd2 q (.inl a); omega; have := he2 q (.inl a); omega
   ·rintro (a | a); have := hd2 q (.inr a); omega; have := he2 q (.inr a); omega
theorem copy_done {w : World} {base n0 sc lc : Nat} {t : Re} {sa la : Option Addr} {rows : List (List Value)} {Z L Z0 : Nat → Prop} (hown : w.ownsRow base TRe 6 (.slice la t.args.length lc) t.args.length rows.flatten) (hTs : Trees Z w t.args rows L)
    (hset : SlIn Z0 w 2 (.slice sa t.set.length sc) (t.set.map spanV)) (hd1 : ∀ x, Z x → ¬ L x) (hd2 : ∀ x, Z x ∨ L x → base ≤ x ∧ x < w.heap.size) (hd3 : ∀ q, (Value.slice la t.args.length lc).ownBlock = some q → ¬ Z q ∧ ¬ L q) (hz0 : ∀ x, Z0 x → n0 ≤ x ∧ x < base) (hn0 : n0 ≤ base) (hbs : base ≤ w.heap.size) :
    copyF n0 t (.agg #[.int .i64 t.kind, .slice sa t.set.length sc, .slice la t.args.length lc, .int .i64 t.mn, .int .i64 t.mx, .bool t.neg]) w := by
  refine ⟨[.int .i64 t.kind, .slice sa t.set.length sc, .slice la t.args.length lc, .int .i64 t.mn, .int .i64 t.mx, .bool t.neg], fun x => Z x ∨ Z0 x, fun x => L x ∨ (Value.slice la t.args.length lc).ownBlock = some x, rfl, ?_, ?_, ?_⟩
  · have hlt := hown.lt
    cases t with
    | mk k set args mn mx ng =>
    simp only [Re.kind, Re.set, Re.args, Re.mn, Re.mx, Re.neg] at *
    simp only [Tree]
    refine ⟨sa, sc, la, lc, rfl, hset.mono fun _ h => .inr h, ?_, ?_⟩
    · rcases hown.2 with ⟨h1, h2⟩ | ⟨q, cap, cur, h1, h2, h3, h4, h5, h6, h7⟩
      · simp at h1; omega
      · simp only [Value.slice.injEq] at h1
        obtain ⟨_, _, rfl⟩ := h1
        simp only [maxLen] at h5
        exact ⟨h4, by omega⟩
    · rcases hown.2 with ⟨h1, h2⟩ | ⟨q, cap, cur, h1, h2, h3, h4, h5, h6, h7⟩
      · exact .inl (List.eq_nil_of_length_eq_zero h2)
      · simp only [Value.slice.injEq] at h1
        obtain ⟨rfl, _, rfl⟩ := h1
        refine .inr ⟨q, rows, cur.toList.drop (args.length * 6), L, .inr rfl, rfl, ?_, Trees.six hTs, Trees.mono (fun _ h => .inl h) args (fun _ h => h) hTs, fun x hx => ⟨.inl hx, fun h => ?_⟩⟩
        · have : (rows.flatten ++ cur.toList.drop (args.length * 6)).toArray = cur := by rw [← h7, List.take_append_drop]
          rw [this]; exact h3
        · subst h; exact (hd3 x rfl).2 hx
  · rintro x (a | a) (b | b)
    · exact hd1 x a b
    · exact (hd3 x b).1 a
    · have := hz0 x a; have := hd2 x (.inr b); omega
    · have := hz0 x a; have := hown.lt x b; omega
  · rintro x ((a | a) | (a | a))
    · have := hd2 x (.inl a); omega
    · have := hz0 x a; omega
    · have := hd2 x (.inr a); omega
    · have := hown.lt x a; omega
theorem copyF_le {n0 n1 : Nat} (h : n1 ≤ n0) {t : Re} {v : Value} {w : World} (hc : copyF n0 t v w) : copyF n1 t v w := by
 obtain ⟨vs, Z, L, h1, h2, h3, h4⟩ := hc
 exact ⟨vs, Z, L, h1, h2, h3, fun x hx => ⟨Nat.le_trans h (h4 x hx).1, (h4 x hx).2⟩⟩
theorem copyF_chg {n0 b : Nat} {t : Re} {v : Value} {w w' : World} (c : Chg (fun y => y = b) w w') (hb : b < n0) (hc : copyF n0 t v w) : copyF n0 t v w' := by
 obtain ⟨vs, Z, L, h1, h2, h3, h4⟩ := hc
 exact ⟨vs, Z, L, h1, Tree.chg c (fun x hx h => by have := h4 x (.inl hx); omega) t (fun x hx h => by have := h4 x (.inr hx); omega) h2, h3, fun x hx => ⟨(h4 x hx).1, Nat.lt_of_lt_of_le (h4 x hx).2 c.size⟩⟩
set_option maxHeartbeats 2000000 in
theorem copy_c : ∀ (n : Nat) (t : Re) (w0 : World) (vs : List Value), t.size ≤ n → t.size ≤ 1000000 → setsOk t → ReAt w0 t vs →
    Ret Tryz.prog 14 #[.agg vs.toArray] w0 fun v w => copyF w0.heap.size t v w ∧ Ext w0 w := by
  intro n
  induction n with
  | zero => intro t w0 vs hn; have := t.size_pos; omega
  | succ n ih =>
  intro t w0 vs hn hM hso ht
  have ht0 := ht
  obtain ⟨sa, sc, aa, ac, rfl, hts, hac, _⟩ := ht.form
  have hal : t.args.length ≤ t.size := by
    have h1 := t.size_eq
    have : ∀ ts : List Re, ts.length ≤ Re.sizes ts := by
      intro ts
      induction ts with
      | nil => simp
      | cons x xs ih => have := x.size_pos; simp only [List.length_cons, Re.sizes]; omega
    have := this t.args
    omega
  refine Ret_of Tryz.func14 rfl Tryz.ntmps14 (Nat.le_of_ble_eq_true rfl) ?_
  have E : Chg none1 w0 w0 := Chg.refl _ _
  refine Wp_seq_region ?_
  refine s_box (v := (.agg (R6 t sa sc aa ac))) (c := (R6 t sa sc aa ac)) (by decide) rfl rfl ?_
  intro br wr Nr
  have Fr := Nr.ge E
  replace E := E.ext Nr.ext
  have Br := Nr.blk
  refine s_alloc (c := #[(I6 0), (.slice none 0 0), (.slice none 0 0), (I6 0), (I6 0), (.bool false)]) (by decide) zer25 rfl ?_
  intro bp wp Np
  have Fp := Np.ge E
  have Op_br := Np.lt Br
  replace Br := Np.keep Br
  replace E := E.ext Np.ext
  have Bp := Np.blk
  refine WpL_nil (Wp_seq_region ?_)
  refine qV (r_loadAgg (vs := [(I6 t.kind), (.slice sa t.set.length sc), (.slice aa t.args.length ac), (I6 t.mn), (I6 t.mx), (.bool t.neg)]) rfl agg25 siz25 rfl (Br.cells rfl)) ?_
  refine s_allocStore (v := (.agg (R6 t sa sc aa ac))) (c := (R6 t sa sc aa ac)) (n := 6) (by decide) zer25 rfl siz25 rfl rfl rfl (by simp [Value.oneCell']) ?_
  intro bq wq Nq
  have Fq := Nq.ge E
  have Oq_br := Nq.lt Br
  have Oq_bp := Nq.lt Bp
  replace Br := Nq.keep Br
  replace Bp := Nq.keep Bp
  replace E := E.ext Nq.ext
  have Bq := Nq.blk
  refine WpL_nil (Wp_seq_region ?_)
  refine qF br 0 1 rfl Tryz.underlying25 rfl siz22 rfl ?_
  refine qV (r_load rfl flat22 (Br.cell rfl)) ?_
  obtain ⟨n3, hn3⟩ : ∃ n3, n3 = wq.heap.size := ⟨_, rfl⟩
  have hq3 := Bq.lt
  refine WpL_enter rfl rfl (by decide) (r_callF Tryz.func48 nm48 bd48 rfl) (clone_c _ _ t.set (SlAt.ext hts E) (setsOk_set hso)) ?_
  rintro _ w9 ⟨sa3, sc3, rfl, hset, X9⟩
  replace Br := X9.keep Br
  replace Bp := X9.keep Bp
  replace Bq := X9.keep Bq
  replace E := E.ext X9
  obtain ⟨base, hbase⟩ : ∃ base, base = w9.heap.size := ⟨_, rfl⟩
  have hs9 := X9.size
  rw [← hbase, ← hn3] at hset
  have hbs : base ≤ w9.heap.size := by omega
  refine qF bq 0 1 rfl Tryz.underlying25 rfl siz22 rfl ?_
  refine s_store (b := bq) (o := 1) (c' := (R6 t sa3 sc3 aa ac)) (v := (.slice sa3 t.set.length sc3)) rfl rfl rfl siz22 Bq (by simp) rfl ?_
  intro w1 S1
  replace hbs := Nat.le_trans hbs S1.chg.size
  replace hset := SlIn.chg hset S1.chg (fun x hx hm => by have hx' := hx; have hm' : x = bq := hm; omega)
  replace Br := S1.keep (by omega) Br
  replace Bp := S1.keep (by omega) Bp
  replace E := S1.step E (by first | exact Or.inl (by omega) | exact Or.inr rfl | exact Or.inr (by assumption) | exact Or.inr (by simp) | exact Or.inr (by omega) | exact Or.inr (by dsimp only; omega))
  replace Bq := S1.blk
  refine qF bq 0 2 rfl Tryz.underlying25 rfl siz23 rfl ?_
  refine s_store (b := bq) (o := 2) (c' := #[(I6 t.kind), (.slice sa3 t.set.length sc3), (.slice none 0 0), (I6 t.mn), (I6 t.mx), (.bool t.neg)]) (v := (.slice none 0 0)) rfl rfl rfl siz23 Bq (by simp) rfl ?_
  intro w2 S2
  replace hbs := Nat.le_trans hbs S2.chg.size
  replace hset := SlIn.chg hset S2.chg (fun x hx hm => by have hx' := hx; have hm' : x = bq := hm; omega)
  replace Br := S2.keep (by omega) Br
  replace Bp := S2.keep (by omega) Bp
  replace E := S2.step E (by first | exact Or.inl (by omega) | exact Or.inr rfl | exact Or.inr (by assumption) | exact Or.inr (by simp) | exact Or.inr (by omega) | exact Or.inr (by dsimp only; omega))
  replace Bq := S2.blk
  refine WpL_nil (Wp_seq (Wp_seq_region ?_))
  refine qF br 0 2 rfl Tryz.underlying25 rfl siz23 rfl ?_
  refine qV (r_load rfl flat23 (Br.cell rfl)) ?_
  refine qV (r_lenSlice Tryz.underlying23 rfl) ?_
  refine qM _ rfl ?_
  refine WpL_nil (Wp_block ?_)
  refine Wp_loop (fun nn_ σ W3 => ∃ (k : Nat) (la : Option Addr) (lc : Nat) (rows : List (List Value)) (Z : Nat → Prop) (L : Nat → Prop), (∃ jj_, σ = upds jj_ [(2, (P6 bp 0)), (3, (P6 bq 0)), (13, (.slice aa t.args.length ac)), (14, (I6 (t.args.length : Int))), (15, (I6 (k : Int)))]) ∧ Chg none1 w0 W3 ∧ Blk W3 br (R6 t sa sc aa ac) 25 ∧ Blk W3 bp #[(I6 0), (.slice none 0 0), (.slice none 0 0), (I6 0), (I6 0), (.bool false)] 25 ∧ Blk W3 bq (#[(I6 t.kind), (.slice sa3 t.set.length sc3), (.slice la k lc), (I6 t.mn), (I6 t.mx), (.bool t.neg)]) 25 ∧ (k ≤ t.args.length) ∧ (W3.ownsRow base TRe 6 (.slice la k lc) k rows.flatten) ∧ (Trees Z W3 (t.args.take k) rows L) ∧ (∀ x, Z x → ¬ L x) ∧ (∀ x, Z x ∨ L x → base ≤ x ∧ x < W3.heap.size) ∧ (∀ x, (Value.slice la k lc).ownBlock = some x → ¬ Z x ∧ ¬ L x) ∧ (base ≤ W3.heap.size) ∧ (SlIn (fun b => n3 ≤ b ∧ b < base) W3 2 (.slice sa3 t.set.length sc3) (t.set.map spanV)) ∧ nn_ = t.args.length - k) (n := t.args.length - 0) ?_ ?_
  · exact ⟨0, none, 0, [], (fun _ => False), (fun _ => False), Fits.out ⟨rfl, rfl, rfl, rfl, rfl, trivial⟩, E, Br, Bp, Bq, Nat.zero_le _, World.ownsRow_nil _ _ _ _, (by simp only [List.take_zero, Trees]), (fun _ f _ => f), (by rintro x (f | f) <;> exact f.elim), (by simp [Value.ownBlock]), hbs, hset, rfl⟩
  · clear E Br Bp Bq
    rintro _ _ W3 ⟨k, la, lc, rows, Z, L, ⟨j3, rfl⟩, E, Br, Bp, Bq, hk, hown, hTs, hd1, hd2, hd3, hbs, hset, rfl⟩
    refine Wp_seq_region ?_
    refine qV (r_lss rfl rfl) ?_
    refine WpL_nil (Wp_seq ?_)
    refine Wp_cond rfl (fun hlt => ?_) (fun hlt => ?_)
    · have khlt := hlt
      replace hlt := of_decide_eq_true hlt
      obtain ⟨x, hx⟩ := get_of_lt (l := t.args) (i := k) (by omega)
      obtain ⟨b, o, rfl, hcl⟩ := (ReAt.rs ht0).cells (by omega)
      obtain ⟨xs, hcx, hrx⟩ := hcl k x hx
      have hrx0 := hrx
      obtain ⟨xsa, xsc, xaa, xac, rfl, _, _, _⟩ := hrx.form
      obtain ⟨nk, hnk⟩ : ∃ nk, nk = (W3).heap.size := ⟨_, rfl⟩
      have hnkle : nk ≤ (W3).heap.size := by omega
      have hlt3 := hown.lt
      rw [← hnk] at hd2 hlt3
      refine Wp_skip (thn_normal (Wp_seq (Wp_block (Wp_seq_region ?_))))
      refine qV (r_indexSlice (b := b) (o := o) (len := t.args.length) (cap := ac) (i := k) (o' := o + k * 6) rfl rfl rfl Tryz.underlying23 siz25 (by omega) (by omega)) ?_
      refine qV (r_loadAgg rfl agg25 siz25 rfl (hcx.ext E)) ?_
      refine s_allocStore (v := (.agg (R6 x xsa xsc xaa xac))) (c := (R6 x xsa xsc xaa xac)) (n := 6) (by decide) zer25 rfl siz25 rfl rfl rfl (by simp [Value.oneCell']) ?_
      intro bs ws Ns
      have Fs := Ns.ge E
      have Os_br := Ns.lt Br
      have Os_bp := Ns.lt Bp
      have Os_bq := Ns.lt Bq
      replace Br := Ns.keep Br
      replace Bp := Ns.keep Bp
      replace Bq := Ns.keep Bq
      replace hset := SlIn.chg hset Ns.ext (fun _ _ f => f)
      replace hbs := Nat.le_trans hbs Ns.ext.size
      replace hnkle := Nat.le_trans hnkle Ns.ext.size
      replace hown := own_ext hown Ns.ext
      replace hTs := Trees.ext Ns.ext _ hTs
      replace E := E.ext Ns.ext
      have Bs := Ns.blk
      refine WpL_nil ?_
      obtain ⟨n1, hn1⟩ : ∃ n1, n1 = ws.heap.size := ⟨_, rfl⟩
      have hnk1 : nk ≤ n1 := by rw [hn1]; exact hnkle
      have hn1le : n1 ≤ ws.heap.size := by omega
      have hbn1 : base ≤ n1 := by rw [hn1]; exact hbs
      obtain ⟨Fs5, hFs5⟩ : ∃ Fs : List (FactT (none1)), Fs = [.eq (P6 bq 2), .eq (.slice la k lc), .eq (.agg (R6 x xsa xsc xaa xac)), .gen (copyF n1 x) (copyF_ext n1 x), .gen (copyG n1 x) (copyG_ext n1 x)] := ⟨_, rfl⟩
      refine Wp_dagT (none1) 5 3 [19, 20, 21, 22, 23] [[], [0], [], [2], [3]] Fs5 hFs5 rfl mixed (by kernel_rfl) (by kernel_rfl) (by kernel_rfl) ?_ ?_
      · intro wd X0
        refine DagStepsT.cons (fun s' w' X U H => ?_) ?_
        · exact DoesT_val (r_fieldAddr (U 3 rfl) Tryz.underlying25 rfl siz23 rfl) (Chg.refl _ _) rfl
        refine DagStepsT.cons (fun s' w' X U H => ?_) ?_
        · have e19 : s' 19 = (.pointer (some ⟨bq, 2, none⟩)) := H 0 rfl 19 (.eq (.pointer (some ⟨bq, 2, none⟩))) rfl (by rw [hFs5]; rfl)
          exact DoesT_val (r_load e19 flat23 ((Chg.keep X (fun f => f) (X0.keep Bq)).cell rfl)) (Chg.refl _ _) rfl
        refine DagStepsT.cons (fun s' w' X U H => ?_) ?_
        · exact DoesT_val (r_loadAgg (U 5 rfl) agg25 siz25 rfl ((Chg.keep X (fun f => f) (X0.keep Bs)).cells rfl)) (Chg.refl _ _) rfl
        refine DagStepsT.cons (fun s' w' X U H => ?_) ?_
        · have e21 : s' 21 = (.agg #[(.int .i64 x.kind), (.slice xsa x.set.length xsc), (.slice xaa x.args.length xac), (.int .i64 x.mn), (.int .i64 x.mx), (.bool x.neg)]) := H 2 rfl 21 (.eq (.agg #[(.int .i64 x.kind), (.slice xsa x.set.length xsc), (.slice xaa x.args.length xac), (.int .i64 x.mn), (.int .i64 x.mx), (.bool x.neg)])) rfl (by rw [hFs5]; rfl)
          exact DoesT_enter (r_callF Tryz.func14 nm14 bd14 (lst1 e21)) ((ih x _ _ (by have := Re.size_arg hx; omega) (by have := Re.size_arg hx; omega) (setsOk_arg hso hx) (ReAt.ext ((Ext.trans E X0).trans X) x hrx0)).mono (fun v w2 h => ⟨copyF_le (by have := X0.size; have := X.size; omega) h.1, h.2⟩))
        refine DagStepsT.cons (fun s' w' X U H => ?_) ?_
        · obtain ⟨v22, Z22, L22, e22, T22, D22, R22⟩ := (show (.gen (copyF n1 x) (copyF_ext n1 x) : FactT (none1)).In (s' 22) w' from H 3 rfl 22 (.gen (copyF n1 x) (copyF_ext n1 x)) rfl (by rw [hFs5]; rfl))
          exact (DoesT_one e22 T22 D22 R22)
        exact DagStepsT.nil
      · intro s' wd5 w5 X0 X5 U H
        have e20 : s' 20 = (.slice la k lc) := H 1 20 (.eq (.slice la k lc)) rfl (by rw [hFs5]; rfl)
        obtain ⟨v22, Z22, L22, e22, T22, D22, R22⟩ := (show (.gen (copyF n1 x) (copyF_ext n1 x) : FactT (none1)).In (s' 22) w5 from H 3 22 (.gen (copyF n1 x) (copyF_ext n1 x)) rfl (by rw [hFs5]; rfl))
        obtain ⟨b23, v23, Z23, L23, e23, B23, T23, D23, R23⟩ := (show (.gen (copyG n1 x) (copyG_ext n1 x) : FactT (none1)).In (s' 23) w5 from H 4 23 (.gen (copyG n1 x) (copyG_ext n1 x)) rfl (by rw [hFs5]; rfl))
        obtain ⟨j5, rfl⟩ := Fits.out (σ := s') (l := [(2, (.pointer (some ⟨bp, 0, none⟩))), (3, (.pointer (some ⟨bq, 0, none⟩))), (13, (.slice (some ⟨b, o, none⟩) t.args.length ac)), (14, (.int .i64 ((t.args.length : Nat) : Int))), (15, (.int .i64 ((k : Nat) : Int))), (20, (.slice la k lc)), (23, (.slice (some ⟨b23, 0, none⟩) 1 1))]) ⟨U 2 rfl, U 3 rfl, U 13 rfl, U 14 rfl, U 15 rfl, e20, e23, trivial⟩
        clear U H
        replace Br := Chg.keep X5 (fun f => f) (X0.keep Br)
        replace Bp := Chg.keep X5 (fun f => f) (X0.keep Bp)
        replace Bq := Chg.keep X5 (fun f => f) (X0.keep Bq)
        replace Bs := Chg.keep X5 (fun f => f) (X0.keep Bs)
        replace hset := SlIn.chg hset X0 (fun _ _ f => f)
        replace hset := SlIn.chg hset X5 (fun _ _ f => f)
        replace hbs := Nat.le_trans hbs X0.size
        replace hbs := Nat.le_trans hbs X5.size
        replace hnkle := Nat.le_trans hnkle X0.size
        replace hnkle := Nat.le_trans hnkle X5.size
        replace hown := own_ext hown X0
        replace hown := own_ext hown X5
        replace hTs := Trees.ext X0 _ hTs
        replace hTs := Trees.ext X5 _ hTs
        replace hn1le := Nat.le_trans hn1le X0.size
        replace hn1le := Nat.le_trans hn1le X5.size
        replace E := (E.ext X0).step X5 (fun _ _ f => f.elim)
        refine s_append (base := base) (n := k) (m := 1) (xs := rows.flatten) (news := v23) (size := 6) (bytes := 80) (v := (.slice la k lc)) (by decide) Tryz.underlying23 siz25 byt25 zer25 rfl (by decide) rfl hown rfl (by rw [T23.len]) (B23.cells (by simp)) (T23.one) (by unfold maxLen; omega) (by omega) (hbs) ?_
        intro v9 w29 Ov9 Cv9 Dv9
        replace Br := Cv9.keep (fun h => by have := (hown.lt _ h).1; omega) Br
        replace Bp := Cv9.keep (fun h => by have := (hown.lt _ h).1; omega) Bp
        replace Bq := Cv9.keep (fun h => by have := (hown.lt _ h).1; omega) Bq
        replace E := E.step Cv9 (fun x hx h => absurd (hown.lt x h).1 (by omega))
        obtain ⟨la2, lc2, rfl⟩ := own_form Ov9
        have hC3 : Chg (fun y => y = bq) w29 w29 := Chg.refl _ _
        replace hset := SlIn.chg hset Cv9 (fun y hy hm => by have := (hown.lt y hm).1; have hy' := hy; omega)
        replace hbs := Nat.le_trans hbs Cv9.size
        refine qF bq 0 2 rfl Tryz.underlying25 rfl siz23 rfl ?_
        refine s_store (b := bq) (o := 2) (c' := #[(I6 t.kind), (.slice sa3 t.set.length sc3), (.slice la2 (k + 1) lc2), (I6 t.mn), (I6 t.mx), (.bool t.neg)]) (v := (.slice la2 (k + 1) lc2)) rfl rfl rfl siz23 Bq (by simp) rfl ?_
        intro w6 S6
        replace hbs := Nat.le_trans hbs S6.chg.size
        replace hset := SlIn.chg hset S6.chg (fun x hx hm => by have hx' := hx; have hm' : x = bq := hm; omega)
        replace hC3 := S6.chg
        replace Br := S6.keep (by omega) Br
        replace Bp := S6.keep (by omega) Bp
        replace E := S6.step E (by first | exact Or.inl (by omega) | exact Or.inr rfl | exact Or.inr (by assumption) | exact Or.inr (by simp) | exact Or.inr (by omega) | exact Or.inr (by dsimp only; omega))
        replace Bq := S6.blk
        refine WpL_nil (inB_normal (thn_normal (Wp_region ?_)))
        refine qV (r_add rfl rfl (wI64 (by omega))) ?_
        refine qM _ rfl ?_
        refine WpL_nil (thn_normal ?_)
        have hstep := copy_step (base := base) (n1 := n1) (b3 := bq) hTs T23 hd1 (fun y hy => by have := hd2 y hy; omega) (fun q hq => ⟨hd3 q hq, by have := hlt3 q hq; omega⟩) D23 R23 Cv9 Dv9 hC3 (by omega) hbn1 hn1le
        exact ⟨t.args.length - (k + 1), by omega, k + 1, la2, lc2, rows ++ [v23], (fun y => Z y ∨ Z23 y), (fun y => L y ∨ L23 y), Fits.out ⟨rfl, rfl, rfl, rfl, rfl, trivial⟩, E, Br, Bp, Bq, (by omega), (by have h := own_chg Ov9 hC3 (fun q hq hm => by have := (Ov9.lt q hq).1; have hm' : q = bq := hm; omega); simpa using h), (by rw [List.take_add_one, hx]; exact hstep.1), hstep.2.1, hstep.2.2.1, hstep.2.2.2, hbs, hset, rfl⟩
    · have khlt := hlt
      replace hlt := of_decide_eq_false hlt
      have hkk : k = t.args.length := by omega
      subst hkk
      rw [List.take_length] at hTs
      have hcf := copy_done (n0 := n3) hown hTs hset hd1 hd2 hd3 (fun x h => h) (by omega) hbs
      refine Wp_exit (thn_exit (thn_exit (inB_here (thn_normal (Wp_seq_region ?_)))))
      refine qV (r_loadAgg (vs := [(I6 t.kind), (.slice sa3 t.set.length sc3), (.slice la t.args.length lc), (I6 t.mn), (I6 t.mx), (.bool t.neg)]) rfl agg25 siz25 rfl (Bq.cells rfl)) ?_
      refine s_storeAgg (b := bp) (o := 0) (c' := (R6 t sa3 sc3 la lc)) rfl rfl (by simp [Value.oneCell']) siz25 rfl Bp (by first | (simp; done) | exact Nat.le_of_ble_eq_true rfl) rfl ?_
      intro w7 S7
      replace hcf := copyF_chg S7.chg (by omega) hcf
      replace Br := S7.keep (by omega) Br
      replace Bq := S7.keep (by omega) Bq
      replace E := S7.step E (by first | exact Or.inl (by omega) | exact Or.inr rfl | exact Or.inr (by assumption) | exact Or.inr (by simp) | exact Or.inr (by omega) | exact Or.inr (by dsimp only; omega))
      replace Bp := S7.blk
      refine WpL_nil (Wp_ret ?_)
      refine fin_agg Tryz.results14 (vs := [(.int .i64 t.kind), (.slice sa3 t.set.length sc3), (.slice la t.args.length lc), (.int .i64 t.mn), (.int .i64 t.mx), (.bool t.neg)]) (b := bp) rfl agg25 siz25 rfl (Bp.cells rfl) ?_
      exact ⟨copyF_le (by omega) hcf, E⟩
end Go.Proofs
namespace Go.Proofs
open Go Go.Eng
set_option maxRecDepth 100000
def RowsIn (S : Nat → Prop) (w : World) : List Re → List (List Value) → Prop
  | [], rows => rows = []
  | t :: ts, rows => ∃ r rs, rows = r :: rs ∧ ReIn S w t r ∧ RowsIn S w ts rs
theorem RowsIn.ext {S : Nat → Prop} {w w' : World} (e : Ext w w') : ∀ {ts : List Re} {rows : List (List Value)}, RowsIn S w ts rows → RowsIn S w' ts rows
  | [], _, h => h
  | t :: ts, rows, h => by
    obtain ⟨r, rs, h1, h2, h3⟩ := h
    exact ⟨r, rs, h1, ReIn.ext e t h2, RowsIn.ext e h3⟩
theorem RowsIn.len {S : Nat → Prop} {w : World} : ∀ {ts : List Re} {rows : List (List Value)}, RowsIn S w ts rows → rows.length = ts.length
  | [], _, h => by simp only [RowsIn] at h; subst h; rfl
  | t :: ts, rows, h => by
    obtain ⟨r, rs, rfl, _, h3⟩ := h
    simp [RowsIn.len h3]
theorem RowsIn.six {S : Nat → Prop} {w : World} : ∀ {ts : List Re} {rows : List (List Value)}, RowsIn S w ts rows → ∀ r ∈ rows, r.length = 6
  | [], _, h => by simp only [RowsIn] at h; subst h; simp
  | t :: ts, rows, h => by
    obtain ⟨r, rs, rfl, h2, h3⟩ := h
    intro q hq
    rcases List.mem_cons.1 hq with rfl | hq
    · exact h2.len
    · exact RowsIn.six h3 q hq
theorem RowsIn.one {S : Nat → Prop} {w : World} : ∀ {ts : List Re} {rows : List (List Value)}, RowsIn S w ts rows → ∀ u ∈ rows.flatten, u.oneCell' = true
  | [], _, h => by simp only [RowsIn] at h; subst h; simp
  | t :: ts, rows, h => by
    obtain ⟨r, rs, rfl, h2, h3⟩ := h
    intro u hu
    rw [List.flatten_cons, List.mem_append] at hu
    rcases hu with hu | hu
    · exact ReAt.one (ReIn.at t h2) u hu
    · exact RowsIn.one h3 u hu
theorem RowsIn.get {S : Nat → Prop} {w : World} : ∀ {ts : List Re} {rows : List (List Value)}, RowsIn S w ts rows → ∀ {i : Nat} {t : Re}, ts[i]? = some t → ∃ r, rows[i]? = some r ∧ ReIn S w t r
  | [], _, _, i, t, hi => by simp at hi
  | t :: ts, rows, h, i, u, hi => by
    obtain ⟨r, rs, rfl, h2, h3⟩ := h
    cases i with
    | zero => simp at hi; subst hi; exact ⟨r, rfl, h2⟩
    | succ i => simp at hi; obtain ⟨q, h4, h5⟩ := RowsIn.get h3 hi; exact ⟨q, by simpa using h4, h5⟩
theorem RowsIn.append {S : Nat → Prop} {w : World} {us : List Re} {qs : List (List Value)} (hu : RowsIn S w us qs) : ∀ {ts : List Re} {rows : List (List Value)}, RowsIn S w ts rows → RowsIn S w (ts ++ us) (rows ++ qs)
  | [], _, h => by simp only [RowsIn] at h; subst h; simpa using hu
  | t :: ts, rows, h => by
    obtain ⟨r, rs, rfl, h2, h3⟩ := h
    exact ⟨r, rs ++ qs, rfl, h2, RowsIn.append hu h3⟩
theorem RowsIn.single {S : Nat → Prop} {w : World} {t : Re} {r : List Value} (h : ReIn S w t r) : RowsIn S w [t] [r] := ⟨r, [], rfl, h, rfl⟩
theorem ResIn.rows {S : Nat → Prop} {w : World} {b : Nat} : ∀ {ts : List Re} {o : Nat}, ResIn S w b o ts → ∃ rows, RowsIn S w ts rows ∧ CellsAt w b o rows.flatten
  | [], _, _ => ⟨[], rfl, fun i v hv => by simp at hv⟩
  | t :: ts, o, h => by
    simp only [ResIn] at h
    obtain ⟨⟨vs, h1, h2⟩, h3⟩ := h
    obtain ⟨rows, h4, h5⟩ := ResIn.rows h3
    refine ⟨vs :: rows, ⟨vs, rows, rfl, h2, h4⟩, fun i v hv => ?_⟩
    have hl := h2.len
    rw [List.flatten_cons] at hv
    rcases Nat.lt_or_ge i 6 with hi | hi
    · rw [List.getElem?_append_left (by omega)] at hv
      exact h1 i v hv
    · rw [List.getElem?_append_right (by omega)] at hv
      have := h5 (i - vs.length) v hv
      rwa [show o + 6 + (i - vs.length) = o + i from by omega] at this
def RsIn (S : Nat → Prop) (w : World) (v : Value) (ts : List Re) : Prop := ∃ aa ac, v = .slice aa ts.length ac ∧ (ts.length ≤ ac ∧ ac ≤ 9223372036854775807) ∧ (ts = [] ∨ ∃ b o, S b ∧ aa = some ⟨b, o, none⟩ ∧ ResIn S w b o ts)
theorem RsIn.cells {S : Nat → Prop} {w : World} {aa : Option Addr} {n ac : Nat} {ts : List Re} (h : RsIn S w (.slice aa n ac) ts) (hn : 0 < n) : ∃ b o, aa = some ⟨b, o, none⟩ ∧ ∀ i t, ts[i]? = some t → ∃ vs, CellsAt w b (o + i * 6) vs ∧ ReIn S w t vs := by
 obtain ⟨aa', ac', h1, h2, h3⟩ := h
 simp only [Value.slice.injEq] at h1
 obtain ⟨rfl, rfl, rfl⟩ := h1
 rcases h3 with rfl | ⟨b, o, _, h4, h5⟩
 ·simp at hn
 ·exact ⟨b, o, h4, fun i t ht => ResIn.get h5 ht⟩
/-- Rows of one's own, read as expressions. -/
theorem own_res {S : Nat → Prop} {w : World} {base n : Nat} {a : Option Addr} {c : Nat} {ts : List Re} {rows : List (List Value)} (h : w.ownsRow base TRe 6 (.slice a n c) n rows.flatten) (hr : RowsIn S w ts rows) (hn : ts.length = n) : (n ≤ c ∧ c ≤ 9223372036854775807) ∧ (ts = [] ∨ ∃ b, base ≤ b ∧ b < w.heap.size ∧ a = some ⟨b, 0, none⟩ ∧ ∀ i t, ts[i]? = some t → ∃ vs, CellsAt w b (0 + i * 6) vs ∧ ReIn S w t vs) := by
 rcases h.2 with ⟨h1, h2⟩ | ⟨g, cap, cur, h1, h2, h3, h4, h5, h6, h7⟩
 ·simp only [Value.slice.injEq] at h1
  obtain ⟨rfl, rfl, rfl⟩ := h1
  exact ⟨by simp, .inl (List.eq_nil_of_length_eq_zero hn)⟩
 ·simp only [Value.slice.injEq] at h1
  obtain ⟨rfl, _, rfl⟩ := h1
  simp only [maxLen] at h5
  refine ⟨⟨h4, by omega⟩, .inr ⟨g, h2, (h.lt g rfl).2, rfl, fun i t ht => ?_⟩⟩
  obtain ⟨r, h8, h9⟩ := hr.get ht
  have hb : Blk w g (rows.flatten ++ cur.toList.drop (n * 6)).toArray TRe := by
   have : (rows.flatten ++ cur.toList.drop (n * 6)).toArray = cur := by rw [← h7, List.take_append_drop]
   rw [this]; exact h3
  exact ⟨r, by rw [Nat.zero_add]; exact rows_at hb hr.six h8, h9⟩
theorem own_rs {S : Nat → Prop} {w : World} {base n : Nat} {a : Option Addr} {c : Nat} {ts : List Re} {rows : List (List Value)} (h : w.ownsRow base TRe 6 (.slice a n c) n rows.flatten) (hr : RowsIn S w ts rows) (hn : ts.length = n) : RsAt w (.slice a n c) ts := by
 obtain ⟨h1, h2⟩ := own_res h hr hn
 refine ⟨a, c, by rw [hn], by rw [hn]; exact h1, ?_⟩
 rcases h2 with h | ⟨b, _, _, h4, h5⟩
 ·exact .inl h
 ·exact .inr ⟨b, 0, h4, ResAt.mk fun i t ht => by obtain ⟨vs, h6, h7⟩ := h5 i t ht; exact ⟨vs, h6, ReIn.at t h7⟩⟩
theorem len_sizes : ∀ ts : List Re, ts.length ≤ Re.sizes ts
  | [] => by simp
  | x :: xs => by have := x.size_pos; have := len_sizes xs; simp only [List.length_cons, Re.sizes]; omega
theorem flat_snoc (k : Int) (ts : List Re) (x : Re) : flatT k (ts ++ [x]) = flatT k ts ++ (if x.kind = k then x.args else [x]) := by simp [flatT]
theorem flat_take {k : Int} {ts : List Re} {j : Nat} {x : Re} (hx : ts[j]? = some x) : flatT k (ts.take (j + 1)) = flatT k (ts.take j) ++ (if x.kind = k then x.args else [x]) := by
 rw [List.take_add_one, hx]; exact flat_snoc k _ x
theorem flat_le (k : Int) (ts : List Re) (j : Nat) : (flatT k (ts.take j)).length ≤ Re.sizes ts := by
 have h1 := len_sizes (flatT k (ts.take j))
 have h2 := sizes_flat k (ts.take j)
 have h3 : Re.sizes ts = Re.sizes (ts.take j) + Re.sizes (ts.drop j) := by rw [← Re.sizes_append, List.take_append_drop]
 omega
set_option maxHeartbeats 1000000 in
theorem flat_c (w0 : World) (S : Nat → Prop) (k : Int) (v : Value) (ts : List Re) (h : RsIn S w0 v ts) (hne : ∀ x ∈ ts, x.kind = k → x.args ≠ []) (hsz : Re.sizes ts ≤ 1000000) :
  Ret Tryz.prog 142 #[.int .i64 k, v] w0 fun r w => ∃ la lc rows, r = .slice la (flatT k ts).length lc ∧ w.ownsRow w0.heap.size TRe 6 r (flatT k ts).length rows.flatten ∧ RowsIn S w0 (flatT k ts) rows ∧ Ext w0 w := by
 have h0 := h
 obtain ⟨aa, ac, rfl, hac, _⟩ := h
 have hls := len_sizes ts
 obtain ⟨base, hbase⟩ : ∃ base, base = w0.heap.size := ⟨_, rfl⟩
 refine Ret_of Tryz.func142 rfl Tryz.ntmps142 (Nat.le_of_ble_eq_true rfl) ?_
 have E : Chg none1 w0 w0 := Chg.refl _ _
 refine Wp_seq_region ?_
 refine qA _ rfl ?_
 refine WpL_nil (Wp_seq_region ?_)
 refine qA _ rfl ?_
 refine WpL_nil (Wp_seq (Wp_seq_region ?_))
 refine qM _ rfl ?_
 refine qV (r_lenSlice Tryz.underlying23 rfl) ?_
 refine qM _ rfl ?_
 refine WpL_nil (Wp_block ?_)
 refine Wp_loop (fun nn_ σ W1 => ∃ (j : Nat) (la : Option Addr) (lc : Nat) (m : Nat) (rows : List (List Value)), (∃ jj_, σ = upds jj_ [(0, (I6 k)), (8, (.slice aa ts.length ac)), (9, (I6 (ts.length : Int))), (10, (I6 (j : Int))), (5, (.slice la m lc))]) ∧ Chg none1 w0 W1 ∧ (j ≤ ts.length) ∧ (W1.ownsRow base TRe 6 (.slice la m lc) m rows.flatten) ∧ (m = (flatT k (ts.take j)).length) ∧ (RowsIn S w0 (flatT k (ts.take j)) rows) ∧ (base ≤ W1.heap.size) ∧ nn_ = ts.length - j) (n := ts.length - 0) ?_ ?_
 ·exact ⟨0, none, 0, 0, [], Fits.out ⟨rfl, rfl, rfl, rfl, rfl, trivial⟩, E, Nat.zero_le _, World.ownsRow_nil _ _ _ _, rfl, rfl, (by omega), rfl⟩
 ·clear E
  rintro _ _ W1 ⟨j, la, lc, m, rows, ⟨j1, rfl⟩, E, hj, hown, hm, hrs, hbs, rfl⟩
  refine Wp_seq_region ?_
  refine qV (r_lss rfl rfl) ?_
  refine WpL_nil (Wp_seq ?_)
  refine Wp_cond rfl (fun hlt => ?_) (fun hlt => ?_)
  ·have khlt := hlt
   replace hlt := of_decide_eq_true hlt
   obtain ⟨x, hx⟩ := get_of_lt (l := ts) (i := j) (by omega)
   obtain ⟨b, o, rfl, hcl⟩ := h0.cells (by omega)
   obtain ⟨xs, hcx, hrx⟩ := hcl j x hx
   have hrx0 := hrx
   obtain ⟨xsa, xsc, xaa, xac, rfl, _, _, hxa⟩ := hrx.form
   have hft := flat_take (k := k) hx
   have hfl := flat_le k ts (j + 1)
   rcases Bool.eq_false_or_eq_true (decide ((x.kind : Int) = k)) with hxk | hxk
   ·have khxk := hxk
    replace khxk := of_decide_eq_true khxk
    rw [if_pos khxk] at hft
    obtain ⟨xb, xo, _, rfl, hxr⟩ := hxa.resolve_left (hne x (List.mem_of_getElem? hx) khxk)
    obtain ⟨qs, hqs, hqc⟩ := ResIn.rows hxr
    rw [hft, List.length_append] at hfl
    refine Wp_skip (thn_normal (Wp_seq (Wp_block (Wp_seq_region ?_))))
    refine qV (r_indexSlice (b := b) (o := o) (len := ts.length) (cap := ac) (i := j) (o' := o + j * 6) rfl rfl rfl Tryz.underlying23 siz25 (by omega) (by omega)) ?_
    refine qV (r_loadAgg rfl agg25 siz25 rfl (hcx.ext E)) ?_
    refine s_allocStore (v := (.agg (R6 x xsa xsc (some ⟨xb, xo, none⟩) xac))) (c := (R6 x xsa xsc (some ⟨xb, xo, none⟩) xac)) (n := 6) (by decide) zer25 rfl siz25 rfl rfl rfl (by simp [Value.oneCell']) ?_
    intro b3 w3 N3
    have F3 := N3.ge E
    replace hown := own_ext hown N3.ext
    replace hbs := Nat.le_trans hbs N3.ext.size
    replace E := E.ext N3.ext
    have B3 := N3.blk
    refine WpL_nil (Wp_seq_region ?_)
    refine qF b3 0 0 rfl Tryz.underlying25 rfl siz3 rfl ?_
    refine qV (r_load rfl flat3 (B3.cell rfl)) ?_
    refine qM _ rfl ?_
    refine qV (r_eql rfl rfl) ?_
    refine WpL_nil ?_
    refine Wp_cond_true (congrArg Value.bool hxk) ?_
    refine Wp_region ?_
    refine qM _ rfl ?_
    refine qF b3 0 2 rfl Tryz.underlying25 rfl siz23 rfl ?_
    refine qV (r_load rfl flat23 (B3.cell rfl)) ?_
    refine s_append (base := base) (n := m) (m := x.args.length) (xs := rows.flatten) (news := qs.flatten) (size := 6) (bytes := 80) (v := (.slice la m lc)) (by decide) Tryz.underlying23 siz25 byt25 zer25 rfl (by decide) rfl hown rfl (by rw [rows_len hqs.six, hqs.len]) (hqc.ext E) (hqs.one) (by unfold maxLen; omega) (by omega) (hbs) ?_
    intro v9 w29 Ov9 Cv9 Dv9
    replace E := E.step Cv9 (fun x hx h => absurd (hown.lt x h).1 (by omega))
    obtain ⟨la2, lc2, rfl⟩ := own_form Ov9
    refine qA _ rfl ?_
    refine WpL_nil (inB_normal (thn_normal (Wp_region ?_)))
    refine qV (r_add rfl rfl (wI64 (by omega))) ?_
    refine qM _ rfl ?_
    refine WpL_nil (thn_normal ?_)
    exact ⟨ts.length - (j + 1), by omega, j + 1, la2, lc2, m + x.args.length, rows ++ qs, Fits.out ⟨rfl, rfl, rfl, rfl, rfl, trivial⟩, E, (by omega), (by simpa using Ov9), (by rw [hft, List.length_append, hm]), (by rw [hft]; exact RowsIn.append hqs hrs), Nat.le_trans hbs Cv9.size, rfl⟩
   ·have khxk := hxk
    replace khxk := of_decide_eq_false khxk
    rw [if_neg khxk] at hft
    rw [hft, List.length_append] at hfl
    refine Wp_skip (thn_normal (Wp_seq (Wp_block (Wp_seq_region ?_))))
    refine qV (r_indexSlice (b := b) (o := o) (len := ts.length) (cap := ac) (i := j) (o' := o + j * 6) rfl rfl rfl Tryz.underlying23 siz25 (by omega) (by omega)) ?_
    refine qV (r_loadAgg rfl agg25 siz25 rfl (hcx.ext E)) ?_
    refine s_allocStore (v := (.agg (R6 x xsa xsc xaa xac))) (c := (R6 x xsa xsc xaa xac)) (n := 6) (by decide) zer25 rfl siz25 rfl rfl rfl (by simp [Value.oneCell']) ?_
    intro b4 w4 N4
    have F4 := N4.ge E
    replace hown := own_ext hown N4.ext
    replace hbs := Nat.le_trans hbs N4.ext.size
    replace E := E.ext N4.ext
    have B4 := N4.blk
    refine WpL_nil (Wp_seq_region ?_)
    refine qF b4 0 0 rfl Tryz.underlying25 rfl siz3 rfl ?_
    refine qV (r_load rfl flat3 (B4.cell rfl)) ?_
    refine qM _ rfl ?_
    refine qV (r_eql rfl rfl) ?_
    refine WpL_nil ?_
    refine Wp_cond_false (congrArg Value.bool hxk) ?_
    refine Wp_region ?_
    refine qM _ rfl ?_
    refine qV (r_loadAgg (vs := [(I6 x.kind), (.slice xsa x.set.length xsc), (.slice xaa x.args.length xac), (I6 x.mn), (I6 x.mx), (.bool x.neg)]) rfl agg25 siz25 rfl (B4.cells rfl)) ?_
    refine s_buildSlice (ps := [(0, (.agg (R6 x xsa xsc xaa xac)))]) (c := (R6 x xsa xsc xaa xac)) (by decide) rfl Tryz.underlying23 siz25 zer25 (by decide) (by decide) (by kernel_rfl) ?_
    intro b5 w5 N5
    have F5 := N5.ge E
    have O5_b4 := N5.lt B4
    replace B4 := N5.keep B4
    replace hown := own_ext hown N5.ext
    replace hbs := Nat.le_trans hbs N5.ext.size
    replace E := E.ext N5.ext
    have B5 := N5.blk
    refine s_append (base := base) (n := m) (m := 1) (xs := rows.flatten) (news := [(I6 x.kind), (.slice xsa x.set.length xsc), (.slice xaa x.args.length xac), (I6 x.mn), (I6 x.mx), (.bool x.neg)]) (size := 6) (bytes := 80) (v := (.slice la m lc)) (by decide) Tryz.underlying23 siz25 byt25 zer25 rfl (by decide) rfl hown rfl (rfl) (B5.cells rfl) (by simp [Value.oneCell']) (by simp at hfl; unfold maxLen; omega) (by simp at hfl; omega) (hbs) ?_
    intro v9 w29 Ov9 Cv9 Dv9
    replace E := E.step Cv9 (fun x hx h => absurd (hown.lt x h).1 (by omega))
    obtain ⟨la2, lc2, rfl⟩ := own_form Ov9
    refine qA _ rfl ?_
    refine WpL_nil (inB_normal (thn_normal (Wp_region ?_)))
    refine qV (r_add rfl rfl (wI64 (by omega))) ?_
    refine qM _ rfl ?_
    refine WpL_nil (thn_normal ?_)
    exact ⟨ts.length - (j + 1), by omega, j + 1, la2, lc2, m + 1, rows ++ [[.int .i64 x.kind, .slice xsa x.set.length xsc, .slice xaa x.args.length xac, .int .i64 x.mn, .int .i64 x.mx, .bool x.neg]], Fits.out ⟨rfl, rfl, rfl, rfl, rfl, trivial⟩, E, (by omega), (by simpa using Ov9), (by rw [hft, List.length_append, hm]; rfl), (by rw [hft]; exact RowsIn.append (RowsIn.single hrx0) hrs), Nat.le_trans hbs Cv9.size, rfl⟩
  ·have khlt := hlt
   replace hlt := of_decide_eq_false hlt
   have hjj : j = ts.length := by omega
   refine Wp_exit (thn_exit (thn_exit (inB_here (thn_normal (Wp_seq_region ?_)))))
   refine qM _ rfl ?_
   refine qA _ rfl ?_
   refine WpL_nil (Wp_ret ?_)
   refine fin_tmp Tryz.results142 (v := (.slice la m lc)) rfl ?_
   rw [hjj, List.take_length] at hrs hm
   subst hm
   subst hbase
   exact ⟨la, lc, rows, rfl, hown, hrs, E⟩
theorem list1_c (w0 : World) (t : Re) (vs : List Value) (ht : ReAt w0 t vs) : Ret Tryz.prog 144 #[.agg vs.toArray] w0 fun v w => v = .bool (decide (t.kind = 1)) ∧ Ext w0 w := by
 obtain ⟨sa, sc, aa, ac, rfl, _, _, _⟩ := ht.form
 refine Ret_of Tryz.func144 rfl Tryz.ntmps144 (Nat.le_of_ble_eq_true rfl) ?_
 have E : Chg none1 w0 w0 := Chg.refl _ _
 refine Wp_seq_region ?_
 refine s_box (v := (.agg (R6 t sa sc aa ac))) (c := (R6 t sa sc aa ac)) (by decide) rfl rfl ?_
 intro b1 w1 N1
 have F1 := N1.ge E
 replace E := E.ext N1.ext
 have B1 := N1.blk
 refine qA _ rfl ?_
 refine WpL_nil (Wp_seq_region ?_)
 refine qF b1 0 0 rfl Tryz.underlying25 rfl siz3 rfl ?_
 refine qV (r_load rfl flat3 (B1.cell rfl)) ?_
 refine qV (r_eql rfl rfl) ?_
 refine qA _ rfl ?_
 refine WpL_nil (Wp_ret ?_)
 refine fin_tmp Tryz.results144 (v := (.bool (decide ((t.kind : Int) = 1)))) rfl ?_
 exact ⟨rfl, E⟩
theorem list2_c (w0 : World) (t : Re) (vs : List Value) (ht : ReAt w0 t vs) : Ret Tryz.prog 145 #[.agg vs.toArray] w0 fun v w => v = .bool (decide (t.kind = 0)) ∧ Ext w0 w := by
 obtain ⟨sa, sc, aa, ac, rfl, _, _, _⟩ := ht.form
 refine Ret_of Tryz.func145 rfl Tryz.ntmps145 (Nat.le_of_ble_eq_true rfl) ?_
 have E : Chg none1 w0 w0 := Chg.refl _ _
 refine Wp_seq_region ?_
 refine s_box (v := (.agg (R6 t sa sc aa ac))) (c := (R6 t sa sc aa ac)) (by decide) rfl rfl ?_
 intro b1 w1 N1
 have F1 := N1.ge E
 replace E := E.ext N1.ext
 have B1 := N1.blk
 refine qA _ rfl ?_
 refine WpL_nil (Wp_seq_region ?_)
 refine qF b1 0 0 rfl Tryz.underlying25 rfl siz3 rfl ?_
 refine qV (r_load rfl flat3 (B1.cell rfl)) ?_
 refine qV (r_eql rfl rfl) ?_
 refine qA _ rfl ?_
 refine WpL_nil (Wp_ret ?_)
 refine fin_tmp Tryz.results145 (v := (.bool (decide ((t.kind : Int) = 0)))) rfl ?_
 exact ⟨rfl, E⟩
theorem list3_c (w0 : World) (t : Re) (vs : List Value) (ht : ReAt w0 t vs) : Ret Tryz.prog 147 #[.agg vs.toArray] w0 fun v w => v = .bool (decide (t.kind = 0)) ∧ Ext w0 w := by
 obtain ⟨sa, sc, aa, ac, rfl, _, _, _⟩ := ht.form
 refine Ret_of Tryz.func147 rfl Tryz.ntmps147 (Nat.le_of_ble_eq_true rfl) ?_
 have E : Chg none1 w0 w0 := Chg.refl _ _
 refine Wp_seq_region ?_
 refine s_box (v := (.agg (R6 t sa sc aa ac))) (c := (R6 t sa sc aa ac)) (by decide) rfl rfl ?_
 intro b1 w1 N1
 have F1 := N1.ge E
 replace E := E.ext N1.ext
 have B1 := N1.blk
 refine qA _ rfl ?_
 refine WpL_nil (Wp_seq_region ?_)
 refine qF b1 0 0 rfl Tryz.underlying25 rfl siz3 rfl ?_
 refine qV (r_load rfl flat3 (B1.cell rfl)) ?_
 refine qV (r_eql rfl rfl) ?_
 refine qA _ rfl ?_
 refine WpL_nil (Wp_ret ?_)
 refine fin_tmp Tryz.results147 (v := (.bool (decide ((t.kind : Int) = 0)))) rfl ?_
 exact ⟨rfl, E⟩
theorem list4_c (w0 : World) (t u : Re) (vs us : List Value) (b : Nat) (ht : ReAt w0 t vs) (hu : ReAt w0 u us) (hB : Blk w0 b us.toArray 25) : Ret Tryz.prog 148 #[.agg vs.toArray, .pointer (some ⟨b, 0, none⟩)] w0 fun v w => v = .bool (sameT u t) ∧ Ext w0 w := by
 have ht0 := ht
 have hu0 := hu
 obtain ⟨sa, sc, aa, ac, rfl, _, _, _⟩ := ht.form
 obtain ⟨sa2, sc2, aa2, ac2, rfl, _, _, _⟩ := hu.form
 refine Ret_of Tryz.func148 rfl Tryz.ntmps148 (Nat.le_of_ble_eq_true rfl) ?_
 have E : Chg none1 w0 w0 := Chg.refl _ _
 refine Wp_seq_region ?_
 refine s_box (v := (.agg (R6 t sa sc aa ac))) (c := (R6 t sa sc aa ac)) (by decide) rfl rfl ?_
 intro b1 w1 N1
 have F1 := N1.ge E
 have O1_b := N1.lt hB
 replace hB := N1.keep hB
 replace E := E.ext N1.ext
 have B1 := N1.blk
 refine qA _ rfl ?_
 refine WpL_nil (Wp_seq_region ?_)
 refine qV (r_loadAgg (vs := [(I6 u.kind), (.slice sa2 u.set.length sc2), (.slice aa2 u.args.length ac2), (I6 u.mn), (I6 u.mx), (.bool u.neg)]) rfl agg25 siz25 rfl (hB.cells rfl)) ?_
 refine qV (r_loadAgg (vs := [(I6 t.kind), (.slice sa t.set.length sc), (.slice aa t.args.length ac), (I6 t.mn), (I6 t.mx), (.bool t.neg)]) rfl agg25 siz25 rfl (B1.cells rfl)) ?_
 refine WpL_enter rfl rfl (by decide) (r_callF Tryz.func12 nm12 bd12 rfl) (resame_c u.size u t _ _ _ (Nat.le_refl _) (ReAt.ext E u hu0) (ReAt.ext E t ht0)) ?_
 rintro _ w9 ⟨rfl, X9⟩
 replace hB := X9.keep hB
 replace B1 := X9.keep B1
 replace E := E.ext X9
 refine qA _ rfl ?_
 refine WpL_nil (Wp_ret ?_)
 refine fin_tmp Tryz.results148 (v := (.bool (sameT u t))) rfl ?_
 exact ⟨rfl, E⟩
end Go.Proofs
namespace Go.Proofs
open Go Go.Eng
set_option maxRecDepth 100000
theorem zero_one {m : Nat} : ∀ v ∈ (Builtin.zeroCells (Value.cells (.agg #[(.int .i64 0), (.slice none 0 0), (.slice none 0 0), (.int .i64 0), (.int .i64 0), (.bool false)])) m).toList, v.oneCell' = true := by
  intro v hv
  simp only [Builtin.zeroCells, Value.cells, Array.toList_map, List.mem_map] at hv
  obtain ⟨i, _, rfl⟩ := hv
  have h : i % 6 < 6 := Nat.mod_lt _ (by decide)
  show (#[(Value.int .i64 0), (.slice none 0 0), (.slice none 0 0), (.int .i64 0), (.int .i64 0), (.bool false)][i % 6]!).oneCell' = true
  generalize i % 6 = q at h
  match q, h with
  | 0, _ => rfl
  | 1, _ => rfl
  | 2, _ => rfl
  | 3, _ => rfl
  | 4, _ => rfl
  | 5, _ => rfl
theorem WpL_val0 {P : Program} {N : Nat} {Q : Post} {σ : Env} {w : World} {K : Env → World → Prop} {ops : Array Oper} {rest : List Oper} {o : Oper} (hg : o.guard = none) (hd : o.dst = none) {v : Value} {w' : World}
  (hr : (execOp (ev σ) o).run P w = .ok (.value v) w') (k : WpL P N ops K Q rest σ w') : WpL P N ops K Q (o :: rest) σ w := by
 intro dz a ha he
 refine wpList_plain hg fun K' hK => ?_
 unfold Oper.wp
 rw [eval_env, he, hr]
 simp only [Oper.upon, hd]
 exact hK _ _ (k dz a ha he)
theorem s_clear {P : Program} {N : Nat} {Q : Post} {σ : Env} {w : World} {K : Env → World → Prop} {ops : Array Oper} {rest : List Oper} {ty : TypeId} {pos : String} {af : Array Edge} {t e : TypeId} {x : Operand} {b o m cc : Nat} {c c' : Array Value} {z : Value} (hu : P.underlying t = some (.slice e)) (hz : Zer P e z) (hx : ev σ x = .slice (some ⟨b, o, none⟩) m cc) (hm : 0 < m) (hB : Blk w b c e) (h1 : ∀ v ∈ (Builtin.zeroCells z.cells m).toList, v.oneCell' = true)
  (ho : o + m * z.cells.size ≤ c.size) (hc : (c.toList.take o ++ (Builtin.zeroCells z.cells m).toList ++ c.toList.drop (o + m * z.cells.size)).toArray = c')
  (k : ∀ w', Put w w' b c' e → WpL P N ops K Q rest σ w') : WpL P N ops K Q (⟨none, .call ⟨.builtin .clear, #[x], #[t]⟩, ty, pos, af, none⟩ :: rest) σ w := by
 subst hc
 have hl : (Builtin.zeroCells z.cells m).toList.length = m * z.cells.size := by simp [Builtin.zeroCells]
 have hst := run_storeCells_at P b o e (Builtin.zeroCells z.cells m).toList 0 c w hB (by rw [hl]; simpa using ho) h1
 simp only [Nat.add_zero, hl] at hst
 refine WpL_val0 (v := .tuple #[]) (w' := w.setRow b _) rfl rfl ?_ (k _ (Put.of_setRow hB _))
 obtain ⟨m', rfl⟩ : ∃ m', m = m' + 1 := ⟨m - 1, by omega⟩
 simp [execOp, resolve, invoke, builtin, Builtin.clear_, hx, run_underlying hu, hz.run, hst]
theorem idx_none {α : Type} {p : α → Bool} {l : List α} (h : idx p l = -1) : l.filter (fun x => !p x) = l := by
 have h1 := idx_any p l
 rw [h] at h1
 have h2 : l.any p = false := by rw [← h1]; decide
 rw [List.filter_eq_self]
 rw [List.any_eq_false] at h2
 intro x hx; simp [h2 x hx]
theorem idx_some {α : Type} {p : α → Bool} {l : List α} (h : idx p l ≠ -1) : ∃ i : Nat, idx p l = (i : Int) ∧ i < l.length ∧ (l.take (i + 1)).filter (fun x => !p x) = l.take i := by
  unfold idx at h ⊢
  cases hf : l.findIdx? p with
  | none => rw [hf] at h; exact absurd rfl h
  | some i =>
    rw [List.findIdx?_eq_some_iff_getElem] at hf
    obtain ⟨hi, hp, hno⟩ := hf
    refine ⟨i, rfl, hi, ?_⟩
    have e1 : (l.take i).filter (fun x => !p x) = l.take i := by
      rw [List.filter_eq_self]
      intro x hx
      obtain ⟨j, hj, rfl⟩ := List.getElem_of_mem hx
      simp at hj
      have := hno j (by omega)
      simpa using this
    rw [List.take_add_one, List.getElem?_eq_getElem hi, List.filter_append, e1]
    simp [hp]
theorem filter_snoc {α : Type} {p : α → Bool} {l : List α} {j : Nat} {x : α} (hx : l[j]? = some x) : (l.take (j + 1)).filter (fun x => !p x) = (l.take j).filter (fun x => !p x) ++ (if p x then [] else [x]) := by
 rw [List.take_add_one, hx, List.filter_append]
 congr 1
 cases hp : p x <;> simp [hp]
theorem drop_get {α : Type} {l m : List α} {j : Nat} (h : l.drop j = m.drop j) {i : Nat} (hi : j ≤ i) : l[i]? = m[i]? := by
 have := congrArg (fun q => q[i - j]?) h
 simp only [List.getElem?_drop] at this
 rwa [show j + (i - j) = i from by omega] at this
theorem RowsIn.take {S : Nat → Prop} {w : World} : ∀ {ts : List Re} {rows : List (List Value)} (i : Nat), RowsIn S w ts rows → RowsIn S w (ts.take i) (rows.take i)
  | [], _, i, h => by simp only [RowsIn] at h; subst h; cases i <;> rfl
  | t :: ts, rows, 0, h => rfl
  | t :: ts, rows, i + 1, h => by
    obtain ⟨r, rs, rfl, h2, h3⟩ := h
    exact ⟨r, rs.take i, rfl, h2, RowsIn.take i h3⟩
set_option maxHeartbeats 2000000 in
theorem del_c (wb w0 : World) (base : Nat) (S : Nat → Prop) (v fv : Value) (ts : List Re) (rows : List (List Value)) (p : Re → Bool) (hE : Ext wb w0) (hown : w0.ownsRow base TRe 6 v ts.length rows.flatten) (hr : RowsIn S wb ts rows) (hS : ∀ x, S x → x < base) (hlen : ts.length ≤ 1000000)
  (hf : ∀ (w : World) (x : Re) (vs : List Value), x ∈ ts → ReAt w x vs → CallV Tryz.prog fv #[.agg vs.toArray] w fun r w' => r = .bool (p x) ∧ Ext w w') :
  Ret Tryz.prog 143 #[v, fv] w0 fun r w => ∃ la lc rows', r = .slice la (ts.filter fun x => !p x).length lc ∧ w.ownsRow base TRe 6 r (ts.filter fun x => !p x).length rows'.flatten ∧ RowsIn S wb (ts.filter fun x => !p x) rows' ∧ Chg (fun x => base ≤ x) w0 w := by
 have hown0 := hown
 obtain ⟨a, c, rfl⟩ := own_form hown
 obtain ⟨q, hq⟩ : ∃ q : Int, q = idx p ts := ⟨_, rfl⟩
 have hrs : RsAt w0 (.slice a ts.length c) ts := own_rs hown0 (hr.ext hE) rfl
 refine Ret_of Tryz.func143 rfl Tryz.ntmps143 (Nat.le_of_ble_eq_true rfl) ?_
 have E : Chg (fun x => base ≤ x) w0 w0 := Chg.refl _ _
 refine Wp_seq_region ?_
 refine qA _ rfl ?_
 refine WpL_nil (Wp_seq_region ?_)
 refine qM _ rfl ?_
 refine qM _ rfl ?_
 refine WpL_enter rfl rfl (by decide) (r_callF Tryz.func168 nm168 bd168 rfl) ((res_idx_c _ _ fv ts p hrs (fun w x vs _ hm hx => hf w x vs hm hx)).mono (R' := fun r w => r = .int .i64 q ∧ Ext w0 w) (by rintro v w ⟨rfl, h⟩; exact ⟨by rw [hq], h⟩)) ?_
 rintro _ w9 ⟨rfl, X9⟩
 replace E := E.ext X9
 refine qA _ rfl ?_
 refine WpL_nil (Wp_seq (Wp_seq_region ?_))
 refine qM _ rfl ?_
 refine qV (r_eql rfl rfl) ?_
 refine WpL_nil ?_
 refine Wp_cond rfl (fun h1 => ?_) (fun h1 => ?_)
 ·have kh1 := h1
  replace h1 := of_decide_eq_true h1
  have hfi : (ts.filter fun x => !p x) = ts := idx_none (by rw [← hq]; exact h1)
  refine Wp_seq_region ?_
  refine qM _ rfl ?_
  refine qA _ rfl ?_
  refine WpL_nil (Wp_ret (thn_ret ?_))
  refine fin_tmp Tryz.results143 (v := (.slice a ts.length c)) rfl ?_
  rw [hfi]; exact ⟨a, c, rows, rfl, own_ext hown0 X9, hr, E⟩
 ·have kh1 := h1
  replace h1 := of_decide_eq_false h1
  obtain ⟨i0, hi0, hi0l, hi0f⟩ := idx_some (p := p) (l := ts) (by rw [← hq]; exact h1)
  obtain rfl : q = ((i0 : Nat) : Int) := by rw [hq, hi0]
  rcases hown0.2 with ⟨_, hbad⟩ | ⟨g, cap, cur0, hv0, hgb, hgB, hcap1, hcap2, hcap3, hcap4⟩
  ·omega
  simp only [Value.slice.injEq] at hv0
  obtain ⟨rfl, _, rfl⟩ := hv0
  obtain ⟨rest, hrest⟩ : ∃ rest, rest = cur0.toList.drop (ts.length * 6) := ⟨_, rfl⟩
  have hgB2 : Blk w9 g (rows.flatten ++ rest).toArray TRe := X9.keep (by rw [hrest, ← hcap4, List.take_append_drop]; exact hgB)
  have hszz : (rows.flatten ++ rest).length = c * 6 := by rw [hrest, ← hcap4, List.take_append_drop]; simpa using hcap3
  have hrl := hr.len
  have hr6 := hr.six
  have hrestl : rest.length = c * 6 - ts.length * 6 := by rw [List.length_append, rows_len hr6, hrl] at hszz; omega
  refine Wp_skip (thn_normal (Wp_seq (Wp_seq_region ?_)))
  refine qM _ rfl ?_
  refine qV (r_add rfl rfl (wI64 (by omega))) ?_
  refine qA _ rfl ?_
  refine WpL_nil (Wp_block ?_)
  refine Wp_loop (fun nn_ σ W2 => ∃ (j : Nat) (i : Nat) (cur : List (List Value)), (∃ jj_, σ = upds jj_ [(0, (.slice (some ⟨g, 0, none⟩) ts.length c)), (1, fv), (6, (I6 (j : Int))), (5, (I6 (i : Int)))]) ∧ Chg (fun x => base ≤ x) w0 W2 ∧ Blk W2 g ((cur.flatten ++ rest).toArray) TRe ∧ (i < j ∧ j ≤ ts.length) ∧ (cur.length = ts.length) ∧ (∀ r ∈ cur, r.length = 6) ∧ (cur.drop j = rows.drop j) ∧ (RowsIn S wb ((ts.take j).filter fun x => !p x) (cur.take i)) ∧ (i = ((ts.take j).filter fun x => !p x).length) ∧ nn_ = ts.length - j) (n := ts.length - (i0 + 1)) ?_ ?_
  ·exact ⟨i0 + 1, i0, rows, Fits.out ⟨rfl, rfl, rfl, rfl, trivial⟩, E, hgB2, ⟨by omega, by omega⟩, hrl, hr6, rfl, (by rw [hi0f]; exact hr.take i0), (by rw [hi0f]; simp; omega), rfl⟩
  ·clear E hgB2
   rintro _ _ W2 ⟨j, i, cur, ⟨j2, rfl⟩, E, hgB2, hij, hcl, hc6, hdr, hin, hil, rfl⟩
   refine Wp_seq (Wp_seq_region ?_)
   refine qM _ rfl ?_
   refine qM _ rfl ?_
   refine qV (r_lenSlice Tryz.underlying23 rfl) ?_
   refine qV (r_lss rfl rfl) ?_
   refine WpL_nil ?_
   refine Wp_cond rfl (fun hlt => ?_) (fun hlt => ?_)
   ·have khlt := hlt
    replace hlt := of_decide_eq_true hlt
    obtain ⟨x, hx⟩ := get_of_lt (l := ts) (i := j) (by omega)
    obtain ⟨r, hrr, hrx⟩ := hr.get hx
    have hcr : cur[j]? = some r := by rw [drop_get hdr (Nat.le_refl _)]; exact hrr
    have hfs := filter_snoc (p := p) hx
    have hdr2 : cur.drop (j + 1) = rows.drop (j + 1) := by rw [← List.drop_drop, ← List.drop_drop, hdr]
    have hrx2 : ReAt (W2) x r := ReIn.at x (ReIn.chg E (fun y hy hb => by have := hS y hy; have hb' : base ≤ y := hb; omega) x (ReIn.ext hE x hrx))
    have hrl6 := hrx.len
    obtain ⟨sa, sc, aa, ac, rfl, _, _, _⟩ := hrx2.form
    refine Wp_skip (thn_normal (Wp_seq (Wp_block (Wp_seq_region ?_))))
    refine qM _ rfl ?_
    refine qM _ rfl ?_
    refine qV (r_indexSlice (b := g) (o := 0) (len := ts.length) (cap := c) (i := j) (o' := 0 + j * 6) rfl rfl rfl Tryz.underlying23 siz25 (by omega) (by omega)) ?_
    refine qV (r_loadAgg rfl agg25 siz25 rfl (by rw [Nat.zero_add]; exact rows_at hgB2 hc6 hcr)) ?_
    refine s_allocStore (v := (.agg (R6 x sa sc aa ac))) (c := (R6 x sa sc aa ac)) (n := 6) (by decide) zer25 rfl siz25 rfl rfl rfl (by simp [Value.oneCell']) ?_
    intro bs ws Ns
    have Fs := Ns.ge E
    have Os_g := Ns.lt hgB2
    replace hgB2 := Ns.keep hgB2
    replace hrx2 := ReAt.ext Ns.ext x hrx2
    replace E := E.ext Ns.ext
    have Bs := Ns.blk
    refine WpL_nil (Wp_seq_region ?_)
    refine qM _ rfl ?_
    refine qV (r_loadAgg (vs := [(I6 x.kind), (.slice sa x.set.length sc), (.slice aa x.args.length ac), (I6 x.mn), (I6 x.mx), (.bool x.neg)]) rfl agg25 siz25 rfl (Bs.cells rfl)) ?_
    refine WpL_callV (by decide) rfl rfl (hf _ x _ (List.mem_of_getElem? hx) hrx2) ?_
    rintro _ w19 ⟨rfl, X19⟩
    replace hgB2 := X19.keep hgB2
    replace Bs := X19.keep Bs
    replace hrx2 := ReAt.ext X19 x hrx2
    replace E := E.ext X19
    refine qV (r_not rfl) ?_
    refine WpL_nil ?_
    refine Wp_cond rfl (fun hp => ?_) (fun hp => ?_)
    ·have khp := hp
     replace hp := by simpa using hp
     refine Wp_seq_region ?_
     refine qM _ rfl ?_
     refine qM _ rfl ?_
     refine qV (r_loadAgg (vs := [(I6 x.kind), (.slice sa x.set.length sc), (.slice aa x.args.length ac), (I6 x.mn), (I6 x.mx), (.bool x.neg)]) rfl agg25 siz25 rfl (Bs.cells rfl)) ?_
     refine qV (r_indexSlice (b := g) (o := 0) (len := ts.length) (cap := c) (i := i) (o' := 0 + i * 6) rfl rfl rfl Tryz.underlying23 siz25 (by omega) (by omega)) ?_
     refine s_storeAgg (b := g) (o := 0 + i * 6) (n := 6) (c' := ((cur.set i [.int .i64 x.kind, .slice sa x.set.length sc, .slice aa x.args.length ac, .int .i64 x.mn, .int .i64 x.mx, .bool x.neg]).flatten ++ rest).toArray) (vs := (R6 x sa sc aa ac)) rfl rfl (by simp [Value.oneCell']) siz25 (rfl) hgB2 (by have := rows_len hc6; simp only [List.size_toArray, List.length_append]; omega) (by rw [Nat.zero_add]; exact congrArg List.toArray (rows_set (k := 6) (v := [.int .i64 x.kind, .slice sa x.set.length sc, .slice aa x.args.length ac, .int .i64 x.mn, .int .i64 x.mx, .bool x.neg]) (rows := cur) (i := i) (rest := rest) rfl hc6 (by omega))) ?_
     intro w5 S5
     replace Bs := S5.keep (by omega) Bs
     replace E := S5.step E (by first | exact Or.inl (by omega) | exact Or.inr rfl | exact Or.inr (by assumption) | exact Or.inr (by simp) | exact Or.inr (by omega) | exact Or.inr (by dsimp only; omega))
     replace hgB2 := S5.blk
     refine WpL_nil (Wp_region ?_)
     refine qM _ rfl ?_
     refine qV (r_add rfl rfl (wI64 (by omega))) ?_
     refine qA _ rfl ?_
     refine WpL_nil (inB_normal (thn_normal (Wp_region ?_)))
     refine qM _ rfl ?_
     refine qV (r_add rfl rfl (wI64 (by omega))) ?_
     refine qA _ rfl ?_
     refine WpL_nil (thn_normal ?_)
     exact ⟨ts.length - (j + 1), by omega, j + 1, i + 1, cur.set i [.int .i64 x.kind, .slice sa x.set.length sc, .slice aa x.args.length ac, .int .i64 x.mn, .int .i64 x.mx, .bool x.neg], Fits.out ⟨rfl, rfl, rfl, rfl, trivial⟩, E, hgB2, ⟨by omega, by omega⟩, (by simpa using hcl), (fun r hr => by rcases List.mem_or_eq_of_mem_set hr with h | h; exact hc6 r h; rw [h]; rfl), (by rw [List.drop_set_of_lt (by omega)]; exact hdr2), (by rw [hfs, hp, List.take_add_one, List.take_set_of_le (Nat.le_refl _), List.getElem?_set_self (by omega)]; exact RowsIn.append (RowsIn.single hrx) hin), (by rw [hfs, hp, List.length_append, ← hil]; rfl), rfl⟩
    ·have khp := hp
     replace hp := by simpa using hp
     refine Wp_skip (inB_normal (thn_normal (Wp_region ?_)))
     refine qM _ rfl ?_
     refine qV (r_add (k := .i64) (a := (j : Int)) (b := 1) (c := (j : Int) + 1) rfl rfl (wI64 (by omega))) ?_
     refine qA (I6 ((j : Int) + 1)) rfl ?_
     refine WpL_nil (thn_normal ?_)
     exact ⟨ts.length - (j + 1), by omega, j + 1, i, cur, Fits.out ⟨rfl, rfl, rfl, rfl, trivial⟩, E, hgB2, ⟨by omega, by omega⟩, hcl, hc6, hdr2, (by rw [hfs, hp]; simpa using hin), (by rw [hfs, hp]; simpa using hil), rfl⟩
   ·have khlt := hlt
    replace hlt := of_decide_eq_false hlt
    have hjj : j = ts.length := by omega
    rw [hjj, List.take_length] at hin hil
    refine Wp_exit (thn_exit (thn_exit (inB_here (thn_normal (Wp_seq_region ?_)))))
    refine qM (.slice (some ⟨g, 0, none⟩) ts.length c) rfl ?_
    refine qM (I6 (i : Int)) rfl ?_
    obtain ⟨sl, hsl⟩ : ∃ a' : Option Addr, (if c = i then (some ⟨g, 0, none⟩) else Option.map (fun q : Addr => q.add (i * 6)) (some ⟨g, 0, none⟩)) = a' := ⟨_, rfl⟩
    refine qV (r_sliceLo (a := (some ⟨g, 0, none⟩)) (len := ts.length) (cap := c) (lo := i) (l := (i : Int)) (n' := (ts.length - i)) (c' := (c - i)) Tryz.underlying23 siz25 rfl rfl (by omega) (by omega) hsl (by omega) (by omega)) ?_
    have hsl2 : sl = some ⟨g, i * 6, none⟩ := by rw [← hsl, if_neg (by omega)]; simp [Addr.add]; omega
    subst hsl2
    obtain ⟨cz, hcz⟩ : ∃ cz, cz = ((cur.flatten ++ rest).toArray.toList.take (i * 6) ++ (Builtin.zeroCells (Value.cells (.agg #[(.int .i64 0), (.slice none 0 0), (.slice none 0 0), (.int .i64 0), (.int .i64 0), (.bool false)])) (ts.length - i)).toList ++ (cur.flatten ++ rest).toArray.toList.drop (i * 6 + (ts.length - i) * 6)).toArray := ⟨_, rfl⟩
    refine s_clear (b := g) (o := i * 6) (m := (ts.length - i)) (cc := (c - i)) (c' := cz) Tryz.underlying23 zer25 rfl (by omega) hgB2 zero_one (by show i * 6 + (ts.length - i) * 6 ≤ _; simp only [List.size_toArray, List.length_append, rows_len hc6, hcl]; omega) (hcz.symm) ?_
    intro w6 S6
    replace E := S6.step E (by first | exact Or.inl (by omega) | exact Or.inr rfl | exact Or.inr (by assumption) | exact Or.inr (by simp) | exact Or.inr (by omega) | exact Or.inr (by dsimp only; omega))
    replace hgB2 := S6.blk
    refine WpL_nil (Wp_seq_region ?_)
    refine qM _ rfl ?_
    refine qM _ rfl ?_
    obtain ⟨sm, hsm⟩ : ∃ a' : Option Addr, (if c = 0 then (some ⟨g, 0, none⟩) else Option.map (fun q : Addr => q.add (0 * 6)) (some ⟨g, 0, none⟩)) = a' := ⟨_, rfl⟩
    refine qV (r_sliceHi (hi := i) Tryz.underlying23 siz25 rfl rfl (by omega) (by omega) hsm) ?_
    refine qA _ rfl ?_
    refine WpL_nil (Wp_ret ?_)
    refine fin_tmp Tryz.results143 (v := (.slice sm i c)) rfl ?_
    have hsm2 : sm = some ⟨g, 0, none⟩ := by rw [← hsm]; split <;> simp [Addr.add]
    subst hsm2
    have hfl : (cur.take i).flatten.length = i * 6 := by rw [rows_len (fun r hr => hc6 r (List.mem_of_mem_take hr))]; simp; omega
    have htk : (cur.flatten ++ rest).take (i * 6) = (cur.take i).flatten := by
     have : cur.flatten = (cur.take i).flatten ++ (cur.drop i).flatten := by rw [← List.flatten_append, List.take_append_drop]
     rw [this, List.append_assoc, List.take_append_of_le_length (by omega), List.take_of_length_le (by omega)]
    have hz : (Builtin.zeroCells (Value.cells (.agg #[(.int .i64 0), (.slice none 0 0), (.slice none 0 0), (.int .i64 0), (.int .i64 0), (.bool false)])) (ts.length - i)).toList.length = (ts.length - i) * 6 := by simp [Builtin.zeroCells, Value.cells]
    have hcl6 : (cur.flatten ++ rest).length = c * 6 := by rw [List.length_append, rows_len hc6, hcl]; omega
    refine ⟨some ⟨g, 0, none⟩, c, cur.take i, by rw [← hil], ⟨by rw [hfl, ← hil], .inr ⟨g, c, cz, by rw [← hil], hgb, hgB2, by omega, hcap2, ?_, ?_⟩⟩, hin, E⟩
    ·rw [hcz]
     simp only [List.size_toArray, List.length_append, List.length_take, List.length_drop, hz]
     simp only [List.length_append] at hcl6
     omega
    ·rw [hcz, ← hil]
     show List.take (i * 6) (List.take (i * 6) (cur.flatten ++ rest) ++ _ ++ _) = _
     rw [htk, List.append_assoc, List.take_append_of_le_length (by omega), List.take_of_length_le (by omega)]
end Go.Proofs
namespace Go.Proofs
open Go Go.Eng
set_option maxRecDepth 100000
theorem RsIn.ext {S : Nat → Prop} {w w' : World} {v : Value} {ts : List Re} (h : RsIn S w v ts) (e : Ext w w') : RsIn S w' v ts := by
 obtain ⟨aa, ac, h1, h2, h3⟩ := h
 refine ⟨aa, ac, h1, h2, ?_⟩
 rcases h3 with h | ⟨b, o, hb, h4, h5⟩
 ·exact .inl h
 ·exact .inr ⟨b, o, hb, h4, ResIn.chg e (fun _ _ f => f) ts hb h5⟩
/-- What is left of the arguments. -/
def restT (k : Int) (l : List Re) : List Re := if k = 3 then (flatT k l).filter fun x => !decide (x.kind = 1) else if k = 4 then (flatT k l).filter fun x => !decide (x.kind = 0) else flatT k l
def outT (k : Int) (l : List Re) : List Re := if k = 3 then restT k l else onceT [] (restT k l)
theorem listT_def (k : Int) (l : List Re) : listT k l = if k ≠ 4 ∧ ((restT k l).any fun x => decide (x.kind = 0)) = true then noneT else match outT k l with
    | [x] => x
    | [] => if k = 3 then emptyT else noneT
    | out => .mk k [] out 0 0 false := rfl
theorem listT_none {k : Int} {l : List Re} (h : k ≠ 4) (h2 : ((restT k l).any fun x => decide (x.kind = 0)) = true) : listT k l = noneT := by
 rw [listT_def, if_pos ⟨h, h2⟩]
theorem listT_one {k : Int} {l : List Re} {x : Re} (h : ¬ (k ≠ 4 ∧ ((restT k l).any fun x => decide (x.kind = 0)) = true)) (ho : outT k l = [x]) : listT k l = x := by
 rw [listT_def, if_neg h, ho]
theorem listT_nil3 {l : List Re} (h : ¬ ((3 : Int) ≠ 4 ∧ ((restT 3 l).any fun x => decide (x.kind = 0)) = true)) (ho : outT 3 l = []) : listT 3 l = emptyT := by
 rw [listT_def, if_neg h, ho]; rfl
theorem listT_nil {k : Int} {l : List Re} (h : ¬ (k ≠ 4 ∧ ((restT k l).any fun x => decide (x.kind = 0)) = true)) (ho : outT k l = []) (h3 : k ≠ 3) : listT k l = noneT := by
 rw [listT_def, if_neg h, ho]; exact if_neg h3
theorem listT_many {k : Int} {l : List Re} (h : ¬ (k ≠ 4 ∧ ((restT k l).any fun x => decide (x.kind = 0)) = true)) (ho : 1 < (outT k l).length) : listT k l = .mk k [] (outT k l) 0 0 false := by
  rw [listT_def, if_neg h]
  match outT k l, ho with
  | _ :: _ :: _, _ => rfl
theorem once_snoc : ∀ (l out : List Re) (x : Re), onceT out (l ++ [x]) = if ((onceT out l).any fun y => sameT x y) = true then onceT out l else onceT out l ++ [x]
  | [], out, x => by simp only [List.nil_append, onceT]; rfl
  | y :: l, out, x => by
    simp only [List.cons_append, onceT]
    split
    · exact once_snoc l out x
    · exact once_snoc l _ x
theorem once_take {l : List Re} {j : Nat} {x : Re} (hx : l[j]? = some x) : onceT [] (l.take (j + 1)) = if ((onceT [] (l.take j)).any fun y => sameT x y) = true then onceT [] (l.take j) else onceT [] (l.take j) ++ [x] := by
 rw [List.take_add_one, hx]; exact once_snoc _ _ _
theorem rest_le (k : Int) (l : List Re) : (restT k l).length ≤ Re.sizes l := by
 have h := flat_le k l l.length
 rw [List.take_length] at h
 unfold restT
 split
 ·exact Nat.le_trans (List.length_filter_le _ _) h
 ·split
  ·exact Nat.le_trans (List.length_filter_le _ _) h
  ·exact h
def outP (k : Int) (l : List Re) : List Re := if k = 3 then l else onceT [] l
theorem re_empty (S : Nat → Prop) (w : World) (k : Int) : ReIn S w (.mk k [] [] 0 0 false) [.int .i64 k, .slice none 0 0, .slice none 0 0, .int .i64 0, .int .i64 0, .bool false] :=
 ReIn.of (SlIn.nil _ _ _ _ _) (by simp) (.inl rfl)
theorem getD_one {α : Type} {l : List α} (h : l.length = 1) {x : α} (hx : l[0]? = some x) : l = [x] := by
  match l, h with
  | [y], _ => simp at hx; rw [hx]
set_option maxHeartbeats 4000000 in
theorem list_c (w0 : World) (S : Nat → Prop) (k : Int) (v : Value) (ts : List Re) (h : RsIn S w0 v ts) (hS : ∀ x, S x → x < w0.heap.size) (hne : ∀ x ∈ ts, x.kind = k → x.args ≠ []) (hsz : Re.sizes ts ≤ 1000000) :
  Ret Tryz.prog 118 #[.int .i64 k, v] w0 fun r w => ∃ vs, r = .agg vs.toArray ∧ ReIn (fun b => S b ∨ w0.heap.size ≤ b) w (listT k ts) vs ∧ Ext w0 w := by
 have h0 := h
 obtain ⟨aa0, ac0, rfl, hac0, _⟩ := h
 have hls := len_sizes ts
 have hfle := flat_le k ts ts.length
 rw [List.take_length] at hfle
 refine Ret_of Tryz.func118 rfl Tryz.ntmps118 (Nat.le_of_ble_eq_true rfl) ?_
 have E : Chg none1 w0 w0 := Chg.refl _ _
 refine Wp_seq_region ?_
 refine s_alloc (c := #[(I6 0), (.slice none 0 0), (.slice none 0 0), (I6 0), (I6 0), (.bool false)]) (by decide) zer25 rfl ?_
 intro bo wo No
 have Fo := No.ge E
 replace E := E.ext No.ext
 have Bo := No.blk
 refine WpL_nil (Wp_seq_region ?_)
 refine qM _ rfl ?_
 refine qM _ rfl ?_
 obtain ⟨base, hbase⟩ : ∃ base, base = wo.heap.size := ⟨_, rfl⟩
 have hob : bo < base := by rw [hbase]; exact Bo.lt
 have hwb : w0.heap.size ≤ base := by omega
 have E2 : Chg none1 wo wo := Chg.refl _ _
 refine WpL_enter rfl rfl (by decide) (r_callF Tryz.func142 nm142 bd142 rfl) (flat_c _ S k _ ts (h0.ext E) hne hsz) ?_
 rintro _ wf ⟨la, lc, rows, rfl, hown, hrs, Xf⟩
 replace Bo := Xf.keep Bo
 replace E := E.ext Xf
 rw [← hbase] at hown
 replace E2 : Chg none1 wo wf := Xf
 have hbs : base ≤ wf.heap.size := by rw [hbase]; exact Xf.size
 refine qA _ rfl ?_
 refine WpL_nil ?_
 refine Wp_cut (fun σ W1 => ∃ (la : Option Addr) (lc : Nat) (l2 : List Re) (rows : List (List Value)), (∃ jj_, σ = upds jj_ [(0, (I6 k)), (4, (P6 bo 0)), (1, (.slice la l2.length lc))]) ∧ Chg none1 w0 W1 ∧ Blk W1 bo #[(I6 0), (.slice none 0 0), (.slice none 0 0), (I6 0), (I6 0), (.bool false)] 25 ∧ (Chg none1 wo W1) ∧ (l2 = (if k = 3 then (flatT k ts).filter (fun x => !decide (x.kind = 1)) else flatT k ts)) ∧ (W1.ownsRow base TRe 6 (.slice la l2.length lc) l2.length rows.flatten) ∧ (RowsIn S wo l2 rows) ∧ (base ≤ W1.heap.size)) ?_ ?_
 ·skip
  refine Wp_seq_region ?_
  refine qM _ rfl ?_
  refine qV (r_eql rfl rfl) ?_
  refine WpL_nil ?_
  refine Wp_cond rfl (fun hk3 => ?_) (fun hk3 => ?_)
  ·have khk3 := hk3
   replace hk3 := of_decide_eq_true hk3
   refine Wp_region ?_
   refine qM _ rfl ?_
   refine WpL_enter rfl rfl (by decide) (r_callF Tryz.func143 nm143 bd143 rfl) (del_c wo _ base S _ _ (flatT k ts) rows (fun x => decide (x.kind = 1)) E2 hown hrs (fun x hx => by have := hS x hx; omega) (by omega) (fun w x vs _ hx => CallV.mk (first := #[]) (cap := #[]) Tryz.func144 nm144 bd144 rfl (list1_c w x vs hx))) ?_
   rintro _ wd ⟨la2, lc2, rows2, rfl, hown2, hrs2, Cd⟩
   replace Bo := Cd.keep (by omega) Bo
   replace E := E.step Cd (by intro x hx hm; omega)
   replace E2 := E2.step Cd (by intro x hx hm; omega)
   refine qA _ rfl ?_
   refine WpL_nil (thn_normal ?_)
   exact ⟨la2, lc2, ((flatT k ts).filter fun x => !decide (x.kind = 1)), rows2, Fits.out ⟨rfl, rfl, rfl, trivial⟩, E, Bo, E2, (by rw [if_pos hk3]), hown2, hrs2, Nat.le_trans hbs Cd.size⟩
  ·have khk3 := hk3
   replace hk3 := of_decide_eq_false hk3
   refine Wp_skip (thn_normal ?_)
   exact ⟨la, lc, flatT k ts, rows, Fits.out ⟨rfl, rfl, rfl, trivial⟩, E, Bo, E2, (by rw [if_neg hk3]), hown, hrs, hbs⟩
 ·clear E Bo
  rintro _ W1 ⟨la, lc, l2, rows, ⟨j1, rfl⟩, E, Bo, E2, hl2, hown, hrs, hbs⟩
  have hl2l : l2.length ≤ (flatT k ts).length := by rw [hl2]; split; exact List.length_filter_le _ _; exact Nat.le_refl _
  refine Wp_cut (fun σ W3 => ∃ (la : Option Addr) (lc : Nat) (rows : List (List Value)), (∃ jj_, σ = upds jj_ [(0, (I6 k)), (4, (P6 bo 0)), (1, (.slice la ((restT k ts).length) lc))]) ∧ Chg none1 w0 W3 ∧ Blk W3 bo #[(I6 0), (.slice none 0 0), (.slice none 0 0), (I6 0), (I6 0), (.bool false)] 25 ∧ (Chg none1 wo W3) ∧ (W3.ownsRow base TRe 6 (.slice la (restT k ts).length lc) (restT k ts).length rows.flatten) ∧ (RowsIn S wo (restT k ts) rows) ∧ (base ≤ W3.heap.size)) ?_ ?_
  ·skip
   refine Wp_seq_region ?_
   refine qM _ rfl ?_
   refine qV (r_eql rfl rfl) ?_
   refine WpL_nil ?_
   refine Wp_cond rfl (fun hk4 => ?_) (fun hk4 => ?_)
   ·have khk4 := hk4
    replace hk4 := of_decide_eq_true hk4
    have hrt : restT k ts = l2.filter (fun x => !decide (x.kind = 0)) := by rw [hl2]; unfold restT; simp [hk4]
    refine Wp_region ?_
    refine qM _ rfl ?_
    refine WpL_enter rfl rfl (by decide) (r_callF Tryz.func143 nm143 bd143 rfl) (del_c wo _ base S _ _ l2 rows (fun x => decide (x.kind = 0)) E2 hown hrs (fun x hx => by have := hS x hx; omega) (by omega) (fun w x vs _ hx => CallV.mk (first := #[]) (cap := #[]) Tryz.func145 nm145 bd145 rfl (list2_c w x vs hx))) ?_
    rintro _ wd ⟨la2, lc2, rows2, rfl, hown2, hrs2, Cd⟩
    replace Bo := Cd.keep (by omega) Bo
    replace E := E.step Cd (by intro x hx hm; omega)
    replace E2 := E2.step Cd (by intro x hx hm; omega)
    rw [← hrt] at hown2 hrs2
    rw [← hrt]
    refine qA _ rfl ?_
    refine WpL_nil (thn_normal ?_)
    exact ⟨la2, lc2, rows2, Fits.out ⟨rfl, rfl, rfl, trivial⟩, E, Bo, E2, hown2, hrs2, Nat.le_trans hbs Cd.size⟩
   ·have khk4 := hk4
    replace hk4 := of_decide_eq_false hk4
    have hrt : restT k ts = l2 := by rw [hl2]; unfold restT; simp [hk4]
    subst hrt
    refine Wp_skip (thn_normal ?_)
    exact ⟨la, lc, rows, Fits.out ⟨rfl, rfl, rfl, trivial⟩, E, Bo, E2, hown, hrs, hbs⟩
  ·clear E Bo
   rintro _ W3 ⟨la, lc, rows, ⟨j3, rfl⟩, E, Bo, E2, hown, hrs, hbs⟩
   obtain ⟨wy, hwy⟩ : ∃ wy, wy = (W3) := ⟨_, rfl⟩
   refine Wp_seq (Wp_seq_region ?_)
   refine qM _ rfl ?_
   refine qV (r_neq rfl rfl) ?_
   refine qM _ rfl ?_
   rcases Bool.eq_false_or_eq_true (decide ((k : Int) ≠ 4)) with g1 | g1
   ·have kg1 := g1
    replace kg1 := of_decide_eq_true kg1
    have hk4 : k ≠ 4 := of_decide_eq_true g1
    refine WpL_guard_yes rfl rfl (by decide) (congrArg Value.bool g1) ?_
    refine qM _ rfl ?_
    refine WpL_guard_yes rfl rfl (by decide) (congrArg Value.bool g1) ?_
    refine WpL_enter rfl rfl (by decide) (r_callF Tryz.func146 nm146 bd146 rfl) (res_has_c _ _ _ (restT k ts) (fun x => decide (x.kind = 0)) (own_rs hown (hrs.ext E2) rfl) (fun w x vs _ _ hx => CallV.mk (first := #[]) (cap := #[]) Tryz.func147 nm147 bd147 rfl (list3_c w x vs hx))) ?_
    rintro _ w19 ⟨rfl, X19⟩
    replace Bo := X19.keep Bo
    replace E := E.ext X19
    replace E2 := E2.ext X19
    replace hown := own_ext hown X19
    replace hbs := Nat.le_trans hbs X19.size
    refine qV (r_pick (v := (.bool ((restT k ts).any fun x => decide (x.kind = 0)))) rfl (by rw [g1]; rfl)) ?_
    refine WpL_nil ?_
    refine Wp_cond rfl (fun hn => ?_) (fun hn => ?_)
    ·have khn := hn
     refine Wp_seq_region ?_
     refine qV (r_build (ps := [(0, (I6 0))]) (v := (.agg #[(I6 0), (.slice none 0 0), (.slice none 0 0), (I6 0), (I6 0), (.bool false)])) rfl (by kernel_rfl)) ?_
     refine s_storeAgg (b := bo) (o := 0) (c' := #[(I6 0), (.slice none 0 0), (.slice none 0 0), (I6 0), (I6 0), (.bool false)]) rfl rfl (by simp [Value.oneCell']) siz25 rfl Bo (by first | (simp; done) | exact Nat.le_of_ble_eq_true rfl) rfl ?_
     intro w7 S7
     replace E := S7.step E (by first | exact Or.inl (by omega) | exact Or.inr rfl | exact Or.inr (by assumption) | exact Or.inr (by simp) | exact Or.inr (by omega) | exact Or.inr (by dsimp only; omega))
     replace Bo := S7.blk
     refine WpL_nil (Wp_ret (thn_ret ?_))
     refine fin_agg Tryz.results118 (vs := [(.int .i64 0), (.slice none 0 0), (.slice none 0 0), (.int .i64 0), (.int .i64 0), (.bool false)]) (b := bo) rfl agg25 siz25 rfl (Bo.cells rfl) ?_
     refine ⟨_, rfl, ?_, E⟩
     rw [listT_none hk4 hn]
     exact re_empty _ _ _
    ·have khn := hn
     have hnn : ¬ (k ≠ 4 ∧ ((restT k ts).any fun x => decide (x.kind = 0)) = true) := fun h => by rw [h.2] at hn; cases hn
     have E3 : Chg none1 w19 w19 := Chg.refl _ _
     obtain ⟨base2, hbase2⟩ : ∃ base2, base2 = (w19).heap.size := ⟨_, rfl⟩
     have hrl3 := hrs.len
     have hle3 := rest_le k ts
     have hrs3 : RowsIn S (w19) (restT k ts) rows := RowsIn.ext E2 hrs
     obtain ⟨hlc3, hcell3⟩ := own_res hown hrs3 rfl
     refine Wp_skip (thn_normal (Wp_seq_region ?_))
     refine qA _ rfl ?_
     refine WpL_nil (Wp_seq (Wp_seq_region ?_))
     refine qM _ rfl ?_
     refine qV (r_lenSlice Tryz.underlying23 rfl) ?_
     refine qM _ rfl ?_
     refine WpL_nil (Wp_block ?_)
     refine Wp_loop (fun nn_ σ W8 => ∃ (j : Nat) (oa : Option Addr) (oc : Nat) (m : Nat) (out : List Re) (ro : List (List Value)), (∃ jj_, σ = upds jj_ [(0, (I6 k)), (4, (P6 bo 0)), (26, (.slice la ((restT k ts).length) lc)), (27, (I6 (((restT k ts).length : Nat) : Int))), (28, (I6 (j : Int))), (5, (.slice oa m oc))]) ∧ Chg none1 w0 W8 ∧ Chg none1 w19 W8 ∧ Blk W8 bo #[(I6 0), (.slice none 0 0), (.slice none 0 0), (I6 0), (I6 0), (.bool false)] 25 ∧ (j ≤ (restT k ts).length) ∧ (m = out.length) ∧ (W8.ownsRow base2 TRe 6 (.slice oa m oc) m ro.flatten) ∧ (RowsIn S w19 out ro) ∧ (out = outP k ((restT k ts).take j)) ∧ (out.length ≤ j) ∧ (base2 ≤ W8.heap.size) ∧ nn_ = (restT k ts).length - j) (n := (restT k ts).length - 0) ?_ ?_
     ·exact ⟨0, none, 0, 0, [], [], Fits.out ⟨rfl, rfl, rfl, rfl, rfl, rfl, trivial⟩, E, E3, Bo, Nat.zero_le _, rfl, World.ownsRow_nil _ _ _ _, rfl, (by unfold outP; split <;> rfl), Nat.le_refl _, (by omega), rfl⟩
     ·clear E E3 Bo
      rintro _ _ W8 ⟨j, oa, oc, m, out, ro, ⟨j8, rfl⟩, E, E3, Bo, hj, hm, hO, hro, hout, hol, hbs2, rfl⟩
      refine Wp_seq_region ?_
      refine qV (r_lss rfl rfl) ?_
      refine WpL_nil (Wp_seq ?_)
      refine Wp_cond rfl (fun hlt => ?_) (fun hlt => ?_)
      ·have khlt := hlt
       replace hlt := of_decide_eq_true hlt
       obtain ⟨x, hx⟩ := get_of_lt (l := restT k ts) (i := j) (by omega)
       obtain ⟨lb, hlb1, hlb2, hlb3, hcl3⟩ := hcell3.resolve_left (fun h => by rw [h] at hx; simp at hx)
       subst hlb3
       obtain ⟨xs, hcx, hrx⟩ := hcl3 j x hx
       have hrx0 := hrx
       obtain ⟨sa, sc, aa, ac, rfl, _, _, _⟩ := hrx.form
       refine Wp_skip (thn_normal (Wp_seq (Wp_block (Wp_seq_region ?_))))
       refine qV (r_indexSlice (b := lb) (o := 0) (len := (restT k ts).length) (cap := lc) (i := j) (o' := 0 + j * 6) rfl rfl rfl Tryz.underlying23 siz25 (by omega) (by omega)) ?_
       refine qV (r_loadAgg rfl agg25 siz25 rfl (hcx.ext E3)) ?_
       refine s_allocStore (v := (.agg (R6 x sa sc aa ac))) (c := (R6 x sa sc aa ac)) (n := 6) (by decide) zer25 rfl siz25 rfl rfl rfl (by simp [Value.oneCell']) ?_
       intro bs ws Ns
       have Fs := Ns.ge E
       have Fs_E3 := Ns.ge E3
       have Os_bo := Ns.lt Bo
       replace Bo := Ns.keep Bo
       replace hO := own_ext hO Ns.ext
       replace hbs2 := Nat.le_trans hbs2 Ns.ext.size
       replace E := E.ext Ns.ext
       have Bs := Ns.blk
       replace E3 := E3.ext Ns.ext
       refine WpL_nil (Wp_seq_region ?_)
       refine qM _ rfl ?_
       refine qV (r_eql rfl rfl) ?_
       refine qM _ rfl ?_
       rcases Bool.eq_false_or_eq_true (decide ((k : Int) = 3)) with g3 | g3
       ·have kg3 := g3
        replace kg3 := of_decide_eq_true kg3
        refine WpL_guard_no rfl rfl (by decide) (v := .bool true) (congrArg Value.bool g3) (Or.inl rfl) ?_
        refine WpL_guard_no rfl rfl (by decide) (v := .bool true) (congrArg Value.bool g3) (Or.inl rfl) ?_
        refine WpL_guard_no rfl rfl (by decide) (v := .bool true) (congrArg Value.bool g3) (Or.inl rfl) ?_
        refine WpL_guard_no rfl rfl (by decide) (v := .bool true) (congrArg Value.bool g3) (Or.inl rfl) ?_
        refine qV (r_pick (v := (.bool true)) rfl (by rw [g3]; rfl)) ?_
        refine WpL_nil ?_
        refine Wp_cond_true rfl ?_
        refine Wp_region ?_
        refine qM _ rfl ?_
        refine qV (r_loadAgg (vs := [(I6 x.kind), (.slice sa x.set.length sc), (.slice aa x.args.length ac), (I6 x.mn), (I6 x.mx), (.bool x.neg)]) rfl agg25 siz25 rfl (Bs.cells rfl)) ?_
        refine s_buildSlice (ps := [(0, (.agg (R6 x sa sc aa ac)))]) (c := (R6 x sa sc aa ac)) (by decide) rfl Tryz.underlying23 siz25 zer25 (by decide) (by decide) (by kernel_rfl) ?_
        intro bn wn Nn
        have Fn := Nn.ge E
        have Fn_E3 := Nn.ge E3
        have On_bo := Nn.lt Bo
        have On_bs := Nn.lt Bs
        replace Bo := Nn.keep Bo
        replace Bs := Nn.keep Bs
        replace hO := own_ext hO Nn.ext
        replace hbs2 := Nat.le_trans hbs2 Nn.ext.size
        replace E := E.ext Nn.ext
        have Bn := Nn.blk
        replace E3 := E3.ext Nn.ext
        refine s_append (base := base2) (n := m) (m := 1) (xs := ro.flatten) (news := [(I6 x.kind), (.slice sa x.set.length sc), (.slice aa x.args.length ac), (I6 x.mn), (I6 x.mx), (.bool x.neg)]) (size := 6) (bytes := 80) (v := (.slice oa m oc)) (by decide) Tryz.underlying23 siz25 byt25 zer25 rfl (by decide) rfl hO rfl (rfl) (Bn.cells rfl) (by simp [Value.oneCell']) (by unfold maxLen; omega) (by omega) (hbs2) ?_
        intro v9 w29 Ov9 Cv9 Dv9
        replace Bo := Cv9.keep (fun h => by have := (hO.lt _ h).1; omega) Bo
        replace E := E.step Cv9 (fun x hx h => absurd (hO.lt x h).1 (by omega))
        replace E3 := E3.step Cv9 (fun x hx h => absurd (hO.lt x h).1 (by omega))
        obtain ⟨oa2, oc2, rfl⟩ := own_form Ov9
        have hk3 : k = 3 := of_decide_eq_true g3
        refine qA _ rfl ?_
        refine WpL_nil (inB_normal (thn_normal (Wp_region ?_)))
        refine qV (r_add rfl rfl (wI64 (by omega))) ?_
        refine qM _ rfl ?_
        refine WpL_nil (thn_normal ?_)
        exact ⟨(restT k ts).length - (j + 1), by omega, j + 1, oa2, oc2, m + 1, out ++ [x], ro ++ [[.int .i64 x.kind, .slice sa x.set.length sc, .slice aa x.args.length ac, .int .i64 x.mn, .int .i64 x.mx, .bool x.neg]], Fits.out ⟨rfl, rfl, rfl, rfl, rfl, rfl, trivial⟩, E, E3, Bo, (by omega), (by simp [hm]), (by simpa using Ov9), RowsIn.append (RowsIn.single hrx0) hro, (by rw [hout]; unfold outP; rw [if_pos hk3, if_pos hk3, List.take_add_one, hx]; rfl), (by simp; omega), Nat.le_trans hbs2 Cv9.size, rfl⟩
       ·have kg3 := g3
        replace kg3 := of_decide_eq_false kg3
        refine WpL_guard_yes rfl rfl (by decide) (congrArg Value.bool g3) ?_
        refine qM _ rfl ?_
        refine WpL_guard_yes rfl rfl (by decide) (congrArg Value.bool g3) ?_
        refine qV (r_makeFunc rfl rfl) ?_
        refine WpL_guard_yes rfl rfl (by decide) (congrArg Value.bool g3) ?_
        have hk3 : k ≠ 3 := of_decide_eq_false g3
        have hrx9 : ReAt (ws) x _ := ReIn.at x (ReIn.ext E3 x hrx0)
        refine WpL_enter rfl rfl (by decide) (r_callF Tryz.func146 nm146 bd146 rfl) (res_has_c _ _ _ out (fun u => sameT x u) (own_rs hO (hro.ext E3) hm.symm) (fun w u us hE _ hu => CallV.mk (first := #[]) (cap := #[.pointer (some ⟨bs, 0, none⟩)]) Tryz.func148 nm148 bd148 rfl (list4_c w u x us _ bs hu (ReAt.ext hE x hrx9) (Ext.keep hE Bs)))) ?_
        rintro _ w39 ⟨rfl, X39⟩
        replace Bo := X39.keep Bo
        replace Bs := X39.keep Bs
        replace hO := own_ext hO X39
        replace hbs2 := Nat.le_trans hbs2 X39.size
        replace E := E.ext X39
        replace E3 := E3.ext X39
        have hot := once_take (l := restT k ts) hx
        have hout' : out = onceT [] ((restT k ts).take j) := by rw [hout]; exact if_neg hk3
        rw [← hout'] at hot
        refine WpL_guard_yes rfl rfl (by decide) (congrArg Value.bool g3) ?_
        refine qV (r_not rfl) ?_
        refine qV (r_pick (v := (.bool (!(out.any fun u => sameT x u)))) rfl (by rw [g3]; rfl)) ?_
        refine WpL_nil ?_
        refine Wp_cond rfl (fun hin => ?_) (fun hin => ?_)
        ·have khin := hin
         replace hin := by simpa using hin
         refine Wp_region ?_
         refine qM _ rfl ?_
         refine qV (r_loadAgg (vs := [(I6 x.kind), (.slice sa x.set.length sc), (.slice aa x.args.length ac), (I6 x.mn), (I6 x.mx), (.bool x.neg)]) rfl agg25 siz25 rfl (Bs.cells rfl)) ?_
         refine s_buildSlice (ps := [(0, (.agg (R6 x sa sc aa ac)))]) (c := (R6 x sa sc aa ac)) (by decide) rfl Tryz.underlying23 siz25 zer25 (by decide) (by decide) (by kernel_rfl) ?_
         intro bn wn Nn
         have Fn := Nn.ge E
         have Fn_E3 := Nn.ge E3
         have On_bo := Nn.lt Bo
         have On_bs := Nn.lt Bs
         replace Bo := Nn.keep Bo
         replace Bs := Nn.keep Bs
         replace hO := own_ext hO Nn.ext
         replace hbs2 := Nat.le_trans hbs2 Nn.ext.size
         replace E := E.ext Nn.ext
         have Bn := Nn.blk
         replace E3 := E3.ext Nn.ext
         refine s_append (base := base2) (n := m) (m := 1) (xs := ro.flatten) (news := [(I6 x.kind), (.slice sa x.set.length sc), (.slice aa x.args.length ac), (I6 x.mn), (I6 x.mx), (.bool x.neg)]) (size := 6) (bytes := 80) (v := (.slice oa m oc)) (by decide) Tryz.underlying23 siz25 byt25 zer25 rfl (by decide) rfl hO rfl (rfl) (Bn.cells rfl) (by simp [Value.oneCell']) (by unfold maxLen; omega) (by omega) (hbs2) ?_
         intro v9 w49 Ov9 Cv9 Dv9
         replace Bo := Cv9.keep (fun h => by have := (hO.lt _ h).1; omega) Bo
         replace E := E.step Cv9 (fun x hx h => absurd (hO.lt x h).1 (by omega))
         replace E3 := E3.step Cv9 (fun x hx h => absurd (hO.lt x h).1 (by omega))
         obtain ⟨oa2, oc2, rfl⟩ := own_form Ov9
         refine qA _ rfl ?_
         refine WpL_nil (inB_normal (thn_normal (Wp_region ?_)))
         refine qV (r_add rfl rfl (wI64 (by omega))) ?_
         refine qM _ rfl ?_
         refine WpL_nil (thn_normal ?_)
         exact ⟨(restT k ts).length - (j + 1), by omega, j + 1, oa2, oc2, m + 1, out ++ [x], ro ++ [[.int .i64 x.kind, .slice sa x.set.length sc, .slice aa x.args.length ac, .int .i64 x.mn, .int .i64 x.mx, .bool x.neg]], Fits.out ⟨rfl, rfl, rfl, rfl, rfl, rfl, trivial⟩, E, E3, Bo, (by omega), (by simp [hm]), (by simpa using Ov9), RowsIn.append (RowsIn.single hrx0) hro, (by unfold outP; rw [if_neg hk3, hot, if_neg (by simpa using hin)]), (by simp; omega), Nat.le_trans hbs2 Cv9.size, rfl⟩
        ·have khin := hin
         replace hin := by simpa using hin
         refine Wp_skip (inB_normal (thn_normal (Wp_region ?_)))
         refine qV (r_add rfl rfl (wI64 (by omega))) ?_
         refine qM _ rfl ?_
         refine WpL_nil (thn_normal ?_)
         exact ⟨(restT k ts).length - (j + 1), by omega, j + 1, oa, oc, m, out, ro, Fits.out ⟨rfl, rfl, rfl, rfl, rfl, rfl, trivial⟩, E, E3, Bo, (by omega), hm, hO, hro, (by unfold outP; rw [if_neg hk3, hot, if_pos (by simpa using hin)]), (by omega), hbs2, rfl⟩
      ·have khlt := hlt
       replace hlt := of_decide_eq_false hlt
       have hjj : j = (restT k ts).length := by omega
       rw [hjj, List.take_length] at hout
       replace hout : out = outT k ts := hout
       obtain ⟨hoc, hocl⟩ := own_res hO (hro.ext E3) hm.symm
       refine Wp_exit (thn_exit (thn_exit (inB_here (thn_normal (Wp_seq (Wp_block (Wp_seq_region ?_)))))))
       refine qM _ rfl ?_
       refine qV (r_lenSlice Tryz.underlying23 rfl) ?_
       refine qV (r_eql rfl rfl) ?_
       refine qA _ rfl ?_
       refine WpL_nil ?_
       refine Wp_cond rfl (fun h1 => ?_) (fun h1 => ?_)
       ·have kh1 := h1
        replace h1 := of_decide_eq_true h1
        obtain ⟨x, hx⟩ := get_of_lt (l := out) (i := 0) (by omega)
        obtain ⟨ob, hob1, hob2, hob3, hclo⟩ := hocl.resolve_left (fun h => by rw [h] at hx; simp at hx)
        subst hob3
        obtain ⟨xs, hcx, hrx⟩ := hclo 0 x hx
        have hrx0 := hrx
        obtain ⟨sa, sc, aa, ac, rfl, _, _, _⟩ := hrx.form
        refine Wp_seq_region ?_
        refine qM _ rfl ?_
        refine qV (r_indexSlice (b := ob) (o := 0) (len := m) (cap := oc) (i := 0) (o' := 0) rfl rfl rfl Tryz.underlying23 siz25 (by omega) (by omega)) ?_
        refine qV (r_loadAgg rfl agg25 siz25 rfl (hcx)) ?_
        have hS5 : Chg (fun y => y = bo) (W8) (W8) := Chg.refl _ _
        refine s_storeAgg (b := bo) (o := 0) (c' := (R6 x sa sc aa ac)) rfl rfl (by simp [Value.oneCell']) siz25 rfl Bo (by first | (simp; done) | exact Nat.le_of_ble_eq_true rfl) rfl ?_
        intro w13 S13
        replace hS5 := S13.chg
        replace E := S13.step E (by first | exact Or.inl (by omega) | exact Or.inr rfl | exact Or.inr (by assumption) | exact Or.inr (by simp) | exact Or.inr (by omega) | exact Or.inr (by dsimp only; omega))
        replace Bo := S13.blk
        refine WpL_nil (Wp_ret (inB_ret (thn_ret ?_)))
        refine fin_agg Tryz.results118 (vs := [(.int .i64 x.kind), (.slice sa x.set.length sc), (.slice aa x.args.length ac), (.int .i64 x.mn), (.int .i64 x.mx), (.bool x.neg)]) (b := bo) rfl agg25 siz25 rfl (Bo.cells rfl) ?_
        refine ⟨_, rfl, ?_, E⟩
        rw [listT_one hnn (x := x) (by rw [← hout]; exact getD_one (by omega) hx)]
        exact ReIn.mono (fun y hy => .inl hy) x (ReIn.chg hS5 (fun y hy h => by have := hS y hy; have h' : y = bo := h; omega) x hrx0)
       ·have kh1 := h1
        replace h1 := of_decide_eq_false h1
        refine Wp_seq_region ?_
        refine qM _ rfl ?_
        refine qV (r_lenSlice Tryz.underlying23 rfl) ?_
        refine qV (r_gtr rfl rfl) ?_
        refine qA _ rfl ?_
        refine WpL_nil ?_
        refine Wp_cond rfl (fun h2 => ?_) (fun h2 => ?_)
        ·have kh2 := h2
         replace h2 := of_decide_eq_true h2
         have hS5 : Chg (fun y => y = bo) (W8) (W8) := Chg.refl _ _
         refine Wp_seq_region ?_
         refine qM _ rfl ?_
         refine qM _ rfl ?_
         refine qV (r_build (ps := [(0, (I6 k)), (2, (.slice oa m oc))]) (v := (.agg #[(I6 k), (.slice none 0 0), (.slice oa m oc), (I6 0), (I6 0), (.bool false)])) rfl (by kernel_rfl)) ?_
         refine s_storeAgg (b := bo) (o := 0) (c' := #[(I6 k), (.slice none 0 0), (.slice oa m oc), (I6 0), (I6 0), (.bool false)]) rfl rfl (by simp [Value.oneCell']) siz25 rfl Bo (by first | (simp; done) | exact Nat.le_of_ble_eq_true rfl) rfl ?_
         intro w15 S15
         replace hS5 := S15.chg
         replace E := S15.step E (by first | exact Or.inl (by omega) | exact Or.inr rfl | exact Or.inr (by assumption) | exact Or.inr (by simp) | exact Or.inr (by omega) | exact Or.inr (by dsimp only; omega))
         replace Bo := S15.blk
         refine WpL_nil (Wp_ret (inB_ret (thn_ret ?_)))
         refine fin_agg Tryz.results118 (vs := [(.int .i64 k), (.slice none 0 0), (.slice oa m oc), (.int .i64 0), (.int .i64 0), (.bool false)]) (b := bo) rfl agg25 siz25 rfl (Bo.cells rfl) ?_
         refine ⟨_, rfl, ?_, E⟩
         rw [listT_many hnn (by rw [← hout]; omega), ← hout]
         subst hm
         refine ReIn.of (set := []) (SlIn.nil _ _ _ _ _) hoc ?_
         rcases hocl with h | ⟨ob, hob1, hob2, hob3, hclo⟩
         ·exact .inl h
         ·refine .inr ⟨ob, 0, .inr (by omega), hob3, resin_of fun i t ht => ?_⟩
          obtain ⟨vs, h6, h7⟩ := hclo i t ht
          exact ⟨vs, h6.chg hS5 (fun h => by have h' : ob = bo := h; omega), ReIn.mono (fun y hy => .inl hy) t (ReIn.chg hS5 (fun y hy h => by have := hS y hy; have h' : y = bo := h; omega) t h7)⟩
        ·have kh2 := h2
         replace h2 := of_decide_eq_false h2
         refine Wp_seq_region ?_
         refine qM _ rfl ?_
         refine qV (r_eql rfl rfl) ?_
         refine qA _ rfl ?_
         refine WpL_nil ?_
         refine Wp_cond rfl (fun h3 => ?_) (fun h3 => ?_)
         ·have kh3 := h3
          replace h3 := of_decide_eq_true h3
          refine Wp_seq_region ?_
          refine qV (r_build (ps := [(0, (I6 1))]) (v := (.agg #[(I6 1), (.slice none 0 0), (.slice none 0 0), (I6 0), (I6 0), (.bool false)])) rfl (by kernel_rfl)) ?_
          refine s_storeAgg (b := bo) (o := 0) (c' := #[(I6 1), (.slice none 0 0), (.slice none 0 0), (I6 0), (I6 0), (.bool false)]) rfl rfl (by simp [Value.oneCell']) siz25 rfl Bo (by first | (simp; done) | exact Nat.le_of_ble_eq_true rfl) rfl ?_
          intro w17 S17
          replace E := S17.step E (by first | exact Or.inl (by omega) | exact Or.inr rfl | exact Or.inr (by assumption) | exact Or.inr (by simp) | exact Or.inr (by omega) | exact Or.inr (by dsimp only; omega))
          replace Bo := S17.blk
          refine WpL_nil (Wp_ret (inB_ret (thn_ret ?_)))
          refine fin_agg Tryz.results118 (vs := [(.int .i64 1), (.slice none 0 0), (.slice none 0 0), (.int .i64 0), (.int .i64 0), (.bool false)]) (b := bo) rfl agg25 siz25 rfl (Bo.cells rfl) ?_
          have hk3 : k = 3 := h3
          subst hk3
          refine ⟨_, rfl, ?_, E⟩
          rw [listT_nil3 hnn (by rw [← hout]; exact List.eq_nil_of_length_eq_zero (by omega))]
          exact re_empty _ _ _
         ·have kh3 := h3
          replace h3 := of_decide_eq_false h3
          refine Wp_skip (inB_normal (thn_normal (Wp_seq_region ?_)))
          refine qV (r_build (ps := [(0, (I6 0))]) (v := (.agg #[(I6 0), (.slice none 0 0), (.slice none 0 0), (I6 0), (I6 0), (.bool false)])) rfl (by kernel_rfl)) ?_
          refine s_storeAgg (b := bo) (o := 0) (c' := #[(I6 0), (.slice none 0 0), (.slice none 0 0), (I6 0), (I6 0), (.bool false)]) rfl rfl (by simp [Value.oneCell']) siz25 rfl Bo (by first | (simp; done) | exact Nat.le_of_ble_eq_true rfl) rfl ?_
          intro w18 S18
          replace E := S18.step E (by first | exact Or.inl (by omega) | exact Or.inr rfl | exact Or.inr (by assumption) | exact Or.inr (by simp) | exact Or.inr (by omega) | exact Or.inr (by dsimp only; omega))
          replace Bo := S18.blk
          refine WpL_nil (Wp_ret ?_)
          refine fin_agg Tryz.results118 (vs := [(.int .i64 0), (.slice none 0 0), (.slice none 0 0), (.int .i64 0), (.int .i64 0), (.bool false)]) (b := bo) rfl agg25 siz25 rfl (Bo.cells rfl) ?_
          refine ⟨_, rfl, ?_, E⟩
          rw [listT_nil hnn (by rw [← hout]; exact List.eq_nil_of_length_eq_zero (by omega)) h3]
          exact re_empty _ _ _
   ·have kg1 := g1
    replace kg1 := of_decide_eq_false kg1
    have hnn : ¬ (k ≠ 4 ∧ ((restT k ts).any fun x => decide (x.kind = 0)) = true) := fun h => by have := of_decide_eq_false g1; exact this h.1
    have E3 : Chg none1 W3 W3 := Chg.refl _ _
    obtain ⟨base2, hbase2⟩ : ∃ base2, base2 = (W3).heap.size := ⟨_, rfl⟩
    have hrl3 := hrs.len
    have hle3 := rest_le k ts
    have hrs3 : RowsIn S (W3) (restT k ts) rows := RowsIn.ext E2 hrs
    obtain ⟨hlc3, hcell3⟩ := own_res hown hrs3 rfl
    refine WpL_guard_no rfl rfl (by decide) (v := .bool false) (congrArg Value.bool g1) (Or.inl rfl) ?_
    refine WpL_guard_no rfl rfl (by decide) (v := .bool false) (congrArg Value.bool g1) (Or.inl rfl) ?_
    refine qV (r_pick (v := (.bool false)) rfl (by rw [g1]; rfl)) ?_
    refine WpL_nil ?_
    refine Wp_cond_false rfl ?_
    refine Wp_skip (thn_normal (Wp_seq_region ?_))
    refine qA _ rfl ?_
    refine WpL_nil (Wp_seq (Wp_seq_region ?_))
    refine qM _ rfl ?_
    refine qV (r_lenSlice Tryz.underlying23 rfl) ?_
    refine qM _ rfl ?_
    refine WpL_nil (Wp_block ?_)
    refine Wp_loop (fun nn_ σ W19 => ∃ (j : Nat) (oa : Option Addr) (oc : Nat) (m : Nat) (out : List Re) (ro : List (List Value)), (∃ jj_, σ = upds jj_ [(0, (I6 k)), (4, (P6 bo 0)), (26, (.slice la ((restT k ts).length) lc)), (27, (I6 (((restT k ts).length : Nat) : Int))), (28, (I6 (j : Int))), (5, (.slice oa m oc))]) ∧ Chg none1 w0 W19 ∧ Chg none1 W3 W19 ∧ Blk W19 bo #[(I6 0), (.slice none 0 0), (.slice none 0 0), (I6 0), (I6 0), (.bool false)] 25 ∧ (j ≤ (restT k ts).length) ∧ (m = out.length) ∧ (W19.ownsRow base2 TRe 6 (.slice oa m oc) m ro.flatten) ∧ (RowsIn S W3 out ro) ∧ (out = outP k ((restT k ts).take j)) ∧ (out.length ≤ j) ∧ (base2 ≤ W19.heap.size) ∧ nn_ = (restT k ts).length - j) (n := (restT k ts).length - 0) ?_ ?_
    ·exact ⟨0, none, 0, 0, [], [], Fits.out ⟨rfl, rfl, rfl, rfl, rfl, rfl, trivial⟩, E, E3, Bo, Nat.zero_le _, rfl, World.ownsRow_nil _ _ _ _, rfl, (by unfold outP; split <;> rfl), Nat.le_refl _, (by omega), rfl⟩
    ·clear E E3 Bo
     rintro _ _ W19 ⟨j, oa, oc, m, out, ro, ⟨j19, rfl⟩, E, E3, Bo, hj, hm, hO, hro, hout, hol, hbs2, rfl⟩
     refine Wp_seq_region ?_
     refine qV (r_lss rfl rfl) ?_
     refine WpL_nil (Wp_seq ?_)
     refine Wp_cond rfl (fun hlt => ?_) (fun hlt => ?_)
     ·have khlt := hlt
      replace hlt := of_decide_eq_true hlt
      obtain ⟨x, hx⟩ := get_of_lt (l := restT k ts) (i := j) (by omega)
      obtain ⟨lb, hlb1, hlb2, hlb3, hcl3⟩ := hcell3.resolve_left (fun h => by rw [h] at hx; simp at hx)
      subst hlb3
      obtain ⟨xs, hcx, hrx⟩ := hcl3 j x hx
      have hrx0 := hrx
      obtain ⟨sa, sc, aa, ac, rfl, _, _, _⟩ := hrx.form
      refine Wp_skip (thn_normal (Wp_seq (Wp_block (Wp_seq_region ?_))))
      refine qV (r_indexSlice (b := lb) (o := 0) (len := (restT k ts).length) (cap := lc) (i := j) (o' := 0 + j * 6) rfl rfl rfl Tryz.underlying23 siz25 (by omega) (by omega)) ?_
      refine qV (r_loadAgg rfl agg25 siz25 rfl (hcx.ext E3)) ?_
      refine s_allocStore (v := (.agg (R6 x sa sc aa ac))) (c := (R6 x sa sc aa ac)) (n := 6) (by decide) zer25 rfl siz25 rfl rfl rfl (by simp [Value.oneCell']) ?_
      intro bs ws Ns
      have Fs := Ns.ge E
      have Fs_E3 := Ns.ge E3
      have Os_bo := Ns.lt Bo
      replace Bo := Ns.keep Bo
      replace hO := own_ext hO Ns.ext
      replace hbs2 := Nat.le_trans hbs2 Ns.ext.size
      replace E := E.ext Ns.ext
      have Bs := Ns.blk
      replace E3 := E3.ext Ns.ext
      refine WpL_nil (Wp_seq_region ?_)
      refine qM _ rfl ?_
      refine qV (r_eql rfl rfl) ?_
      refine qM _ rfl ?_
      rcases Bool.eq_false_or_eq_true (decide ((k : Int) = 3)) with g3 | g3
      ·have kg3 := g3
       replace kg3 := of_decide_eq_true kg3
       refine WpL_guard_no rfl rfl (by decide) (v := .bool true) (congrArg Value.bool g3) (Or.inl rfl) ?_
       refine WpL_guard_no rfl rfl (by decide) (v := .bool true) (congrArg Value.bool g3) (Or.inl rfl) ?_
       refine WpL_guard_no rfl rfl (by decide) (v := .bool true) (congrArg Value.bool g3) (Or.inl rfl) ?_
       refine WpL_guard_no rfl rfl (by decide) (v := .bool true) (congrArg Value.bool g3) (Or.inl rfl) ?_
       refine qV (r_pick (v := (.bool true)) rfl (by rw [g3]; rfl)) ?_
       refine WpL_nil ?_
       refine Wp_cond_true rfl ?_
       refine Wp_region ?_
       refine qM _ rfl ?_
       refine qV (r_loadAgg (vs := [(I6 x.kind), (.slice sa x.set.length sc), (.slice aa x.args.length ac), (I6 x.mn), (I6 x.mx), (.bool x.neg)]) rfl agg25 siz25 rfl (Bs.cells rfl)) ?_
       refine s_buildSlice (ps := [(0, (.agg (R6 x sa sc aa ac)))]) (c := (R6 x sa sc aa ac)) (by decide) rfl Tryz.underlying23 siz25 zer25 (by decide) (by decide) (by kernel_rfl) ?_
       intro bn wn Nn
       have Fn := Nn.ge E
       have Fn_E3 := Nn.ge E3
       have On_bo := Nn.lt Bo
       have On_bs := Nn.lt Bs
       replace Bo := Nn.keep Bo
       replace Bs := Nn.keep Bs
       replace hO := own_ext hO Nn.ext
       replace hbs2 := Nat.le_trans hbs2 Nn.ext.size
       replace E := E.ext Nn.ext
       have Bn := Nn.blk
       replace E3 := E3.ext Nn.ext
       refine s_append (base := base2) (n := m) (m := 1) (xs := ro.flatten) (news := [(I6 x.kind), (.slice sa x.set.length sc), (.slice aa x.args.length ac), (I6 x.mn), (I6 x.mx), (.bool x.neg)]) (size := 6) (bytes := 80) (v := (.slice oa m oc)) (by decide) Tryz.underlying23 siz25 byt25 zer25 rfl (by decide) rfl hO rfl (rfl) (Bn.cells rfl) (by simp [Value.oneCell']) (by unfold maxLen; omega) (by omega) (hbs2) ?_
       intro v9 w29 Ov9 Cv9 Dv9
       replace Bo := Cv9.keep (fun h => by have := (hO.lt _ h).1; omega) Bo
       replace E := E.step Cv9 (fun x hx h => absurd (hO.lt x h).1 (by omega))
       replace E3 := E3.step Cv9 (fun x hx h => absurd (hO.lt x h).1 (by omega))
       obtain ⟨oa2, oc2, rfl⟩ := own_form Ov9
       have hk3 : k = 3 := of_decide_eq_true g3
       refine qA _ rfl ?_
       refine WpL_nil (inB_normal (thn_normal (Wp_region ?_)))
       refine qV (r_add rfl rfl (wI64 (by omega))) ?_
       refine qM _ rfl ?_
       refine WpL_nil (thn_normal ?_)
       exact ⟨(restT k ts).length - (j + 1), by omega, j + 1, oa2, oc2, m + 1, out ++ [x], ro ++ [[.int .i64 x.kind, .slice sa x.set.length sc, .slice aa x.args.length ac, .int .i64 x.mn, .int .i64 x.mx, .bool x.neg]], Fits.out ⟨rfl, rfl, rfl, rfl, rfl, rfl, trivial⟩, E, E3, Bo, (by omega), (by simp [hm]), (by simpa using Ov9), RowsIn.append (RowsIn.single hrx0) hro, (by rw [hout]; unfold outP; rw [if_pos hk3, if_pos hk3, List.take_add_one, hx]; rfl), (by simp; omega), Nat.le_trans hbs2 Cv9.size, rfl⟩
      ·have kg3 := g3
       replace kg3 := of_decide_eq_false kg3
       refine WpL_guard_yes rfl rfl (by decide) (congrArg Value.bool g3) ?_
       refine qM _ rfl ?_
       refine WpL_guard_yes rfl rfl (by decide) (congrArg Value.bool g3) ?_
       refine qV (r_makeFunc rfl rfl) ?_
       refine WpL_guard_yes rfl rfl (by decide) (congrArg Value.bool g3) ?_
       have hk3 : k ≠ 3 := of_decide_eq_false g3
       have hrx9 : ReAt (ws) x _ := ReIn.at x (ReIn.ext E3 x hrx0)
       refine WpL_enter rfl rfl (by decide) (r_callF Tryz.func146 nm146 bd146 rfl) (res_has_c _ _ _ out (fun u => sameT x u) (own_rs hO (hro.ext E3) hm.symm) (fun w u us hE _ hu => CallV.mk (first := #[]) (cap := #[.pointer (some ⟨bs, 0, none⟩)]) Tryz.func148 nm148 bd148 rfl (list4_c w u x us _ bs hu (ReAt.ext hE x hrx9) (Ext.keep hE Bs)))) ?_
       rintro _ w39 ⟨rfl, X39⟩
       replace Bo := X39.keep Bo
       replace Bs := X39.keep Bs
       replace hO := own_ext hO X39
       replace hbs2 := Nat.le_trans hbs2 X39.size
       replace E := E.ext X39
       replace E3 := E3.ext X39
       have hot := once_take (l := restT k ts) hx
       have hout' : out = onceT [] ((restT k ts).take j) := by rw [hout]; exact if_neg hk3
       rw [← hout'] at hot
       refine WpL_guard_yes rfl rfl (by decide) (congrArg Value.bool g3) ?_
       refine qV (r_not rfl) ?_
       refine qV (r_pick (v := (.bool (!(out.any fun u => sameT x u)))) rfl (by rw [g3]; rfl)) ?_
       refine WpL_nil ?_
       refine Wp_cond rfl (fun hin => ?_) (fun hin => ?_)
       ·have khin := hin
        replace hin := by simpa using hin
        refine Wp_region ?_
        refine qM _ rfl ?_
        refine qV (r_loadAgg (vs := [(I6 x.kind), (.slice sa x.set.length sc), (.slice aa x.args.length ac), (I6 x.mn), (I6 x.mx), (.bool x.neg)]) rfl agg25 siz25 rfl (Bs.cells rfl)) ?_
        refine s_buildSlice (ps := [(0, (.agg (R6 x sa sc aa ac)))]) (c := (R6 x sa sc aa ac)) (by decide) rfl Tryz.underlying23 siz25 zer25 (by decide) (by decide) (by kernel_rfl) ?_
        intro bn wn Nn
        have Fn := Nn.ge E
        have Fn_E3 := Nn.ge E3
        have On_bo := Nn.lt Bo
        have On_bs := Nn.lt Bs
        replace Bo := Nn.keep Bo
        replace Bs := Nn.keep Bs
        replace hO := own_ext hO Nn.ext
        replace hbs2 := Nat.le_trans hbs2 Nn.ext.size
        replace E := E.ext Nn.ext
        have Bn := Nn.blk
        replace E3 := E3.ext Nn.ext
        refine s_append (base := base2) (n := m) (m := 1) (xs := ro.flatten) (news := [(I6 x.kind), (.slice sa x.set.length sc), (.slice aa x.args.length ac), (I6 x.mn), (I6 x.mx), (.bool x.neg)]) (size := 6) (bytes := 80) (v := (.slice oa m oc)) (by decide) Tryz.underlying23 siz25 byt25 zer25 rfl (by decide) rfl hO rfl (rfl) (Bn.cells rfl) (by simp [Value.oneCell']) (by unfold maxLen; omega) (by omega) (hbs2) ?_
        intro v9 w49 Ov9 Cv9 Dv9
        replace Bo := Cv9.keep (fun h => by have := (hO.lt _ h).1; omega) Bo
        replace E := E.step Cv9 (fun x hx h => absurd (hO.lt x h).1 (by omega))
        replace E3 := E3.step Cv9 (fun x hx h => absurd (hO.lt x h).1 (by omega))
        obtain ⟨oa2, oc2, rfl⟩ := own_form Ov9
        refine qA _ rfl ?_
        refine WpL_nil (inB_normal (thn_normal (Wp_region ?_)))
        refine qV (r_add rfl rfl (wI64 (by omega))) ?_
        refine qM _ rfl ?_
        refine WpL_nil (thn_normal ?_)
        exact ⟨(restT k ts).length - (j + 1), by omega, j + 1, oa2, oc2, m + 1, out ++ [x], ro ++ [[.int .i64 x.kind, .slice sa x.set.length sc, .slice aa x.args.length ac, .int .i64 x.mn, .int .i64 x.mx, .bool x.neg]], Fits.out ⟨rfl, rfl, rfl, rfl, rfl, rfl, trivial⟩, E, E3, Bo, (by omega), (by simp [hm]), (by simpa using Ov9), RowsIn.append (RowsIn.single hrx0) hro, (by unfold outP; rw [if_neg hk3, hot, if_neg (by simpa using hin)]), (by simp; omega), Nat.le_trans hbs2 Cv9.size, rfl⟩
       ·have khin := hin
        replace hin := by simpa using hin
        refine Wp_skip (inB_normal (thn_normal (Wp_region ?_)))
        refine qV (r_add rfl rfl (wI64 (by omega))) ?_
        refine qM _ rfl ?_
        refine WpL_nil (thn_normal ?_)
        exact ⟨(restT k ts).length - (j + 1), by omega, j + 1, oa, oc, m, out, ro, Fits.out ⟨rfl, rfl, rfl, rfl, rfl, rfl, trivial⟩, E, E3, Bo, (by omega), hm, hO, hro, (by unfold outP; rw [if_neg hk3, hot, if_pos (by simpa using hin)]), (by omega), hbs2, rfl⟩
     ·have khlt := hlt
      replace hlt := of_decide_eq_false hlt
      have hjj : j = (restT k ts).length := by omega
      rw [hjj, List.take_length] at hout
      replace hout : out = outT k ts := hout
      obtain ⟨hoc, hocl⟩ := own_res hO (hro.ext E3) hm.symm
      refine Wp_exit (thn_exit (thn_exit (inB_here (thn_normal (Wp_seq (Wp_block (Wp_seq_region ?_)))))))
      refine qM _ rfl ?_
      refine qV (r_lenSlice Tryz.underlying23 rfl) ?_
      refine qV (r_eql rfl rfl) ?_
      refine qA _ rfl ?_
      refine WpL_nil ?_
      refine Wp_cond rfl (fun h1 => ?_) (fun h1 => ?_)
      ·have kh1 := h1
       replace h1 := of_decide_eq_true h1
       obtain ⟨x, hx⟩ := get_of_lt (l := out) (i := 0) (by omega)
       obtain ⟨ob, hob1, hob2, hob3, hclo⟩ := hocl.resolve_left (fun h => by rw [h] at hx; simp at hx)
       subst hob3
       obtain ⟨xs, hcx, hrx⟩ := hclo 0 x hx
       have hrx0 := hrx
       obtain ⟨sa, sc, aa, ac, rfl, _, _, _⟩ := hrx.form
       refine Wp_seq_region ?_
       refine qM _ rfl ?_
       refine qV (r_indexSlice (b := ob) (o := 0) (len := m) (cap := oc) (i := 0) (o' := 0) rfl rfl rfl Tryz.underlying23 siz25 (by omega) (by omega)) ?_
       refine qV (r_loadAgg rfl agg25 siz25 rfl (hcx)) ?_
       have hS5 : Chg (fun y => y = bo) (W19) (W19) := Chg.refl _ _
       refine s_storeAgg (b := bo) (o := 0) (c' := (R6 x sa sc aa ac)) rfl rfl (by simp [Value.oneCell']) siz25 rfl Bo (by first | (simp; done) | exact Nat.le_of_ble_eq_true rfl) rfl ?_
       intro w24 S24
       replace hS5 := S24.chg
       replace E := S24.step E (by first | exact Or.inl (by omega) | exact Or.inr rfl | exact Or.inr (by assumption) | exact Or.inr (by simp) | exact Or.inr (by omega) | exact Or.inr (by dsimp only; omega))
       replace Bo := S24.blk
       refine WpL_nil (Wp_ret (inB_ret (thn_ret ?_)))
       refine fin_agg Tryz.results118 (vs := [(.int .i64 x.kind), (.slice sa x.set.length sc), (.slice aa x.args.length ac), (.int .i64 x.mn), (.int .i64 x.mx), (.bool x.neg)]) (b := bo) rfl agg25 siz25 rfl (Bo.cells rfl) ?_
       refine ⟨_, rfl, ?_, E⟩
       rw [listT_one hnn (x := x) (by rw [← hout]; exact getD_one (by omega) hx)]
       exact ReIn.mono (fun y hy => .inl hy) x (ReIn.chg hS5 (fun y hy h => by have := hS y hy; have h' : y = bo := h; omega) x hrx0)
      ·have kh1 := h1
       replace h1 := of_decide_eq_false h1
       refine Wp_seq_region ?_
       refine qM _ rfl ?_
       refine qV (r_lenSlice Tryz.underlying23 rfl) ?_
       refine qV (r_gtr rfl rfl) ?_
       refine qA _ rfl ?_
       refine WpL_nil ?_
       refine Wp_cond rfl (fun h2 => ?_) (fun h2 => ?_)
       ·have kh2 := h2
        replace h2 := of_decide_eq_true h2
        have hS5 : Chg (fun y => y = bo) (W19) (W19) := Chg.refl _ _
        refine Wp_seq_region ?_
        refine qM _ rfl ?_
        refine qM _ rfl ?_
        refine qV (r_build (ps := [(0, (I6 k)), (2, (.slice oa m oc))]) (v := (.agg #[(I6 k), (.slice none 0 0), (.slice oa m oc), (I6 0), (I6 0), (.bool false)])) rfl (by kernel_rfl)) ?_
        refine s_storeAgg (b := bo) (o := 0) (c' := #[(I6 k), (.slice none 0 0), (.slice oa m oc), (I6 0), (I6 0), (.bool false)]) rfl rfl (by simp [Value.oneCell']) siz25 rfl Bo (by first | (simp; done) | exact Nat.le_of_ble_eq_true rfl) rfl ?_
        intro w26 S26
        replace hS5 := S26.chg
        replace E := S26.step E (by first | exact Or.inl (by omega) | exact Or.inr rfl | exact Or.inr (by assumption) | exact Or.inr (by simp) | exact Or.inr (by omega) | exact Or.inr (by dsimp only; omega))
        replace Bo := S26.blk
        refine WpL_nil (Wp_ret (inB_ret (thn_ret ?_)))
        refine fin_agg Tryz.results118 (vs := [(.int .i64 k), (.slice none 0 0), (.slice oa m oc), (.int .i64 0), (.int .i64 0), (.bool false)]) (b := bo) rfl agg25 siz25 rfl (Bo.cells rfl) ?_
        refine ⟨_, rfl, ?_, E⟩
        rw [listT_many hnn (by rw [← hout]; omega), ← hout]
        subst hm
        refine ReIn.of (set := []) (SlIn.nil _ _ _ _ _) hoc ?_
        rcases hocl with h | ⟨ob, hob1, hob2, hob3, hclo⟩
        ·exact .inl h
        ·refine .inr ⟨ob, 0, .inr (by omega), hob3, resin_of fun i t ht => ?_⟩
         obtain ⟨vs, h6, h7⟩ := hclo i t ht
         exact ⟨vs, h6.chg hS5 (fun h => by have h' : ob = bo := h; omega), ReIn.mono (fun y hy => .inl hy) t (ReIn.chg hS5 (fun y hy h => by have := hS y hy; have h' : y = bo := h; omega) t h7)⟩
       ·have kh2 := h2
        replace h2 := of_decide_eq_false h2
        refine Wp_seq_region ?_
        refine qM _ rfl ?_
        refine qV (r_eql rfl rfl) ?_
        refine qA _ rfl ?_
        refine WpL_nil ?_
        refine Wp_cond rfl (fun h3 => ?_) (fun h3 => ?_)
        ·have kh3 := h3
         replace h3 := of_decide_eq_true h3
         refine Wp_seq_region ?_
         refine qV (r_build (ps := [(0, (I6 1))]) (v := (.agg #[(I6 1), (.slice none 0 0), (.slice none 0 0), (I6 0), (I6 0), (.bool false)])) rfl (by kernel_rfl)) ?_
         refine s_storeAgg (b := bo) (o := 0) (c' := #[(I6 1), (.slice none 0 0), (.slice none 0 0), (I6 0), (I6 0), (.bool false)]) rfl rfl (by simp [Value.oneCell']) siz25 rfl Bo (by first | (simp; done) | exact Nat.le_of_ble_eq_true rfl) rfl ?_
         intro w28 S28
         replace E := S28.step E (by first | exact Or.inl (by omega) | exact Or.inr rfl | exact Or.inr (by assumption) | exact Or.inr (by simp) | exact Or.inr (by omega) | exact Or.inr (by dsimp only; omega))
         replace Bo := S28.blk
         refine WpL_nil (Wp_ret (inB_ret (thn_ret ?_)))
         refine fin_agg Tryz.results118 (vs := [(.int .i64 1), (.slice none 0 0), (.slice none 0 0), (.int .i64 0), (.int .i64 0), (.bool false)]) (b := bo) rfl agg25 siz25 rfl (Bo.cells rfl) ?_
         have hk3 : k = 3 := h3
         subst hk3
         refine ⟨_, rfl, ?_, E⟩
         rw [listT_nil3 hnn (by rw [← hout]; exact List.eq_nil_of_length_eq_zero (by omega))]
         exact re_empty _ _ _
        ·have kh3 := h3
         replace h3 := of_decide_eq_false h3
         refine Wp_skip (inB_normal (thn_normal (Wp_seq_region ?_)))
         refine qV (r_build (ps := [(0, (I6 0))]) (v := (.agg #[(I6 0), (.slice none 0 0), (.slice none 0 0), (I6 0), (I6 0), (.bool false)])) rfl (by kernel_rfl)) ?_
         refine s_storeAgg (b := bo) (o := 0) (c' := #[(I6 0), (.slice none 0 0), (.slice none 0 0), (I6 0), (I6 0), (.bool false)]) rfl rfl (by simp [Value.oneCell']) siz25 rfl Bo (by first | (simp; done) | exact Nat.le_of_ble_eq_true rfl) rfl ?_
         intro w29 S29
         replace E := S29.step E (by first | exact Or.inl (by omega) | exact Or.inr rfl | exact Or.inr (by assumption) | exact Or.inr (by simp) | exact Or.inr (by omega) | exact Or.inr (by dsimp only; omega))
         replace Bo := S29.blk
         refine WpL_nil (Wp_ret ?_)
         refine fin_agg Tryz.results118 (vs := [(.int .i64 0), (.slice none 0 0), (.slice none 0 0), (.int .i64 0), (.int .i64 0), (.bool false)]) (b := bo) rfl agg25 siz25 rfl (Bo.cells rfl) ?_
         refine ⟨_, rfl, ?_, E⟩
         rw [listT_nil hnn (by rw [← hout]; exact List.eq_nil_of_length_eq_zero (by omega)) h3]
         exact re_empty _ _ _
end Go.Proofs
