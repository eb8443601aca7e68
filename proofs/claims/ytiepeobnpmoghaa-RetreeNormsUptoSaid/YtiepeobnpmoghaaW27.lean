/- Contracts: expressions of a kind deleted out of a list. -/
import Derived.Test.YtiepeobnpmoghaaW26
namespace Go.Proofs
open Go Go.Eng
set_option maxRecDepth 100000

theorem zero_one {m : Nat} : ∀ v ∈ (Builtin.zeroCells (Value.cells (.agg #[(.int .i64 0), (.slice none 0 0), (.slice none 0 0), (.int .i64 0), (.int .i64 0), (.bool false)])) m).toList, v.oneCell' = true := by
  intro v hv
  simp only [Builtin.zeroCells, Value.cells, Array.toList_map, List.mem_map] at hv
  obtain ⟨i, _, rfl⟩ := hv
  have h : i % 6 < 6 := Nat.mod_lt _ (by decide)
  show (#[(Value.int .i64 0), (.slice none 0 0), (.slice none 0 0), (.int .i64 0), (.int .i64 0), (.bool false)][i % 6]!).oneCell' = true
  generalize i % 6 = q at h
  match q, h with
  | 0, _ => rfl
  | 1, _ => rfl
  | 2, _ => rfl
  | 3, _ => rfl
  | 4, _ => rfl
  | 5, _ => rfl
theorem WpL_val0 {P : Program} {N : Nat} {Q : Post} {σ : Env} {w : World} {K : Env → World → Prop} {ops : Array Oper} {rest : List Oper} {o : Oper} (hg : o.guard = none) (hd : o.dst = none) {v : Value} {w' : World}
    (hr : (execOp (ev σ) o).run P w = .ok (.value v) w') (k : WpL P N ops K Q rest σ w') : WpL P N ops K Q (o :: rest) σ w := by
  intro a ha he
  refine wpList_plain hg fun K' hK => ?_
  unfold Oper.wp
  rw [eval_env, he, hr]
  simp only [Oper.upon, hd]
  exact hK _ _ (k a ha he)
theorem s_clear {P : Program} {N : Nat} {Q : Post} {σ : Env} {w : World} {K : Env → World → Prop} {ops : Array Oper} {rest : List Oper} {ty : TypeId} {pos : String} {af : Array Edge} {t e : TypeId} {x : Operand} {b o m cc : Nat} {c c' : Array Value} {z : Value} (hu : P.underlying t = some (.slice e)) (hz : Zer P e z) (hx : ev σ x = .slice (some ⟨b, o, none⟩) m cc) (hm : 0 < m) (hB : Blk w b c e) (h1 : ∀ v ∈ (Builtin.zeroCells z.cells m).toList, v.oneCell' = true)
    (ho : o + m * z.cells.size ≤ c.size) (hc : (c.toList.take o ++ (Builtin.zeroCells z.cells m).toList ++ c.toList.drop (o + m * z.cells.size)).toArray = c')
    (k : ∀ w', Put w w' b c' e → WpL P N ops K Q rest σ w') : WpL P N ops K Q (⟨none, .call ⟨.builtin .clear, #[x], #[t]⟩, ty, pos, af, none⟩ :: rest) σ w := by
  subst hc
  have hl : (Builtin.zeroCells z.cells m).toList.length = m * z.cells.size := by simp [Builtin.zeroCells]
  have hst := run_storeCells_at P b o e (Builtin.zeroCells z.cells m).toList 0 c w hB (by rw [hl]; simpa using ho) h1
  simp only [Nat.add_zero, hl] at hst
  refine WpL_val0 (v := .tuple #[]) (w' := w.setRow b _) rfl rfl ?_ (k _ (Put.of_setRow hB _))
  obtain ⟨m', rfl⟩ : ∃ m', m = m' + 1 := ⟨m - 1, by omega⟩
  simp [execOp, resolve, invoke, builtin, Builtin.clear_, hx, run_underlying hu, hz.run, hst]

theorem idx_none {α : Type} {p : α → Bool} {l : List α} (h : idx p l = -1) : l.filter (fun x => !p x) = l := by
  have h1 := idx_any p l
  rw [h] at h1
  have h2 : l.any p = false := by rw [← h1]; decide
  rw [List.filter_eq_self]
  rw [List.any_eq_false] at h2
  intro x hx; simp [h2 x hx]
theorem idx_some {α : Type} {p : α → Bool} {l : List α} (h : idx p l ≠ -1) : ∃ i : Nat, idx p l = (i : Int) ∧ i < l.length ∧ (l.take (i + 1)).filter (fun x => !p x) = l.take i := by
  unfold idx at h ⊢
  cases hf : l.findIdx? p with
  | none => rw [hf] at h; exact absurd rfl h
  | some i =>
    rw [List.findIdx?_eq_some_iff_getElem] at hf
    obtain ⟨hi, hp, hno⟩ := hf
    refine ⟨i, rfl, hi, ?_⟩
    have e1 : (l.take i).filter (fun x => !p x) = l.take i := by
      rw [List.filter_eq_self]
      intro x hx
      obtain ⟨j, hj, rfl⟩ := List.getElem_of_mem hx
      simp at hj
      have := hno j (by omega)
      simpa using this
    rw [List.take_add_one, List.getElem?_eq_getElem hi, List.filter_append, e1]
    simp [hp]
theorem filter_snoc {α : Type} {p : α → Bool} {l : List α} {j : Nat} {x : α} (hx : l[j]? = some x) : (l.take (j + 1)).filter (fun x => !p x) = (l.take j).filter (fun x => !p x) ++ (if p x then [] else [x]) := by
  rw [List.take_add_one, hx, List.filter_append]
  congr 1
  cases hp : p x <;> simp [hp]
theorem drop_get {α : Type} {l m : List α} {j : Nat} (h : l.drop j = m.drop j) {i : Nat} (hi : j ≤ i) : l[i]? = m[i]? := by
  have := congrArg (fun q => q[i - j]?) h
  simp only [List.getElem?_drop] at this
  rwa [show j + (i - j) = i from by omega] at this
theorem RowsIn.take {S : Nat → Prop} {w : World} : ∀ {ts : List Re} {rows : List (List Value)} (i : Nat), RowsIn S w ts rows → RowsIn S w (ts.take i) (rows.take i)
  | [], _, i, h => by simp only [RowsIn] at h; subst h; cases i <;> rfl
  | t :: ts, rows, 0, h => rfl
  | t :: ts, rows, i + 1, h => by
    obtain ⟨r, rs, rfl, h2, h3⟩ := h
    exact ⟨r, rs.take i, rfl, h2, RowsIn.take i h3⟩

set_option maxHeartbeats 2000000 in
theorem del_c (wb w0 : World) (base : Nat) (S : Nat → Prop) (v fv : Value) (ts : List Re) (rows : List (List Value)) (p : Re → Bool) (hE : Ext wb w0) (hown : w0.ownsRow base TRe 6 v ts.length rows.flatten) (hr : RowsIn S wb ts rows) (hS : ∀ x, S x → x < base) (hlen : ts.length ≤ 1000000)
    (hf : ∀ (w : World) (x : Re) (vs : List Value), ReAt w x vs → CallV Try.prog fv #[.agg vs.toArray] w fun r w' => r = .bool (p x) ∧ Ext w w') :
    Ret Try.prog 38 #[v, fv] w0 fun r w => ∃ la lc rows', r = .slice la (ts.filter fun x => !p x).length lc ∧ w.ownsRow base TRe 6 r (ts.filter fun x => !p x).length rows'.flatten ∧ RowsIn S wb (ts.filter fun x => !p x) rows' ∧ Chg (fun x => base ≤ x) w0 w := by
  have hown0 := hown
  obtain ⟨a, c, rfl⟩ := own_form hown
  obtain ⟨q, hq⟩ : ∃ q : Int, q = idx p ts := ⟨_, rfl⟩
  have hrs : RsAt w0 (.slice a ts.length c) ts := own_rs hown0 (hr.ext hE) rfl
  refine Ret_of Try.func38 rfl Try.ntmps38 (Nat.le_of_ble_eq_true rfl) ?_
  have E : Chg (fun x => base ≤ x) w0 w0 := Chg.refl _ _
  refine Wp_seq_region ?_
  refine WpL_val rfl rfl (by decide) (r_assign (v := (.slice none 0 0)) rfl) ?_
  refine WpL_nil ?_
  refine Wp_seq_region ?_
  refine WpL_val rfl rfl (by decide) (r_move (v := (.slice a ts.length c)) rfl) ?_
  refine WpL_val rfl rfl (by decide) (r_move (v := fv) rfl) ?_
  refine WpL_enter rfl rfl (by decide) (r_callF (vs := [(.slice a ts.length c), fv]) Try.func50 nm50 bd50 rfl) ((res_idx_c _ _ fv ts p hrs (fun w x vs _ _ hx => hf w x vs hx)).mono (R' := fun r w => r = .int .i64 q ∧ Ext w0 w) (by rintro v w ⟨rfl, h⟩; exact ⟨by rw [hq], h⟩)) ?_
  rintro _ w9 ⟨rfl, X9⟩
  replace E := E.ext X9
  refine WpL_val rfl rfl (by decide) (r_assign (v := (.int .i64 q)) rfl) ?_
  refine WpL_nil ?_
  refine Wp_seq ?_
  refine Wp_seq_region ?_
  refine WpL_val rfl rfl (by decide) (r_move (v := (.int .i64 q)) rfl) ?_
  refine WpL_val rfl rfl (by decide) (r_eql (k := .i64) (a := q) (b := (-1)) rfl rfl) ?_
  refine WpL_nil ?_
  refine Wp_cond (b := decide ((q : Int) = (-1))) rfl (fun h1 => ?_) (fun h1 => ?_)
  · have kh1 := h1
    replace h1 := of_decide_eq_true h1
    have hfi : (ts.filter fun x => !p x) = ts := idx_none (by rw [← hq]; exact h1)
    refine Wp_seq_region ?_
    refine WpL_val rfl rfl (by decide) (r_move (v := (.slice a ts.length c)) rfl) ?_
    refine WpL_val rfl rfl (by decide) (r_assign (v := (.slice a ts.length c)) rfl) ?_
    refine WpL_nil ?_
    refine Wp_ret ?_
    refine thn_ret ?_
    refine fin_tmp Try.results38 (v := (.slice a ts.length c)) rfl ?_
    rw [hfi]; exact ⟨a, c, rows, rfl, own_ext hown0 X9, hr, E⟩
  · have kh1 := h1
    replace h1 := of_decide_eq_false h1
    obtain ⟨i0, hi0, hi0l, hi0f⟩ := idx_some (p := p) (l := ts) (by rw [← hq]; exact h1)
    obtain rfl : q = ((i0 : Nat) : Int) := by rw [hq, hi0]
    rcases hown0.2 with ⟨_, hbad⟩ | ⟨g, cap, cur0, hv0, hgb, hgB, hcap1, hcap2, hcap3, hcap4⟩
    · omega
    simp only [Value.slice.injEq] at hv0
    obtain ⟨rfl, _, rfl⟩ := hv0
    obtain ⟨rest, hrest⟩ : ∃ rest, rest = cur0.toList.drop (ts.length * 6) := ⟨_, rfl⟩
    have hgB2 : Blk w9 g (rows.flatten ++ rest).toArray TRe := X9.keep (by rw [hrest, ← hcap4, List.take_append_drop]; exact hgB)
    have hszz : (rows.flatten ++ rest).length = c * 6 := by rw [hrest, ← hcap4, List.take_append_drop]; simpa using hcap3
    have hrl := hr.len
    have hr6 := hr.six
    have hrestl : rest.length = c * 6 - ts.length * 6 := by rw [List.length_append, rows_len hr6, hrl] at hszz; omega
    refine Wp_skip ?_
    refine thn_normal ?_
    refine Wp_seq ?_
    refine Wp_seq_region ?_
    refine WpL_val rfl rfl (by decide) (r_move (v := (.int .i64 ((i0 : Nat) : Int))) rfl) ?_
    refine WpL_val rfl rfl (by decide) (r_add (k := .i64) (a := ((i0 : Nat) : Int)) (b := 1) (c := ((i0 : Nat) : Int) + 1) rfl rfl (wI64 (by omega))) ?_
    refine WpL_val rfl rfl (by decide) (r_assign (v := (.int .i64 (((i0 : Nat) : Int) + 1))) rfl) ?_
    refine WpL_nil ?_
    refine Wp_block ?_
    refine Wp_loop (fun nn_ σ W2 => ∃ (j : Nat) (i : Nat) (cur : List (List Value)), (∃ jj_, σ = upds jj_ [(0, (.slice (some ⟨g, 0, none⟩) ts.length c)), (1, fv), (6, (.int .i64 ((j : Nat) : Int))), (5, (.int .i64 ((i : Nat) : Int)))]) ∧ Chg (fun x => base ≤ x) w0 W2 ∧ Blk W2 g ((cur.flatten ++ rest).toArray) TRe ∧ (i < j ∧ j ≤ ts.length) ∧ (cur.length = ts.length) ∧ (∀ r ∈ cur, r.length = 6) ∧ (cur.drop j = rows.drop j) ∧ (RowsIn S wb ((ts.take j).filter fun x => !p x) (cur.take i)) ∧ (i = ((ts.take j).filter fun x => !p x).length) ∧ nn_ = ts.length - j) (n := ts.length - (i0 + 1)) ?_ ?_
    · exact ⟨i0 + 1, i0, rows, Fits.out ⟨rfl, rfl, rfl, rfl, trivial⟩, E, hgB2, ⟨by omega, by omega⟩, hrl, hr6, rfl, (by rw [hi0f]; exact hr.take i0), (by rw [hi0f]; simp; omega), rfl⟩
    · clear E hgB2
      rintro _ _ W2 ⟨j, i, cur, ⟨j2, rfl⟩, E, hgB2, hij, hcl, hc6, hdr, hin, hil, rfl⟩
      refine Wp_seq ?_
      refine Wp_seq_region ?_
      refine WpL_val rfl rfl (by decide) (r_move (v := (.int .i64 ((j : Nat) : Int))) rfl) ?_
      refine WpL_val rfl rfl (by decide) (r_move (v := (.slice (some ⟨g, 0, none⟩) ts.length c)) rfl) ?_
      refine WpL_val rfl rfl (by decide) (r_lenSlice (ad := some ⟨g, 0, none⟩) (n := ts.length) (cap := c) Try.underlying23 rfl) ?_
      refine WpL_val rfl rfl (by decide) (r_lss (k := .i64) (a := ((j : Nat) : Int)) (b := ((ts.length : Nat) : Int)) rfl rfl) ?_
      refine WpL_nil ?_
      refine Wp_cond (b := decide ((((j : Nat) : Int) : Int) < ((ts.length : Nat) : Int))) rfl (fun hlt => ?_) (fun hlt => ?_)
      · have khlt := hlt
        replace hlt := of_decide_eq_true hlt
        obtain ⟨x, hx⟩ := get_of_lt (l := ts) (i := j) (by omega)
        obtain ⟨r, hrr, hrx⟩ := hr.get hx
        have hcr : cur[j]? = some r := by rw [drop_get hdr (Nat.le_refl _)]; exact hrr
        have hfs := filter_snoc (p := p) hx
        have hdr2 : cur.drop (j + 1) = rows.drop (j + 1) := by rw [← List.drop_drop, ← List.drop_drop, hdr]
        have hrx2 : ReAt (W2) x r := ReIn.at x (ReIn.chg E (fun y hy hb => by have := hS y hy; have hb' : base ≤ y := hb; omega) x (ReIn.ext hE x hrx))
        have hrl6 := hrx.len
        obtain ⟨sa, sc, aa, ac, rfl, _, _, _⟩ := hrx2.form
        refine Wp_skip ?_
        refine thn_normal ?_
        refine Wp_seq ?_
        refine Wp_block ?_
        refine Wp_seq_region ?_
        refine WpL_val rfl rfl (by decide) (r_move (v := (.slice (some ⟨g, 0, none⟩) ts.length c)) rfl) ?_
        refine WpL_val rfl rfl (by decide) (r_move (v := (.int .i64 ((j : Nat) : Int))) rfl) ?_
        refine WpL_val rfl rfl (by decide) (r_indexSlice (b := g) (o := 0) (len := ts.length) (cap := c) (i := j) (o' := 0 + j * 6) rfl rfl rfl Try.underlying23 siz25 (by omega) (by omega)) ?_
        refine WpL_val rfl rfl (by decide) (r_loadAgg (vs := [(.int .i64 x.kind), (.slice sa x.set.length sc), (.slice aa x.args.length ac), (.int .i64 x.mn), (.int .i64 x.mx), (.bool x.neg)]) rfl agg25 siz25 rfl (by rw [Nat.zero_add]; exact rows_at hgB2 hc6 hcr)) ?_
        refine s_allocStore (v := (.agg #[(.int .i64 x.kind), (.slice sa x.set.length sc), (.slice aa x.args.length ac), (.int .i64 x.mn), (.int .i64 x.mx), (.bool x.neg)])) (c := #[(.int .i64 x.kind), (.slice sa x.set.length sc), (.slice aa x.args.length ac), (.int .i64 x.mn), (.int .i64 x.mx), (.bool x.neg)]) (n := 6) (by decide) zer25 rfl siz25 rfl rfl rfl (by simp [Value.oneCell']) ?_
        intro bs ws Ns
        have Fs := Ns.ge E
        have Os_g := Ns.lt hgB2
        replace hgB2 := Ns.keep hgB2
        replace hrx2 := ReAt.ext Ns.ext x hrx2
        replace E := E.ext Ns.ext
        have Bs := Ns.blk
        refine WpL_nil ?_
        refine Wp_seq_region ?_
        refine WpL_val rfl rfl (by decide) (r_move (v := fv) rfl) ?_
        refine WpL_val rfl rfl (by decide) (r_loadAgg (vs := [(.int .i64 x.kind), (.slice sa x.set.length sc), (.slice aa x.args.length ac), (.int .i64 x.mn), (.int .i64 x.mx), (.bool x.neg)]) rfl agg25 siz25 rfl (Bs.cells rfl)) ?_
        refine WpL_callV (fv := fv) (vs := [(.agg #[(.int .i64 x.kind), (.slice sa x.set.length sc), (.slice aa x.args.length ac), (.int .i64 x.mn), (.int .i64 x.mx), (.bool x.neg)])]) (by decide) rfl rfl (hf _ x _ hrx2) ?_
        rintro _ w19 ⟨rfl, X19⟩
        replace hgB2 := X19.keep hgB2
        replace Bs := X19.keep Bs
        replace hrx2 := ReAt.ext X19 x hrx2
        replace E := E.ext X19
        refine WpL_val rfl rfl (by decide) (r_not (b := p x) rfl) ?_
        refine WpL_nil ?_
        refine Wp_cond (b := !(p x)) rfl (fun hp => ?_) (fun hp => ?_)
        · have khp := hp
          replace hp := by simpa using hp
          refine Wp_seq_region ?_
          refine WpL_val rfl rfl (by decide) (r_move (v := (.slice (some ⟨g, 0, none⟩) ts.length c)) rfl) ?_
          refine WpL_val rfl rfl (by decide) (r_move (v := (.int .i64 ((i : Nat) : Int))) rfl) ?_
          refine WpL_val rfl rfl (by decide) (r_loadAgg (vs := [(.int .i64 x.kind), (.slice sa x.set.length sc), (.slice aa x.args.length ac), (.int .i64 x.mn), (.int .i64 x.mx), (.bool x.neg)]) rfl agg25 siz25 rfl (Bs.cells rfl)) ?_
          refine WpL_val rfl rfl (by decide) (r_indexSlice (b := g) (o := 0) (len := ts.length) (cap := c) (i := i) (o' := 0 + i * 6) rfl rfl rfl Try.underlying23 siz25 (by omega) (by omega)) ?_
          refine s_storeAgg (b := g) (o := 0 + i * 6) (n := 6) (c' := ((cur.set i [.int .i64 x.kind, .slice sa x.set.length sc, .slice aa x.args.length ac, .int .i64 x.mn, .int .i64 x.mx, .bool x.neg]).flatten ++ rest).toArray) (vs := #[(.int .i64 x.kind), (.slice sa x.set.length sc), (.slice aa x.args.length ac), (.int .i64 x.mn), (.int .i64 x.mx), (.bool x.neg)]) rfl rfl (by simp [Value.oneCell']) siz25 (rfl) hgB2 (by have := rows_len hc6; simp only [List.size_toArray, List.length_append]; omega) (by rw [Nat.zero_add]; exact congrArg List.toArray (rows_set (k := 6) (v := [.int .i64 x.kind, .slice sa x.set.length sc, .slice aa x.args.length ac, .int .i64 x.mn, .int .i64 x.mx, .bool x.neg]) (rows := cur) (i := i) (rest := rest) rfl hc6 (by omega))) ?_
          intro w5 S5
          replace Bs := S5.keep (by omega) Bs
          replace E := S5.step E (by first | exact Or.inl (by omega) | exact Or.inr rfl | exact Or.inr (by assumption) | exact Or.inr (by simp) | exact Or.inr (by omega) | exact Or.inr (by dsimp only; omega))
          replace hgB2 := S5.blk
          refine WpL_nil ?_
          refine Wp_region ?_
          refine WpL_val rfl rfl (by decide) (r_move (v := (.int .i64 ((i : Nat) : Int))) rfl) ?_
          refine WpL_val rfl rfl (by decide) (r_add (k := .i64) (a := ((i : Nat) : Int)) (b := 1) (c := ((i : Nat) : Int) + 1) rfl rfl (wI64 (by omega))) ?_
          refine WpL_val rfl rfl (by decide) (r_assign (v := (.int .i64 (((i : Nat) : Int) + 1))) rfl) ?_
          refine WpL_nil ?_
          refine inB_normal ?_
          refine thn_normal ?_
          refine Wp_region ?_
          refine WpL_val rfl rfl (by decide) (r_move (v := (.int .i64 ((j : Nat) : Int))) rfl) ?_
          refine WpL_val rfl rfl (by decide) (r_add (k := .i64) (a := ((j : Nat) : Int)) (b := 1) (c := ((j : Nat) : Int) + 1) rfl rfl (wI64 (by omega))) ?_
          refine WpL_val rfl rfl (by decide) (r_assign (v := (.int .i64 (((j : Nat) : Int) + 1))) rfl) ?_
          refine WpL_nil ?_
          refine thn_normal ?_
          exact ⟨ts.length - (j + 1), by omega, j + 1, i + 1, cur.set i [.int .i64 x.kind, .slice sa x.set.length sc, .slice aa x.args.length ac, .int .i64 x.mn, .int .i64 x.mx, .bool x.neg], Fits.out ⟨rfl, rfl, rfl, rfl, trivial⟩, E, hgB2, ⟨by omega, by omega⟩, (by simpa using hcl), (fun r hr => by rcases List.mem_or_eq_of_mem_set hr with h | h; exact hc6 r h; rw [h]; rfl), (by rw [List.drop_set_of_lt (by omega)]; exact hdr2), (by rw [hfs, hp, List.take_add_one, List.take_set_of_le (Nat.le_refl _), List.getElem?_set_self (by omega)]; exact RowsIn.append (RowsIn.single hrx) hin), (by rw [hfs, hp, List.length_append, ← hil]; rfl), rfl⟩
        · have khp := hp
          replace hp := by simpa using hp
          refine Wp_skip ?_
          refine inB_normal ?_
          refine thn_normal ?_
          refine Wp_region ?_
          refine WpL_val rfl rfl (by decide) (r_move (v := (.int .i64 ((j : Nat) : Int))) rfl) ?_
          refine WpL_val rfl rfl (by decide) (r_add (k := .i64) (a := ((j : Nat) : Int)) (b := 1) (c := ((j : Nat) : Int) + 1) rfl rfl (wI64 (by omega))) ?_
          refine WpL_val rfl rfl (by decide) (r_assign (v := (.int .i64 (((j : Nat) : Int) + 1))) rfl) ?_
          refine WpL_nil ?_
          refine thn_normal ?_
          exact ⟨ts.length - (j + 1), by omega, j + 1, i, cur, Fits.out ⟨rfl, rfl, rfl, rfl, trivial⟩, E, hgB2, ⟨by omega, by omega⟩, hcl, hc6, hdr2, (by rw [hfs, hp]; simpa using hin), (by rw [hfs, hp]; simpa using hil), rfl⟩
      · have khlt := hlt
        replace hlt := of_decide_eq_false hlt
        have hjj : j = ts.length := by omega
        rw [hjj, List.take_length] at hin hil
        refine Wp_exit ?_
        refine thn_exit ?_
        refine thn_exit ?_
        refine inB_here ?_
        refine thn_normal ?_
        refine Wp_seq_region ?_
        refine WpL_val rfl rfl (by decide) (r_move (v := (.slice (some ⟨g, 0, none⟩) ts.length c)) rfl) ?_
        refine WpL_val rfl rfl (by decide) (r_move (v := (.int .i64 ((i : Nat) : Int))) rfl) ?_
        obtain ⟨sl, hsl⟩ : ∃ a' : Option Addr, (if c = i then (some ⟨g, 0, none⟩) else Option.map (fun q : Addr => q.add (i * 6)) (some ⟨g, 0, none⟩)) = a' := ⟨_, rfl⟩
        refine WpL_val rfl rfl (by decide) (r_sliceLo (a := (some ⟨g, 0, none⟩)) (len := ts.length) (cap := c) (lo := i) (l := ((i : Nat) : Int)) (n' := (ts.length - i)) (c' := (c - i)) Try.underlying23 siz25 rfl rfl (by omega) (by omega) hsl (by omega) (by omega)) ?_
        have hsl2 : sl = some ⟨g, i * 6, none⟩ := by rw [← hsl, if_neg (by omega)]; simp [Addr.add]; omega
        subst hsl2
        obtain ⟨cz, hcz⟩ : ∃ cz, cz = ((cur.flatten ++ rest).toArray.toList.take (i * 6) ++ (Builtin.zeroCells (Value.cells (.agg #[(.int .i64 0), (.slice none 0 0), (.slice none 0 0), (.int .i64 0), (.int .i64 0), (.bool false)])) (ts.length - i)).toList ++ (cur.flatten ++ rest).toArray.toList.drop (i * 6 + (ts.length - i) * 6)).toArray := ⟨_, rfl⟩
        refine s_clear (b := g) (o := i * 6) (m := (ts.length - i)) (cc := (c - i)) (c' := cz) Try.underlying23 zer25 rfl (by omega) hgB2 zero_one (by show i * 6 + (ts.length - i) * 6 ≤ _; simp only [List.size_toArray, List.length_append, rows_len hc6, hcl]; omega) (hcz.symm) ?_
        intro w6 S6
        replace E := S6.step E (by first | exact Or.inl (by omega) | exact Or.inr rfl | exact Or.inr (by assumption) | exact Or.inr (by simp) | exact Or.inr (by omega) | exact Or.inr (by dsimp only; omega))
        replace hgB2 := S6.blk
        refine WpL_nil ?_
        refine Wp_seq_region ?_
        refine WpL_val rfl rfl (by decide) (r_move (v := (.slice (some ⟨g, 0, none⟩) ts.length c)) rfl) ?_
        refine WpL_val rfl rfl (by decide) (r_move (v := (.int .i64 ((i : Nat) : Int))) rfl) ?_
        obtain ⟨sm, hsm⟩ : ∃ a' : Option Addr, (if c = 0 then (some ⟨g, 0, none⟩) else Option.map (fun q : Addr => q.add (0 * 6)) (some ⟨g, 0, none⟩)) = a' := ⟨_, rfl⟩
        refine WpL_val rfl rfl (by decide) (r_sliceHi (a := (some ⟨g, 0, none⟩)) (len := ts.length) (cap := c) (hi := i) (l := ((i : Nat) : Int)) Try.underlying23 siz25 rfl rfl (by omega) (by omega) hsm) ?_
        refine WpL_val rfl rfl (by decide) (r_assign (v := (.slice sm i c)) rfl) ?_
        refine WpL_nil ?_
        refine Wp_ret ?_
        refine fin_tmp Try.results38 (v := (.slice sm i c)) rfl ?_
        have hsm2 : sm = some ⟨g, 0, none⟩ := by rw [← hsm]; split <;> simp [Addr.add]
        subst hsm2
        have hfl : (cur.take i).flatten.length = i * 6 := by rw [rows_len (fun r hr => hc6 r (List.mem_of_mem_take hr))]; simp; omega
        have htk : (cur.flatten ++ rest).take (i * 6) = (cur.take i).flatten := by
          have : cur.flatten = (cur.take i).flatten ++ (cur.drop i).flatten := by rw [← List.flatten_append, List.take_append_drop]
          rw [this, List.append_assoc, List.take_append_of_le_length (by omega), List.take_of_length_le (by omega)]
        have hz : (Builtin.zeroCells (Value.cells (.agg #[(.int .i64 0), (.slice none 0 0), (.slice none 0 0), (.int .i64 0), (.int .i64 0), (.bool false)])) (ts.length - i)).toList.length = (ts.length - i) * 6 := by simp [Builtin.zeroCells, Value.cells]
        have hcl6 : (cur.flatten ++ rest).length = c * 6 := by rw [List.length_append, rows_len hc6, hcl]; omega
        refine ⟨some ⟨g, 0, none⟩, c, cur.take i, by rw [← hil], ⟨by rw [hfl, ← hil], .inr ⟨g, c, cz, by rw [← hil], hgb, hgB2, by omega, hcap2, ?_, ?_⟩⟩, hin, E⟩
        · rw [hcz]
          simp only [List.size_toArray, List.length_append, List.length_take, List.length_drop, hz]
          simp only [List.length_append] at hcl6
          omega
        · rw [hcz, ← hil]
          show List.take (i * 6) (List.take (i * 6) (cur.flatten ++ rest) ++ _ ++ _) = _
          rw [htk, List.append_assoc, List.take_append_of_le_length (by omega), List.take_of_length_le (by omega)]
end Go.Proofs
