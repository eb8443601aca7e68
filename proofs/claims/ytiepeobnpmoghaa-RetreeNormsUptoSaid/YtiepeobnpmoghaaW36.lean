/- Contracts of the reference: the rules of lists. -/
import Derived.Test.YtiepeobnpmoghaaW35
import Derived.Test.YtiepeobnpmoghaaW19
namespace Go.Proofs
open Go Go.Eng
set_option maxRecDepth 100000

def own0 (n0 : Nat) : Fct := fun v w => ∃ b, v = .slice (some ⟨b, 0, none⟩) 0 0 ∧ n0 ≤ b ∧ Blk w b #[] TRe
theorem own0_ext (n0 : Nat) : ∀ v w w', Ext w w' → own0 n0 v w → own0 n0 v w' := by
  rintro v w w' e ⟨b, h1, h2, h3⟩
  exact ⟨b, h1, h2, Ext.keep e h3⟩
def ownF (n0 m : Nat) (xs : List Value) : Fct := fun v w => ∃ a c, v = .slice a m c ∧ w.ownsRow n0 TRe 6 v m xs
theorem ownF_ext (n0 m : Nat) (xs : List Value) : ∀ v w w', Ext w w' → ownF n0 m xs v w → ownF n0 m xs v w' := by
  rintro v w w' e ⟨a, c, h1, h2⟩
  exact ⟨a, c, h1, own_ext h2 e⟩
section
variable {N n0 : Nat} {σ : Env} {w : World} {dst : Option Tmp} {ty : TypeId} {pos : String} {af : Array Edge} {g : Option (Nat × Bool)} {s x : Operand}
theorem DoesT_b0 (hn : n0 ≤ w.heap.size) : DoesT none1 Try.prog N ⟨dst, .buildSlice 23 0 #[], ty, pos, af, g⟩ (own0 n0) σ w := by
  have hnw := New.mk' w #[] TRe
  refine DoesT_val (v := .slice (some ⟨w.heap.size, 0, none⟩) 0 0) (w' := { w with heap := w.heap.push (.cells #[] TRe (0, 0)) }) ?_ hnw.ext ⟨_, rfl, hn, hnw.blk⟩
  have h0 : Array.range 0 = #[] := rfl
  simp [execOp, Instr.buildSlice, run_underlying Try.underlying23, (siz25).run, Instr.fill, newRow, h0]
theorem app_run {base n m c bx ox : Nat} {v : Value} {xs news : List Value} (hown : w.ownsRow base TRe 6 v n xs) (hl : news.length = m * 6) (hnews : CellsAt w bx ox news) (h1 : ∀ u ∈ news, u.oneCell' = true)
    (hnm : n + m ≤ 1000000) (hbase : base ≤ w.heap.size) (hs : ev σ s = v) (hx : ev σ x = .slice (some ⟨bx, ox, none⟩) m c) :
    ∃ v' w', (execOp (ev σ) ⟨dst, .call ⟨.builtin .append, #[s, x], #[23, 23]⟩, ty, pos, af, g⟩).run Try.prog w = .ok (.value v') w' ∧ w'.ownsRow base TRe 6 v' (n + m) (xs ++ news) ∧ Chg (fun y => v.ownBlock = some y) w w' ∧ ((∃ q cap, v = .slice (some ⟨q, 0, none⟩) n cap ∧ cap < n + m) → Ext w w') := by
  have hsz := siz25
  have hby := byt25
  have hz := zer25
  unfold Siz at hsz; unfold Byt at hby; unfold Zer at hz
  cases hi : (Try.prog).info? TRe with
  | none => rw [hi] at hsz; simp at hsz
  | some i =>
  rw [hi] at hsz hby hz
  simp at hsz hby hz
  have hcells : ∀ j u, news[j]? = some u → w.cell? ((⟨bx, ox, none⟩ : Addr).add j) = some u := fun j u hj => by rw [Addr.add_lit]; exact hnews j u hj
  obtain ⟨v', w', hr, h2, h3, _⟩ := run_append_own (P := Try.prog) w base 23 ty TRe i _ 6 _ Try.underlying23 hi hz hsz hby rfl (by decide) v n xs hown ⟨bx, ox, none⟩ m c news hl hcells h1 (by unfold maxLen; omega) (by omega) hbase
  refine ⟨v', w', by simp [execOp, resolve, invoke, builtin, hs, hx, hr], h2, ⟨h3.os, h3.tape, h3.output, h3.size, fun b hb hn => h3.block b hb (fun h => hn h.symm)⟩, ?_⟩
  rintro ⟨q, cap, rfl, hcap⟩
  have holds : ∀ j u, xs[j]? = some u → w.cell? ((⟨q, 0, none⟩ : Addr).add j) = some u := hown.cells (g := q) rfl
  have hr2 := run_append_grow (P := Try.prog) w 23 ty TRe i _ Try.underlying23 hi hz ⟨q, 0, none⟩ n cap xs (by rw [hsz]; exact hown.1) holds ⟨bx, ox, none⟩ m c news (by rw [hsz]; exact hl) hcells (by omega) (by omega) (growslice_fits (by omega) (by rw [hby]; omega))
  rw [hr2] at hr
  cases hr
  exact Ext.trans (drew_ext w) (New.mk' _ _ _).ext
theorem DoesT_first {b0 m c bx ox : Nat} {news : List Value} (hs : ev σ s = .slice (some ⟨b0, 0, none⟩) 0 0) (hb0 : n0 ≤ b0) (hB : Blk w b0 #[] TRe) (hx : ev σ x = .slice (some ⟨bx, ox, none⟩) m c) (hl : news.length = m * 6) (hnews : CellsAt w bx ox news) (h1 : ∀ u ∈ news, u.oneCell' = true) (hm : m ≤ 1000000) (hn0 : n0 ≤ w.heap.size) :
    DoesT none1 Try.prog N ⟨dst, .call ⟨.builtin .append, #[s, x], #[23, 23]⟩, ty, pos, af, g⟩ (ownF n0 m news) σ w := by
  have hown := own_empty (base := n0) (size := 6) hB hb0
  rcases Nat.eq_zero_or_pos m with rfl | hpos
  · have hnil : news = [] := List.eq_nil_of_length_eq_zero (by omega)
    subst hnil
    exact DoesT_val (r_append0 Try.underlying23 siz25 hs (Nat.le_refl _) hx) (Ext.refl _) ⟨_, _, rfl, hown⟩
  · obtain ⟨v', w', hr, h2, _, h4⟩ := app_run (dst := dst) (ty := ty) (pos := pos) (af := af) (g := g) hown hl hnews h1 (by omega) hn0 hs hx
    refine DoesT_val hr (h4 ⟨b0, 0, rfl, by omega⟩) ?_
    simp only [Nat.zero_add, List.nil_append] at h2
    obtain ⟨a, c, rfl⟩ := own_form h2
    exact ⟨a, c, rfl, h2⟩
theorem DoesT_more {M : Nat → Prop} {n m c cc bx ox : Nat} {a : Option Addr} {xs news : List Value} (hs : ev σ s = .slice a n cc) (hown : w.ownsRow n0 TRe 6 (.slice a n cc) n xs) (hx : ev σ x = .slice (some ⟨bx, ox, none⟩) m c) (hl : news.length = m * 6) (hnews : CellsAt w bx ox news) (h1 : ∀ u ∈ news, u.oneCell' = true) (hm : n + m ≤ 1000000) (hn0 : n0 ≤ w.heap.size) (hM : ∀ y, n0 ≤ y → M y) :
    DoesT M Try.prog N ⟨dst, .call ⟨.builtin .append, #[s, x], #[23, 23]⟩, ty, pos, af, g⟩ (ownF n0 (n + m) (xs ++ news)) σ w := by
  obtain ⟨v', w', hr, h2, h3, _⟩ := app_run (dst := dst) (ty := ty) (pos := pos) (af := af) (g := g) hown hl hnews h1 hm hn0 hs hx
  refine DoesT_val hr (h3.mono fun y _ hy => hM y (hown.lt y hy).1) ?_
  obtain ⟨a, c, rfl⟩ := own_form h2
  exact ⟨a, c, rfl, h2⟩
end
theorem cells_left {w : World} {b o : Nat} {xs ys : List Value} (h : CellsAt w b o (xs ++ ys)) : CellsAt w b o xs := fun i v hv => h i v (by rw [List.getElem?_append_left (lt_of_get hv)]; exact hv)
theorem cells_right {w : World} {b o : Nat} {xs ys : List Value} (h : CellsAt w b o (xs ++ ys)) : CellsAt w b (o + xs.length) ys := fun i v hv => by
  have := h (xs.length + i) v (by rw [List.getElem?_append_right (by omega), Nat.add_sub_cancel_left]; exact hv)
  rwa [← Nat.add_assoc] at this
theorem flat_split (rows : List (List Value)) (i : Nat) : rows.flatten = (rows.take i).flatten ++ (rows.drop i).flatten := by rw [← List.flatten_append, List.take_append_drop]
theorem RowsIn.drop {S : Nat → Prop} {w : World} : ∀ {ts : List Re} {rows : List (List Value)} (i : Nat), RowsIn S w ts rows → RowsIn S w (ts.drop i) (rows.drop i)
  | [], _, i, h => by simp only [RowsIn] at h; subst h; cases i <;> rfl
  | t :: ts, rows, 0, h => h
  | t :: ts, rows, i + 1, h => by
    obtain ⟨r, rs, rfl, h2, h3⟩ := h
    exact RowsIn.drop i h3
theorem rest_rs {S S' : Nat → Prop} {w : World} {n0 m c : Nat} {a : Option Addr} {ts : List Re} {rows : List (List Value)} (hown : w.ownsRow n0 TRe 6 (.slice a m c) m rows.flatten) (hR : RowsIn S w ts rows) (hm : ts.length = m) (hS' : ∀ y, S y → S' y) (hn : ∀ y, n0 ≤ y → S' y) : RsIn S' w (.slice a m c) ts := by
  obtain ⟨h1, h2⟩ := own_res hown hR hm
  subst hm
  refine ⟨a, c, rfl, h1, ?_⟩
  rcases h2 with h | ⟨b, h3, _, h4, h5⟩
  · exact .inl h
  · exact .inr ⟨b, 0, hn b h3, h4, resin_of fun i t ht => by obtain ⟨vs, h6, h7⟩ := h5 i t ht; exact ⟨vs, h6, ReIn.mono hS' t h7⟩⟩
def gone0 (k : Int) (a : Re) : Bool := (decide (a.kind = 0) || (decide (a.kind = 1) && decide (k = 3)))
def goneJ (k : Int) (l : List Re) (a : Re) (j : Nat) : Bool := gone0 k a || (decide (k ≠ 3) && (l.take j).any fun b => sameT a b)
theorem goneJ_zero (k : Int) (l : List Re) (a : Re) : goneJ k l a 0 = gone0 k a := by simp [goneJ]
theorem goneJ_succ {k : Int} {l : List Re} {a b : Re} {j : Nat} (hb : l[j]? = some b) : goneJ k l a (j + 1) = (goneJ k l a j || (decide (k ≠ 3) && sameT a b)) := by
  unfold goneJ
  rw [List.take_add_one, hb]
  simp only [List.any_append, Option.toList_some, List.any_cons, List.any_nil, Bool.or_false]
  cases decide (k ≠ 3) <;> simp [Bool.or_assoc]

set_option maxHeartbeats 8000000 in
theorem rmany_c (w0 : World) (S : Nat → Prop) (t : Re) (vs : List Value) (ht : ReIn S w0 t vs) (hS : ∀ b, S b → b < w0.heap.size) (hM : t.size ≤ 300000) (hne0 : t.args ≠ []) (hbare : t = .mk t.kind [] t.args 0 0 false) (hka : ∀ x ∈ t.args, x.kind = t.kind → x.args ≠ []) :
    Ret Try.prog 31 #[.agg vs.toArray] w0 fun v w => ∃ res us, ManyR t.kind t.args res ∧ v = .tuple #[.agg us.toArray, .bool res.isSome] ∧ ReIn (fun b => S b ∨ w0.heap.size ≤ b) w (res.getD t) us ∧ Ext w0 w := by
  have ht0 := ht
  obtain ⟨sa, sc, aa, ac, rfl, hset, hac, hta⟩ := ht.form
  obtain ⟨b, o, hSb, rfl, hxr⟩ := hta.resolve_left hne0
  obtain ⟨rows, hR, hcr⟩ := ResIn.rows hxr
  have hal := len_sizes t.args
  have hse := t.size_eq
  have h6 := hR.six
  have hrl := hR.len
  have hone := hR.one
  refine Ret_of Try.func31 rfl Try.ntmps31 (Nat.le_of_ble_eq_true rfl) ?_
  have E : Chg none1 w0 w0 := Chg.refl _ _
  refine Wp_seq_region ?_
  refine s_box (v := (.agg #[(.int .i64 t.kind), (.slice sa t.set.length sc), (.slice (some ⟨b, o, none⟩) t.args.length ac), (.int .i64 t.mn), (.int .i64 t.mx), (.bool t.neg)])) (c := #[(.int .i64 t.kind), (.slice sa t.set.length sc), (.slice (some ⟨b, o, none⟩) t.args.length ac), (.int .i64 t.mn), (.int .i64 t.mx), (.bool t.neg)]) (by decide) rfl rfl ?_
  intro br wr Nr
  have Fr := Nr.ge E
  replace E := E.ext Nr.ext
  have Br := Nr.blk
  refine s_alloc (c := #[(.int .i64 0), (.slice none 0 0), (.slice none 0 0), (.int .i64 0), (.int .i64 0), (.bool false)]) (by decide) zer25 rfl ?_
  intro bo wo No
  have Fo := No.ge E
  have Oo_br := No.lt Br
  replace Br := No.keep Br
  replace E := E.ext No.ext
  have Bo := No.blk
  refine WpL_val rfl rfl (by decide) (r_assign (v := (.bool false)) rfl) ?_
  refine WpL_nil ?_
  refine Wp_seq ?_
  refine Wp_seq_region ?_
  refine WpL_val rfl rfl (by decide) (r_fieldAddr (b := br) (o := 0) (o' := 2) rfl Try.underlying25 rfl siz23 rfl) ?_
  refine WpL_val rfl rfl (by decide) (r_load (v := (.slice (some ⟨b, o, none⟩) t.args.length ac)) rfl flat23 (Br.cell rfl)) ?_
  refine WpL_val rfl rfl (by decide) (r_lenSlice (ad := some ⟨b, o, none⟩) (n := t.args.length) (cap := ac) Try.underlying23 rfl) ?_
  refine WpL_val rfl rfl (by decide) (r_move (v := (.int .i64 0)) rfl) ?_
  refine WpL_nil ?_
  refine Wp_block ?_
  refine Wp_loop (fun nn_ σ W1 => ∃ (i : Nat), (∃ jj_, σ = upds jj_ [(1, (.pointer (some ⟨br, 0, none⟩))), (2, (.pointer (some ⟨bo, 0, none⟩))), (12, (.slice (some ⟨b, o, none⟩) t.args.length ac)), (13, (.int .i64 ((t.args.length : Nat) : Int))), (14, (.int .i64 ((i : Nat) : Int)))]) ∧ Chg none1 w0 W1 ∧ Blk W1 br #[(.int .i64 t.kind), (.slice sa t.set.length sc), (.slice (some ⟨b, o, none⟩) t.args.length ac), (.int .i64 t.mn), (.int .i64 t.mx), (.bool t.neg)] 25 ∧ Blk W1 bo #[(.int .i64 0), (.slice none 0 0), (.slice none 0 0), (.int .i64 0), (.int .i64 0), (.bool false)] 25 ∧ (i ≤ t.args.length) ∧ (∀ j x, j < i → t.args[j]? = some x → keepB t.kind (t.args.take j) x = true) ∧ nn_ = t.args.length - i) (n := t.args.length - 0) ?_ ?_
  · exact ⟨0, Fits.out ⟨rfl, rfl, rfl, rfl, rfl, trivial⟩, E, Br, Bo, Nat.zero_le _, (fun j x h => absurd h (Nat.not_lt_zero _)), rfl⟩
  · clear E Br Bo
    rintro _ _ W1 ⟨i, ⟨j1, rfl⟩, E, Br, Bo, hi, hkeep, rfl⟩
    refine Wp_seq_region ?_
    refine WpL_val rfl rfl (by decide) (r_lss (k := .i64) (a := ((i : Nat) : Int)) (b := ((t.args.length : Nat) : Int)) rfl rfl) ?_
    refine WpL_nil ?_
    refine Wp_seq ?_
    refine Wp_cond (b := decide ((((i : Nat) : Int) : Int) < ((t.args.length : Nat) : Int))) rfl (fun hlt => ?_) (fun hlt => ?_)
    · have khlt := hlt
      replace hlt := of_decide_eq_true hlt
      obtain ⟨x, hx⟩ := get_of_lt (l := t.args) (i := i) (by omega)
      obtain ⟨xs, hcx, hrx⟩ := ResIn.get hxr hx
      have hrx0 := hrx
      obtain ⟨xsa, xsc, xaa, xac, rfl, _, _, hxa⟩ := hrx.form
      have hxm : x ∈ t.args := List.mem_of_getElem? hx
      have hss := sizes_split hx
      have hxs := x.size_eq
      have hxl := len_sizes x.args
      have htl : (rows.take i).length = i := by simp; omega
      have hdl : (rows.drop (i + 1)).length = t.args.length - (i + 1) := by simp; omega
      have hfl : (rows.take i).flatten.length = i * 6 := by rw [rows_len (fun r hr => h6 r (List.mem_of_mem_take hr)), htl]
      have hfl1 : (rows.take (i + 1)).flatten.length = (i + 1) * 6 := by rw [rows_len (fun r hr => h6 r (List.mem_of_mem_take hr))]; simp; omega
      have hfd : (rows.drop (i + 1)).flatten.length = (t.args.length - (i + 1)) * 6 := by rw [rows_len (fun r hr => h6 r (List.mem_of_mem_drop hr)), hdl]
      have hc1 : CellsAt w0 b o (rows.take i).flatten := cells_left (ys := (rows.drop i).flatten) (by rw [← flat_split]; exact hcr)
      obtain ⟨o2, ho2⟩ : ∃ o2, o2 = if ac = i + 1 then o else o + (i + 1) * 6 := ⟨_, rfl⟩
      have hsl1 : (if ac = 0 then (some ⟨b, o, none⟩ : Option Addr) else Option.map (fun q : Addr => q.add (0 * 6)) (some ⟨b, o, none⟩)) = some ⟨b, o, none⟩ := sl_zero
      have hsl2 : (if ac = i + 1 then (some ⟨b, o, none⟩ : Option Addr) else Option.map (fun q : Addr => q.add ((i + 1) * 6)) (some ⟨b, o, none⟩)) = some ⟨b, o2, none⟩ := by rw [ho2]; split <;> simp [Addr.add]
      have hc2 : CellsAt w0 b o2 (rows.drop (i + 1)).flatten := by
        rw [ho2]
        split
        · have : (rows.drop (i + 1)).flatten = [] := List.eq_nil_of_length_eq_zero (by omega)
          rw [this]; intro j u hu; simp at hu
        · rw [← hfl1]; exact cells_right (xs := (rows.take (i + 1)).flatten) (by rw [← flat_split]; exact hcr)
      have ho1 : ∀ u ∈ (rows.take i).flatten, u.oneCell' = true := fun u hu => hone u (by rw [flat_split rows i]; exact List.mem_append_left _ hu)
      have ho3 : ∀ u ∈ (rows.drop (i + 1)).flatten, u.oneCell' = true := fun u hu => hone u (by rw [flat_split rows (i + 1)]; exact List.mem_append_right _ hu)
      refine Wp_skip ?_
      refine thn_normal ?_
      refine Wp_seq ?_
      refine Wp_block ?_
      refine Wp_seq_region ?_
      refine WpL_val rfl rfl (by decide) (r_move (v := (.int .i64 ((i : Nat) : Int))) rfl) ?_
      refine WpL_val rfl rfl (by decide) (r_indexSlice (b := b) (o := o) (len := t.args.length) (cap := ac) (i := i) (o' := o + i * 6) rfl rfl rfl Try.underlying23 siz25 (by omega) (by omega)) ?_
      refine WpL_val rfl rfl (by decide) (r_loadAgg (vs := [(.int .i64 x.kind), (.slice xsa x.set.length xsc), (.slice xaa x.args.length xac), (.int .i64 x.mn), (.int .i64 x.mx), (.bool x.neg)]) rfl agg25 siz25 rfl (hcx.ext E)) ?_
      refine s_alloc (c := #[(.int .i64 0), (.slice none 0 0), (.slice none 0 0), (.int .i64 0), (.int .i64 0), (.bool false)]) (by decide) zer25 rfl ?_
      intro bs ws Ns
      have Fs := Ns.ge E
      have Os_br := Ns.lt Br
      have Os_bo := Ns.lt Bo
      replace Br := Ns.keep Br
      replace Bo := Ns.keep Bo
      replace E := E.ext Ns.ext
      have Bs := Ns.blk
      refine WpL_val rfl rfl (by decide) (r_assign (v := (.int .i64 ((i : Nat) : Int))) rfl) ?_
      refine s_storeAgg (b := bs) (o := 0) (c' := #[(.int .i64 x.kind), (.slice xsa x.set.length xsc), (.slice xaa x.args.length xac), (.int .i64 x.mn), (.int .i64 x.mx), (.bool x.neg)]) rfl rfl (by simp [Value.oneCell']) siz25 rfl Bs (by simp) rfl ?_
      intro w3 S3
      replace Br := S3.keep (by omega) Br
      replace Bo := S3.keep (by omega) Bo
      replace E := S3.step E (by first | exact Or.inl (by omega) | exact Or.inr rfl | exact Or.inr (by assumption) | exact Or.inr (by simp) | exact Or.inr (by omega) | exact Or.inr (by dsimp only; omega))
      replace Bs := S3.blk
      refine WpL_nil ?_
      obtain ⟨n0, hn0⟩ : ∃ n0, n0 = (w3).heap.size := ⟨_, rfl⟩
      have hz0 := E.size
      have hzr := Br.lt
      have hzo := Bo.lt
      have hzs := Bs.lt
      refine Wp_seq ?_
      obtain ⟨Fs4, hFs4⟩ : ∃ Fs : List (FactT ((fun y => n0 ≤ y))), Fs = [.till (own0 n0) (own0_ext n0), .eq (.pointer (some ⟨br, 2, none⟩)), .eq (.slice (some ⟨b, o, none⟩) t.args.length ac), .eq (.int .i64 ((i : Nat) : Int)), .eq (.slice (some ⟨b, o, none⟩) i ac), .till (ownF n0 i (rows.take i).flatten) (ownF_ext _ _ _), .eq (.pointer (some ⟨br, 2, none⟩)), .eq (.slice (some ⟨b, o, none⟩) t.args.length ac), .eq (.int .i64 ((i : Nat) : Int)), .eq (.int .i64 (((i : Nat) : Int) + 1)), .eq (.slice (some ⟨b, o2, none⟩) (t.args.length - (i + 1)) (ac - (i + 1))), .own (ownF n0 (i + (t.args.length - (i + 1))) ((rows.take i).flatten ++ (rows.drop (i + 1)).flatten)) (ownF_ext _ _ _)] := ⟨_, rfl⟩
      refine Wp_dagT ((fun y => n0 ≤ y)) 12 11 [19, 20, 21, 22, 23, 24, 25, 26, 27, 28, 29, 30] [[], [], [1], [], [2, 3], [0, 4], [], [6], [], [8], [7, 9], [5, 10]] Fs4 hFs4 rfl mixed (by kernel_rfl) (by kernel_rfl) (by kernel_rfl) ?_ ?_
      · intro wd X0
        refine DagStepsT.cons (fun s' w' X U H => ?_) ?_
        · exact DoesT_b0 (by have := X0.size; have := X.size; omega)
        refine DagStepsT.cons (fun s' w' X U H => ?_) ?_
        · exact DoesT_val (r_fieldAddr (b := br) (o := 0) (o' := 2) (U 1 rfl) Try.underlying25 rfl siz23 rfl) (Chg.refl _ _) rfl
        refine DagStepsT.cons (fun s' w' X U H => ?_) ?_
        · have e20 : s' 20 = (.pointer (some ⟨br, 2, none⟩)) := H 1 rfl 20 (.eq (.pointer (some ⟨br, 2, none⟩))) rfl (by rw [hFs4]; rfl)
          exact DoesT_val (r_load (v := (.slice (some ⟨b, o, none⟩) t.args.length ac)) e20 flat23 ((Chg.keep X (fun h => by have h' : n0 ≤ br := h; omega) (X0.keep Br)).cell rfl)) (Chg.refl _ _) rfl
        refine DagStepsT.cons (fun s' w' X U H => ?_) ?_
        · exact DoesT_val (r_move (v := (.int .i64 ((i : Nat) : Int))) (U 4 rfl)) (Chg.refl _ _) rfl
        refine DagStepsT.cons (fun s' w' X U H => ?_) ?_
        · have e21 : s' 21 = (.slice (some ⟨b, o, none⟩) t.args.length ac) := H 2 rfl 21 (.eq (.slice (some ⟨b, o, none⟩) t.args.length ac)) rfl (by rw [hFs4]; rfl)
          have e22 : s' 22 = (.int .i64 ((i : Nat) : Int)) := H 3 rfl 22 (.eq (.int .i64 ((i : Nat) : Int))) rfl (by rw [hFs4]; rfl)
          exact DoesT_val (r_sliceHi (a := some ⟨b, o, none⟩) (len := t.args.length) (cap := ac) (hi := i) (l := ((i : Nat) : Int)) Try.underlying23 siz25 e21 e22 (by omega) (by omega) hsl1) (Chg.refl _ _) rfl
        refine DagStepsT.cons (fun s' w' X U H => ?_) ?_
        · obtain ⟨b19, e19, g19, B19⟩ := (show (.till (own0 n0) (own0_ext n0) : FactT ((fun y => n0 ≤ y))).In (s' 19) _ from FactT.at_false (H 0 rfl 19 (.till (own0 n0) (own0_ext n0)) rfl (by rw [hFs4]; rfl)))
          have e23 : s' 23 = (.slice (some ⟨b, o, none⟩) i ac) := H 4 rfl 23 (.eq (.slice (some ⟨b, o, none⟩) i ac)) rfl (by rw [hFs4]; rfl)
          exact DoesT_first e19 g19 B19 e23 hfl (hc1.ext ((Ext.trans E X0).trans X)) ho1 (by omega) (by have := X0.size; have := X.size; omega)
        refine DagStepsT.cons (fun s' w' X U H => ?_) ?_
        · exact DoesT_val (r_fieldAddr (b := br) (o := 0) (o' := 2) (U 1 rfl) Try.underlying25 rfl siz23 rfl) (Chg.refl _ _) rfl
        refine DagStepsT.cons (fun s' w' X U H => ?_) ?_
        · have e25 : s' 25 = (.pointer (some ⟨br, 2, none⟩)) := H 6 rfl 25 (.eq (.pointer (some ⟨br, 2, none⟩))) rfl (by rw [hFs4]; rfl)
          exact DoesT_val (r_load (v := (.slice (some ⟨b, o, none⟩) t.args.length ac)) e25 flat23 ((Chg.keep X (fun h => by have h' : n0 ≤ br := h; omega) (X0.keep Br)).cell rfl)) (Chg.refl _ _) rfl
        refine DagStepsT.cons (fun s' w' X U H => ?_) ?_
        · exact DoesT_val (r_move (v := (.int .i64 ((i : Nat) : Int))) (U 4 rfl)) (Chg.refl _ _) rfl
        refine DagStepsT.cons (fun s' w' X U H => ?_) ?_
        · have e27 : s' 27 = (.int .i64 ((i : Nat) : Int)) := H 8 rfl 27 (.eq (.int .i64 ((i : Nat) : Int))) rfl (by rw [hFs4]; rfl)
          exact DoesT_val (r_add (k := .i64) (a := ((i : Nat) : Int)) (b := 1) (c := ((i : Nat) : Int) + 1) e27 rfl (wI64 (by omega))) (Chg.refl _ _) rfl
        refine DagStepsT.cons (fun s' w' X U H => ?_) ?_
        · have e26 : s' 26 = (.slice (some ⟨b, o, none⟩) t.args.length ac) := H 7 rfl 26 (.eq (.slice (some ⟨b, o, none⟩) t.args.length ac)) rfl (by rw [hFs4]; rfl)
          have e28 : s' 28 = (.int .i64 (((i : Nat) : Int) + 1)) := H 9 rfl 28 (.eq (.int .i64 (((i : Nat) : Int) + 1))) rfl (by rw [hFs4]; rfl)
          exact DoesT_val (r_sliceLo (a := some ⟨b, o, none⟩) (len := t.args.length) (cap := ac) (lo := i + 1) (l := ((i : Nat) : Int) + 1) (n' := t.args.length - (i + 1)) (c' := ac - (i + 1)) Try.underlying23 siz25 e26 e28 (by omega) (by omega) hsl2 rfl rfl) (Chg.refl _ _) rfl
        refine DagStepsT.cons (fun s' w' X U H => ?_) ?_
        · obtain ⟨a24, c24, e24, O24⟩ := (show (.till (ownF n0 i (rows.take i).flatten) (ownF_ext _ _ _) : FactT ((fun y => n0 ≤ y))).In (s' 24) _ from FactT.at_false (H 5 rfl 24 (.till (ownF n0 i (rows.take i).flatten) (ownF_ext _ _ _)) rfl (by rw [hFs4]; rfl)))
          have e29 : s' 29 = (.slice (some ⟨b, o2, none⟩) (t.args.length - (i + 1)) (ac - (i + 1))) := H 10 rfl 29 (.eq (.slice (some ⟨b, o2, none⟩) (t.args.length - (i + 1)) (ac - (i + 1)))) rfl (by rw [hFs4]; rfl)
          exact DoesT_more e24 (e24 ▸ O24) e29 hfd (hc2.ext ((Ext.trans E X0).trans X)) ho3 (by omega) (by have := X0.size; have := X.size; omega) (fun y h => h)
        exact DagStepsT.nil
      · intro s' wd4 w4 X0 X4 U H
        obtain ⟨a30, c30, e30, O30⟩ := (show (.own (ownF n0 (i + (t.args.length - (i + 1))) ((rows.take i).flatten ++ (rows.drop (i + 1)).flatten)) (ownF_ext _ _ _) : FactT ((fun y => n0 ≤ y))).In (s' 30) _ from H 11 30 (.own (ownF n0 (i + (t.args.length - (i + 1))) ((rows.take i).flatten ++ (rows.drop (i + 1)).flatten)) (ownF_ext _ _ _)) rfl (by rw [hFs4]; rfl))
        obtain ⟨j4, rfl⟩ := Fits.out (σ := s') (l := [(1, (.pointer (some ⟨br, 0, none⟩))), (2, (.pointer (some ⟨bo, 0, none⟩))), (4, (.int .i64 ((i : Nat) : Int))), (5, (.pointer (some ⟨bs, 0, none⟩))), (12, (.slice (some ⟨b, o, none⟩) t.args.length ac)), (13, (.int .i64 ((t.args.length : Nat) : Int))), (14, (.int .i64 ((i : Nat) : Int))), (30, (.slice a30 (i + (t.args.length - (i + 1))) c30))]) ⟨U 1 rfl, U 2 rfl, U 4 rfl, U 5 rfl, U 12 rfl, U 13 rfl, U 14 rfl, e30, trivial⟩
        clear U H
        replace Br := Chg.keep X4 (fun h => by have h' : n0 ≤ br := h; omega) (X0.keep Br)
        replace Bo := Chg.keep X4 (fun h => by have h' : n0 ≤ bo := h; omega) (X0.keep Bo)
        replace Bs := Chg.keep X4 (fun h => by have h' : n0 ≤ bs := h; omega) (X0.keep Bs)
        replace E := (E.ext X0).step X4 (fun y hy h => by have h' : n0 ≤ y := h; omega)
        have hR1 := RowsIn.append (hR.drop (i + 1)) (hR.take i)
        have hlt1 : (t.args.take i ++ t.args.drop (i + 1)).length = i + (t.args.length - (i + 1)) := by simp; omega
        rw [← List.flatten_append] at O30
        refine WpL_val rfl rfl (by decide) (r_assign (v := (.slice a30 (i + (t.args.length - (i + 1))) c30)) rfl) ?_
        refine WpL_nil ?_
        refine thn_normal ?_
        refine Wp_seq ?_
        refine Wp_seq_region ?_
        refine WpL_val rfl rfl (by decide) (r_fieldAddr (b := bs) (o := 0) (o' := 0) rfl Try.underlying25 rfl siz3 rfl) ?_
        refine WpL_val rfl rfl (by decide) (r_load (v := (.int .i64 x.kind)) rfl flat3 (Bs.cell rfl)) ?_
        refine WpL_val rfl rfl (by decide) (r_fieldAddr (b := br) (o := 0) (o' := 0) rfl Try.underlying25 rfl siz3 rfl) ?_
        refine WpL_val rfl rfl (by decide) (r_load (v := (.int .i64 t.kind)) rfl flat3 (Br.cell rfl)) ?_
        refine WpL_val rfl rfl (by decide) (r_eql (k := .i64) (a := x.kind) (b := t.kind) rfl rfl) ?_
        refine WpL_nil ?_
        refine Wp_cond (b := decide ((x.kind : Int) = t.kind)) rfl (fun he => ?_) (fun he => ?_)
        · have khe := he
          replace he := of_decide_eq_true he
          obtain ⟨xb, xo, _, hxaa, hxrr⟩ := hxa.resolve_left (hka x hxm he)
          subst hxaa
          obtain ⟨qs, hqs, hqc⟩ := ResIn.rows hxrr
          obtain ⟨n5, hn5⟩ : ∃ n5, n5 = (w4).heap.size := ⟨_, rfl⟩
          have hz5 := E.size
          have hz5r := Br.lt
          have hz5o := Bo.lt
          have hz5s := Bs.lt
          refine Wp_seq_region ?_
          refine s_build0 (by decide) Try.underlying23 siz25 ?_
          intro be we Ne
          have Fe := Ne.ge E
          have Oe_br := Ne.lt Br
          have Oe_bo := Ne.lt Bo
          have Oe_bs := Ne.lt Bs
          replace Br := Ne.keep Br
          replace Bo := Ne.keep Bo
          replace Bs := Ne.keep Bs
          replace E := E.ext Ne.ext
          have Be := Ne.blk
          refine WpL_val rfl rfl (by decide) (r_fieldAddr (b := br) (o := 0) (o' := 2) rfl Try.underlying25 rfl siz23 rfl) ?_
          refine WpL_val rfl rfl (by decide) (r_load (v := (.slice (some ⟨b, o, none⟩) t.args.length ac)) rfl flat23 (Br.cell rfl)) ?_
          refine WpL_val rfl rfl (by decide) (r_move (v := (.int .i64 ((i : Nat) : Int))) rfl) ?_
          obtain ⟨sl, hsl⟩ : ∃ a' : Option Addr, (if ac = 0 then (some ⟨b, o, none⟩) else Option.map (fun q : Addr => q.add (0 * 6)) (some ⟨b, o, none⟩)) = a' := ⟨_, rfl⟩
          refine WpL_val rfl rfl (by decide) (r_sliceHi (a := (some ⟨b, o, none⟩)) (len := t.args.length) (cap := ac) (hi := i) (l := ((i : Nat) : Int)) Try.underlying23 siz25 rfl rfl (by omega) (by omega) hsl) ?_
          rw [sl_zero] at hsl
          subst hsl
          have hown5 := own_empty (base := n5) (size := 6) Be (by have := Ne.eq; omega)
          have hbs5 : n5 ≤ we.heap.size := by have := Ne.ext.size; omega
          refine s_append (base := n5) (n := 0) (m := i) (xs := []) (news := (rows.take i).flatten) (size := 6) (bytes := 80) (v := (.slice (some ⟨be, 0, none⟩) 0 0)) (by decide) Try.underlying23 siz25 byt25 zer25 rfl (by decide) rfl hown5 rfl (hfl) (hc1.ext E) (ho1) (by unfold maxLen; omega) (by omega) (hbs5) ?_
          intro v5 w59 Ov5 Cv5 Dv5
          replace Br := Cv5.keep (fun h => by have := (hown5.lt _ h).1; omega) Br
          replace Bo := Cv5.keep (fun h => by have := (hown5.lt _ h).1; omega) Bo
          replace Bs := Cv5.keep (fun h => by have := (hown5.lt _ h).1; omega) Bs
          replace E := E.step Cv5 (fun x hx h => absurd (hown5.lt x h).1 (by omega))
          obtain ⟨la5, lc5, rfl⟩ := own_form Ov5
          have hbs6 := Nat.le_trans hbs5 Cv5.size
          refine WpL_val rfl rfl (by decide) (r_assign (v := (.slice la5 (0 + i) lc5)) rfl) ?_
          refine WpL_nil ?_
          refine Wp_seq_region ?_
          refine WpL_val rfl rfl (by decide) (r_move (v := (.slice la5 (0 + i) lc5)) rfl) ?_
          refine WpL_val rfl rfl (by decide) (r_fieldAddr (b := bs) (o := 0) (o' := 2) rfl Try.underlying25 rfl siz23 rfl) ?_
          refine WpL_val rfl rfl (by decide) (r_load (v := (.slice (some ⟨xb, xo, none⟩) x.args.length xac)) rfl flat23 (Bs.cell rfl)) ?_
          refine s_append (base := n5) (n := (0 + i)) (m := x.args.length) (xs := ([] ++ (rows.take i).flatten)) (news := qs.flatten) (size := 6) (bytes := 80) (v := (.slice la5 (0 + i) lc5)) (by decide) Try.underlying23 siz25 byt25 zer25 rfl (by decide) rfl Ov5 rfl (by rw [rows_len hqs.six, hqs.len]) (hqc.ext E) (hqs.one) (by unfold maxLen; omega) (by omega) (hbs6) ?_
          intro v6 w69 Ov6 Cv6 Dv6
          replace Br := Cv6.keep (fun h => by have := (Ov5.lt _ h).1; omega) Br
          replace Bo := Cv6.keep (fun h => by have := (Ov5.lt _ h).1; omega) Bo
          replace Bs := Cv6.keep (fun h => by have := (Ov5.lt _ h).1; omega) Bs
          replace E := E.step Cv6 (fun x hx h => absurd (Ov5.lt x h).1 (by omega))
          obtain ⟨la6, lc6, rfl⟩ := own_form Ov6
          have hbs7 := Nat.le_trans hbs6 Cv6.size
          refine WpL_val rfl rfl (by decide) (r_assign (v := (.slice la6 (0 + i + x.args.length) lc6)) rfl) ?_
          refine WpL_nil ?_
          refine Wp_seq ?_
          obtain ⟨Fs6, hFs6⟩ : ∃ Fs : List (FactT ((fun y => n5 ≤ y))), Fs = [.eq (.pointer (some ⟨br, 0, none⟩)), .eq (.int .i64 t.kind), .eq (.slice la6 (0 + i + x.args.length) lc6), .eq (.pointer (some ⟨br, 2, none⟩)), .eq (.slice (some ⟨b, o, none⟩) t.args.length ac), .eq (.int .i64 ((i : Nat) : Int)), .eq (.int .i64 (((i : Nat) : Int) + 1)), .eq (.slice (some ⟨b, o2, none⟩) (t.args.length - (i + 1)) (ac - (i + 1))), .own (ownF n5 (0 + i + x.args.length + (t.args.length - (i + 1))) ([] ++ (rows.take i).flatten ++ qs.flatten ++ (rows.drop (i + 1)).flatten)) (ownF_ext _ _ _)] := ⟨_, rfl⟩
          refine Wp_dagT ((fun y => n5 ≤ y)) 9 8 [46, 47, 48, 49, 50, 51, 52, 53, 54] [[], [0], [], [], [3], [], [5], [4, 6], [2, 7]] Fs6 hFs6 rfl mixed (by kernel_rfl) (by kernel_rfl) (by kernel_rfl) ?_ ?_
          · intro wd X0
            refine DagStepsT.cons (fun s' w' X U H => ?_) ?_
            · exact DoesT_val (r_fieldAddr (b := br) (o := 0) (o' := 0) (U 1 rfl) Try.underlying25 rfl siz3 rfl) (Chg.refl _ _) rfl
            refine DagStepsT.cons (fun s' w' X U H => ?_) ?_
            · have e46 : s' 46 = (.pointer (some ⟨br, 0, none⟩)) := H 0 rfl 46 (.eq (.pointer (some ⟨br, 0, none⟩))) rfl (by rw [hFs6]; rfl)
              exact DoesT_val (r_load (v := (.int .i64 t.kind)) e46 flat3 ((Chg.keep X (fun h => by have h' : n5 ≤ br := h; omega) (X0.keep Br)).cell rfl)) (Chg.refl _ _) rfl
            refine DagStepsT.cons (fun s' w' X U H => ?_) ?_
            · exact DoesT_val (r_move (v := (.slice la6 (0 + i + x.args.length) lc6)) (U 7 rfl)) (Chg.refl _ _) rfl
            refine DagStepsT.cons (fun s' w' X U H => ?_) ?_
            · exact DoesT_val (r_fieldAddr (b := br) (o := 0) (o' := 2) (U 1 rfl) Try.underlying25 rfl siz23 rfl) (Chg.refl _ _) rfl
            refine DagStepsT.cons (fun s' w' X U H => ?_) ?_
            · have e49 : s' 49 = (.pointer (some ⟨br, 2, none⟩)) := H 3 rfl 49 (.eq (.pointer (some ⟨br, 2, none⟩))) rfl (by rw [hFs6]; rfl)
              exact DoesT_val (r_load (v := (.slice (some ⟨b, o, none⟩) t.args.length ac)) e49 flat23 ((Chg.keep X (fun h => by have h' : n5 ≤ br := h; omega) (X0.keep Br)).cell rfl)) (Chg.refl _ _) rfl
            refine DagStepsT.cons (fun s' w' X U H => ?_) ?_
            · exact DoesT_val (r_move (v := (.int .i64 ((i : Nat) : Int))) (U 4 rfl)) (Chg.refl _ _) rfl
            refine DagStepsT.cons (fun s' w' X U H => ?_) ?_
            · have e51 : s' 51 = (.int .i64 ((i : Nat) : Int)) := H 5 rfl 51 (.eq (.int .i64 ((i : Nat) : Int))) rfl (by rw [hFs6]; rfl)
              exact DoesT_val (r_add (k := .i64) (a := ((i : Nat) : Int)) (b := 1) (c := ((i : Nat) : Int) + 1) e51 rfl (wI64 (by omega))) (Chg.refl _ _) rfl
            refine DagStepsT.cons (fun s' w' X U H => ?_) ?_
            · have e50 : s' 50 = (.slice (some ⟨b, o, none⟩) t.args.length ac) := H 4 rfl 50 (.eq (.slice (some ⟨b, o, none⟩) t.args.length ac)) rfl (by rw [hFs6]; rfl)
              have e52 : s' 52 = (.int .i64 (((i : Nat) : Int) + 1)) := H 6 rfl 52 (.eq (.int .i64 (((i : Nat) : Int) + 1))) rfl (by rw [hFs6]; rfl)
              exact DoesT_val (r_sliceLo (a := some ⟨b, o, none⟩) (len := t.args.length) (cap := ac) (lo := i + 1) (l := ((i : Nat) : Int) + 1) (n' := t.args.length - (i + 1)) (c' := ac - (i + 1)) Try.underlying23 siz25 e50 e52 (by omega) (by omega) hsl2 rfl rfl) (Chg.refl _ _) rfl
            refine DagStepsT.cons (fun s' w' X U H => ?_) ?_
            · have e48 : s' 48 = (.slice la6 (0 + i + x.args.length) lc6) := H 2 rfl 48 (.eq (.slice la6 (0 + i + x.args.length) lc6)) rfl (by rw [hFs6]; rfl)
              have e53 : s' 53 = (.slice (some ⟨b, o2, none⟩) (t.args.length - (i + 1)) (ac - (i + 1))) := H 7 rfl 53 (.eq (.slice (some ⟨b, o2, none⟩) (t.args.length - (i + 1)) (ac - (i + 1)))) rfl (by rw [hFs6]; rfl)
              exact DoesT_more e48 (own_ext (own_ext Ov6 X0) X) e53 hfd (hc2.ext ((Ext.trans E X0).trans X)) ho3 (by omega) (by have := X0.size; have := X.size; omega) (fun y h => h)
            exact DagStepsT.nil
          · intro s' wd6 w6 X0 X6 U H
            have e47 : s' 47 = (.int .i64 t.kind) := H 1 47 (.eq (.int .i64 t.kind)) rfl (by rw [hFs6]; rfl)
            obtain ⟨a54, c54, e54, O54⟩ := (show (.own (ownF n5 (0 + i + x.args.length + (t.args.length - (i + 1))) ([] ++ (rows.take i).flatten ++ qs.flatten ++ (rows.drop (i + 1)).flatten)) (ownF_ext _ _ _) : FactT ((fun y => n5 ≤ y))).In (s' 54) _ from H 8 54 (.own (ownF n5 (0 + i + x.args.length + (t.args.length - (i + 1))) ([] ++ (rows.take i).flatten ++ qs.flatten ++ (rows.drop (i + 1)).flatten)) (ownF_ext _ _ _)) rfl (by rw [hFs6]; rfl))
            obtain ⟨j6, rfl⟩ := Fits.out (σ := s') (l := [(2, (.pointer (some ⟨bo, 0, none⟩))), (47, (.int .i64 t.kind)), (54, (.slice a54 (0 + i + x.args.length + (t.args.length - (i + 1))) c54))]) ⟨U 2 rfl, e47, e54, trivial⟩
            clear U H
            replace Br := Chg.keep X6 (fun h => by have h' : n5 ≤ br := h; omega) (X0.keep Br)
            replace Bo := Chg.keep X6 (fun h => by have h' : n5 ≤ bo := h; omega) (X0.keep Bo)
            replace Bs := Chg.keep X6 (fun h => by have h' : n5 ≤ bs := h; omega) (X0.keep Bs)
            replace E := (E.ext X0).step X6 (fun y hy h => by have h' : n5 ≤ y := h; omega)
            have hC9 : Chg (fun y => y = bo) (w6) (w6) := Chg.refl _ _
            rw [List.nil_append, ← List.flatten_append, ← List.flatten_append] at O54
            have hR2 := RowsIn.ext E (RowsIn.append (hR.drop (i + 1)) (RowsIn.append hqs (hR.take i)))
            have hrs9 := rest_rs (S' := fun y => S y ∨ n5 ≤ y) O54 hR2 (by simp; omega) (fun y h => .inl h) (fun y h => .inr h)
            refine WpL_val rfl rfl (by decide) (r_build (ps := [(0, (.int .i64 t.kind)), (2, (.slice a54 (0 + i + x.args.length + (t.args.length - (i + 1))) c54))]) (v := (.agg #[(.int .i64 t.kind), (.slice none 0 0), (.slice a54 (0 + i + x.args.length + (t.args.length - (i + 1))) c54), (.int .i64 0), (.int .i64 0), (.bool false)])) rfl (by kernel_rfl)) ?_
            refine s_storeAgg (b := bo) (o := 0) (c' := #[(.int .i64 t.kind), (.slice none 0 0), (.slice a54 (0 + i + x.args.length + (t.args.length - (i + 1))) c54), (.int .i64 0), (.int .i64 0), (.bool false)]) rfl rfl (by simp [Value.oneCell']) siz25 rfl Bo (by simp) rfl ?_
            intro w7 S7
            replace hC9 := S7.chg
            replace Br := S7.keep (by omega) Br
            replace Bs := S7.keep (by omega) Bs
            replace E := S7.step E (by first | exact Or.inl (by omega) | exact Or.inr rfl | exact Or.inr (by assumption) | exact Or.inr (by simp) | exact Or.inr (by omega) | exact Or.inr (by dsimp only; omega))
            replace Bo := S7.blk
            refine WpL_val rfl rfl (by decide) (r_assign (v := (.bool true)) rfl) ?_
            refine WpL_nil ?_
            refine thn_normal ?_
            refine Wp_ret ?_
            refine thn_ret ?_
            refine inB_ret ?_
            refine thn_ret ?_
            refine thn_ret ?_
            refine inB_ret ?_
            refine thn_ret ?_
            refine fin_agg_tmp Try.results31 (vs := [(.int .i64 t.kind), (.slice none 0 0), (.slice a54 (0 + i + x.args.length + (t.args.length - (i + 1))) c54), (.int .i64 0), (.int .i64 0), (.bool false)]) (b := bo) (v' := (.bool true)) rfl agg25 siz25 rfl (Bo.cells rfl) rfl ?_
            refine ⟨some (stepT t.kind t.args i x), _, .inl ⟨i, x, hx, hkeep, ?_, rfl⟩, rfl, ?_, E⟩
            · cases hkk : keepB t.kind (t.args.take i) x with
              | false => rfl
              | true => exact absurd he (keep_iff.1 hkk).1
            · show ReIn _ _ (stepT t.kind t.args i x) _
              unfold stepT
              rw [if_pos he]
              obtain ⟨aa', ac', hv9, h2, h3⟩ := hrs9
              simp only [Value.slice.injEq] at hv9
              obtain ⟨rfl, hlen9, rfl⟩ := hv9
              refine re_cong hlen9.symm (ReIn.mono (S := fun y => S y ∨ n5 ≤ y) (fun y hy => hy.imp id (fun h => by omega)) _ (ReIn.chg hC9 ?_ _ (ReIn.of (set := []) (SlIn.nil _ _ _ _ _) h2 h3)))
              rintro y (h | h) hy
              · have hy' : y = bo := hy
                have := hS y h; omega
              · have hy' : y = bo := hy
                omega
        · have khe := he
          replace he := of_decide_eq_false he
          refine Wp_skip ?_
          refine thn_normal ?_
          refine Wp_seq ?_
          refine Wp_seq_region ?_
          refine WpL_val rfl rfl (by decide) (r_fieldAddr (b := bs) (o := 0) (o' := 0) rfl Try.underlying25 rfl siz3 rfl) ?_
          refine WpL_val rfl rfl (by decide) (r_load (v := (.int .i64 x.kind)) rfl flat3 (Bs.cell rfl)) ?_
          obtain ⟨e8, he8⟩ : ∃ e, (decide ((x.kind : Int) = 0)) = e := ⟨_, rfl⟩
          refine WpL_val rfl rfl (by decide) ((r_eql (k := .i64) (a := x.kind) (b := 0) rfl rfl).trans (by rw [he8]; try rfl)) ?_
          refine WpL_val rfl rfl (by decide) (r_move (v := (.bool e8)) rfl) ?_
          refine WpL_guard_any (oj := _) (gv := (.bool e8)) (u := (bif e8 then (.pointer (some ⟨br, 0, none⟩)) else undef)) rfl rfl (by decide) (by decide) rfl (by cases e8 <;> first | exact Or.inr ⟨Or.inl rfl, rfl⟩ | exact Or.inr ⟨Or.inr rfl, rfl⟩ | exact Or.inl ⟨rfl, r_fieldAddr (b := br) (o := 0) (o' := 0) rfl Try.underlying25 rfl siz3 rfl⟩) ?_
          refine WpL_guard_any (oj := _) (gv := (.bool e8)) (u := (bif e8 then (.int .i64 t.kind) else undef)) rfl rfl (by decide) (by decide) rfl (by cases e8 <;> first | exact Or.inr ⟨Or.inl rfl, rfl⟩ | exact Or.inr ⟨Or.inr rfl, rfl⟩ | exact Or.inl ⟨rfl, r_load (v := (.int .i64 t.kind)) rfl flat3 (Br.cell rfl)⟩) ?_
          obtain ⟨e9, he9⟩ : ∃ e, (decide ((t.kind : Int) ≠ 4)) = e := ⟨_, rfl⟩
          refine WpL_guard_any (oj := _) (gv := (.bool e8)) (u := (bif e8 then (.bool e9) else undef)) rfl rfl (by decide) (by decide) rfl (by cases e8 <;> first | exact Or.inr ⟨Or.inl rfl, rfl⟩ | exact Or.inr ⟨Or.inr rfl, rfl⟩ | exact Or.inl ⟨rfl, (r_neq (k := .i64) (a := t.kind) (b := 4) rfl rfl).trans (by rw [he9]; try rfl)⟩) ?_
          obtain ⟨e10, he10⟩ : ∃ e, (e8 && e9) = e := ⟨_, rfl⟩
          refine WpL_val rfl rfl (by decide) (r_pick (b := e8) (v := .bool e10) rfl (by rw [← he10]; cases e8 <;> rfl)) ?_
          refine WpL_nil ?_
          subst he10
          subst he9
          subst he8
          refine Wp_cond (b := ((decide ((x.kind : Int) = 0)) && (decide ((t.kind : Int) ≠ 4)))) rfl (fun c0 => ?_) (fun c0 => ?_)
          · have kc0 := c0
            refine Wp_seq_region ?_
            refine WpL_enter rfl rfl (by decide) (r_callF (vs := []) Try.func34 nm34 bd34 rfl) (rnone_c _) ?_
            rintro _ w9 ⟨rfl, X9⟩
            replace Br := X9.keep Br
            replace Bo := X9.keep Bo
            replace Bs := X9.keep Bs
            replace E := E.ext X9
            refine s_storeAgg (b := bo) (o := 0) (c' := #[(.int .i64 0), (.slice none 0 0), (.slice none 0 0), (.int .i64 0), (.int .i64 0), (.bool false)]) rfl rfl (by simp [Value.oneCell']) siz25 rfl Bo (by simp) rfl ?_
            intro w12 S12
            replace Br := S12.keep (by omega) Br
            replace Bs := S12.keep (by omega) Bs
            replace E := S12.step E (by first | exact Or.inl (by omega) | exact Or.inr rfl | exact Or.inr (by assumption) | exact Or.inr (by simp) | exact Or.inr (by omega) | exact Or.inr (by dsimp only; omega))
            replace Bo := S12.blk
            refine WpL_val rfl rfl (by decide) (r_assign (v := (.bool true)) rfl) ?_
            refine WpL_nil ?_
            refine Wp_ret ?_
            refine thn_ret ?_
            refine inB_ret ?_
            refine thn_ret ?_
            refine thn_ret ?_
            refine inB_ret ?_
            refine thn_ret ?_
            refine fin_agg_tmp Try.results31 (vs := [(.int .i64 0), (.slice none 0 0), (.slice none 0 0), (.int .i64 0), (.int .i64 0), (.bool false)]) (b := bo) (v' := (.bool true)) rfl agg25 siz25 rfl (Bo.cells rfl) rfl ?_
            refine ⟨some (stepT t.kind t.args i x), _, .inl ⟨i, x, hx, hkeep, ?_, rfl⟩, rfl, ?_, E⟩
            · cases hkk : keepB t.kind (t.args.take i) x with
              | false => rfl
              | true => exact absurd (by simpa using c0) (keep_iff.1 hkk).2.1
            · show ReIn _ _ (stepT t.kind t.args i x) _
              unfold stepT
              rw [if_neg he, if_pos (by simpa using c0)]
              exact re_empty _ _ _
          · have kc0 := c0
            refine Wp_skip ?_
            refine thn_normal ?_
            refine Wp_seq_region ?_
            refine WpL_val rfl rfl (by decide) (r_fieldAddr (b := bs) (o := 0) (o' := 0) rfl Try.underlying25 rfl siz3 rfl) ?_
            refine WpL_val rfl rfl (by decide) (r_load (v := (.int .i64 x.kind)) rfl flat3 (Bs.cell rfl)) ?_
            obtain ⟨e13, he13⟩ : ∃ e, (decide ((x.kind : Int) = 0)) = e := ⟨_, rfl⟩
            refine WpL_val rfl rfl (by decide) ((r_eql (k := .i64) (a := x.kind) (b := 0) rfl rfl).trans (by rw [he13]; try rfl)) ?_
            refine WpL_val rfl rfl (by decide) (r_move (v := (.bool e13)) rfl) ?_
            refine WpL_guard_any (oj := _) (gv := (.bool e13)) (u := (bif e13 then undef else (.pointer (some ⟨bs, 0, none⟩)))) rfl rfl (by decide) (by decide) rfl (by cases e13 <;> first | exact Or.inr ⟨Or.inl rfl, rfl⟩ | exact Or.inr ⟨Or.inr rfl, rfl⟩ | exact Or.inl ⟨rfl, r_fieldAddr (b := bs) (o := 0) (o' := 0) rfl Try.underlying25 rfl siz3 rfl⟩) ?_
            refine WpL_guard_any (oj := _) (gv := (.bool e13)) (u := (bif e13 then undef else (.int .i64 x.kind))) rfl rfl (by decide) (by decide) rfl (by cases e13 <;> first | exact Or.inr ⟨Or.inl rfl, rfl⟩ | exact Or.inr ⟨Or.inr rfl, rfl⟩ | exact Or.inl ⟨rfl, r_load (v := (.int .i64 x.kind)) rfl flat3 (Bs.cell rfl)⟩) ?_
            obtain ⟨e14, he14⟩ : ∃ e, (decide ((x.kind : Int) = 1)) = e := ⟨_, rfl⟩
            refine WpL_guard_any (oj := _) (gv := (.bool e13)) (u := (bif e13 then undef else (.bool e14))) rfl rfl (by decide) (by decide) rfl (by cases e13 <;> first | exact Or.inr ⟨Or.inl rfl, rfl⟩ | exact Or.inr ⟨Or.inr rfl, rfl⟩ | exact Or.inl ⟨rfl, (r_eql (k := .i64) (a := x.kind) (b := 1) rfl rfl).trans (by rw [he14]; try rfl)⟩) ?_
            refine WpL_guard_any (oj := _) (gv := (.bool e13)) (u := (bif e13 then undef else (.bool e14))) rfl rfl (by decide) (by decide) rfl (by cases e13 <;> first | exact Or.inr ⟨Or.inl rfl, rfl⟩ | exact Or.inr ⟨Or.inr rfl, rfl⟩ | exact Or.inl ⟨rfl, r_move (v := (.bool e14)) rfl⟩) ?_
            refine WpL_guard_any (oj := _) (gv := (bif e13 then undef else (.bool e14))) (u := (bif e13 then undef else (bif e14 then (.pointer (some ⟨br, 0, none⟩)) else undef))) rfl rfl (by decide) (by decide) rfl (by cases e13 <;> cases e14 <;> first | exact Or.inr ⟨Or.inl rfl, rfl⟩ | exact Or.inr ⟨Or.inr rfl, rfl⟩ | exact Or.inl ⟨rfl, r_fieldAddr (b := br) (o := 0) (o' := 0) rfl Try.underlying25 rfl siz3 rfl⟩) ?_
            refine WpL_guard_any (oj := _) (gv := (bif e13 then undef else (.bool e14))) (u := (bif e13 then undef else (bif e14 then (.int .i64 t.kind) else undef))) rfl rfl (by decide) (by decide) rfl (by cases e13 <;> cases e14 <;> first | exact Or.inr ⟨Or.inl rfl, rfl⟩ | exact Or.inr ⟨Or.inr rfl, rfl⟩ | exact Or.inl ⟨rfl, r_load (v := (.int .i64 t.kind)) rfl flat3 (Br.cell rfl)⟩) ?_
            obtain ⟨e15, he15⟩ : ∃ e, (decide ((t.kind : Int) = 3)) = e := ⟨_, rfl⟩
            refine WpL_guard_any (oj := _) (gv := (bif e13 then undef else (.bool e14))) (u := (bif e13 then undef else (bif e14 then (.bool e15) else undef))) rfl rfl (by decide) (by decide) rfl (by cases e13 <;> cases e14 <;> first | exact Or.inr ⟨Or.inl rfl, rfl⟩ | exact Or.inr ⟨Or.inr rfl, rfl⟩ | exact Or.inl ⟨rfl, (r_eql (k := .i64) (a := t.kind) (b := 3) rfl rfl).trans (by rw [he15]; try rfl)⟩) ?_
            obtain ⟨e16, he16⟩ : ∃ e, (e14 && e15) = e := ⟨_, rfl⟩
            refine WpL_guard_any (oj := _) (gv := (.bool e13)) (u := (bif e13 then undef else (.bool e16))) rfl rfl (by decide) (by decide) rfl (by cases e13 <;> first | exact Or.inr ⟨Or.inl rfl, rfl⟩ | exact Or.inr ⟨Or.inr rfl, rfl⟩ | exact Or.inl ⟨rfl, r_pick (b := e14) (v := .bool e16) rfl (by rw [← he16]; cases e14 <;> rfl)⟩) ?_
            obtain ⟨e17, he17⟩ : ∃ e, (e13 || e16) = e := ⟨_, rfl⟩
            refine WpL_val rfl rfl (by decide) (r_pick (b := e13) (v := .bool e17) rfl (by rw [← he17]; cases e13 <;> rfl)) ?_
            refine WpL_val rfl rfl (by decide) (r_assign (v := (.bool e17)) rfl) ?_
            refine WpL_nil ?_
            subst he17
            subst he16
            subst he15
            subst he14
            subst he13
            refine Wp_seq ?_
            refine Wp_seq_region ?_
            refine WpL_val rfl rfl (by decide) (r_fieldAddr (b := br) (o := 0) (o' := 2) rfl Try.underlying25 rfl siz23 rfl) ?_
            refine WpL_val rfl rfl (by decide) (r_load (v := (.slice (some ⟨b, o, none⟩) t.args.length ac)) rfl flat23 (Br.cell rfl)) ?_
            refine WpL_val rfl rfl (by decide) (r_move (v := (.int .i64 ((i : Nat) : Int))) rfl) ?_
            obtain ⟨sl, hsl⟩ : ∃ a' : Option Addr, (if ac = 0 then (some ⟨b, o, none⟩) else Option.map (fun q : Addr => q.add (0 * 6)) (some ⟨b, o, none⟩)) = a' := ⟨_, rfl⟩
            refine WpL_val rfl rfl (by decide) (r_sliceHi (a := (some ⟨b, o, none⟩)) (len := t.args.length) (cap := ac) (hi := i) (l := ((i : Nat) : Int)) Try.underlying23 siz25 rfl rfl (by omega) (by omega) hsl) ?_
            rw [sl_zero] at hsl
            subst hsl
            refine WpL_val rfl rfl (by decide) (r_lenSlice (ad := some ⟨b, o, none⟩) (n := i) (cap := ac) Try.underlying23 rfl) ?_
            refine WpL_val rfl rfl (by decide) (r_move (v := (.int .i64 0)) rfl) ?_
            refine WpL_nil ?_
            refine Wp_block ?_
            refine Wp_loop (fun nn_ σ W18 => ∃ (j : Nat) (gn : Bool), (∃ jj_, σ = upds jj_ [(1, (.pointer (some ⟨br, 0, none⟩))), (2, (.pointer (some ⟨bo, 0, none⟩))), (5, (.pointer (some ⟨bs, 0, none⟩))), (6, (.slice a30 (i + (t.args.length - (i + 1))) c30)), (12, (.slice (some ⟨b, o, none⟩) t.args.length ac)), (13, (.int .i64 ((t.args.length : Nat) : Int))), (14, (.int .i64 ((i : Nat) : Int))), (81, (.slice (some ⟨b, o, none⟩) i ac)), (82, (.int .i64 ((i : Nat) : Int))), (83, (.int .i64 ((j : Nat) : Int))), (8, (.bool gn))]) ∧ Chg none1 w0 W18 ∧ Blk W18 br #[(.int .i64 t.kind), (.slice sa t.set.length sc), (.slice (some ⟨b, o, none⟩) t.args.length ac), (.int .i64 t.mn), (.int .i64 t.mx), (.bool t.neg)] 25 ∧ Blk W18 bo #[(.int .i64 0), (.slice none 0 0), (.slice none 0 0), (.int .i64 0), (.int .i64 0), (.bool false)] 25 ∧ Blk W18 bs #[(.int .i64 x.kind), (.slice xsa x.set.length xsc), (.slice xaa x.args.length xac), (.int .i64 x.mn), (.int .i64 x.mx), (.bool x.neg)] 25 ∧ (j ≤ i) ∧ (gn = goneJ t.kind t.args x j) ∧ (W18.ownsRow n0 TRe 6 (.slice a30 (i + (t.args.length - (i + 1))) c30) (i + (t.args.length - (i + 1))) (rows.take i ++ rows.drop (i + 1)).flatten) ∧ nn_ = i - j) (n := i - 0) ?_ ?_
            · exact ⟨0, gone0 t.kind x, Fits.out ⟨rfl, rfl, rfl, rfl, rfl, rfl, rfl, rfl, rfl, rfl, rfl, trivial⟩, E, Br, Bo, Bs, Nat.zero_le _, (goneJ_zero _ _ _).symm, O30, rfl⟩
            · clear E Br Bo Bs
              rintro _ _ W18 ⟨j, gn, ⟨j18, rfl⟩, E, Br, Bo, Bs, hj, hgn, O30, rfl⟩
              refine Wp_seq_region ?_
              refine WpL_val rfl rfl (by decide) (r_lss (k := .i64) (a := ((j : Nat) : Int)) (b := ((i : Nat) : Int)) rfl rfl) ?_
              refine WpL_nil ?_
              refine Wp_seq ?_
              refine Wp_cond (b := decide ((((j : Nat) : Int) : Int) < ((i : Nat) : Int))) rfl (fun hltj => ?_) (fun hltj => ?_)
              · have khltj := hltj
                replace hltj := of_decide_eq_true hltj
                obtain ⟨y, hy⟩ := get_of_lt (l := t.args) (i := j) (by omega)
                obtain ⟨ys, hcy, hry⟩ := ResIn.get hxr hy
                have hry0 := hry
                obtain ⟨ysa, ysc, yaa, yac, rfl, _, _, _⟩ := hry.form
                have hgs := goneJ_succ (k := t.kind) (a := x) hy
                refine Wp_skip ?_
                refine thn_normal ?_
                refine Wp_seq ?_
                refine Wp_block ?_
                refine Wp_seq_region ?_
                refine WpL_val rfl rfl (by decide) (r_indexSlice (b := b) (o := o) (len := i) (cap := ac) (i := j) (o' := o + j * 6) rfl rfl rfl Try.underlying23 siz25 (by omega) (by omega)) ?_
                refine WpL_val rfl rfl (by decide) (r_loadAgg (vs := [(.int .i64 y.kind), (.slice ysa y.set.length ysc), (.slice yaa y.args.length yac), (.int .i64 y.mn), (.int .i64 y.mx), (.bool y.neg)]) rfl agg25 siz25 rfl (hcy.ext E)) ?_
                refine s_allocStore (v := (.agg #[(.int .i64 y.kind), (.slice ysa y.set.length ysc), (.slice yaa y.args.length yac), (.int .i64 y.mn), (.int .i64 y.mx), (.bool y.neg)])) (c := #[(.int .i64 y.kind), (.slice ysa y.set.length ysc), (.slice yaa y.args.length yac), (.int .i64 y.mn), (.int .i64 y.mx), (.bool y.neg)]) (n := 6) (by decide) zer25 rfl siz25 rfl rfl rfl (by simp [Value.oneCell']) ?_
                intro bz wz Nz
                have Fz := Nz.ge E
                have Oz_br := Nz.lt Br
                have Oz_bo := Nz.lt Bo
                have Oz_bs := Nz.lt Bs
                replace Br := Nz.keep Br
                replace Bo := Nz.keep Bo
                replace Bs := Nz.keep Bs
                replace O30 := own_ext O30 Nz.ext
                replace E := E.ext Nz.ext
                have Bz := Nz.blk
                refine WpL_nil ?_
                refine Wp_region ?_
                refine WpL_val rfl rfl (by decide) (r_move (v := (.bool gn)) rfl) ?_
                refine WpL_val rfl rfl (by decide) (r_move (v := (.bool gn)) rfl) ?_
                rcases Bool.eq_false_or_eq_true (gn) with g1 | g1
                · have kg1 := g1
                  refine WpL_guard_no (oj := _) rfl rfl (by decide) (v := .bool true) (congrArg Value.bool g1) (Or.inl rfl) ?_
                  refine WpL_guard_no (oj := _) rfl rfl (by decide) (v := .bool true) (congrArg Value.bool g1) (Or.inl rfl) ?_
                  refine WpL_guard_no (oj := _) rfl rfl (by decide) (v := .bool true) (congrArg Value.bool g1) (Or.inl rfl) ?_
                  refine WpL_guard_no (oj := _) rfl rfl (by decide) (v := .bool true) (congrArg Value.bool g1) (Or.inl rfl) ?_
                  refine WpL_guard_no (oj := _) rfl rfl (by decide) (v := undef) rfl (Or.inr rfl) ?_
                  refine WpL_guard_no (oj := _) rfl rfl (by decide) (v := undef) rfl (Or.inr rfl) ?_
                  refine WpL_guard_no (oj := _) rfl rfl (by decide) (v := undef) rfl (Or.inr rfl) ?_
                  refine WpL_guard_no (oj := _) rfl rfl (by decide) (v := .bool true) (congrArg Value.bool g1) (Or.inl rfl) ?_
                  refine WpL_val rfl rfl (by decide) (r_pick (b := gn) (v := (.bool true)) rfl (by rw [g1]; rfl)) ?_
                  refine WpL_val rfl rfl (by decide) (r_assign (v := (.bool true)) rfl) ?_
                  refine WpL_nil ?_
                  refine inB_normal ?_
                  refine thn_normal ?_
                  refine Wp_region ?_
                  refine WpL_val rfl rfl (by decide) (r_add (k := .i64) (a := ((j : Nat) : Int)) (b := 1) (c := ((j : Nat) : Int) + 1) rfl rfl (wI64 (by omega))) ?_
                  refine WpL_val rfl rfl (by decide) (r_move (v := (.int .i64 (((j : Nat) : Int) + 1))) rfl) ?_
                  refine WpL_nil ?_
                  refine thn_normal ?_
                  exact ⟨i - (j + 1), by omega, j + 1, true, Fits.out ⟨rfl, rfl, rfl, rfl, rfl, rfl, rfl, rfl, rfl, rfl, rfl, trivial⟩, E, Br, Bo, Bs, (by omega), (by rw [hgs, ← hgn, g1]; rfl), O30, rfl⟩
                · have kg1 := g1
                  refine WpL_guard_yes (oj := _) rfl rfl (by decide) (congrArg Value.bool g1) ?_
                  refine WpL_val rfl rfl (by decide) (r_fieldAddr (b := br) (o := 0) (o' := 0) rfl Try.underlying25 rfl siz3 rfl) ?_
                  refine WpL_guard_yes (oj := _) rfl rfl (by decide) (congrArg Value.bool g1) ?_
                  refine WpL_val rfl rfl (by decide) (r_load (v := (.int .i64 t.kind)) rfl flat3 (Br.cell rfl)) ?_
                  refine WpL_guard_yes (oj := _) rfl rfl (by decide) (congrArg Value.bool g1) ?_
                  refine WpL_val rfl rfl (by decide) (r_neq (k := .i64) (a := t.kind) (b := 3) rfl rfl) ?_
                  refine WpL_guard_yes (oj := _) rfl rfl (by decide) (congrArg Value.bool g1) ?_
                  refine WpL_val rfl rfl (by decide) (r_move (v := (.bool (decide ((t.kind : Int) ≠ 3)))) rfl) ?_
                  rcases Bool.eq_false_or_eq_true (decide ((t.kind : Int) ≠ 3)) with g2 | g2
                  · have kg2 := g2
                    replace kg2 := of_decide_eq_true kg2
                    refine WpL_guard_yes (oj := _) rfl rfl (by decide) (congrArg Value.bool g2) ?_
                    refine WpL_val rfl rfl (by decide) (r_loadAgg (vs := [(.int .i64 x.kind), (.slice xsa x.set.length xsc), (.slice xaa x.args.length xac), (.int .i64 x.mn), (.int .i64 x.mx), (.bool x.neg)]) rfl agg25 siz25 rfl (Bs.cells rfl)) ?_
                    refine WpL_guard_yes (oj := _) rfl rfl (by decide) (congrArg Value.bool g2) ?_
                    refine WpL_val rfl rfl (by decide) (r_loadAgg (vs := [(.int .i64 y.kind), (.slice ysa y.set.length ysc), (.slice yaa y.args.length yac), (.int .i64 y.mn), (.int .i64 y.mx), (.bool y.neg)]) rfl agg25 siz25 rfl (Bz.cells rfl)) ?_
                    refine WpL_guard_yes (oj := _) rfl rfl (by decide) (congrArg Value.bool g2) ?_
                    refine WpL_enter rfl rfl (by decide) (r_callF (vs := [(.agg #[(.int .i64 x.kind), (.slice xsa x.set.length xsc), (.slice xaa x.args.length xac), (.int .i64 x.mn), (.int .i64 x.mx), (.bool x.neg)]), (.agg #[(.int .i64 y.kind), (.slice ysa y.set.length ysc), (.slice yaa y.args.length yac), (.int .i64 y.mn), (.int .i64 y.mx), (.bool y.neg)])]) Try.func7 nm7 bd7 rfl) (requal_c x.size x y _ _ _ (Nat.le_refl _) (ReIn.at x (ReIn.ext E x hrx0)) (ReIn.at y (ReIn.ext E y hry0))) ?_
                    rintro _ w9 ⟨rfl, X9⟩
                    replace Br := X9.keep Br
                    replace Bo := X9.keep Bo
                    replace Bs := X9.keep Bs
                    replace Bz := X9.keep Bz
                    replace O30 := own_ext O30 X9
                    replace E := E.ext X9
                    refine WpL_guard_yes (oj := _) rfl rfl (by decide) (congrArg Value.bool g1) ?_
                    refine WpL_val rfl rfl (by decide) (r_pick (b := decide ((t.kind : Int) ≠ 3)) (v := (.bool (sameT x y))) rfl (by rw [g2]; rfl)) ?_
                    refine WpL_val rfl rfl (by decide) (r_pick (b := gn) (v := (.bool (sameT x y))) rfl (by rw [g1]; rfl)) ?_
                    refine WpL_val rfl rfl (by decide) (r_assign (v := (.bool (sameT x y))) rfl) ?_
                    refine WpL_nil ?_
                    refine inB_normal ?_
                    refine thn_normal ?_
                    refine Wp_region ?_
                    refine WpL_val rfl rfl (by decide) (r_add (k := .i64) (a := ((j : Nat) : Int)) (b := 1) (c := ((j : Nat) : Int) + 1) rfl rfl (wI64 (by omega))) ?_
                    refine WpL_val rfl rfl (by decide) (r_move (v := (.int .i64 (((j : Nat) : Int) + 1))) rfl) ?_
                    refine WpL_nil ?_
                    refine thn_normal ?_
                    exact ⟨i - (j + 1), by omega, j + 1, sameT x y, Fits.out ⟨rfl, rfl, rfl, rfl, rfl, rfl, rfl, rfl, rfl, rfl, rfl, trivial⟩, E, Br, Bo, Bs, (by omega), (by rw [hgs, ← hgn, g1, g2]; simp), O30, rfl⟩
                  · have kg2 := g2
                    replace kg2 := of_decide_eq_false kg2
                    refine WpL_guard_no (oj := _) rfl rfl (by decide) (v := .bool false) (congrArg Value.bool g2) (Or.inl rfl) ?_
                    refine WpL_guard_no (oj := _) rfl rfl (by decide) (v := .bool false) (congrArg Value.bool g2) (Or.inl rfl) ?_
                    refine WpL_guard_no (oj := _) rfl rfl (by decide) (v := .bool false) (congrArg Value.bool g2) (Or.inl rfl) ?_
                    refine WpL_guard_yes (oj := _) rfl rfl (by decide) (congrArg Value.bool g1) ?_
                    refine WpL_val rfl rfl (by decide) (r_pick (b := decide ((t.kind : Int) ≠ 3)) (v := (.bool false)) rfl (by rw [g2]; rfl)) ?_
                    refine WpL_val rfl rfl (by decide) (r_pick (b := gn) (v := (.bool false)) rfl (by rw [g1]; rfl)) ?_
                    refine WpL_val rfl rfl (by decide) (r_assign (v := (.bool false)) rfl) ?_
                    refine WpL_nil ?_
                    refine inB_normal ?_
                    refine thn_normal ?_
                    refine Wp_region ?_
                    refine WpL_val rfl rfl (by decide) (r_add (k := .i64) (a := ((j : Nat) : Int)) (b := 1) (c := ((j : Nat) : Int) + 1) rfl rfl (wI64 (by omega))) ?_
                    refine WpL_val rfl rfl (by decide) (r_move (v := (.int .i64 (((j : Nat) : Int) + 1))) rfl) ?_
                    refine WpL_nil ?_
                    refine thn_normal ?_
                    exact ⟨i - (j + 1), by omega, j + 1, false, Fits.out ⟨rfl, rfl, rfl, rfl, rfl, rfl, rfl, rfl, rfl, rfl, rfl, trivial⟩, E, Br, Bo, Bs, (by omega), (by rw [hgs, ← hgn, g1, g2]; rfl), O30, rfl⟩
              · have khltj := hltj
                replace hltj := of_decide_eq_false hltj
                have hji : i = j := by omega
                subst hji
                have hgone : gn = goneB t.kind (t.args.take i) x := hgn
                refine Wp_exit ?_
                refine thn_exit ?_
                refine thn_exit ?_
                refine inB_here ?_
                refine thn_normal ?_
                refine Wp_seq_region ?_
                refine WpL_val rfl rfl (by decide) (r_move (v := (.bool gn)) rfl) ?_
                refine WpL_nil ?_
                refine Wp_cond (b := gn) rfl (fun hg => ?_) (fun hg => ?_)
                · have khg := hg
                  refine Wp_seq_region ?_
                  refine WpL_val rfl rfl (by decide) (r_fieldAddr (b := br) (o := 0) (o' := 0) rfl Try.underlying25 rfl siz3 rfl) ?_
                  refine WpL_val rfl rfl (by decide) (r_load (v := (.int .i64 t.kind)) rfl flat3 (Br.cell rfl)) ?_
                  refine WpL_val rfl rfl (by decide) (r_move (v := (.slice a30 (i + (t.args.length - (i + 1))) c30)) rfl) ?_
                  have hrs8 := rest_rs (S' := fun y => S y ∨ n0 ≤ y) O30 (RowsIn.ext E hR1) hlt1 (fun y h => .inl h) (fun y h => .inr h)
                  refine WpL_enter rfl rfl (by decide) (r_callF (vs := [(.int .i64 t.kind), (.slice a30 (i + (t.args.length - (i + 1))) c30)]) Try.func47 nm47 bd47 rfl) (left_c _ _ t.kind _ _ (hrs8)) ?_
                  rintro _ w9 ⟨us9, rfl, hre9, X9⟩
                  replace Br := X9.keep Br
                  replace Bo := X9.keep Bo
                  replace Bs := X9.keep Bs
                  replace O30 := own_ext O30 X9
                  replace E := E.ext X9
                  have hre90 := hre9
                  obtain ⟨sa9, sc9, aa9, ac9, rfl, _, _, _⟩ := hre9.form
                  obtain ⟨lf, hlf⟩ : ∃ lf, lf = leftT t.kind (t.args.take i ++ t.args.drop (i + 1)) := ⟨_, rfl⟩
                  rw [← hlf] at hre90
                  rw [← hlf]
                  have hC9 : Chg (fun y => y = bo) (w9) (w9) := Chg.refl _ _
                  refine s_storeAgg (b := bo) (o := 0) (c' := #[(.int .i64 lf.kind), (.slice sa9 lf.set.length sc9), (.slice aa9 lf.args.length ac9), (.int .i64 lf.mn), (.int .i64 lf.mx), (.bool lf.neg)]) rfl rfl (by simp [Value.oneCell']) siz25 rfl Bo (by simp) rfl ?_
                  intro w23 S23
                  replace hC9 := S23.chg
                  replace Br := S23.keep (by omega) Br
                  replace Bs := S23.keep (by omega) Bs
                  replace E := S23.step E (by first | exact Or.inl (by omega) | exact Or.inr rfl | exact Or.inr (by assumption) | exact Or.inr (by simp) | exact Or.inr (by omega) | exact Or.inr (by dsimp only; omega))
                  replace Bo := S23.blk
                  refine WpL_val rfl rfl (by decide) (r_assign (v := (.bool true)) rfl) ?_
                  refine WpL_nil ?_
                  refine Wp_ret ?_
                  refine inB_ret ?_
                  refine thn_ret ?_
                  refine thn_ret ?_
                  refine inB_ret ?_
                  refine thn_ret ?_
                  refine fin_agg_tmp Try.results31 (vs := [(.int .i64 lf.kind), (.slice sa9 lf.set.length sc9), (.slice aa9 lf.args.length ac9), (.int .i64 lf.mn), (.int .i64 lf.mx), (.bool lf.neg)]) (b := bo) (v' := (.bool true)) rfl agg25 siz25 rfl (Bo.cells rfl) rfl ?_
                  refine ⟨some (stepT t.kind t.args i x), _, .inl ⟨i, x, hx, hkeep, ?_, rfl⟩, rfl, ?_, E⟩
                  · cases hkk : keepB t.kind (t.args.take i) x with
                    | false => rfl
                    | true => have := (keep_iff.1 hkk).2.2; rw [← hgone, hg] at this; cases this
                  · show ReIn _ _ (stepT t.kind t.args i x) _
                    unfold stepT
                    rw [if_neg he, if_neg (by simpa using c0), ← hlf]
                    refine ReIn.mono (S := fun y => S y ∨ n0 ≤ y) (fun y hy => hy.imp id (fun h => by omega)) _ (ReIn.chg hC9 ?_ _ hre90)
                    rintro y (h | h) hy
                    · have hy' : y = bo := hy
                      have := hS y h; omega
                    · have hy' : y = bo := hy
                      omega
                · have khg := hg
                  refine Wp_skip ?_
                  refine inB_normal ?_
                  refine thn_normal ?_
                  refine Wp_region ?_
                  refine WpL_val rfl rfl (by decide) (r_add (k := .i64) (a := ((i : Nat) : Int)) (b := 1) (c := ((i : Nat) : Int) + 1) rfl rfl (wI64 (by omega))) ?_
                  refine WpL_val rfl rfl (by decide) (r_move (v := (.int .i64 (((i : Nat) : Int) + 1))) rfl) ?_
                  refine WpL_nil ?_
                  refine thn_normal ?_
                  exact ⟨t.args.length - (i + 1), by omega, i + 1, Fits.out ⟨rfl, rfl, rfl, rfl, rfl, trivial⟩, E, Br, Bo, (by omega), (fun j z hj hz => by rcases Nat.lt_or_ge j i with h | h; exact hkeep j z h hz; obtain rfl : j = i := (by omega); rw [hx] at hz; cases hz; exact keep_iff.2 ⟨he, by simpa using c0, by rw [← hgone]; exact hg⟩), rfl⟩
    · have khlt := hlt
      replace hlt := of_decide_eq_false hlt
      have hin : t.args.length = i := by omega
      have hall : ∀ j z, t.args[j]? = some z → keepB t.kind (t.args.take j) z = true := fun j z hz => hkeep j z (by have := lt_of_get hz; omega) hz
      refine Wp_exit ?_
      refine thn_exit ?_
      refine thn_exit ?_
      refine inB_here ?_
      refine thn_normal ?_
      refine Wp_seq ?_
      refine Wp_seq_region ?_
      refine WpL_val rfl rfl (by decide) (r_fieldAddr (b := br) (o := 0) (o' := 2) rfl Try.underlying25 rfl siz23 rfl) ?_
      refine WpL_val rfl rfl (by decide) (r_load (v := (.slice (some ⟨b, o, none⟩) t.args.length ac)) rfl flat23 (Br.cell rfl)) ?_
      refine WpL_val rfl rfl (by decide) (r_lenSlice (ad := some ⟨b, o, none⟩) (n := t.args.length) (cap := ac) Try.underlying23 rfl) ?_
      refine WpL_val rfl rfl (by decide) (r_eql (k := .i64) (a := ((t.args.length : Nat) : Int)) (b := 1) rfl rfl) ?_
      refine WpL_nil ?_
      refine Wp_cond (b := decide ((((t.args.length : Nat) : Int) : Int) = 1)) rfl (fun h1 => ?_) (fun h1 => ?_)
      · have kh1 := h1
        replace h1 := of_decide_eq_true h1
        obtain ⟨x, hx⟩ := get_of_lt (l := t.args) (i := 0) (by omega)
        obtain ⟨xs, hcx, hrx⟩ := ResIn.get hxr hx
        have hrx0 := hrx
        obtain ⟨xsa, xsc, xaa, xac, rfl, _, _, _⟩ := hrx.form
        refine Wp_seq_region ?_
        refine WpL_val rfl rfl (by decide) (r_fieldAddr (b := br) (o := 0) (o' := 2) rfl Try.underlying25 rfl siz23 rfl) ?_
        refine WpL_val rfl rfl (by decide) (r_load (v := (.slice (some ⟨b, o, none⟩) t.args.length ac)) rfl flat23 (Br.cell rfl)) ?_
        refine WpL_val rfl rfl (by decide) (r_indexSlice (b := b) (o := o) (len := t.args.length) (cap := ac) (i := 0) (o' := o + 0 * 6) rfl rfl rfl Try.underlying23 siz25 (by omega) (by omega)) ?_
        refine WpL_val rfl rfl (by decide) (r_loadAgg (vs := [(.int .i64 x.kind), (.slice xsa x.set.length xsc), (.slice xaa x.args.length xac), (.int .i64 x.mn), (.int .i64 x.mx), (.bool x.neg)]) rfl agg25 siz25 rfl (hcx.ext E)) ?_
        refine s_storeAgg (b := bo) (o := 0) (c' := #[(.int .i64 x.kind), (.slice xsa x.set.length xsc), (.slice xaa x.args.length xac), (.int .i64 x.mn), (.int .i64 x.mx), (.bool x.neg)]) rfl rfl (by simp [Value.oneCell']) siz25 rfl Bo (by simp) rfl ?_
        intro w25 S25
        replace Br := S25.keep (by omega) Br
        replace E := S25.step E (by first | exact Or.inl (by omega) | exact Or.inr rfl | exact Or.inr (by assumption) | exact Or.inr (by simp) | exact Or.inr (by omega) | exact Or.inr (by dsimp only; omega))
        replace Bo := S25.blk
        refine WpL_val rfl rfl (by decide) (r_assign (v := (.bool true)) rfl) ?_
        refine WpL_nil ?_
        refine Wp_ret ?_
        refine thn_ret ?_
        refine fin_agg_tmp Try.results31 (vs := [(.int .i64 x.kind), (.slice xsa x.set.length xsc), (.slice xaa x.args.length xac), (.int .i64 x.mn), (.int .i64 x.mx), (.bool x.neg)]) (b := bo) (v' := (.bool true)) rfl agg25 siz25 rfl (Bo.cells rfl) rfl ?_
        exact ⟨some x, _, .inr ⟨hall, .inl ⟨by omega, x, hx, rfl⟩⟩, rfl, ReIn.mono (fun y hy => .inl hy) x (ReIn.ext E x hrx0), E⟩
      · have kh1 := h1
        replace h1 := of_decide_eq_false h1
        refine Wp_skip ?_
        refine thn_normal ?_
        refine Wp_seq_region ?_
        refine WpL_val rfl rfl (by decide) (r_loadAgg (vs := [(.int .i64 t.kind), (.slice sa t.set.length sc), (.slice (some ⟨b, o, none⟩) t.args.length ac), (.int .i64 t.mn), (.int .i64 t.mx), (.bool t.neg)]) rfl agg25 siz25 rfl (Br.cells rfl)) ?_
        refine s_storeAgg (b := bo) (o := 0) (c' := #[(.int .i64 t.kind), (.slice sa t.set.length sc), (.slice (some ⟨b, o, none⟩) t.args.length ac), (.int .i64 t.mn), (.int .i64 t.mx), (.bool t.neg)]) rfl rfl (by simp [Value.oneCell']) siz25 rfl Bo (by simp) rfl ?_
        intro w26 S26
        replace Br := S26.keep (by omega) Br
        replace E := S26.step E (by first | exact Or.inl (by omega) | exact Or.inr rfl | exact Or.inr (by assumption) | exact Or.inr (by simp) | exact Or.inr (by omega) | exact Or.inr (by dsimp only; omega))
        replace Bo := S26.blk
        refine WpL_val rfl rfl (by decide) (r_assign (v := (.bool false)) rfl) ?_
        refine WpL_nil ?_
        refine Wp_ret ?_
        refine fin_agg_tmp Try.results31 (vs := [(.int .i64 t.kind), (.slice sa t.set.length sc), (.slice (some ⟨b, o, none⟩) t.args.length ac), (.int .i64 t.mn), (.int .i64 t.mx), (.bool t.neg)]) (b := bo) (v' := (.bool false)) rfl agg25 siz25 rfl (Bo.cells rfl) rfl ?_
        exact ⟨none, _, .inr ⟨hall, .inr ⟨by omega, rfl⟩⟩, rfl, ReIn.mono (fun y hy => .inl hy) t (ReIn.ext E t ht0), E⟩
end Go.Proofs
