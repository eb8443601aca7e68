/- Contracts of the reference: other arguments. -/
import Derived.Test.YtiepeobnpmoghaaW34
namespace Go.Proofs
open Go Go.Eng
set_option maxRecDepth 100000

theorem map_step {S D : Nat → Prop} {base n1 : Nat} {w w1 w2 : World} {v v' : Value} {ts : List Re} {rows : List (List Value)} {x : Re} {us : List Value}
    (hR : RowsIn (fun b => S b ∨ D b) w ts rows) (hE : Ext w w1) (hn1 : n1 = w.heap.size) (hS : ∀ b, S b → b < base) (hD : ∀ b, D b → base ≤ b ∧ b < w.heap.size) (hv : ∀ q, v.ownBlock = some q → ¬ D q ∧ (base ≤ q ∧ q < n1))
    (hx : ReIn (fun b => S b ∨ n1 ≤ b) w1 x us) (C : Chg (fun y => v.ownBlock = some y) w1 w2) (hv' : ∀ q, v'.ownBlock = some q → v.ownBlock = some q ∨ w1.heap.size ≤ q) (hb : base ≤ n1) :
    RowsIn (fun b => S b ∨ (D b ∨ (n1 ≤ b ∧ b < w1.heap.size))) w2 (ts ++ [x]) (rows ++ [us]) ∧ (∀ b, (D b ∨ (n1 ≤ b ∧ b < w1.heap.size)) → base ≤ b ∧ b < w2.heap.size) ∧ (∀ q, v'.ownBlock = some q → ¬ (D q ∨ (n1 ≤ q ∧ q < w1.heap.size))) := by
  have hs := C.size
  have hs1 := hE.size
  refine ⟨RowsIn.append (RowsIn.single ?_) ?_, ?_, ?_⟩
  · refine ReIn.mono (S := fun b => (S b ∨ n1 ≤ b) ∧ b < w1.heap.size) ?_ _ (ReIn.chg C ?_ _ (ReIn.lt _ hx))
    · rintro b ⟨h | h, h2⟩
      · exact .inl h
      · exact .inr (.inr ⟨h, h2⟩)
    · rintro b ⟨h | h, h2⟩ hm
      · have := (hv b hm).2; have := hS b h; omega
      · have := (hv b hm).2; omega
  · refine RowsIn.mono (S := fun b => S b ∨ D b) (fun b hb => hb.imp id .inl) (RowsIn.chg C ?_ (RowsIn.ext hE hR))
    rintro b (h | h) hm
    · have := (hv b hm).2; have := hS b h; omega
    · exact (hv b hm).1 h
  · rintro b (h | h)
    · have := hD b h; omega
    · omega
  · intro q hq
    rcases hv' q hq with h | h
    · rintro (h2 | h2)
      · exact (hv q h).1 h2
      · have := (hv q h).2; omega
    · rintro (h2 | h2)
      · have := hD q h2; omega
      · omega

theorem re_cong {S : Nat → Prop} {w : World} {k mn mx : Int} {ng : Bool} {set : List (Int × Int)} {a : List Re} {sa aa : Option Addr} {sc ac n : Nat} (hn : a.length = n)
    (h : ReIn S w (.mk k set a mn mx ng) [.int .i64 k, .slice sa set.length sc, .slice aa a.length ac, .int .i64 mn, .int .i64 mx, .bool ng]) : ReIn S w (.mk k set a mn mx ng) [.int .i64 k, .slice sa set.length sc, .slice aa n ac, .int .i64 mn, .int .i64 mx, .bool ng] := by
  rw [← hn]; exact h
set_option maxHeartbeats 2000000 in
theorem mapped_c (w0 : World) (S : Nat → Prop) (t : Re) (vs : List Value) (fv : Value) (g : Re → Re) (ht : ReIn S w0 t vs) (hS : ∀ b, S b → b < w0.heap.size) (hM : t.size ≤ 1000000)
    (hf : ∀ (w : World) (x : Re) (xs : List Value), Ext w0 w → x ∈ t.args → ReIn S w x xs → CallV Try.prog fv #[.agg xs.toArray] w fun r w' => ∃ us, r = .agg us.toArray ∧ ReIn (fun b => S b ∨ w.heap.size ≤ b) w' (g x) us ∧ Ext w w') :
    Ret Try.prog 19 #[.agg vs.toArray, fv] w0 fun v w => ∃ us, v = .agg us.toArray ∧ ReIn (fun b => S b ∨ w0.heap.size ≤ b) w (.mk t.kind t.set (t.args.map g) t.mn t.mx t.neg) us ∧ Ext w0 w := by
  have ht0 := ht
  obtain ⟨sa, sc, aa, ac, rfl, hset, hac, hta⟩ := ht.form
  have hal := len_sizes t.args
  have hse := t.size_eq
  refine Ret_of Try.func19 rfl Try.ntmps19 (Nat.le_of_ble_eq_true rfl) ?_
  have E : Chg none1 w0 w0 := Chg.refl _ _
  refine Wp_seq_region ?_
  refine s_box (v := (.agg #[(.int .i64 t.kind), (.slice sa t.set.length sc), (.slice aa t.args.length ac), (.int .i64 t.mn), (.int .i64 t.mx), (.bool t.neg)])) (c := #[(.int .i64 t.kind), (.slice sa t.set.length sc), (.slice aa t.args.length ac), (.int .i64 t.mn), (.int .i64 t.mx), (.bool t.neg)]) (by decide) rfl rfl ?_
  intro br wr Nr
  have Fr := Nr.ge E
  replace E := E.ext Nr.ext
  have Br := Nr.blk
  refine s_alloc (c := #[(.int .i64 0), (.slice none 0 0), (.slice none 0 0), (.int .i64 0), (.int .i64 0), (.bool false)]) (by decide) zer25 rfl ?_
  intro bo wo No
  have Fo := No.ge E
  have Oo_br := No.lt Br
  replace Br := No.keep Br
  replace E := E.ext No.ext
  have Bo := No.blk
  refine WpL_nil ?_
  refine Wp_seq_region ?_
  refine WpL_val rfl rfl (by decide) (r_assign (v := (.slice none 0 0)) rfl) ?_
  refine WpL_nil ?_
  refine Wp_seq ?_
  refine Wp_seq_region ?_
  refine WpL_val rfl rfl (by decide) (r_fieldAddr (b := br) (o := 0) (o' := 2) rfl Try.underlying25 rfl siz23 rfl) ?_
  refine WpL_val rfl rfl (by decide) (r_load (v := (.slice aa t.args.length ac)) rfl flat23 (Br.cell rfl)) ?_
  refine WpL_val rfl rfl (by decide) (r_lenSlice (ad := aa) (n := t.args.length) (cap := ac) Try.underlying23 rfl) ?_
  refine WpL_val rfl rfl (by decide) (r_move (v := (.int .i64 0)) rfl) ?_
  refine WpL_nil ?_
  refine Wp_block ?_
  obtain ⟨base, hbase⟩ : ∃ base, base = wo.heap.size := ⟨_, rfl⟩
  have hbo : bo < base := by rw [hbase]; exact Bo.lt
  have hbr : br < base := by rw [hbase]; exact Br.lt
  have hSb : ∀ b, S b → b < base := fun b hb => by have := hS b hb; omega
  refine Wp_loop (fun nn_ σ W1 => ∃ (k : Nat) (la : Option Addr) (lc : Nat) (rows : List (List Value)) (D : Nat → Prop), (∃ jj_, σ = upds jj_ [(1, fv), (2, (.pointer (some ⟨br, 0, none⟩))), (4, (.pointer (some ⟨bo, 0, none⟩))), (9, (.slice aa t.args.length ac)), (10, (.int .i64 ((t.args.length : Nat) : Int))), (11, (.int .i64 ((k : Nat) : Int))), (5, (.slice la k lc))]) ∧ Chg none1 w0 W1 ∧ Blk W1 br #[(.int .i64 t.kind), (.slice sa t.set.length sc), (.slice aa t.args.length ac), (.int .i64 t.mn), (.int .i64 t.mx), (.bool t.neg)] 25 ∧ Blk W1 bo #[(.int .i64 0), (.slice none 0 0), (.slice none 0 0), (.int .i64 0), (.int .i64 0), (.bool false)] 25 ∧ (k ≤ t.args.length) ∧ (W1.ownsRow base TRe 6 (.slice la k lc) k rows.flatten) ∧ (RowsIn (fun b => S b ∨ D b) W1 ((t.args.take k).map g) rows) ∧ (∀ b, D b → base ≤ b ∧ b < W1.heap.size) ∧ (∀ q, (Value.slice la k lc).ownBlock = some q → ¬ D q) ∧ (base ≤ W1.heap.size) ∧ nn_ = t.args.length - k) (n := t.args.length - 0) ?_ ?_
  · exact ⟨0, none, 0, [], (fun _ => False), Fits.out ⟨rfl, rfl, rfl, rfl, rfl, rfl, rfl, trivial⟩, E, Br, Bo, Nat.zero_le _, World.ownsRow_nil _ _ _ _, rfl, (fun b f => f.elim), (by simp [Value.ownBlock]), (by omega), rfl⟩
  · clear E Br Bo
    rintro _ _ W1 ⟨k, la, lc, rows, D, ⟨j1, rfl⟩, E, Br, Bo, hk, hown, hR, hD, hv, hbs, rfl⟩
    refine Wp_seq_region ?_
    refine WpL_val rfl rfl (by decide) (r_lss (k := .i64) (a := ((k : Nat) : Int)) (b := ((t.args.length : Nat) : Int)) rfl rfl) ?_
    refine WpL_nil ?_
    refine Wp_seq ?_
    refine Wp_cond (b := decide ((((k : Nat) : Int) : Int) < ((t.args.length : Nat) : Int))) rfl (fun hlt => ?_) (fun hlt => ?_)
    · have khlt := hlt
      replace hlt := of_decide_eq_true hlt
      obtain ⟨x, hx⟩ := get_of_lt (l := t.args) (i := k) (by omega)
      obtain ⟨b, o, hSb1, rfl, hxr⟩ := hta.resolve_left (fun h => by rw [h] at hx; simp at hx)
      obtain ⟨xs, hcx, hrx⟩ := ResIn.get hxr hx
      have hrx0 := hrx
      obtain ⟨xsa, xsc, xaa, xac, rfl, _, _, _⟩ := hrx.form
      have hxm : x ∈ t.args := List.mem_of_getElem? hx
      obtain ⟨wk, hwk⟩ : ∃ wk, wk = (W1) := ⟨_, rfl⟩
      have hlt3 := hown.lt
      have hbs0 := hbs
      refine Wp_skip ?_
      refine thn_normal ?_
      refine Wp_seq ?_
      refine Wp_block ?_
      refine Wp_seq_region ?_
      refine WpL_val rfl rfl (by decide) (r_indexSlice (b := b) (o := o) (len := t.args.length) (cap := ac) (i := k) (o' := o + k * 6) rfl rfl rfl Try.underlying23 siz25 (by omega) (by omega)) ?_
      refine WpL_val rfl rfl (by decide) (r_loadAgg (vs := [(.int .i64 x.kind), (.slice xsa x.set.length xsc), (.slice xaa x.args.length xac), (.int .i64 x.mn), (.int .i64 x.mx), (.bool x.neg)]) rfl agg25 siz25 rfl (hcx.ext E)) ?_
      refine s_allocStore (v := (.agg #[(.int .i64 x.kind), (.slice xsa x.set.length xsc), (.slice xaa x.args.length xac), (.int .i64 x.mn), (.int .i64 x.mx), (.bool x.neg)])) (c := #[(.int .i64 x.kind), (.slice xsa x.set.length xsc), (.slice xaa x.args.length xac), (.int .i64 x.mn), (.int .i64 x.mx), (.bool x.neg)]) (n := 6) (by decide) zer25 rfl siz25 rfl rfl rfl (by simp [Value.oneCell']) ?_
      intro bs ws Ns
      have Fs := Ns.ge E
      have Os_br := Ns.lt Br
      have Os_bo := Ns.lt Bo
      replace Br := Ns.keep Br
      replace Bo := Ns.keep Bo
      replace hown := own_ext hown Ns.ext
      replace hR := RowsIn.ext Ns.ext hR
      replace hbs := Nat.le_trans hbs Ns.ext.size
      replace E := E.ext Ns.ext
      have Bs := Ns.blk
      refine WpL_nil ?_
      refine Wp_region ?_
      refine WpL_val rfl rfl (by decide) (r_move (v := (.slice la k lc)) rfl) ?_
      refine WpL_val rfl rfl (by decide) (r_move (v := fv) rfl) ?_
      refine WpL_val rfl rfl (by decide) (r_loadAgg (vs := [(.int .i64 x.kind), (.slice xsa x.set.length xsc), (.slice xaa x.args.length xac), (.int .i64 x.mn), (.int .i64 x.mx), (.bool x.neg)]) rfl agg25 siz25 rfl (Bs.cells rfl)) ?_
      obtain ⟨n1, hn1⟩ : ∃ n1, n1 = ws.heap.size := ⟨_, rfl⟩
      have hD1 : ∀ b, D b → base ≤ b ∧ b < ws.heap.size := fun b hb => by have := hD b hb; have := Ns.ext.size; omega
      have hRs := hR
      refine WpL_callV (fv := fv) (vs := [(.agg #[(.int .i64 x.kind), (.slice xsa x.set.length xsc), (.slice xaa x.args.length xac), (.int .i64 x.mn), (.int .i64 x.mx), (.bool x.neg)])]) (by decide) rfl rfl (hf _ x _ E hxm (ReIn.ext E x hrx0)) ?_
      rintro _ w9 ⟨us, rfl, hus, X9⟩
      replace Br := X9.keep Br
      replace Bo := X9.keep Bo
      replace Bs := X9.keep Bs
      replace hown := own_ext hown X9
      replace hbs := Nat.le_trans hbs X9.size
      replace E := E.ext X9
      rw [← hn1] at hus
      have hus0 := hus
      obtain ⟨usa, usc, uaa, uac, rfl, _, _, _⟩ := hus.form
      have Y9 : Ext ws (w9) := X9
      refine s_buildSlice (ps := [(0, (.agg #[(.int .i64 ((g x).kind)), (.slice usa ((g x).set.length) usc), (.slice uaa ((g x).args.length) uac), (.int .i64 ((g x).mn)), (.int .i64 ((g x).mx)), (.bool ((g x).neg))]))]) (c := #[(.int .i64 ((g x).kind)), (.slice usa ((g x).set.length) usc), (.slice uaa ((g x).args.length) uac), (.int .i64 ((g x).mn)), (.int .i64 ((g x).mx)), (.bool ((g x).neg))]) (by decide) rfl Try.underlying23 siz25 zer25 (by decide) (by decide) (by kernel_rfl) ?_
      intro bq wq Nq
      have Fq := Nq.ge E
      have Oq_br := Nq.lt Br
      have Oq_bo := Nq.lt Bo
      have Oq_bs := Nq.lt Bs
      replace Br := Nq.keep Br
      replace Bo := Nq.keep Bo
      replace Bs := Nq.keep Bs
      replace hown := own_ext hown Nq.ext
      replace hbs := Nat.le_trans hbs Nq.ext.size
      replace Y9 := Ext.trans Y9 Nq.ext
      replace hus0 := ReIn.ext Nq.ext _ hus0
      replace E := E.ext Nq.ext
      have Bq := Nq.blk
      refine s_append (base := base) (n := k) (m := 1) (xs := rows.flatten) (news := [(.int .i64 ((g x).kind)), (.slice usa ((g x).set.length) usc), (.slice uaa ((g x).args.length) uac), (.int .i64 ((g x).mn)), (.int .i64 ((g x).mx)), (.bool ((g x).neg))]) (size := 6) (bytes := 80) (v := (.slice la k lc)) (by decide) Try.underlying23 siz25 byt25 zer25 rfl (by decide) rfl hown rfl (rfl) (Bq.cells rfl) (by simp [Value.oneCell']) (by unfold maxLen; omega) (by omega) (hbs) ?_
      intro v9 w29 Ov9 Cv9 Dv9
      replace Br := Cv9.keep (fun h => by have := (hown.lt _ h).1; omega) Br
      replace Bo := Cv9.keep (fun h => by have := (hown.lt _ h).1; omega) Bo
      replace E := E.step Cv9 (fun x hx h => absurd (hown.lt x h).1 (by omega))
      obtain ⟨la2, lc2, rfl⟩ := own_form Ov9
      have hstep := map_step (base := base) (n1 := n1) hRs Y9 hn1 hSb hD1 (fun q hq => ⟨hv q hq, by have := hlt3 q hq; have := Ns.ext.size; omega⟩) hus0 Cv9 Dv9 (by have := Ns.ext.size; omega)
      refine WpL_val rfl rfl (by decide) (r_assign (v := (.slice la2 (k + 1) lc2)) rfl) ?_
      refine WpL_nil ?_
      refine inB_normal ?_
      refine thn_normal ?_
      refine Wp_region ?_
      refine WpL_val rfl rfl (by decide) (r_add (k := .i64) (a := ((k : Nat) : Int)) (b := 1) (c := ((k : Nat) : Int) + 1) rfl rfl (wI64 (by omega))) ?_
      refine WpL_val rfl rfl (by decide) (r_move (v := (.int .i64 (((k : Nat) : Int) + 1))) rfl) ?_
      refine WpL_nil ?_
      refine thn_normal ?_
      exact ⟨t.args.length - (k + 1), by omega, k + 1, la2, lc2, rows ++ [[.int .i64 (g x).kind, .slice usa (g x).set.length usc, .slice uaa (g x).args.length uac, .int .i64 (g x).mn, .int .i64 (g x).mx, .bool (g x).neg]], (fun b => D b ∨ (n1 ≤ b ∧ b < wq.heap.size)), Fits.out ⟨rfl, rfl, rfl, rfl, rfl, rfl, rfl, trivial⟩, E, Br, Bo, (by omega), (by simpa using Ov9), (by rw [List.take_add_one, hx, List.map_append]; exact hstep.1), hstep.2.1, hstep.2.2, Nat.le_trans hbs Cv9.size, rfl⟩
    · have khlt := hlt
      replace hlt := of_decide_eq_false hlt
      have hkk : k = t.args.length := by omega
      subst hkk
      rw [List.take_length] at hR
      obtain ⟨hcl, hcells⟩ := own_res hown hR (by simp)
      have hset9 : SlIn (fun y => S y ∨ base ≤ y) (W1) 2 (.slice sa t.set.length sc) (t.set.map spanV) := (SlIn.chg hset E (fun _ _ f => f)).mono (fun y hy => Or.inl hy)
      have hC9 : Chg (fun y => y = bo ∨ y = br) (W1) (W1) := Chg.refl _ _
      refine Wp_exit ?_
      refine thn_exit ?_
      refine thn_exit ?_
      refine inB_here ?_
      refine thn_normal ?_
      refine Wp_seq_region ?_
      refine WpL_val rfl rfl (by decide) (r_move (v := (.slice la t.args.length lc)) rfl) ?_
      refine WpL_val rfl rfl (by decide) (r_fieldAddr (b := br) (o := 0) (o' := 2) rfl Try.underlying25 rfl siz23 rfl) ?_
      refine s_store (b := br) (o := 2) (c' := #[(.int .i64 t.kind), (.slice sa t.set.length sc), (.slice la t.args.length lc), (.int .i64 t.mn), (.int .i64 t.mx), (.bool t.neg)]) (v := (.slice la t.args.length lc)) rfl rfl rfl siz23 Br (by simp) rfl ?_
      intro w3 S3
      replace hC9 := hC9.step S3.chg (fun y _ h => by first | exact .inl h | exact .inr h)
      replace Bo := S3.keep (by omega) Bo
      replace E := S3.step E (by first | exact Or.inl (by omega) | exact Or.inr rfl | exact Or.inr (by assumption) | exact Or.inr (by simp) | exact Or.inr (by omega) | exact Or.inr (by dsimp only; omega))
      replace Br := S3.blk
      refine WpL_nil ?_
      refine Wp_seq_region ?_
      refine WpL_val rfl rfl (by decide) (r_loadAgg (vs := [(.int .i64 t.kind), (.slice sa t.set.length sc), (.slice la t.args.length lc), (.int .i64 t.mn), (.int .i64 t.mx), (.bool t.neg)]) rfl agg25 siz25 rfl (Br.cells rfl)) ?_
      refine s_storeAgg (b := bo) (o := 0) (c' := #[(.int .i64 t.kind), (.slice sa t.set.length sc), (.slice la t.args.length lc), (.int .i64 t.mn), (.int .i64 t.mx), (.bool t.neg)]) rfl rfl (by simp [Value.oneCell']) siz25 rfl Bo (by simp) rfl ?_
      intro w4 S4
      replace hC9 := hC9.step S4.chg (fun y _ h => by first | exact .inl h | exact .inr h)
      replace Br := S4.keep (by omega) Br
      replace E := S4.step E (by first | exact Or.inl (by omega) | exact Or.inr rfl | exact Or.inr (by assumption) | exact Or.inr (by simp) | exact Or.inr (by omega) | exact Or.inr (by dsimp only; omega))
      replace Bo := S4.blk
      refine WpL_nil ?_
      refine Wp_ret ?_
      refine fin_agg Try.results19 (vs := [(.int .i64 t.kind), (.slice sa t.set.length sc), (.slice la t.args.length lc), (.int .i64 t.mn), (.int .i64 t.mx), (.bool t.neg)]) (b := bo) rfl agg25 siz25 rfl (Bo.cells rfl) ?_
      refine ⟨_, rfl, ?_, E⟩
      have hlm : (t.args.map g).length = t.args.length := by simp
      have hne : ∀ y, (S y ∨ base ≤ y) → ¬ (y = bo ∨ y = br) := by
        rintro y (h | h) (h2 | h2)
        · have := hSb y h; have := hS y h; omega
        · have := hSb y h; have := hS y h; omega
        · omega
        · omega
      refine re_cong (by simp) (ReIn.mono (S := fun y => S y ∨ base ≤ y) (fun y hy => hy.imp id (fun h => by omega)) _ (ReIn.chg hC9 hne _ (ReIn.of (set := t.set) (args := t.args.map g) hset9 (by rw [hlm]; exact hcl) ?_)))
      rcases hcells with h | ⟨gb, h1, h2, h3, h4⟩
      · exact .inl h
      · exact .inr ⟨gb, 0, .inr h1, h3, resin_of fun i u hu => by obtain ⟨us, h5, h6⟩ := h4 i u hu; exact ⟨us, h5, ReIn.mono (fun y hy => hy.imp id (fun h => (hD y h).1)) u h6⟩⟩
end Go.Proofs
