/- Contracts and plain lemmas, part 4. -/
import Derived.Tactics
import Derived.Deep.Quiet
import Derived.Laws.AppendOwn
import Derived.KernelRfl
import Derived.Laws.Entries
import Derived.Laws.Build
import Derived.Below
import Derived.RowKit3
import Derived.StillTail
import Derived.Sort.Grow
import Derived.Deep.Draws
import Derived.Test.YtllhcafmcbibbaaChecked
import Derived.Laws.StructEq
import Derived.MapKept
import Derived.Laws.BytesArg
import Derived.DeepKeys3
import Derived.Defers
import Derived.Recover
import Derived.Shelf.Sort.Plain
import Derived.Shelf.Slices.CompactI
import Derived.Test.YtllhcafmcbibbaaProg
import Derived.Shelf.Small.Bits
import Derived.OpenShut
import Derived.ChangeSlices
import Derived.Test.YtllhcafmcbibbaaRows
import Derived.Test.YtllhcafmcbibbaaZm3
namespace Go.Proofs
open Go Go.Eng Go.Sort
set_option maxRecDepth 100000
theorem growi_c (w0 : World) (n : Nat) (hn : n ≤ 8796093022208) :
  Ret Try.prog 94 #[.slice none 0 0, .int .i64 ((n : Nat) : Int)] w0 fun r w => (∃ a c, r = .slice a 0 c) ∧ w.ownsRow w0.heap.size TDI 1 r 0 [] ∧ Ext w0 w := by
 refine Ret_of Try.func94 rfl Try.ntmps94 (Nat.le_of_ble_eq_true rfl) ?_
 have E : Chg none1 w0 w0 := Chg.refl _ _
 refine Wp_seq_region ?_
 refine qA _ rfl ?_
 refine WpL_nil (Wp_seq (Wp_seq_region ?_))
 refine qM _ rfl ?_
 refine qV (r_lss rfl rfl) ?_
 refine WpL_nil ?_
 have hc1 : (decide ((((n : Nat) : Int) : Int) < 0)) = false := decide_eq_false (by omega)
 refine Wp_cond_false (congrArg Value.bool hc1) ?_
 refine Wp_skip (thn_normal (Wp_seq (Wp_seq_region ?_)))
 refine qM _ rfl ?_
 refine qM _ rfl ?_
 refine qV (r_capSlice (n := 0) (cap := 0) Try.underlying26 rfl) ?_
 refine qM _ rfl ?_
 refine qV (r_lenSlice Try.underlying26 rfl) ?_
 refine qV (r_sub (c := 0) rfl rfl (by decide)) ?_
 refine qV (r_sub (c := (n : Int)) rfl rfl ((wI64 (by omega)).trans (by omega))) ?_
 refine qA _ rfl ?_
 refine WpL_nil (Wp_seq_region ?_)
 refine qM _ rfl ?_
 refine qV (r_gtr rfl rfl) ?_
 refine WpL_nil ?_
 refine Wp_cond rfl (fun hp => ?_) (fun hp => ?_)
 ·have khp := hp
  replace hp := of_decide_eq_true hp
  refine Wp_region ?_
  refine qM _ rfl ?_
  refine qM _ rfl ?_
  refine qV (r_capSlice (n := 0) (cap := 0) Try.underlying26 rfl) ?_
  obtain ⟨a1, ha1⟩ : ∃ a' : Option Addr, (if 0 = 0 then none else Option.map (fun q : Addr => q.add (0 * 1)) none) = a' := ⟨_, rfl⟩
  refine qV (r_sliceHi (hi := 0) Try.underlying26 siz3 rfl rfl (by omega) (by omega) ha1) ?_
  refine qM _ rfl ?_
  simp at ha1
  subst ha1
  refine s_appendZ (base := w0.heap.size) (n := n) (size := 1) (bytes := 8) (by decide) Try.underlying26 Try.underlying3 siz3 byt3 zer3 rfl (by decide) rfl rfl (by omega) (by omega) (by omega) ?_
  intro cc w9 X9 O9 H9
  replace E := E.ext X9
  refine qM _ rfl ?_
  refine qV (r_lenSlice Try.underlying26 rfl) ?_
  obtain ⟨a2, ha2⟩ : ∃ a' : Option Addr, (if cc = 0 then (some ⟨w0.heap.size, 0, none⟩) else Option.map (fun q : Addr => q.add (0 * 1)) (some ⟨w0.heap.size, 0, none⟩)) = a' := ⟨_, rfl⟩
  refine qV (r_sliceHi (hi := 0) Try.underlying26 siz3 rfl rfl (by omega) (by omega) ha2) ?_
  have ha3 : a2 = some ⟨w0.heap.size, 0, none⟩ := by rw [← ha2, if_neg (by omega)]; simp [Addr.add_lit]
  subst ha3
  refine qA _ rfl ?_
  refine WpL_nil (thn_normal (Wp_seq_region ?_))
  refine qM _ rfl ?_
  refine qA _ rfl ?_
  refine WpL_nil (Wp_ret ?_)
  refine fin_tmp Try.results94 (v := (.slice (some ⟨w0.heap.size, 0, none⟩) 0 cc)) rfl ?_
  exact ⟨⟨_, _, rfl⟩, O9, E⟩
 ·have khp := hp
  replace hp := of_decide_eq_false hp
  refine Wp_skip (thn_normal (Wp_seq_region ?_))
  refine qM _ rfl ?_
  refine qA _ rfl ?_
  refine WpL_nil (Wp_ret ?_)
  refine fin_tmp Try.results94 (v := (.slice none 0 0)) rfl ?_
  exact ⟨⟨none, 0, rfl⟩, World.ownsRow_nil _ _ _ _, E⟩
theorem ilens_take {ll : List (List Int)} {k : Nat} {l : List Int} (h : ll[k]? = some l) : (ll.take (k + 1)).flatten = (ll.take k).flatten ++ l := by
 rw [List.take_add_one, h]; simp
theorem ilens_le (ll : List (List Int)) (k : Nat) : (ll.take k).flatten.length ≤ ll.flatten.length := by
 have h : ll.flatten = (ll.take k).flatten ++ (ll.drop k).flatten := by rw [← List.flatten_append, List.take_append_drop]
 rw [h, List.length_append]; omega
theorem ints_one (l : List Int) : ∀ x ∈ l.map (Value.int .i64), x.oneCell' = true := by
 intro x hx
 obtain ⟨y, _, rfl⟩ := List.mem_map.1 hx
 rfl
set_option maxHeartbeats 1000000 in
theorem concati_c (w0 : World) (v : Value) (ll : List (List Int)) (h : IntssAt w0 v ll) (hl : ll.flatten.length ≤ 8796093022208) :
  Ret Try.prog 61 #[v] w0 fun r w => (∃ a c, r = .slice a ll.flatten.length c) ∧ w.ownsRow w0.heap.size TDI 1 r ll.flatten.length (ll.flatten.map (Value.int .i64)) ∧ Ext w0 w := by
 obtain ⟨a, c, rfl, _, hle⟩ := h.form
 obtain ⟨base, hbase⟩ : ∃ base, base = w0.heap.size := ⟨_, rfl⟩
 rw [← hbase]
 refine Ret_of Try.func61 rfl Try.ntmps61 (Nat.le_of_ble_eq_true rfl) ?_
 have E : Chg none1 w0 w0 := Chg.refl _ _
 refine Wp_seq_region ?_
 refine qA _ rfl ?_
 refine WpL_nil (Wp_seq_region ?_)
 refine qA _ rfl ?_
 refine WpL_nil (Wp_seq (Wp_seq_region ?_))
 refine qM _ rfl ?_
 refine qV (r_lenSlice Try.underlying42 rfl) ?_
 refine qM _ rfl ?_
 refine WpL_nil (Wp_block ?_)
 refine Wp_loop (fun nn_ σ W1 => ∃ (k : Nat) (n : Nat), (∃ jj_, σ = upds jj_ [(0, (.slice a ll.length c)), (9, (.slice a ll.length c)), (10, (I6 (ll.length : Int))), (11, (I6 (k : Int))), (3, (I6 (n : Int)))]) ∧ Chg none1 w0 W1 ∧ (k ≤ ll.length) ∧ (n = (ll.take k).flatten.length) ∧ nn_ = ll.length - k) (n := ll.length - 0) ?_ ?_
 ·exact ⟨0, 0, Fits.out ⟨rfl, rfl, rfl, rfl, rfl, trivial⟩, E, Nat.zero_le _, rfl, rfl⟩
 ·clear E
  rintro _ _ W1 ⟨k, n, ⟨j1, rfl⟩, E, hk, hn, rfl⟩
  refine Wp_seq_region ?_
  refine qV (r_lss rfl rfl) ?_
  refine WpL_nil (Wp_seq ?_)
  refine Wp_cond rfl (fun hlt => ?_) (fun hlt => ?_)
  ·have khlt := hlt
   replace hlt := of_decide_eq_true hlt
   obtain ⟨l, hx⟩ := get_of_lt (l := ll) (i := k) (by omega)
   obtain ⟨b, o, rfl, hcl⟩ := intss_cells h (by omega)
   obtain ⟨ra, rc, hcell, hsp⟩ := hcl k l hx
   have hn1 := ilens_le ll (k + 1)
   rw [ilens_take hx, List.length_append] at hn1
   refine Wp_skip (thn_normal (Wp_seq (Wp_block (Wp_seq_region ?_))))
   refine qV (r_indexSlice (b := b) (o := o) (len := ll.length) (cap := c) (i := k) (o' := o + k) rfl rfl rfl Try.underlying42 siz26 (by omega) (by omega)) ?_
   refine qV (r_load rfl flat26 (E.cell (fun f => f) hcell)) ?_
   refine qA _ rfl ?_
   refine WpL_nil (Wp_seq_region ?_)
   refine qM _ rfl ?_
   refine qM _ rfl ?_
   refine qV (r_lenSlice Try.underlying26 rfl) ?_
   refine qV (r_add (c := ((n + l.length : Nat) : Int)) rfl rfl ((wI64 (by omega)).trans (by omega))) ?_
   refine qA _ rfl ?_
   refine WpL_nil (Wp_seq_region ?_)
   refine qM _ rfl ?_
   refine qV (r_lss rfl rfl) ?_
   refine WpL_nil ?_
   have hc3 : (decide ((((n + l.length : Nat) : Int) : Int) < 0)) = false := decide_eq_false (by omega)
   refine Wp_cond_false (congrArg Value.bool hc3) ?_
   refine Wp_skip (inB_normal (thn_normal (Wp_region ?_)))
   refine qV (r_add rfl rfl (wI64 (by omega))) ?_
   refine qM _ rfl ?_
   refine WpL_nil (thn_normal ?_)
   exact ⟨ll.length - (k + 1), by omega, k + 1, n + l.length, Fits.out ⟨rfl, rfl, rfl, rfl, rfl, trivial⟩, E, (by omega), (by rw [ilens_take hx, List.length_append, hn]), rfl⟩
  ·have khlt := hlt
   replace hlt := of_decide_eq_false hlt
   have hkk : k = ll.length := by omega
   have hn2 := ilens_le ll k
   have hs0 := E.size
   refine Wp_exit (thn_exit (thn_exit (inB_here (thn_normal (Wp_seq_region ?_)))))
   refine qM _ rfl ?_
   refine WpL_enter rfl rfl (by decide) (r_callF Try.func94 kQ kQ rfl) (growi_c _ n (by omega)) ?_
   rintro _ w9 ⟨⟨ga, gc, rfl⟩, O9, X9⟩
   replace E := E.ext X9
   have hO9 : w9.ownsRow base TDI 1 (.slice ga 0 gc) 0 [] := own_low O9 (by omega)
   refine qA _ rfl ?_
   refine WpL_nil (Wp_seq (Wp_seq_region ?_))
   refine qM _ rfl ?_
   refine qV (r_lenSlice Try.underlying42 rfl) ?_
   refine qM _ rfl ?_
   refine WpL_nil (Wp_block ?_)
   refine Wp_loop (fun nn_ σ W4 => ∃ (i : Nat) (la : Option Addr) (lc : Nat) (m : Nat), (∃ jj_, σ = upds jj_ [(25, (.slice a ll.length c)), (26, (I6 (ll.length : Int))), (27, (I6 (i : Int))), (6, (.slice la m lc))]) ∧ Chg none1 w0 W4 ∧ (i ≤ ll.length) ∧ (m = (ll.take i).flatten.length) ∧ (W4.ownsRow base TDI 1 (.slice la m lc) m (((ll.take i).flatten).map (Value.int .i64))) ∧ (base ≤ W4.heap.size) ∧ nn_ = ll.length - i) (n := ll.length - 0) ?_ ?_
   ·exact ⟨0, ga, gc, 0, Fits.out ⟨rfl, rfl, rfl, rfl, trivial⟩, E, Nat.zero_le _, rfl, hO9, (by have := E.size; omega), rfl⟩
   ·clear E
    rintro _ _ W4 ⟨i, la, lc, m, ⟨j4, rfl⟩, E, hi, hm, hown, hbs, rfl⟩
    refine Wp_seq_region ?_
    refine qV (r_lss rfl rfl) ?_
    refine WpL_nil (Wp_seq ?_)
    refine Wp_cond rfl (fun hlt2 => ?_) (fun hlt2 => ?_)
    ·have khlt2 := hlt2
     replace hlt2 := of_decide_eq_true hlt2
     obtain ⟨l, hx⟩ := get_of_lt (l := ll) (i := i) (by omega)
     obtain ⟨b, o, rfl, hcl⟩ := intss_cells h (by omega)
     obtain ⟨ra, rc, hcell, hsp⟩ := hcl i l hx
     have hn1 := ilens_le ll (i + 1)
     rw [ilens_take hx, List.length_append] at hn1
     have hmc : m ≤ lc := own_le hown
     rcases Bool.eq_false_or_eq_true (decide (l.length = 0)) with hz | hz
     ·have khz := hz
      replace khz := of_decide_eq_true khz
      refine Wp_skip (thn_normal (Wp_seq (Wp_block (Wp_seq_region ?_))))
      refine qV (r_indexSlice (b := b) (o := o) (len := ll.length) (cap := c) (i := i) (o' := o + i) rfl rfl rfl Try.underlying42 siz26 (by omega) (by omega)) ?_
      refine qV (r_load rfl flat26 (E.cell (fun f => f) hcell)) ?_
      refine qA _ rfl ?_
      refine WpL_nil (Wp_region ?_)
      refine qM _ rfl ?_
      refine qM _ rfl ?_
      refine qV (r_append0 Try.underlying26 siz3 (a' := ra) (c' := rc) rfl hmc (by show Value.slice ra l.length rc = _; rw [khz])) ?_
      refine qA _ rfl ?_
      refine WpL_nil (inB_normal (thn_normal (Wp_region ?_)))
      refine qV (r_add rfl rfl (wI64 (by omega))) ?_
      refine qM _ rfl ?_
      refine WpL_nil (thn_normal ?_)
      have hl0 : l = [] := List.eq_nil_of_length_eq_zero khz
      exact ⟨ll.length - (i + 1), by omega, i + 1, la, lc, m, Fits.out ⟨rfl, rfl, rfl, rfl, trivial⟩, E, (by omega), (by rw [ilens_take hx, hl0, List.append_nil, hm]), (by rw [ilens_take hx, hl0, List.append_nil]; exact hown), hbs, rfl⟩
     ·have khz := hz
      replace khz := of_decide_eq_false khz
      obtain ⟨rb, ro, rfl, hrc⟩ := ints_cells hsp (by omega)
      have hrc2 : CellsAt w0 rb ro (l.map (Value.int .i64)) := fun j u hu => by rw [List.getElem?_map, Option.map_eq_some_iff] at hu; obtain ⟨y, hy, rfl⟩ := hu; exact hrc j y hy
      refine Wp_skip (thn_normal (Wp_seq (Wp_block (Wp_seq_region ?_))))
      refine qV (r_indexSlice (b := b) (o := o) (len := ll.length) (cap := c) (i := i) (o' := o + i) rfl rfl rfl Try.underlying42 siz26 (by omega) (by omega)) ?_
      refine qV (r_load rfl flat26 (E.cell (fun f => f) hcell)) ?_
      refine qA _ rfl ?_
      refine WpL_nil (Wp_region ?_)
      refine qM _ rfl ?_
      refine qM _ rfl ?_
      refine s_append (base := base) (n := m) (m := l.length) (xs := (((ll.take i).flatten).map (Value.int .i64))) (news := l.map (Value.int .i64)) (size := 1) (bytes := 8) (v := (.slice la m lc)) (by decide) Try.underlying26 siz3 byt3 zer3 rfl (by decide) rfl hown rfl (by simp) (hrc2.ext E) (ints_one l) (by unfold maxLen; omega) (by omega) (hbs) ?_
      intro v9 w29 Ov9 Cv9 Dv9
      replace E := E.step Cv9 (fun x hx h => absurd (hown.lt x h).1 (by omega))
      obtain ⟨la2, lc2, rfl⟩ := own_form Ov9
      refine qA _ rfl ?_
      refine WpL_nil (inB_normal (thn_normal (Wp_region ?_)))
      refine qV (r_add rfl rfl (wI64 (by omega))) ?_
      refine qM _ rfl ?_
      refine WpL_nil (thn_normal ?_)
      exact ⟨ll.length - (i + 1), by omega, i + 1, la2, lc2, m + l.length, Fits.out ⟨rfl, rfl, rfl, rfl, trivial⟩, E, (by omega), (by rw [ilens_take hx, List.length_append, hm]), (by rw [ilens_take hx, List.map_append]; exact Ov9), Nat.le_trans hbs Cv9.size, rfl⟩
    ·have khlt2 := hlt2
     replace hlt2 := of_decide_eq_false hlt2
     have hii : i = ll.length := by omega
     refine Wp_exit (thn_exit (thn_exit (inB_here (thn_normal (Wp_seq_region ?_)))))
     refine qM _ rfl ?_
     refine qA _ rfl ?_
     refine WpL_nil (Wp_ret ?_)
     refine fin_tmp Try.results61 (v := (.slice la m lc)) rfl ?_
     rw [hii, List.take_length] at hown hm
     subst hm
     exact ⟨⟨la, lc, rfl⟩, hown, E⟩
theorem intss_blk {w : World} {b T n : Nat} {vs : List Value} {ll : List (List Int)} (hB : Blk w b vs.toArray T) (hl : vs.length = ll.length) (hn : vs.length = n) (hm : n ≤ 1000000) (h : ∀ (i : Nat) u l, vs[i]? = some u → ll[i]? = some l → IntsAt w u l) : IntssAt w (.slice (some ⟨b, 0, none⟩) n n) ll := by
 refine ⟨vs, ?_, hl, h⟩
 subst hn
 have := slat_of_blk (w := w) (b := b) (t := T) (k := 1) (cap := vs.length) (rows := vs.map fun x => [x]) (by rw [show (vs.map fun x => [x]).flatten = vs by simp [List.flatten_eq_flatMap, List.flatMap_map]]; exact hB) (by intro r hr; simp only [List.mem_map] at hr; obtain ⟨x, _, rfl⟩ := hr; rfl) (by simp; omega) (by simp)
 simpa using this
end Go.Proofs
namespace Go.Eng
open Go
theorem Wp_cutT {P : Program} {N : Nat} {Q : Post} {σ : Env} {w : World} {x : Code} {K : Env → World → Prop} (J : Env → World → Prop) (h : Wp P N x (thn J Q) σ w) (k : ∀ σ' w', J σ' w' → K σ' w') : Wp P N x (thn K Q) σ w :=
 Wp_mono h fun e σ' w' q => by cases e <;> first | exact k _ _ q | exact q
theorem finX_ret {P : Program} {ch : List PanicEntry} {fn : Func} {R : Value → World → Prop} {X : World → Prop} {σ : Env} {w : World} (h : fin P fn R .ret σ w) : finX P ch fn R X .ret σ w := h
section
variable {P : Program} {N : Nat} {Q : Post} {σ : Env} {w : World} {K : Env → World → Prop} {ops : Array Oper} {rest : List Oper}
theorem WpL_panic {o : Oper} (hg : o.guard = none) {v : Value} (hr : (execOp (ev σ) o).run P w = .halt (.panic v) w) (k : Q (.panic [{ v, recovered := false }]) σ w) : WpL P N ops K Q (o :: rest) σ w := by
 intro dz a ha he
 refine wpList_plain hg fun K' hK => ?_
 unfold Oper.wp
 rw [eval_env, he, hr]
 simp only [Oper.upon]
 exact ⟨ha, by rw [he]; exact k⟩
theorem r_panic {dst : Option Tmp} {ty : TypeId} {pos : String} {af : Array Edge} {g : Option (Nat × Bool)} {x : Operand} {u : TypeId} {v : Value} (hx : ev σ x = .iface u v) : (execOp (ev σ) ⟨dst, .panic x, ty, pos, af, g⟩).run P w = .halt (.panic (.iface u v)) w := by
 simp [execOp, hx, Instr.panic]
theorem r_makeIface {dst : Option Tmp} {ty : TypeId} {pos : String} {af : Array Edge} {g : Option (Nat × Bool)} {x : Operand} {t : TypeId} {fs : Array Field} {v : Value} (hu : P.underlying t = some (.struct fs)) (hx : ev σ x = v) : (execOp (ev σ) ⟨dst, .makeInterface t x, ty, pos, af, g⟩).run P w = .ok (.value (.iface t v)) w := by
 subst hx; simp [execOp, Instr.makeInterface, run_underlying hu]
end
/-- Where the body ends with the deferred call d still to be made. -/
def finD (P : Program) (fn : Func) (R : Ending → World → Prop) (d : Deferred) : Post
  | .normal, σ, w | .ret, σ, w => ∀ a : Act, env a = σ → Leaves P fn a.tmps R [d] .returning w
  | .panic ch, σ, w => ∀ a : Act, env a = σ → Leaves P fn a.tmps R [d] (.panicking ch) w
  | _, _, _ => False
def WpA (P : Program) (N : Nat) (c : Code) (Q : Exit → Act → World → Prop) (σ : Env) (w : World) : Prop := ∀ a, Ok [] N a → env a = σ → c.wp P Q a w
def WpLA (P : Program) (N : Nat) (ops : Array Oper) (Q : Exit → Act → World → Prop) (l : List Oper) (σ : Env) (w : World) : Prop := ∀ a, Ok [] N a → env a = σ → wpList P ops Q l a w
section
variable {P : Program} {N : Nat} {QA : Exit → Act → World → Prop} {σ : Env} {w : World} {ops : Array Oper} {rest : List Oper} {y : Code}
theorem CallsA_of {f : FuncId} {fn : Func} {c : Code} {args : Array Value} {R : Ending → World → Prop}
  (hf : P.funcs[f]? = some fn) (hb : fn.body = some c) (hn : fn.ntmps = N) (hsz : args.size ≤ N)
  (h : WpA P N c (bodyPostD P fn R) (fun t => args.getD t undef) w) : Calls P f args w R := by
 refine calls_of_wp_defers hf hb (h _ ⟨?_, rfl⟩ ?_)
 ·simp [hn]; omega
 ·funext t
  simp only [env, Array.getD_eq_getD_getElem?, Array.getElem?_append]
  split
  ·rfl
  ·rename_i hlt
   rw [Array.getElem?_replicate, Array.getElem?_eq_none (xs := args) (by omega)]
   split <;> rfl
theorem WpA_seq_region {id : Nat} {l : List Oper} (h : WpL P N l.toArray (WpA P N y QA) (fun _ _ _ => False) l σ w) : WpA P N (.seq (.region id l.toArray false) y) QA σ w := fun a ha he => by
 refine wp_seq (Code.wp_mono ?_ (wp_region_lit (h [] a ha he)))
 rintro e a' w' ⟨o, q⟩
 cases e <;> first | exact q a' o rfl | exact (show False from q).elim
theorem WpA_seq_regionD {id : Nat} {l : List Oper} (h : WpLA P N l.toArray (Exit.then (y.wp P QA) QA) l σ w) : WpA P N (.seq (.region id l.toArray false) y) QA σ w := fun a ha he => wp_seq (wp_region_lit (h a ha he))
theorem WpLA_val {o : Oper} (hg : o.guard = none) {d : Nat} (hd : o.dst = some d) (hN : d < N) {v : Value} {w' : World}
  (hr : (execOp (ev σ) o).run P w = .ok (.value v) w') (k : WpLA P N ops QA rest (upd σ d v) w') : WpLA P N ops QA (o :: rest) σ w := by
 intro a ha he
 refine wpList_plain hg fun K' hK => ?_
 unfold Oper.wp
 rw [eval_env, he, hr]
 simp only [Oper.upon, hd]
 exact hK _ _ (k _ (ha.put _ _) (by rw [env_put ha hN, he]))
theorem WpLA_defer {fn : Func} {R : Ending → World → Prop} {o : Oper} {d : Deferred} (hg : o.guard = none) (hd : o.dst = none)
  (hr : (execOp (ev σ) o).run P w = .ok (.defer d) w) (k : Wp P N y (finD P fn R d) σ w) : WpLA P N ops (Exit.then (y.wp P (bodyPostD P fn R)) (bodyPostD P fn R)) [o] σ w := by
 intro a ha he
 refine wpList_plain hg fun K' hK => ?_
 unfold Oper.wp
 rw [eval_env, he, hr]
 simp only [Oper.upon, hd]
 refine hK _ _ ?_
 have hd0 := ha.defers
 have h1 := k [d] { a with defers := d :: a.defers } ⟨ha.size, by simp [hd0]⟩ (by rw [← he]; rfl)
 show y.wp P (bodyPostD P fn R) { a with defers := d :: a.defers } w
 refine Code.wp_mono ?_ h1
 rintro e a' w' ⟨o', q⟩
 have ho := o'.defers
 cases e <;> simp only [finD] at q <;> simp only [bodyPostD]
 ·rw [ho]; exact q a' rfl
 ·rw [ho]; exact q a' rfl
 ·rw [ho]; exact q a' rfl
theorem r_defer {ty : TypeId} {pos : String} {af : Array Edge} {g : Option (Nat × Bool)} {x : Operand} {ts : Array TypeId} {f : FuncId} {cap : Array Value} (hx : ev σ x = .func (.func f) #[] cap) : (execOp (ev σ) ⟨none, .defer ⟨.value x, #[], ts⟩, ty, pos, af, g⟩).run P w = .ok (.defer { target := .fn (.func f) cap, args := #[] }) w := by
 simp [execOp, resolve, hx, Deferred.ofValue]
theorem leaves_end {fn : Func} {tmps : Array Value} {R : Ending → World → Prop} {d : Deferred} {f : FuncId} {cap : Array Value} {u : FrameMode} {X : World → Prop} (hd : d = { target := .fn (.func f) cap, args := #[] }) (hu : u ≠ .run)
  (hi : (callFunc f cap).run P w = .ok (.enter f cap) w) (hc : CallsD P f cap u w fun e u' w' => (∃ r, e = .returned r) ∧ settle u' = .returning ∧ X w') (hX : ∀ w', X w' → ∃ v, (results fn tmps).run P w' = .ok v w' ∧ R (.returned v) w') : Leaves P fn tmps R [d] u w := by
 subst hd
 refine leaves_cons (f := f) (args := cap) hu (by simpa [invoke] using hi) (hc.mono ?_)
 rintro e u' w' ⟨⟨r, rfl⟩, h1, h2⟩
 simp only
 rw [h1]
 exact hX w' h2
end
theorem r_recover {P : Program} {w : World} {ρ : Operand → Value} {dst : Option Tmp} {ty : TypeId} {pos : String} {af : Array Edge} {g : Option (Nat × Bool)} {ts : Array TypeId} : (execOp ρ ⟨dst, .call ⟨.builtin .recover, #[], ts⟩, ty, pos, af, g⟩).run P w = .ok .recover w := by
 simp [execOp, resolve, invoke, builtin]
section
variable {P : Program} {σ : Env} {w : World} {dst : Option Tmp} {ty : TypeId} {pos : String} {af : Array Edge} {g : Option (Nat × Bool)} {x : Operand} {t s : TypeId} {v : Value} {fs : Array Field}
theorem r_assertYes (hu : P.underlying t = some (.struct fs)) (hx : ev σ x = .iface t v) : (execOp (ev σ) ⟨dst, .typeAssert x s t true, ty, pos, af, g⟩).run P w = .ok (.value (.tuple #[v, .bool true])) w := by
 simp [execOp, hx, Instr.typeAssert, run_underlying hu]
theorem r_assertNil (hu : P.underlying t = some (.struct fs)) (hz : Zer P t v) (hx : ev σ x = .nilIface) : (execOp (ev σ) ⟨dst, .typeAssert x s t true, ty, pos, af, g⟩).run P w = .ok (.value (.tuple #[v, .bool false])) w := by
 have h := hz.run w
 simp [execOp, hx, Instr.typeAssert, run_underlying hu, h]
end
theorem res_agg_cell {P : Program} {fn : Func} {a0 a1 t u b b1 n : Nat} (hr : fn.results = #[.cell a0 t, .cell a1 u]) {σ : Env} {w : World} {vs : List Value} {v' : Value} (hv : σ a0 = .pointer (some ⟨b, 0, none⟩)) (hv1 : σ a1 = .pointer (some ⟨b1, 0, none⟩)) (hf : aggB P t = true) (hs : Siz P t n) (hn : vs.length = n) (hc : CellsAt w b 0 vs) (hf1 : flatB P u = true) (hc1 : w.cell? ⟨b1, 0, none⟩ = some v') {a : Act} (ha : env a = σ) : (results fn a.tmps).run P w = .ok (.tuple #[.agg vs.toArray, v']) w := by
 subst ha
 have h0 : a.tmps.getD a0 undef = .pointer (some ⟨b, 0, none⟩) := hv
 have h1 : a.tmps.getD a1 undef = .pointer (some ⟨b1, 0, none⟩) := hv1
 simp only [Array.getD_eq_getD_getElem?] at h0 h1
 have h2 := run_loadVar (P := P) (w := w) hf hs hn hc
 have h3 : (loadVar u ⟨b1, 0, none⟩).run P w = .ok v' w := by simp [loadVar, flatB.run hf1, hc1]
 simp [results, hr, h0, h1, asAddr, h2, h3]
theorem letsOut_mono {Q Q' : Exit → Act → World → Prop} (hq : ∀ e a w, Q e a w → Q' e a w) (h : LetsOut Q) : LetsOut Q' := by
 obtain ⟨a, w, h⟩ := h; exact ⟨a, w, hq _ _ _ h⟩
theorem oper_mono {P : Program} {o : Oper} {a : Act} {w : World} {K K' : Act → World → Prop} {Q Q' : Exit → Act → World → Prop} (h : ∀ a w, K a w → K' a w) (hq : ∀ e a w, Q e a w → Q' e a w)
    (hh : o.wp P a w K Q) : o.wp P a w K' Q' := by
  unfold Oper.wp at *
  generalize (execOp a.eval o).run P w = r at *
  cases r with
  | ok n w' =>
    cases n <;> simp only [Oper.upon] at hh ⊢ <;>
      first
        | exact h _ _ hh
        | exact Calls.mono hh (fun e w'' he => by cases e <;> first | exact h _ _ he | exact letsOut_mono hq he | exact hq _ _ _ he)
        | exact Rows.mono hh (fun _ _ he => h _ _ he)
  | halt x w' => cases x <;> simp only [Oper.upon] at hh ⊢ <;> first | exact hq _ _ _ hh | exact hh
theorem wpList_monoQ {P : Program} {ops : Array Oper} {Q Q' : Exit → Act → World → Prop} (hq : ∀ e a w, Q e a w → Q' e a w) : ∀ (l : List Oper) (a : Act) (w : World), wpList P ops Q l a w → wpList P ops Q' l a w := by
  intro l
  induction l with
  | nil => intro a w h; exact hq _ _ _ h
  | cons o l ih =>
    intro a w h
    unfold wpList at h ⊢
    by_cases hw : Region.wanted o (yielded ops a.tmps) = true
    · rw [if_pos hw] at h ⊢
      rcases h with h | h
      · exact .inl (oper_mono (fun a w h => ih a w h) hq h)
      · exact .inr ⟨h.1, letsOut_mono hq h.2⟩
    · rw [if_neg hw] at h ⊢
      exact ih _ _ h
theorem wpS_of_list {P : Program} {ops : Array Oper} {Q : Exit → Act → List Frame → World → Prop} {cs : List Frame} (hL : ∀ (a : Act) (w : World), ¬ Q .outgrown a cs w) : ∀ (l : List Oper) (k : Nat) (a : Act) (w : World), (∀ j, l[j]? = ops[k + j]?) → wpList P ops (fun e a w => Q e a cs w) l a w → wpOpsS P ops Q (List.range' k l.length) a cs w := by
  intro l
  induction l with
  | nil => intro k a w _ h; exact h
  | cons o l ih =>
    intro k a w hj h
    have h0 : ops[k]? = some o := by simpa using (hj 0).symm
    have hj' : ∀ j, l[j]? = ops[k + 1 + j]? := fun j => by have := hj (j + 1); simpa [Nat.add_assoc, Nat.add_comm 1 j] using this
    rw [List.length_cons, List.range'_succ]
    unfold wpList at h
    unfold wpOpsS
    simp only [h0]
    by_cases hw : Region.wanted o (yielded ops a.tmps) = true
    · rw [if_pos hw] at h ⊢
      rcases h with h | ⟨_, a1, w1, h⟩
      · have h2 := oper_mono (K' := fun a' w' => wpOpsS P ops Q (List.range' (k + 1) l.length) a' cs w') (fun a w h => ih (k + 1) a w hj' h) (fun _ _ _ h => h) h
        unfold Oper.wp at h2
        split
        · rename_i heq
          rw [heq] at h2
          exact (show False from h2).elim
        · exact h2
      · exact absurd h (hL a1 w1)
    · rw [if_neg hw] at h ⊢
      exact ih (k + 1) _ _ hj' h
theorem CallsD_recover {P : Program} {N : Nat} {f : FuncId} {fn : Func} {id d0 : Nat} {o0 : Oper} {rest : List Oper} {y : Code} {args : Array Value} {u u' : FrameMode} {w : World} {v : Value} {R : Value → World → Prop}
    (hf : P.funcs[f]? = some fn) (hb : fn.body = some (.seq (.region id (o0 :: rest).toArray false) y)) (hn : fn.ntmps = N) (hsz : args.size ≤ N) (hg : o0.guard = none) (hd : o0.dst = some d0) (hN : d0 < N)
    (hop : ∀ (ρ : Operand → Value) (w : World), (execOp ρ o0).run P w = .ok .recover w)
    (hu : (u = .returning ∧ v = .nilIface ∧ u' = u) ∨ ∃ older, u = .panicking ({ v := v, recovered := false } :: older) ∧ u' = .panicking ({ v := v, recovered := true } :: older))
    (h : WpL P N (o0 :: rest).toArray (Wp P N y (fin P fn R)) (fin P fn R) rest (upd (fun t => args.getD t undef) d0 v) w) : CallsD P f args u w fun e u1 w' => (∃ r, e = .returned r ∧ R r w') ∧ u1 = u' := by
  refine callsD_of_wpS hf hb fun c₀ cs hu0 => ?_
  apply wpS_seq
  apply wpS_region
  have hsz2 : (o0 :: rest).toArray.size = rest.length + 1 := by simp
  rw [hsz2, List.range_eq_range', List.range'_succ]
  obtain ⟨a0, ha0⟩ : ∃ a0 : Act, a0 = { tmps := args ++ Array.replicate (fn.ntmps - args.size) undef, defers := [] } := ⟨_, rfl⟩
  rw [← ha0]
  have hok : Ok [] N a0 := ⟨by rw [ha0]; simp [hn]; omega, by rw [ha0]⟩
  have henv : env a0 = fun t => args.getD t undef := by
    rw [ha0]
    funext t
    simp only [env, Array.getD_eq_getD_getElem?, Array.getElem?_append]
    split
    · rfl
    · rename_i hlt
      rw [Array.getElem?_replicate, Array.getElem?_eq_none (xs := args) (by omega)]
      split <;> rfl
  have h1 := h [] (a0.put (some d0) v) (hok.put _ _) (by rw [env_put hok hN, henv])
  have hrec : (match recoverD (c₀ :: cs) with | some (v, cs') => some (v, cs') | none => some (Value.nilIface, c₀ :: cs)) = some (v, { c₀ with mode := u' } :: cs) := by
    rcases hu with ⟨rfl, rfl, rfl⟩ | ⟨older, rfl, rfl⟩
    · have : ({ c₀ with mode := FrameMode.returning } : Frame) = c₀ := by cases c₀; simp at hu0; subst hu0; rfl
      simp [recoverD, hu0, this]
    · simp [recoverD, hu0]
  have h2 : wpOpsS P (o0 :: rest).toArray (Exit.thenS (y.wpS P (bodyPostS P fn c₀ cs fun e u1 w' => (∃ r, e = .returned r ∧ R r w') ∧ u1 = u')) (bodyPostS P fn c₀ cs fun e u1 w' => (∃ r, e = .returned r ∧ R r w') ∧ u1 = u')) (List.range' (0 + 1) rest.length) (a0.put (some d0) v) ({ c₀ with mode := u' } :: cs) w := by
    refine wpS_of_list ?_ rest (0 + 1) _ _ (fun j => by simp [Nat.add_comm]) (wpList_monoQ ?_ rest _ _ h1)
    · rintro a w1 ⟨u9, ⟨r, h9, _⟩, _⟩; cases h9
    · rintro e a w1 ⟨o, q⟩
      cases e <;> simp only [thn] at q <;> simp only [Exit.thenS]
      · refine wpS_of_wp (Code.wp_mono ?_ (q [] a o rfl))
        rintro e a w1 ⟨o, q⟩
        cases e <;> simp only [fin] at q <;> simp only [bodyPostS]
        · obtain ⟨v9, hv, r⟩ := q; exact ⟨o.defers, u', rfl, v9, hv a rfl, ⟨v9, rfl, r⟩, rfl⟩
        · obtain ⟨v9, hv, r⟩ := q; exact ⟨o.defers, u', rfl, v9, hv a rfl, ⟨v9, rfl, r⟩, rfl⟩
      all_goals simp only [fin] at q
      · obtain ⟨v9, hv, r⟩ := q; exact ⟨o.defers, u', rfl, v9, hv a rfl, ⟨v9, rfl, r⟩, rfl⟩
  unfold wpOpsS
  have h0 : (o0 :: rest).toArray[0]? = some o0 := by simp
  have hw : Region.wanted o0 (yielded (o0 :: rest).toArray a0.tmps) = true := by simp [Region.wanted, hg]
  simp only [h0, hop]
  rw [if_pos hw, hd]
  cases hr : recoverD (c₀ :: cs) with
  | none => rw [hr] at hrec; simp only [Option.some.injEq, Prod.mk.injEq] at hrec; rw [← hrec.1, ← hrec.2] at h2; exact h2
  | some p => rw [hr] at hrec; obtain ⟨p1, p2⟩ := p; simp only [Option.some.injEq, Prod.mk.injEq] at hrec; rw [← hrec.1, ← hrec.2] at h2; exact h2
end Go.Eng
namespace Go.Proofs
open Go Go.Eng Go.Sort
set_option maxRecDepth 100000
abbrev TTh : Nat := 79
abbrev nI (n : Nat) : Value := .int .i64 ((n : Nat) : Int)
theorem slAt_keep {M : Nat → Prop} {w w' : World} {k : Nat} {v : Value} {rows : List (List Value)} (h : SlAt w k v rows) (c : Chg M w w') (hM : rows = [] ∨ ∃ b, v.ownBlock = some b ∧ ¬ M b) : SlAt w' k v rows := by
 obtain ⟨a, cap, hv, hl, hc, h⟩ := h
 refine ⟨a, cap, hv, hl, hc, ?_⟩
 rcases h with h | ⟨b, o, ha, h⟩
 ·exact .inl h
 ·rcases hM with hM | ⟨b', hb', hM⟩
  ·exact .inl hM
  ·rw [hv, ha] at hb'
   cases hb'
   exact .inr ⟨b, o, ha, fun i r hr => (h i r hr).chg c hM⟩
/-- An edge whose set lies in a block of F. -/
def EdF (F : Nat → Prop) (w : World) (e : Ed) (row : List Value) : Prop := ∃ u, row = edRow e u ∧ SpansAt w u e.2.2 ∧ (e.2.2 = [] ∨ ∃ b, u.ownBlock = some b ∧ F b)
theorem EdF.chg {F M : Nat → Prop} {w w' : World} {e : Ed} {row : List Value} (h : EdF F w e row) (c : Chg M w w') (hM : ∀ y, F y → ¬ M y) : EdF F w' e row := by
 obtain ⟨u, h1, h2, h3⟩ := h
 refine ⟨u, h1, slAt_keep h2 c ?_, h3⟩
 rcases h3 with h3 | ⟨b, h3, h4⟩
 ·exact .inl (by rw [h3]; rfl)
 ·exact .inr ⟨b, h3, hM b h4⟩
theorem EdF.mono {F F' : Nat → Prop} {w : World} {e : Ed} {row : List Value} (h : EdF F w e row) (hF : ∀ y, F y → F' y) : EdF F' w e row := by
 obtain ⟨u, h1, h2, h3⟩ := h
 exact ⟨u, h1, h2, h3.imp id fun ⟨b, h4, h5⟩ => ⟨b, h4, hF b h5⟩⟩
def EdsF (F : Nat → Prop) (w : World) (es : List Ed) (rows : List (List Value)) : Prop := rows.length = es.length ∧ ∀ (i : Nat) e row, es[i]? = some e → rows[i]? = some row → EdF F w e row
theorem EdsF.chg {F M : Nat → Prop} {w w' : World} {es : List Ed} {rows : List (List Value)} (h : EdsF F w es rows) (c : Chg M w w') (hM : ∀ y, F y → ¬ M y) : EdsF F w' es rows := ⟨h.1, fun i e row h1 h2 => (h.2 i e row h1 h2).chg c hM⟩
theorem EdsF.mono {F F' : Nat → Prop} {w : World} {es : List Ed} {rows : List (List Value)} (h : EdsF F w es rows) (hF : ∀ y, F y → F' y) : EdsF F' w es rows := ⟨h.1, fun i e row h1 h2 => (h.2 i e row h1 h2).mono hF⟩
theorem EdsF.snoc {F : Nat → Prop} {w : World} {es : List Ed} {rows : List (List Value)} {e : Ed} {row : List Value} (h : EdsF F w es rows) (hr : EdF F w e row) : EdsF F w (es ++ [e]) (rows ++ [row]) := by
 refine ⟨by simp [h.1], fun i x y hx hy => ?_⟩
 rcases Nat.lt_or_ge i es.length with hi | hi
 ·rw [List.getElem?_append_left hi] at hx
  rw [List.getElem?_append_left (by have := h.1; omega)] at hy
  exact h.2 i x y hx hy
 ·have := lt_of_get hx
  simp at this
  obtain rfl : i = es.length := by omega
  rw [List.getElem?_append_right (Nat.le_refl _), Nat.sub_self] at hx
  rw [← h.1, List.getElem?_append_right (Nat.le_refl _), Nat.sub_self] at hy
  simp at hx hy
  subst hx; subst hy
  exact hr
/-- An automaton that is being built. -/
structure TSt (F : Nat → Prop) (w : World) (base pb : Nat) (pv xv : Value) (s : ThS) : Prop where
 blk : Blk w pb #[nI s.n, .int .i64 0, .slice none 0 0, pv, xv] TTh
 eps : w.ownsRow base TPr 2 pv s.eps.length (s.eps.map spanV).flatten
 edg : ∃ rows, w.ownsRow base TEd 3 xv s.edges.length rows.flatten ∧ EdsF (fun y => F y ∧ base ≤ y) w s.edges rows
 hpF : ∀ b, pv.ownBlock = some b → ¬ F b
 hxF : ∀ b, xv.ownBlock = some b → ¬ F b
 apt : ∀ b, pv.ownBlock = some b → xv.ownBlock ≠ some b
 hp : ¬ F pb
 pb : pb < base
 bs : base ≤ w.heap.size
 fl : ∀ y, F y → y < w.heap.size
section
variable {F F' F2 M : Nat → Prop} {w0 w w' w2 wb : World} {base pb : Nat} {pv xv pv' xv' pv2 xv2 : Value} {s s' s2 : ThS}
theorem TSt.chg (h : TSt F w base pb pv xv s) (c : Chg M w w') (hM : ∀ y, F y → ¬ M y) (h1 : ¬ M pb) (h2 : ∀ b, pv.ownBlock = some b → ¬ M b) (h3 : ∀ b, xv.ownBlock = some b → ¬ M b) : TSt F w' base pb pv xv s := by
 obtain ⟨rows, h4, h5⟩ := h.edg
 exact ⟨c.keep h1 h.blk, own_chg h.eps c h2, ⟨rows, own_chg h4 c h3, h5.chg c fun y hy => hM y hy.1⟩, h.hpF, h.hxF, h.apt, h.hp, h.pb, Nat.le_trans h.bs c.size, fun y hy => Nat.lt_of_lt_of_le (h.fl y hy) c.size⟩
theorem TSt.ext (h : TSt F w base pb pv xv s) (c : Ext w w') : TSt F w' base pb pv xv s := h.chg c (fun _ _ f => f) (fun f => f) (fun _ _ f => f) fun _ _ f => f
theorem TSt.form (h : TSt F w base pb pv xv s) : (∃ a c, pv = .slice a s.eps.length c) ∧ ∃ a c, xv = .slice a s.edges.length c := by
 obtain ⟨rows, h4, h5⟩ := h.edg
 exact ⟨own_form h.eps, own_form h4⟩
theorem TSt.kept (h : TSt F w base pb pv xv s) {b : Nat} (hb : F b) : ¬ (b = pb ∨ pv.ownBlock = some b ∨ xv.ownBlock = some b) := fun hm => hm.elim (fun e => h.hp (e ▸ hb)) fun e => e.elim (fun e => h.hpF b e hb) fun e => h.hxF b e hb
/-- It grew. -/
structure GrT (F : Nat → Prop) (w0 : World) (base pb : Nat) (pv xv : Value) (F' : Nat → Prop) (pv' xv' : Value) (s' : ThS) (w : World) : Prop where
 sub : ∀ y, F y → F' y
 new : ∀ y, F' y → F y ∨ w0.heap.size ≤ y
 st : TSt F' w base pb pv' xv' s'
 chg : Chg (fun y => y = pb ∨ pv.ownBlock = some y ∨ xv.ownBlock = some y) w0 w
 op : ∀ k, pv'.ownBlock = some k → pv.ownBlock = some k ∨ w0.heap.size ≤ k
 ox : ∀ k, xv'.ownBlock = some k → xv.ownBlock = some k ∨ w0.heap.size ≤ k
theorem GrT.start (h : TSt F w0 base pb pv xv s) : GrT F w0 base pb pv xv F pv xv s w0 := ⟨fun _ h => h, fun _ h => .inl h, h, Chg.refl _ _, fun _ h => .inl h, fun _ h => .inl h⟩
theorem GrT.ext (h : GrT F w0 base pb pv xv F' pv' xv' s' w) (e : Ext w w2) : GrT F w0 base pb pv xv F' pv' xv' s' w2 := ⟨h.sub, h.new, h.st.ext e, h.chg.ext e, h.op, h.ox⟩
/-- A block that is made now, and never written again. -/
theorem GrT.frz (h : GrT F w0 base pb pv xv F' pv' xv' s' w) (e : Ext w w2) {b : Nat} (hb : w.heap.size ≤ b) (hb2 : b < w2.heap.size) : GrT F w0 base pb pv xv (fun y => F' y ∨ y = b) pv' xv' s' w2 := by
 have hs := h.st
 have hpl := hs.blk.lt
 obtain ⟨rows, h3, h4⟩ := hs.edg
 refine ⟨fun y hy => .inl (h.sub y hy), fun y hy => ?_, ⟨e.keep hs.blk, own_ext hs.eps e, ⟨rows, own_ext h3 e, (h4.chg e (fun _ _ f => f)).mono fun y hy => ⟨.inl hy.1, hy.2⟩⟩, fun q hq hf => ?_, fun q hq hf => ?_, hs.apt, fun hf => ?_, hs.pb, Nat.le_trans hs.bs e.size, fun y hy => ?_⟩, h.chg.ext e, h.op, h.ox⟩
 ·rcases hy with hy | hy
  ·exact h.new y hy
  ·have := h.chg.size; exact .inr (by omega)
 ·have := (hs.eps.lt q hq).2
  rcases hf with hf | hf
  ·exact hs.hpF q hq hf
  ·omega
 ·have := (h3.lt q hq).2
  rcases hf with hf | hf
  ·exact hs.hxF q hq hf
  ·omega
 ·rcases hf with hf | hf
  ·exact hs.hp hf
  ·omega
 ·rcases hy with hy | hy
  ·have := hs.fl y hy; have := e.size; omega
  ·omega
theorem GrT.comp (h : GrT F w0 base pb pv xv F' pv' xv' s' w) (b : GrT F' w base pb pv' xv' F2 pv2 xv2 s2 w2) : GrT F w0 base pb pv xv F2 pv2 xv2 s2 w2 := by
 have hs := h.chg.size
 refine ⟨fun y hy => b.sub y (h.sub y hy), fun y hy => ?_, b.st, h.chg.step b.chg fun x hx hm => ?_, fun k hk => ?_, fun k hk => ?_⟩
 ·rcases b.new y hy with h1 | h1
  ·exact h.new y h1
  ·exact .inr (by omega)
 ·rcases hm with h1 | h1 | h1
  ·exact .inl h1
  ·rcases h.op x h1 with h3 | h3
   ·exact .inr (.inl h3)
   ·omega
  ·rcases h.ox x h1 with h3 | h3
   ·exact .inr (.inr h3)
   ·omega
 ·rcases b.op k hk with h1 | h1
  ·exact h.op k h1
  ·exact .inr (by omega)
 ·rcases b.ox k hk with h1 | h1
  ·exact h.ox k h1
  ·exact .inr (by omega)
theorem GrT.base' (h : GrT F w0 base pb pv xv F' pv' xv' s' w) (h0 : TSt F w0 base pb pv xv s) (hF : ∀ y, y < wb.heap.size → F y) (hE : Ext wb w0) : Ext wb w :=
 hE.step h.chg fun x hx hm => h0.kept (hF x hx) hm
/-- What a panic leaves. -/
theorem GrT.pan (h : GrT F w0 base pb pv xv F' pv' xv' s' w) (c : Chg (fun y => y = pb ∨ pv'.ownBlock = some y ∨ xv'.ownBlock = some y) w w2) : Chg (fun y => y = pb ∨ pv.ownBlock = some y ∨ xv.ownBlock = some y) w0 w2 :=
 h.chg.step c fun x hx hm => by
  rcases hm with h1 | h1 | h1
  ·exact .inl h1
  ·rcases h.op x h1 with h3 | h3
   ·exact .inr (.inl h3)
   ·omega
  ·rcases h.ox x h1 with h3 | h3
   ·exact .inr (.inr h3)
   ·omega
/-- The number of states changes. -/
theorem GrT.num (h : GrT F w0 base pb pv xv F' pv' xv' s' w) {n' : Nat} (p : Put w w2 pb #[nI n', .int .i64 0, .slice none 0 0, pv', xv'] TTh) : GrT F w0 base pb pv xv F' pv' xv' ⟨n', s'.eps, s'.edges⟩ w2 := by
 have hs := h.st
 obtain ⟨rows, h3, h4⟩ := hs.edg
 refine ⟨h.sub, h.new, ⟨p.blk, own_chg hs.eps p.chg (fun k hk e => ?_), ⟨rows, own_chg h3 p.chg (fun k hk e => ?_), h4.chg p.chg (fun y hy e => hs.hp (e ▸ hy.1))⟩, hs.hpF, hs.hxF, hs.apt, hs.hp, hs.pb, Nat.le_trans hs.bs p.chg.size, fun y hy => Nat.lt_of_lt_of_le (hs.fl y hy) p.chg.size⟩, h.chg.step p.chg (fun x hx e => .inl e), h.op, h.ox⟩
 ·have := (hs.eps.lt k hk).1; have := hs.pb; omega
 ·have := (h3.lt k hk).1; have := hs.pb; omega
/-- Steps for nothing have been appended elsewhere, and are now the automaton's. -/
theorem GrT.epsPut (h : TSt F w0 base pb pv xv s) {es : List (Int × Int)} (c : Chg (fun y => pv.ownBlock = some y) w0 w) (ho : w.ownsRow base TPr 2 pv' es.length (es.map spanV).flatten) (hd : ∀ k, pv'.ownBlock = some k → pv.ownBlock = some k ∨ w0.heap.size ≤ k) (p : Put w w2 pb #[nI s.n, .int .i64 0, .slice none 0 0, pv', xv] TTh) :
  GrT F w0 base pb pv xv F pv' xv ⟨s.n, es, s.edges⟩ w2 := by
 obtain ⟨rows, h3, h4⟩ := h.edg
 have hx : ∀ k, xv.ownBlock = some k → ¬ pv.ownBlock = some k := fun k hk e => h.apt k e hk
 refine ⟨fun _ h => h, fun _ h => .inl h, ⟨p.blk, own_chg ho p.chg (fun k hk e => ?_), ⟨rows, own_chg (own_chg h3 c hx) p.chg (fun k hk e => ?_), (h4.chg c (fun y hy e => h.hpF y e hy.1)).chg p.chg (fun y hy e => h.hp (e ▸ hy.1))⟩, fun k hk hf => ?_, h.hxF, fun k hk e => ?_, h.hp, h.pb, Nat.le_trans h.bs (Nat.le_trans c.size p.chg.size), fun y hy => Nat.lt_of_lt_of_le (h.fl y hy) (Nat.le_trans c.size p.chg.size)⟩, (c.mono fun y _ hy => .inr (.inl hy)).step p.chg (fun x hx e => .inl e), hd, fun _ h => .inl h⟩
 ·have := (ho.lt k hk).1; have := h.pb; omega
 ·have := (h3.lt k hk).1; have := h.pb; omega
 ·rcases hd k hk with h1 | h1
  ·exact h.hpF k h1 hf
  ·have := h.fl k hf; omega
 ·rcases hd k hk with h1 | h1
  ·exact h.apt k h1 e
  ·have := (h3.lt k e).2; omega
/-- Edges have been appended elsewhere, and are now the automaton's. -/
theorem GrT.edgPut (h : TSt F w0 base pb pv xv s) {es : List Ed} {rows : List (List Value)} (c : Chg (fun y => xv.ownBlock = some y) w0 w) (ho : w.ownsRow base TEd 3 xv' es.length rows.flatten) (hr : EdsF (fun y => F' y ∧ base ≤ y) w es rows) (hsub : ∀ y, F y → F' y) (hnew : ∀ y, F' y → F y ∨ (w0.heap.size ≤ y ∧ y < w.heap.size ∧ xv'.ownBlock ≠ some y)) (hd : ∀ k, xv'.ownBlock = some k → xv.ownBlock = some k ∨ w0.heap.size ≤ k) (p : Put w w2 pb #[nI s.n, .int .i64 0, .slice none 0 0, pv, xv'] TTh) :
  GrT F w0 base pb pv xv F' pv xv' ⟨s.n, s.eps, es⟩ w2 := by
 have hx : ∀ k, pv.ownBlock = some k → ¬ xv.ownBlock = some k := h.apt
 have hpl := h.blk.lt
 have hF' : ¬ F' pb := fun hf => by
  rcases hnew pb hf with h1 | h1
  ·exact h.hp h1
  ·omega
 refine ⟨hsub, fun y hy => (hnew y hy).imp id fun h => h.1, ⟨p.blk, own_chg (own_chg h.eps c hx) p.chg (fun k hk e => ?_), ⟨rows, own_chg ho p.chg (fun k hk e => ?_), hr.chg p.chg (fun y hy e => hF' (e ▸ hy.1))⟩, fun k hk hf => ?_, fun k hk hf => ?_, fun k hk e => ?_, hF', h.pb, Nat.le_trans h.bs (Nat.le_trans c.size p.chg.size), fun y hy => ?_⟩, (c.mono fun y _ hy => .inr (.inr hy)).step p.chg (fun x hx e => .inl e), fun _ h => .inl h, hd⟩
 ·have := (h.eps.lt k hk).1; have := h.pb; omega
 ·have := (ho.lt k hk).1; have := h.pb; omega
 ·rcases hnew k hf with h1 | h1
  ·exact h.hpF k hk h1
  ·have := (h.eps.lt k hk).2; omega
 ·rcases hnew k hf with h1 | h1
  ·rcases hd k hk with h2 | h2
   ·exact h.hxF k h2 h1
   ·have := h.fl k h1; omega
  ·exact h1.2.2 hk
 ·rcases hd k e with h1 | h1
  ·exact h.apt k hk h1
  ·have := (h.eps.lt k hk).2; omega
 ·have h2 := p.chg.size
  rcases hnew y hy with h1 | h1
  ·have := h.fl y h1; have := c.size; omega
  ·omega
/-- What is built stays, whatever older blocks become. -/
theorem TSt.done (h : TSt F w base pb pv xv s) (c : Chg M w w') (hM : ∀ y, M y → y < base) : SpansAt w' pv s.eps ∧ EdgesAt w' xv s.edges := by
 obtain ⟨rows, h3, h4⟩ := h.edg
 have k1 := own_chg h.eps c fun k hk hm => by have := (h.eps.lt k hk).1; have := hM k hm; omega
 have k2 := own_chg h3 c fun k hk hm => by have := (h3.lt k hk).1; have := hM k hm; omega
 have k3 := h4.chg c fun y hy hm => by have := hM y hm; omega
 have h8 : ∀ r ∈ rows, r.length = 3 := fun r hr => by
  obtain ⟨i, hi⟩ := List.getElem?_of_mem hr
  obtain ⟨e, he⟩ := get_of_lt (l := s.edges) (i := i) (by have := h4.1; have := lt_of_get hi; omega)
  obtain ⟨u, rfl, _⟩ := h4.2 i e r he hi
  rfl
 refine ⟨own_slat k1 (by intro r hr; obtain ⟨p, _, rfl⟩ := List.mem_map.1 hr; rfl) (by simp) (by decide), rows, own_slat k2 h8 h4.1 (by decide), h4.1, fun i e row h5 h6 => ?_⟩
 obtain ⟨u, h7, h9, _⟩ := k3.2 i e row h5 h6
 exact ⟨u, h7, h9⟩
end
end Go.Proofs
namespace Go.Proofs
open Go Go.Eng
def DL (s s' : ThS) (k : Nat) : Prop := s'.eps.length + 3 * s.n + k ≤ s.eps.length + 3 * s'.n ∧ s'.edges.length + s.n ≤ s.edges.length + s'.n ∧ s.n ≤ s'.n ∧ (s.n ≤ 500 → s'.n ≤ 500)
def LimT (s : ThS) (k : Nat) : Prop := s.eps.length + k ≤ 3 * s.n ∧ s.edges.length ≤ s.n ∧ s.n ≤ 500
theorem LimT.step {s s' : ThS} {k : Nat} (h : LimT s 0) (d : DL s s' k) : LimT s' k := by
 obtain ⟨h1, h2, h3⟩ := h
 obtain ⟨d1, d2, d3, d4⟩ := d
 exact ⟨by omega, by omega, d4 h3⟩
theorem LimT.le {s : ThS} {k j : Nat} (h : LimT s k) (hj : j ≤ k) : LimT s j := ⟨by have := h.1; omega, h.2⟩
theorem LimT.eps {s : ThS} {k : Nat} (a b : Nat) (h : LimT s (k + 1)) : LimT (epsT s a b) k := by
 obtain ⟨h1, h2, h3⟩ := h
 exact ⟨by simp [epsT]; omega, h2, h3⟩
theorem LimT.new {s s' : ThS} {k a : Nat} (h : LimT s k) (e : newT s = some (s', a)) : LimT s' (k + 3) := by
 obtain ⟨rfl, rfl, hn⟩ := newT_some e
 obtain ⟨h1, h2, h3⟩ := h
 refine ⟨?_, ?_, hn⟩
 ·show s.eps.length + (k + 3) ≤ 3 * (s.n + 1); omega
 ·show s.edges.length ≤ s.n + 1; omega
theorem dl_eps {s s' : ThS} {k : Nat} (a b : Nat) (h : DL s s' (k + 1)) : DL s (epsT s' a b) k := by
 obtain ⟨d1, d2, d3, d4⟩ := h
 refine ⟨?_, d2, d3, d4⟩
 simp only [epsT, List.length_append, List.length_singleton]
 omega
theorem dl_new {s s' s2 : ThS} {k a : Nat} (h : DL s s' k) (e : newT s' = some (s2, a)) : DL s s2 (k + 3) := by
 obtain ⟨rfl, rfl, hn⟩ := newT_some e
 obtain ⟨d1, d2, d3, d4⟩ := h
 refine ⟨?_, ?_, ?_, fun _ => hn⟩
 ·show s'.eps.length + 3 * s.n + (k + 3) ≤ s.eps.length + 3 * (s'.n + 1); omega
 ·show s'.edges.length + s.n ≤ s.edges.length + (s'.n + 1); omega
 ·show s.n ≤ s'.n + 1; omega
theorem dl_refl (s : ThS) : DL s s 0 := ⟨by omega, by omega, Nat.le_refl _, id⟩
theorem dl_trans {s s1 s2 : ThS} {k j : Nat} (h : DL s s1 k) (g : DL s1 s2 j) : DL s s2 (k + j) := by
 obtain ⟨d1, d2, d3, d4⟩ := h
 obtain ⟨e1, e2, e3, e4⟩ := g
 exact ⟨by omega, by omega, by omega, fun h => e4 (d4 h)⟩
theorem dl_le {s s1 : ThS} {k j : Nat} (h : DL s s1 k) (hj : j ≤ k) : DL s s1 j := ⟨by have := h.1; omega, h.2⟩
def FragLim (f : TF) : Prop := ∀ s s' a b, f s = some (s', a, b) → DL s s' 3
theorem cat_lim : ∀ (fs : List TF), (∀ f ∈ fs, FragLim f) → ∀ (s s' : ThS) (b b' : Nat), catT fs s b = some (s', b') → DL s s' 0
  | [], _, s, s', b, b', e => by
    simp only [catT, Option.some.injEq, Prod.mk.injEq] at e
    rw [← e.1]; exact dl_refl s
  | f :: fs, hf, s, s', b, b', e => by
    rw [catT] at e
    obtain ⟨⟨s1, x, y⟩, e1, e2⟩ := Option.bind_eq_some_iff.1 e
    exact dl_le (dl_trans (dl_eps b x (hf f List.mem_cons_self _ _ _ _ e1)) (cat_lim fs (fun g hg => hf g (List.mem_cons_of_mem _ hg)) _ _ _ _ e2)) (Nat.zero_le _)
theorem alt_lim (e : Nat) : ∀ (fs : List TF), (∀ f ∈ fs, FragLim f) → ∀ (s s' : ThS) (a : Nat), altT e fs s a = some s' → DL s s' 0
  | [], _, s, s', a, h => by
    simp only [altT, Option.some.injEq] at h
    rw [← h]; exact dl_refl s
  | f :: fs, hf, s, s', a, h => by
    rw [altT] at h
    obtain ⟨⟨s1, x, y⟩, e1, e2⟩ := Option.bind_eq_some_iff.1 h
    simp only at e2
    have h1 := dl_eps y e (dl_eps a x (hf f List.mem_cons_self _ _ _ _ e1))
    split at e2
    · obtain ⟨⟨s2, q⟩, e3, e4⟩ := Option.bind_eq_some_iff.1 e2
      exact dl_le (dl_trans (dl_eps a q (dl_new h1 e3)) (alt_lim e fs (fun g hg => hf g (List.mem_cons_of_mem _ hg)) _ _ _ e4)) (Nat.zero_le _)
    · exact dl_le (dl_trans h1 (alt_lim e fs (fun g hg => hf g (List.mem_cons_of_mem _ hg)) _ _ _ e2)) (Nat.zero_le _)
theorem copy_lim {f : TF} (hf : FragLim f) {s s' : ThS} {b b' : Nat} {out : Bool} (e : copyT f s b out = some (s', b')) : DL s s' 0 := by
 unfold copyT at e
 obtain ⟨⟨s1, x, y⟩, e1, e2⟩ := Option.bind_eq_some_iff.1 e
 simp only at e2
 have h1 := dl_eps b x (hf _ _ _ _ e1)
 split at e2
 ·obtain ⟨⟨s2, q⟩, e3, e4⟩ := Option.bind_eq_some_iff.1 e2
  simp only [Option.some.injEq, Prod.mk.injEq] at e4
  rw [← e4.1]
  exact dl_le (dl_eps y q (dl_eps b q (dl_new h1 e3))) (Nat.zero_le _)
 ·simp only [Option.some.injEq, Prod.mk.injEq] at e2
  rw [← e2.1]
  exact dl_le h1 (Nat.zero_le _)
theorem rep_lim {f : TF} (hf : FragLim f) {mn : Int} {s : ThS} {b : Nat} : ∀ (k : Nat) (s' : ThS) (b' : Nat), repT f mn s b k = some (s', b') → DL s s' 0
  | 0, s', b', e => by
    simp only [repT, Option.some.injEq, Prod.mk.injEq] at e
    rw [← e.1]; exact dl_refl s
  | k + 1, s', b', e => by
    rw [repT] at e
    obtain ⟨⟨s1, b1⟩, e1, e2⟩ := Option.bind_eq_some_iff.1 e
    exact dl_trans (rep_lim hf k s1 b1 e1) (copy_lim hf e2)
theorem repT_none {f : TF} {mn : Int} {s : ThS} {b k : Nat} (h : repT f mn s b k = none) : ∀ m, k ≤ m → repT f mn s b m = none
  | 0, hm => by obtain rfl : k = 0 := (by omega); exact h
  | m + 1, hm => by
    rcases Nat.lt_or_ge m k with h1 | h1
    · obtain rfl : k = m + 1 := (by omega); exact h
    · rw [repT, repT_none h m h1]; rfl
theorem node_lim {k : Int} {z : List Sp} {mn mx : Int} {fs : List TF} (hf : ∀ f ∈ fs, FragLim f) : FragLim (nodeT k z mn mx fs) := by
  intro s s' a b e
  unfold nodeT at e
  obtain ⟨⟨s1, a1⟩, e1, e2⟩ := Option.bind_eq_some_iff.1 e
  simp only at e2
  have h1 : DL s s1 3 := dl_new (dl_refl s) e1
  split at e2
  · obtain ⟨⟨s2, b2⟩, e3, e4⟩ := Option.bind_eq_some_iff.1 e2
    simp only [Option.some.injEq, Prod.mk.injEq] at e4
    rw [← e4.1]; exact dl_le (dl_new h1 e3) (by omega)
  split at e2
  · simp only [Option.some.injEq, Prod.mk.injEq] at e2
    rw [← e2.1]; exact h1
  split at e2
  · obtain ⟨⟨s2, b2⟩, e3, e4⟩ := Option.bind_eq_some_iff.1 e2
    simp only [Option.some.injEq, Prod.mk.injEq] at e4
    rw [← e4.1]
    obtain ⟨_, rfl, hn⟩ := newT_some e1
    obtain ⟨_, rfl, hn2⟩ := newT_some e3
    refine ⟨?_, ?_, ?_, fun _ => hn2⟩
    · show s.eps.length + 3 * s.n + 3 ≤ s.eps.length + 3 * (s.n + 1 + 1); omega
    · show (s.edges ++ _).length + s.n ≤ s.edges.length + (s.n + 1 + 1); simp; omega
    · show s.n ≤ s.n + 1 + 1; omega
  split at e2
  · obtain ⟨⟨s2, b2⟩, e3, e4⟩ := Option.bind_eq_some_iff.1 e2
    simp only [Option.some.injEq, Prod.mk.injEq] at e4
    rw [← e4.1]; exact dl_trans h1 (cat_lim fs hf _ _ _ _ e3)
  split at e2
  · obtain ⟨⟨s2, b2⟩, e3, e4⟩ := Option.bind_eq_some_iff.1 e2
    simp only at e4
    obtain ⟨s3, e5, e6⟩ := Option.bind_eq_some_iff.1 e4
    simp only [Option.some.injEq, Prod.mk.injEq] at e6
    rw [← e6.1]; exact dl_le (dl_trans (dl_new h1 e3) (alt_lim b2 fs hf _ _ _ e5)) (by omega)
  split at e2
  · cases fs with
    | nil => cases e2
    | cons f fs =>
      simp only at e2
      obtain ⟨⟨s2, x, y⟩, e3, e4⟩ := Option.bind_eq_some_iff.1 e2
      simp only [Option.some.injEq, Prod.mk.injEq] at e4
      rw [← e4.1]
      exact dl_le (dl_eps _ _ (show DL s s2 (5 + 1) from dl_trans (k := 3) (j := 3) h1 (hf f List.mem_cons_self _ _ _ _ e3))) (by omega)
  split at e2
  · cases fs with
    | nil => cases e2
    | cons f fs =>
      simp only at e2
      obtain ⟨⟨s2, x, y⟩, e3, e4⟩ := Option.bind_eq_some_iff.1 e2
      simp only at e4
      obtain ⟨⟨s3, q0⟩, e5, e6⟩ := Option.bind_eq_some_iff.1 e4
      simp only [Option.some.injEq, Prod.mk.injEq] at e6
      rw [← e6.1]
      have h3 : DL s s3 (6 + 1 + 1 + 1) := dl_new (dl_trans (k := 3) (j := 3) h1 (hf f List.mem_cons_self _ _ _ _ e3)) e5
      exact dl_le (dl_eps _ _ (dl_eps _ _ (dl_eps _ _ h3))) (by omega)
  · cases fs with
    | nil =>
      simp only at e2
      split at e2
      · simp only [Option.some.injEq, Prod.mk.injEq] at e2
        rw [← e2.1]; exact h1
      · cases e2
    | cons f fs =>
      simp only at e2
      obtain ⟨⟨s2, b2⟩, e3, e4⟩ := Option.bind_eq_some_iff.1 e2
      simp only [Option.some.injEq, Prod.mk.injEq] at e4
      rw [← e4.1]; exact dl_trans h1 (rep_lim (hf f List.mem_cons_self) _ _ _ e3)
mutual
theorem lim_all : ∀ t : Re, FragLim (tmO t)
  | .mk k z a mn mx g => by rw [tmO]; exact node_lim (lim_list a)
theorem lim_list : ∀ l : List Re, ∀ f ∈ tmL l, FragLim f
  | [], f, hf => by cases hf
  | x :: l, f, hf => by
    rw [tmL] at hf
    rcases List.mem_cons.1 hf with rfl | h1
    · exact lim_all x
    · exact lim_list l f h1
end
end Go.Proofs
namespace Go.Proofs
open Go Go.Eng Go.Sort
set_option maxRecDepth 100000
/-- What is thrown where an automaton grows too large. -/
def lgN : List PanicEntry := [{ v := .iface 61 (.agg #[]), recovered := false }]
theorem newT_ok {s : ThS} (h : s.n + 1 ≤ 500) : newT s = some (⟨s.n + 1, s.eps, s.edges⟩, s.n) := by unfold newT; rw [if_neg (by omega)]
theorem newT_no {s : ThS} (h : 500 < s.n + 1) : newT s = none := by unfold newT; rw [if_pos h]
theorem tstate_c (F : Nat → Prop) (w0 : World) (base pb : Nat) (pv xv : Value) (s : ThS) (h : TSt F w0 base pb pv xv s) (hn : s.n ≤ 500) :
  RetX Try.prog lgN 68 #[.pointer (some ⟨pb, 0, none⟩)] w0 (fun r w => ∃ s', newT s = some (s', s.n) ∧ r = nI s.n ∧ GrT F w0 base pb pv xv F pv xv s' w) fun w => newT s = none ∧ Chg (fun y => y = pb ∨ pv.ownBlock = some y ∨ xv.ownBlock = some y) w0 w := by
 have hG := GrT.start h
 obtain ⟨⟨pa, pc, rfl⟩, xa, xc, rfl⟩ := h.form
 have hblk := h.blk
 have hp := h.hp
 refine RetX_of Try.func68 rfl Try.ntmps68 (Nat.le_of_ble_eq_true rfl) ?_
 have E : Chg (fun q => q = pb) w0 w0 := Chg.refl _ _
 refine Wp_seq_region ?_
 refine qA _ rfl ?_
 refine WpL_nil (Wp_seq (Wp_seq_region ?_))
 refine qM _ rfl ?_
 refine qV (r_nilCheck rfl) ?_
 refine qF pb 0 0 rfl Try.underlying79 rfl siz30 rfl ?_
 refine qF pb 0 0 rfl Try.underlying30 rfl siz3 rfl ?_
 refine qV (r_load rfl flat3 (hblk.cell rfl)) ?_
 refine qV (r_add (c := ((s.n + 1 : Nat) : Int)) rfl rfl ((wI64 (by omega)).trans (by omega))) ?_
 refine qV (r_nilCheck rfl) ?_
 refine qF pb 0 0 rfl Try.underlying79 rfl siz30 rfl ?_
 refine qF pb 0 0 rfl Try.underlying30 rfl siz3 rfl ?_
 refine s_store (b := pb) (o := 0) (c' := #[(I6 ((s.n + 1 : Nat) : Int)), (I6 0), (.slice none 0 0), (.slice pa s.eps.length pc), (.slice xa s.edges.length xc)]) (v := (I6 ((s.n + 1 : Nat) : Int))) rfl rfl rfl siz3 hblk (by simp) rfl ?_
 intro w1 S1
 replace hG := hG.num S1
 replace E := S1.step E (by first | exact Or.inl (by omega) | exact Or.inr rfl | exact Or.inr (by assumption) | exact Or.inr (by simp) | exact Or.inr (by omega) | exact Or.inr (by dsimp only; omega))
 replace hblk := S1.blk
 refine WpL_nil (Wp_seq_region ?_)
 refine qM _ rfl ?_
 refine qV (r_nilCheck rfl) ?_
 refine qF pb 0 0 rfl Try.underlying79 rfl siz30 rfl ?_
 refine qF pb 0 0 rfl Try.underlying30 rfl siz3 rfl ?_
 refine qV (r_load rfl flat3 (hblk.cell rfl)) ?_
 refine qV (r_gtr rfl rfl) ?_
 refine WpL_nil ?_
 refine Wp_cond rfl (fun h0 => ?_) (fun h0 => ?_)
 ·have kh0 := h0
  replace h0 := of_decide_eq_true h0
  refine Wp_region ?_
  refine qV (r_build (ps := []) (v := (.agg #[])) rfl (by kernel_rfl)) ?_
  refine qV (r_makeIface (t := 61) (v := (.agg #[])) Try.underlying61 rfl) ?_
  refine WpL_panic rfl (r_panic (u := 61) (v := (.agg #[])) rfl) (And.intro rfl ⟨newT_no (by omega), E.mono fun y _ hy => .inl hy⟩)
 ·have kh0 := h0
  replace h0 := of_decide_eq_false h0
  refine Wp_skip (thn_normal (Wp_seq_region ?_))
  refine qM _ rfl ?_
  refine qV (r_nilCheck rfl) ?_
  refine qF pb 0 0 rfl Try.underlying79 rfl siz30 rfl ?_
  refine qF pb 0 0 rfl Try.underlying30 rfl siz3 rfl ?_
  refine qV (r_load rfl flat3 (hblk.cell rfl)) ?_
  refine qV (r_sub (c := (s.n : Int)) rfl rfl ((wI64 (by omega)).trans (by omega))) ?_
  refine qA _ rfl ?_
  refine WpL_nil (Wp_ret (finX_ret ?_))
  refine fin_tmp Try.results68 (v := (.int .i64 ((s.n : Nat) : Int))) rfl ?_
  exact ⟨_, newT_ok (by omega), rfl, hG⟩
set_option maxHeartbeats 1000000 in
theorem teps_c (F : Nat → Prop) (w0 : World) (base pb : Nat) (pv xv : Value) (s : ThS) (a b : Nat) (h : TSt F w0 base pb pv xv s) (hn : s.eps.length ≤ 100000) :
  Ret Try.prog 69 #[.pointer (some ⟨pb, 0, none⟩), nI a, nI b] w0 fun _ w => ∃ pv', GrT F w0 base pb pv xv F pv' xv (epsT s a b) w := by
 obtain ⟨⟨pa, pc, rfl⟩, xa, xc, rfl⟩ := h.form
 have hblk := h.blk
 have hown := h.eps
 have hpb := h.pb
 have hbs := h.bs
 refine Ret_of Try.func69 rfl Try.ntmps69 (Nat.le_of_ble_eq_true rfl) ?_
 have E : Chg (fun q => q = pb ∨ (Value.slice pa s.eps.length pc).ownBlock = some q) w0 w0 := Chg.refl _ _
 have hG := GrT.start h
 refine Wp_region ?_
 refine qM _ rfl ?_
 refine qM _ rfl ?_
 refine qV (r_nilCheck rfl) ?_
 refine qF pb 0 0 rfl Try.underlying79 rfl siz30 rfl ?_
 refine qF pb 0 3 rfl Try.underlying30 rfl siz27 rfl ?_
 refine qV (r_load rfl flat27 (hblk.cell rfl)) ?_
 refine qM _ rfl ?_
 refine qM _ rfl ?_
 refine qV (r_build (ps := [(0, (I6 (a : Int))), (1, (I6 (b : Int)))]) (v := (.agg #[(I6 (a : Int)), (I6 (b : Int))])) rfl (by kernel_rfl)) ?_
 refine s_buildSlice (ps := [(0, (.agg #[(I6 (a : Int)), (I6 (b : Int))]))]) (c := #[(I6 (a : Int)), (I6 (b : Int))]) (by decide) rfl Try.underlying27 siz88 zer88 (by decide) (by decide) (by kernel_rfl) ?_
 intro b1 w1 N1
 have F1 := N1.ge E
 have O1_pb := N1.lt hblk
 replace hblk := N1.keep hblk
 replace hown := own_ext hown N1.ext
 replace hbs := Nat.le_trans hbs N1.ext.size
 replace hG := hG.ext N1.ext
 replace E := E.ext N1.ext
 have B1 := N1.blk
 refine s_append (base := base) (n := s.eps.length) (m := 1) (xs := (s.eps.map spanV).flatten) (news := [(I6 (a : Int)), (I6 (b : Int))]) (size := 2) (bytes := 16) (v := (.slice pa s.eps.length pc)) (by decide) Try.underlying27 siz88 byt88 zer88 rfl (by decide) rfl hown rfl (rfl) (B1.cells rfl) (by simp [Value.oneCell']) (by unfold maxLen; omega) (by omega) (hbs) ?_
 intro v7 w59 Ov7 Cv7 Dv7
 replace hblk := Cv7.keep (fun h => by have := (hown.lt _ h).1; omega) hblk
 replace E := E.step Cv7 (fun x hx h => .inr h)
 obtain ⟨pa2, pc2, rfl⟩ := own_form Ov7
 have hPx : True := trivial
 refine qV (r_nilCheck rfl) ?_
 refine qF pb 0 0 rfl Try.underlying79 rfl siz30 rfl ?_
 refine qF pb 0 3 rfl Try.underlying30 rfl siz27 rfl ?_
 refine s_store (b := pb) (o := 3) (c' := #[(I6 (s.n : Int)), (I6 0), (.slice none 0 0), (.slice pa2 (s.eps.length + 1) pc2), (.slice xa s.edges.length xc)]) (v := (.slice pa2 (s.eps.length + 1) pc2)) rfl rfl rfl siz27 hblk (by simp) rfl ?_
 intro w2 S2
 replace hPx := hG.comp (GrT.epsPut (es := s.eps ++ [((a : Int), (b : Int))]) (pv' := .slice pa2 (s.eps.length + 1) pc2) hG.st Cv7 (by simpa [spanV, List.map_append, List.flatten_append] using Ov7) Dv7 S2)
 replace E := S2.step E (by first | exact Or.inl (by omega) | exact Or.inr rfl | exact Or.inr (by assumption) | exact Or.inr (by simp) | exact Or.inr (by omega) | exact Or.inr (by dsimp only; omega))
 replace hblk := S2.blk
 refine WpL_nil ?_
 refine fin_none Try.results69 ?_
 exact ⟨_, hPx⟩
end Go.Proofs
namespace Go.Proofs
open Go Go.Eng Go.Sort
set_option maxRecDepth 100000
theorem LimT.small {s : ThS} {k : Nat} (h : LimT s k) : s.eps.length ≤ 100000 ∧ s.edges.length ≤ 100000 := by
 obtain ⟨h1, h2, h3⟩ := h; omega
/-- What of does with x. -/
def ThOf (wb : World) (x : Re) : Prop := ∀ (base pb : Nat) (F : Nat → Prop) (w0 : World) (pv xv : Value) (s : ThS) (vs : List Value), ReAt wb x vs → Ext wb w0 → (∀ y, y < wb.heap.size → F y) → TSt F w0 base pb pv xv s → LimT s 0 →
 RetX Try.prog lgN 31 #[.pointer (some ⟨pb, 0, none⟩), .agg vs.toArray] w0 (fun r w => ∃ s' a b F' pv' xv', tmO x s = some (s', a, b) ∧ r = .tuple #[nI a, nI b] ∧ GrT F w0 base pb pv xv F' pv' xv' s' w) fun w => tmO x s = none ∧ Chg (fun y => y = pb ∨ pv.ownBlock = some y ∨ xv.ownBlock = some y) w0 w
def starF (f : TF) (s : ThS) (a : Nat) : Option (ThS × Nat) := (f s).bind fun (s2, x, y) => (newT s2).bind fun (s3, e) => some (epsT (epsT (epsT s3 a x) a e) y a, e)
set_option maxHeartbeats 1000000 in
theorem tstar_c (wb : World) (x : Re) (hx : ThOf wb x) (base pb : Nat) (F : Nat → Prop) (w0 : World) (pv xv : Value) (s : ThS) (a : Nat) (vs : List Value) (hxt : ReAt wb x vs) (hE : Ext wb w0) (hF : ∀ y, y < wb.heap.size → F y) (hP : TSt F w0 base pb pv xv s) (hL : LimT s 0) :
  RetX Try.prog lgN 71 #[.pointer (some ⟨pb, 0, none⟩), nI a, .agg vs.toArray] w0 (fun r w => ∃ s' e F' pv' xv', starF (tmO x) s a = some (s', e) ∧ r = nI e ∧ GrT F w0 base pb pv xv F' pv' xv' s' w) fun w => starF (tmO x) s a = none ∧ Chg (fun y => y = pb ∨ pv.ownBlock = some y ∨ xv.ownBlock = some y) w0 w := by
 have hxt0 := hxt
 obtain ⟨sa, sc, aa, ac, rfl, _, _, _⟩ := hxt.form
 refine RetX_of Try.func71 rfl Try.ntmps71 (Nat.le_of_ble_eq_true rfl) ?_
 have E : Chg (fun _ => True) w0 w0 := Chg.refl _ _
 refine Wp_seq_region ?_
 refine s_box (v := (.agg (R6 x sa sc aa ac))) (c := (R6 x sa sc aa ac)) (by decide) rfl rfl ?_
 intro bx wx Nx
 have Fx := Nx.ge E
 replace E := E.ext Nx.ext
 have Bx := Nx.blk
 refine qA _ rfl ?_
 refine WpL_nil (Wp_seq_region ?_)
 refine qM _ rfl ?_
 refine qV (r_loadAgg (vs := [(I6 x.kind), (.slice sa x.set.length sc), (.slice aa x.args.length ac), (I6 x.mn), (I6 x.mx), (.bool x.neg)]) rfl agg25 siz25 rfl (Bx.cells rfl)) ?_
 have G1 := (GrT.start hP).ext Nx.ext
 refine WpL_enterX rfl rfl (by decide) (r_callF Try.func31 kQ kQ rfl) (hx base pb _ _ _ _ s _ hxt0 (G1.base' hP hF hE) (fun q hq => G1.sub q (hF q hq)) G1.st hL) (fun w' h => And.intro rfl ⟨by unfold starF; rw [h.1]; rfl, G1.pan h.2⟩) ?_
 rintro _ w19 ⟨s2, fx, fy, F2, p2, x2, h2, rfl, G2⟩
 replace E := E.step G2.chg (fun _ _ _ => trivial)
 have hL2 := hL.step (lim_all x _ _ _ _ h2)
 replace G2 := G1.comp G2
 refine qM _ rfl ?_
 refine qV (r_extract rfl rfl) ?_
 refine qV (r_extract rfl rfl) ?_
 refine qA _ rfl ?_
 refine qA _ rfl ?_
 refine WpL_nil (Wp_seq_region ?_)
 refine qM _ rfl ?_
 refine WpL_enterX rfl rfl (by decide) (r_callF Try.func68 kQ kQ rfl) (tstate_c _ _ base pb _ _ s2 G2.st hL2.2.2) (fun w' h => And.intro rfl ⟨by unfold starF; rw [h2]; simp [h.1], G2.pan h.2⟩) ?_
 rintro _ w29 ⟨s3, h3, rfl, G3⟩
 replace E := E.step G3.chg (fun _ _ _ => trivial)
 have hL3 := hL2.new h3
 replace G3 := G2.comp G3
 refine qA _ rfl ?_
 refine WpL_nil (Wp_seq_region ?_)
 refine qM _ rfl ?_
 refine qM _ rfl ?_
 refine qM _ rfl ?_
 refine WpL_enter rfl rfl (by decide) (r_callF Try.func69 kQ kQ rfl) (teps_c _ _ base pb _ _ s3 a fx G3.st hL3.small.1) ?_
 rintro _ w39 ⟨p4, G4⟩
 replace E := E.step G4.chg (fun _ _ _ => trivial)
 have hL4 : LimT (epsT s3 a fx) 5 := hL3.eps a fx
 replace G4 := G3.comp G4
 refine WpL_nil (Wp_seq_region ?_)
 refine qM _ rfl ?_
 refine qM _ rfl ?_
 refine qM _ rfl ?_
 refine WpL_enter rfl rfl (by decide) (r_callF Try.func69 kQ kQ rfl) (teps_c _ _ base pb _ _ _ a s2.n G4.st hL4.small.1) ?_
 rintro _ w49 ⟨p5, G5⟩
 replace E := E.step G5.chg (fun _ _ _ => trivial)
 have hL5 : LimT (epsT (epsT s3 a fx) a s2.n) 4 := hL4.eps a s2.n
 replace G5 := G4.comp G5
 refine WpL_nil (Wp_seq_region ?_)
 refine qM _ rfl ?_
 refine qM _ rfl ?_
 refine qM _ rfl ?_
 refine WpL_enter rfl rfl (by decide) (r_callF Try.func69 kQ kQ rfl) (teps_c _ _ base pb _ _ _ fy a G5.st hL5.small.1) ?_
 rintro _ w59 ⟨p6, G6⟩
 replace E := E.step G6.chg (fun _ _ _ => trivial)
 replace G6 := G5.comp G6
 refine WpL_nil (Wp_seq_region ?_)
 refine qM _ rfl ?_
 refine qA _ rfl ?_
 refine WpL_nil (Wp_ret (finX_ret ?_))
 refine fin_tmp Try.results71 (v := (.int .i64 ((s2.n : Nat) : Int))) rfl ?_
 exact ⟨_, _, _, _, _, by unfold starF; rw [h2]; simp [h3], rfl, G6⟩
set_option maxHeartbeats 1000000 in
theorem tcopy_c (wb : World) (x : Re) (hx : ThOf wb x) (base pb : Nat) (F : Nat → Prop) (w0 : World) (pv xv : Value) (s : ThS) (b : Nat) (out : Bool) (vs : List Value) (hxt : ReAt wb x vs) (hE : Ext wb w0) (hF : ∀ y, y < wb.heap.size → F y) (hP : TSt F w0 base pb pv xv s) (hL : LimT s 0) :
  RetX Try.prog lgN 72 #[.pointer (some ⟨pb, 0, none⟩), nI b, .agg vs.toArray, .bool out] w0 (fun r w => ∃ s' e F' pv' xv', copyT (tmO x) s b out = some (s', e) ∧ r = nI e ∧ GrT F w0 base pb pv xv F' pv' xv' s' w) fun w => copyT (tmO x) s b out = none ∧ Chg (fun y => y = pb ∨ pv.ownBlock = some y ∨ xv.ownBlock = some y) w0 w := by
 have hxt0 := hxt
 obtain ⟨sa, sc, aa, ac, rfl, _, _, _⟩ := hxt.form
 refine RetX_of Try.func72 rfl Try.ntmps72 (Nat.le_of_ble_eq_true rfl) ?_
 have E : Chg (fun _ => True) w0 w0 := Chg.refl _ _
 refine Wp_seq_region ?_
 refine s_box (v := (.agg (R6 x sa sc aa ac))) (c := (R6 x sa sc aa ac)) (by decide) rfl rfl ?_
 intro bx wx Nx
 have Fx := Nx.ge E
 replace E := E.ext Nx.ext
 have Bx := Nx.blk
 refine qA _ rfl ?_
 refine WpL_nil (Wp_seq_region ?_)
 refine qM _ rfl ?_
 refine qV (r_loadAgg (vs := [(I6 x.kind), (.slice sa x.set.length sc), (.slice aa x.args.length ac), (I6 x.mn), (I6 x.mx), (.bool x.neg)]) rfl agg25 siz25 rfl (Bx.cells rfl)) ?_
 have G1 := (GrT.start hP).ext Nx.ext
 refine WpL_enterX rfl rfl (by decide) (r_callF Try.func31 kQ kQ rfl) (hx base pb _ _ _ _ s _ hxt0 (G1.base' hP hF hE) (fun q hq => G1.sub q (hF q hq)) G1.st hL) (fun w' h => And.intro rfl ⟨by unfold copyT; rw [h.1]; rfl, G1.pan h.2⟩) ?_
 rintro _ w19 ⟨s2, fx, fy, F2, p2, x2, h2, rfl, G2⟩
 replace E := E.step G2.chg (fun _ _ _ => trivial)
 have hL2 := hL.step (lim_all x _ _ _ _ h2)
 replace G2 := G1.comp G2
 refine qM _ rfl ?_
 refine qV (r_extract rfl rfl) ?_
 refine qV (r_extract rfl rfl) ?_
 refine qA _ rfl ?_
 refine qA _ rfl ?_
 refine WpL_nil (Wp_seq_region ?_)
 refine qM _ rfl ?_
 refine qM _ rfl ?_
 refine qM _ rfl ?_
 refine WpL_enter rfl rfl (by decide) (r_callF Try.func69 kQ kQ rfl) (teps_c _ _ base pb _ _ s2 b fx G2.st hL2.small.1) ?_
 rintro _ w29 ⟨p3, G3⟩
 replace E := E.step G3.chg (fun _ _ _ => trivial)
 have hL3 : LimT (epsT s2 b fx) 2 := hL2.eps b fx
 replace G3 := G2.comp G3
 refine WpL_nil (Wp_seq (Wp_seq_region ?_))
 refine qM _ rfl ?_
 refine qV (r_not rfl) ?_
 refine WpL_nil ?_
 refine Wp_cond rfl (fun ho => ?_) (fun ho => ?_)
 ·have kho := ho
  replace ho := by simpa using ho
  refine Wp_seq_region ?_
  refine qM _ rfl ?_
  refine qA _ rfl ?_
  refine WpL_nil (Wp_ret (thn_ret (finX_ret ?_)))
  refine fin_tmp Try.results72 (v := (.int .i64 ((fy : Nat) : Int))) rfl ?_
  exact ⟨_, _, _, _, _, by unfold copyT; rw [h2]; simp [ho], rfl, G3⟩
 ·have kho := ho
  replace ho := by simpa using ho
  refine Wp_skip (thn_normal (Wp_seq_region ?_))
  refine qM _ rfl ?_
  refine WpL_enterX rfl rfl (by decide) (r_callF Try.func68 kQ kQ rfl) (tstate_c _ _ base pb _ _ _ G3.st hL3.2.2) (fun w' h => And.intro rfl ⟨by unfold copyT; rw [h2]; simp [ho, h.1], G3.pan h.2⟩) ?_
  rintro _ w39 ⟨s4, h4, rfl, G4⟩
  replace E := E.step G4.chg (fun _ _ _ => trivial)
  have hL4 := hL3.new h4
  replace G4 := G3.comp G4
  refine qA _ rfl ?_
  refine WpL_nil (Wp_seq_region ?_)
  refine qM _ rfl ?_
  refine qM _ rfl ?_
  refine qM _ rfl ?_
  refine WpL_enter rfl rfl (by decide) (r_callF Try.func69 kQ kQ rfl) (teps_c _ _ base pb _ _ s4 b (epsT s2 b fx).n G4.st hL4.small.1) ?_
  rintro _ w49 ⟨p5, G5⟩
  replace E := E.step G5.chg (fun _ _ _ => trivial)
  have hL5 : LimT (epsT s4 b (epsT s2 b fx).n) 4 := hL4.eps _ _
  replace G5 := G4.comp G5
  refine WpL_nil (Wp_seq_region ?_)
  refine qM _ rfl ?_
  refine qM _ rfl ?_
  refine qM _ rfl ?_
  refine WpL_enter rfl rfl (by decide) (r_callF Try.func69 kQ kQ rfl) (teps_c _ _ base pb _ _ _ fy (epsT s2 b fx).n G5.st hL5.small.1) ?_
  rintro _ w59 ⟨p6, G6⟩
  replace E := E.step G6.chg (fun _ _ _ => trivial)
  replace G6 := G5.comp G6
  refine WpL_nil (Wp_seq_region ?_)
  refine qM _ rfl ?_
  refine qA _ rfl ?_
  refine WpL_nil (Wp_ret (finX_ret ?_))
  refine fin_tmp Try.results72 (v := (.int .i64 (((epsT s2 b fx).n : Nat) : Int))) rfl ?_
  exact ⟨_, _, _, _, _, by unfold copyT; rw [h2]; simp [ho, h4], rfl, G6⟩
theorem drop_at {α : Type} {l : List α} {k : Nat} {y : α} (hy : l[k]? = some y) : l.drop k = y :: l.drop (k + 1) := by
 have := lt_of_get hy
 rw [List.drop_eq_getElem_cons this]
 rw [List.getElem?_eq_getElem this] at hy
 rw [Option.some.inj hy]
theorem altT_at {e : Nat} {l : List Re} {k : Nat} {y : Re} (hy : l[k]? = some y) (s : ThS) (a : Nat) : altT e (tmL (l.drop k)) s a = (tmO y s).bind fun (s1, x, z) =>
  if k + 2 < l.length then (newT (epsT (epsT s1 a x) z e)).bind fun (s2, q) => altT e (tmL (l.drop (k + 1))) (epsT s2 a q) q
  else altT e (tmL (l.drop (k + 1))) (epsT (epsT s1 a x) z e) a := by
 have hk := lt_of_get hy
 have hlen : (tmL (l.drop (k + 1))).length = l.length - (k + 1) := by rw [tmL_map, List.length_map, List.length_drop]
 rw [drop_at hy, tmL, altT, hlen]
 congr 1
 funext ⟨s1, x, z⟩
 dsimp only
 by_cases h : k + 2 < l.length
 ·rw [if_pos h, if_pos (by omega)]
 ·rw [if_neg h, if_neg (by omega)]
def altA (fs : List TF) (s : ThS) (a : Nat) : Option (ThS × Nat) := (newT s).bind fun (s2, e) => (altT e fs s2 a).bind fun s3 => some (s3, e)
set_option maxHeartbeats 2000000 in
theorem talt_c (wb : World) (l : List Re) (hx : ∀ y ∈ l, ThOf wb y) (base pb : Nat) (F : Nat → Prop) (w0 : World) (pv xv : Value) (s : ThS) (a : Nat) (aa : Option Addr) (ac : Nat) (hlen : l.length ≤ ac ∧ ac ≤ 9223372036854775807) (hargs : l = [] ∨ ∃ b o, aa = some ⟨b, o, none⟩ ∧ ResAt wb b o l) (hsz : l.length ≤ 1000000) (hE : Ext wb w0) (hF : ∀ y, y < wb.heap.size → F y) (hP : TSt F w0 base pb pv xv s) (hL : LimT s 0) :
  RetX Try.prog lgN 70 #[.pointer (some ⟨pb, 0, none⟩), nI a, .slice aa l.length ac] w0 (fun r w => ∃ s' e F' pv' xv', altA (tmL l) s a = some (s', e) ∧ r = nI e ∧ GrT F w0 base pb pv xv F' pv' xv' s' w) fun w => altA (tmL l) s a = none ∧ Chg (fun y => y = pb ∨ pv.ownBlock = some y ∨ xv.ownBlock = some y) w0 w := by
 refine RetX_of Try.func70 rfl Try.ntmps70 (Nat.le_of_ble_eq_true rfl) ?_
 have E : Chg (fun _ => True) w0 w0 := Chg.refl _ _
 refine Wp_seq_region ?_
 refine qA _ rfl ?_
 refine WpL_nil (Wp_seq_region ?_)
 refine qM _ rfl ?_
 refine WpL_enterX rfl rfl (by decide) (r_callF Try.func68 kQ kQ rfl) (tstate_c _ _ base pb _ _ s hP hL.2.2) (fun w' h => And.intro rfl ⟨by unfold altA; rw [h.1]; rfl, h.2⟩) ?_
 rintro _ w19 ⟨s1, h1, rfl, G1⟩
 replace E := E.step G1.chg (fun _ _ _ => trivial)
 have hL1 := hL.new h1
 refine qA _ rfl ?_
 refine WpL_nil (Wp_seq (Wp_seq_region ?_))
 refine qM _ rfl ?_
 refine qV (r_lenSlice Try.underlying23 rfl) ?_
 refine qM _ rfl ?_
 refine WpL_nil (Wp_block ?_)
 refine Wp_loop (fun nn_ σ W1 => ∃ (k : Nat) (sk : ThS) (ak : Nat) (Fk : Nat → Prop) (pk : Value) (xk : Value), (∃ jj_, σ = upds jj_ [(0, (P6 pb 0)), (2, (.slice aa l.length ac)), (7, (I6 (s.n : Int))), (15, (.slice aa l.length ac)), (16, (I6 (l.length : Int))), (17, (I6 (k : Int))), (1, (I6 (ak : Int)))]) ∧ Chg (fun _ => True) w0 W1 ∧ (k ≤ l.length) ∧ (altT s.n (tmL l) s1 a = altT s.n (tmL (l.drop k)) sk ak) ∧ (GrT F w0 base pb pv xv Fk pk xk sk W1) ∧ (LimT sk 0) ∧ nn_ = l.length - k) (n := l.length - 0) ?_ ?_
 ·exact ⟨0, s1, a, F, pv, xv, Fits.out ⟨rfl, rfl, rfl, rfl, rfl, rfl, rfl, trivial⟩, E, Nat.zero_le _, (by rw [List.drop_zero]), G1, hL1.le (Nat.zero_le _), rfl⟩
 ·clear E
  rintro _ _ W1 ⟨k, sk, ak, Fk, pk, xk, ⟨j1, rfl⟩, E, hk, hQ, hG, hLk, rfl⟩
  refine Wp_seq_region ?_
  refine qV (r_lss rfl rfl) ?_
  refine WpL_nil (Wp_seq ?_)
  refine Wp_cond rfl (fun hlt => ?_) (fun hlt => ?_)
  ·have khlt := hlt
   replace hlt := of_decide_eq_true hlt
   obtain ⟨y, hy⟩ := get_of_lt (l := l) (i := k) (by omega)
   obtain ⟨ab, ao, rfl, hres⟩ := args_at hargs (by omega)
   obtain ⟨us, hus, hyt⟩ := hres.get hy
   have hyt0 := hyt
   obtain ⟨ysa, ysc, yaa, yac, rfl, _, _, _⟩ := hyt.form
   rw [altT_at hy] at hQ
   refine Wp_skip (thn_normal (Wp_seq (Wp_block (Wp_seq_region ?_))))
   refine qM _ rfl ?_
   refine qV (r_indexSlice (b := ab) (o := ao) (len := l.length) (cap := ac) (i := k) (o' := ao + k * 6) rfl rfl rfl Try.underlying23 siz25 (by omega) (by omega)) ?_
   refine qV (r_loadAgg rfl agg25 siz25 rfl (hus.ext (hG.base' hP hF hE))) ?_
   have E1 : Chg none1 W1 W1 := Chg.refl _ _
   refine s_alloc (c := #[(I6 0), (.slice none 0 0), (.slice none 0 0), (I6 0), (I6 0), (.bool false)]) (by decide) zer25 rfl ?_
   intro bu wu Nu
   have Fu := Nu.ge E
   have Fu_E1 := Nu.ge E1
   replace E := E.ext Nu.ext
   have Bu := Nu.blk
   replace E1 := E1.ext Nu.ext
   refine qA _ rfl ?_
   refine s_storeAgg (b := bu) (o := 0) (c' := (R6 y ysa ysc yaa yac)) rfl rfl (by simp [Value.oneCell']) siz25 rfl Bu (by first | (simp; done) | exact Nat.le_of_ble_eq_true rfl) rfl ?_
   intro w3 S3
   replace E := S3.step E (by first | exact Or.inl (by omega) | exact Or.inr rfl | exact Or.inr (by assumption) | exact Or.inr (by simp) | exact Or.inr (by omega) | exact Or.inr (by dsimp only; omega))
   replace E1 := S3.step E1 (Or.inl (by omega))
   replace Bu := S3.blk
   refine WpL_nil (Wp_seq_region ?_)
   refine qM _ rfl ?_
   refine qV (r_loadAgg (vs := [(I6 y.kind), (.slice ysa y.set.length ysc), (.slice yaa y.args.length yac), (I6 y.mn), (I6 y.mx), (.bool y.neg)]) rfl agg25 siz25 rfl (Bu.cells rfl)) ?_
   replace hG := hG.ext E1
   refine WpL_enterX rfl rfl (by decide) (r_callF Try.func31 kQ kQ rfl) (hx y (List.mem_of_getElem? hy) base pb _ _ _ _ sk _ hyt0 (hG.base' hP hF hE) (fun q hq => hG.sub q (hF q hq)) hG.st hLk) (fun w' h => And.intro rfl ⟨by unfold altA; rw [h1]; simp [hQ, h.1], hG.pan h.2⟩) ?_
   rintro _ w29 ⟨s2, fx, fy, F2, p2, x2, h2, rfl, G2⟩
   replace E := E.step G2.chg (fun _ _ _ => trivial)
   have hL2 := hLk.step (lim_all y _ _ _ _ h2)
   rw [h2, Option.bind_some] at hQ
   dsimp only at hQ
   replace G2 := hG.comp G2
   refine qM _ rfl ?_
   refine qV (r_extract rfl rfl) ?_
   refine qV (r_extract rfl rfl) ?_
   refine qA _ rfl ?_
   refine qA _ rfl ?_
   refine WpL_nil (Wp_seq_region ?_)
   refine qM _ rfl ?_
   refine qM _ rfl ?_
   refine qM _ rfl ?_
   refine WpL_enter rfl rfl (by decide) (r_callF Try.func69 kQ kQ rfl) (teps_c _ _ base pb _ _ s2 ak fx G2.st hL2.small.1) ?_
   rintro _ w39 ⟨p3, G3⟩
   replace E := E.step G3.chg (fun _ _ _ => trivial)
   have hL3 : LimT (epsT s2 ak fx) 2 := hL2.eps _ _
   replace G3 := G2.comp G3
   refine WpL_nil (Wp_seq_region ?_)
   refine qM _ rfl ?_
   refine qM _ rfl ?_
   refine qM _ rfl ?_
   refine WpL_enter rfl rfl (by decide) (r_callF Try.func69 kQ kQ rfl) (teps_c _ _ base pb _ _ _ fy s.n G3.st hL3.small.1) ?_
   rintro _ w49 ⟨p4, G4⟩
   replace E := E.step G4.chg (fun _ _ _ => trivial)
   have hL4 : LimT (epsT (epsT s2 ak fx) fy s.n) 1 := hL3.eps _ _
   replace G4 := G3.comp G4
   refine WpL_nil (Wp_seq_region ?_)
   refine qM _ rfl ?_
   refine qV (r_add (c := ((k + 2 : Nat) : Int)) rfl rfl ((wI64 (by omega)).trans (by omega))) ?_
   refine qM _ rfl ?_
   refine qV (r_lenSlice Try.underlying23 rfl) ?_
   refine qV (r_lss rfl rfl) ?_
   refine WpL_nil ?_
   refine Wp_cond rfl (fun hmore => ?_) (fun hmore => ?_)
   ·have khmore := hmore
    replace hmore := of_decide_eq_true hmore
    rw [if_pos (by omega)] at hQ
    refine Wp_seq_region ?_
    refine qM _ rfl ?_
    refine WpL_enterX rfl rfl (by decide) (r_callF Try.func68 kQ kQ rfl) (tstate_c _ _ base pb _ _ _ G4.st hL4.2.2) (fun w' h => And.intro rfl ⟨by unfold altA; rw [h1]; simp [hQ, h.1], G4.pan h.2⟩) ?_
    rintro _ w59 ⟨s5, h5, rfl, G5⟩
    replace E := E.step G5.chg (fun _ _ _ => trivial)
    have hL5 := hL4.new h5
    rw [h5, Option.bind_some] at hQ
    dsimp only at hQ
    replace G5 := G4.comp G5
    refine qA _ rfl ?_
    refine WpL_nil (Wp_seq_region ?_)
    refine qM _ rfl ?_
    refine qM _ rfl ?_
    refine qM _ rfl ?_
    refine WpL_enter rfl rfl (by decide) (r_callF Try.func69 kQ kQ rfl) (teps_c _ _ base pb _ _ s5 ak (epsT (epsT s2 ak fx) fy s.n).n G5.st hL5.small.1) ?_
    rintro _ w69 ⟨p6, G6⟩
    replace E := E.step G6.chg (fun _ _ _ => trivial)
    have hL6 : LimT (epsT s5 ak (epsT (epsT s2 ak fx) fy s.n).n) 3 := hL5.eps _ _
    replace G6 := G5.comp G6
    refine WpL_nil (Wp_region ?_)
    refine qM _ rfl ?_
    refine qA _ rfl ?_
    refine WpL_nil (inB_normal (thn_normal (Wp_region ?_)))
    refine qV (r_add rfl rfl (wI64 (by omega))) ?_
    refine qM _ rfl ?_
    refine WpL_nil (thn_normal ?_)
    exact ⟨l.length - (k + 1), by omega, k + 1, _, _, F2, p6, x2, Fits.out ⟨rfl, rfl, rfl, rfl, rfl, rfl, rfl, trivial⟩, E, (by omega), hQ, G6, hL6.le (Nat.zero_le _), rfl⟩
   ·have khmore := hmore
    replace hmore := of_decide_eq_false hmore
    rw [if_neg (by omega)] at hQ
    refine Wp_skip (inB_normal (thn_normal (Wp_region ?_)))
    refine qV (r_add rfl rfl (wI64 (by omega))) ?_
    refine qM _ rfl ?_
    refine WpL_nil (thn_normal ?_)
    exact ⟨l.length - (k + 1), by omega, k + 1, _, _, F2, p4, x2, Fits.out ⟨rfl, rfl, rfl, rfl, rfl, rfl, rfl, trivial⟩, E, (by omega), hQ, G4, hL4.le (Nat.zero_le _), rfl⟩
  ·have khlt := hlt
   replace hlt := of_decide_eq_false hlt
   have hkk : k = l.length := by omega
   rw [hkk, List.drop_length] at hQ
   refine Wp_exit (thn_exit (thn_exit (inB_here (thn_normal (Wp_seq_region ?_)))))
   refine qM _ rfl ?_
   refine qA _ rfl ?_
   refine WpL_nil (Wp_ret (finX_ret ?_))
   refine fin_tmp Try.results70 (v := (.int .i64 ((s.n : Nat) : Int))) rfl ?_
   exact ⟨_, _, _, _, _, by unfold altA; rw [h1]; simp [hQ, tmL, altT], rfl, hG⟩
end Go.Proofs
namespace Go.Proofs
open Go Go.Eng Go.Sort
set_option maxRecDepth 100000
theorem catB_len : ∀ ps : List (Bool × List Int), (catB ps).length ≤ ((ps.map (·.2)).flatten).length
  | [] => Nat.le_refl _
  | p :: r => by
    have h := catB_len r
    rw [catB]
    split
    · simp only [List.length_append, List.map_cons, List.flatten_cons]; omega
    · simp only [List.length_append, List.map_cons, List.flatten_cons]; omega
theorem flat_rev (ps : List (List Int)) : ps.reverse.flatten.length = ps.flatten.length := by
  induction ps with
  | nil => rfl
  | cons p r ih => simp only [List.reverse_cons, List.flatten_append, List.length_append, List.flatten_cons, ih, List.flatten_nil, List.append_nil]; omega
mutual
theorem bord_len (last : Bool) : ∀ x : Re, (bordR last x).length ≤ x.size
  | .mk k s a mn mx g => by
    have h := bord_lens last a
    have e : (bordRs last a).map (·.2) = (bordRs last a).map (·.2) := rfl
    rw [bordR]
    unfold bordE
    show _ ≤ Re.sizes a + 1
    split
    · simp
    split
    · omega
    split
    · refine Nat.le_trans (catB_len _) ?_
      unfold ordB
      split
      · rw [List.map_reverse, flat_rev]; omega
      · omega
    · simp
theorem bord_lens (last : Bool) : ∀ l : List Re, (((bordRs last l).map (·.2)).flatten).length ≤ Re.sizes l
  | [] => Nat.le_refl _
  | x :: l => by
    have h1 := bord_len last x
    have h2 := bord_lens last l
    rw [bordRs]
    simp only [List.map_cons, List.flatten_cons, List.length_append]
    show _ ≤ x.size + Re.sizes l
    omega
end
def BordOk (x : Re) : Prop := ∀ (w0 : World) (vs : List Value) (last : Bool), ReAt w0 x vs → x.size ≤ 1000000 → Ret Try.prog 45 #[.agg vs.toArray, .bool last] w0 fun v w => (∃ a c, v = .slice a (bordR last x).length c ∧ w.ownsRow w0.heap.size TDI 1 (.slice a (bordR last x).length c) (bordR last x).length ((bordR last x).map (Value.int .i64))) ∧ Ext w0 w
theorem bord2_c (x : Re) (hk : x.kind = 2) : BordOk x := by
 intro w0 vs last hxt hsz
 obtain ⟨sa, sc, aa, ac, rfl, hset, hlen, hargs⟩ := hxt.form
 have he : bordR last x = [x.mn] := by rw [bordR_eq]; unfold bordE; rw [if_pos hk]
 rw [he]
 refine Ret_of Try.func45 rfl Try.ntmps45 (Nat.le_of_ble_eq_true rfl) ?_
 have E : Chg none1 w0 w0 := Chg.refl _ _
 refine Wp_seq_region ?_
 refine s_box (v := (.agg (R6 x sa sc aa ac))) (c := (R6 x sa sc aa ac)) (by decide) rfl rfl ?_
 intro br wr Nr
 have Fr := Nr.ge E
 replace E := E.ext Nr.ext
 have Br := Nr.blk
 refine qA _ rfl ?_
 refine WpL_nil (Wp_seq_region ?_)
 refine qA _ rfl ?_
 refine WpL_nil (Wp_seq (Wp_seq_region ?_))
 refine qF br 0 0 rfl Try.underlying25 rfl siz3 rfl ?_
 refine qV (r_load rfl flat3 (Br.cell rfl)) ?_
 refine WpL_nil (Wp_block (Wp_seq_region ?_))
 refine qV (r_eql rfl rfl) ?_
 refine qA _ rfl ?_
 refine WpL_nil ?_
 have hc1 : (decide ((x.kind : Int) = 2)) = true := decide_eq_true hk
 refine Wp_cond_true (congrArg Value.bool hc1) ?_
 refine Wp_seq_region ?_
 refine qF br 0 3 rfl Try.underlying25 rfl siz3 rfl ?_
 refine qV (r_load rfl flat3 (Br.cell rfl)) ?_
 refine s_buildSlice (ps := [(0, (I6 x.mn))]) (c := #[(I6 x.mn)]) (by decide) rfl Try.underlying26 siz3 zer3 (by decide) (by decide) (by kernel_rfl) ?_
 intro bl wl Nl
 have Fl := Nl.ge E
 have Ol_br := Nl.lt Br
 replace Br := Nl.keep Br
 replace E := E.ext Nl.ext
 have Bl := Nl.blk
 refine qA _ rfl ?_
 refine WpL_nil (Wp_ret (inB_ret (thn_ret ?_)))
 refine fin_tmp Try.results45 (v := (.slice (some ⟨bl, 0, none⟩) 1 1)) rfl ?_
 exact ⟨⟨_, _, rfl, own_lit1 Bl (by have := E.size; omega)⟩, E⟩
theorem bord0_c (x : Re) (hk : x.kind ≠ 2 ∧ x.kind ≠ 3 ∧ x.kind ≠ 4 ∧ x.kind ≠ 5) : BordOk x := by
 intro w0 vs last hxt hsz
 obtain ⟨sa, sc, aa, ac, rfl, hset, hlen, hargs⟩ := hxt.form
 have he : bordR last x = [] := by rw [bordR_eq]; unfold bordE; rw [if_neg (by omega), if_neg (by omega), if_neg (by omega)]
 rw [he]
 refine Ret_of Try.func45 rfl Try.ntmps45 (Nat.le_of_ble_eq_true rfl) ?_
 have E : Chg none1 w0 w0 := Chg.refl _ _
 refine Wp_seq_region ?_
 refine s_box (v := (.agg (R6 x sa sc aa ac))) (c := (R6 x sa sc aa ac)) (by decide) rfl rfl ?_
 intro b1 w1 N1
 have F1 := N1.ge E
 replace E := E.ext N1.ext
 have B1 := N1.blk
 refine qA _ rfl ?_
 refine WpL_nil (Wp_seq_region ?_)
 refine qA _ rfl ?_
 refine WpL_nil (Wp_seq (Wp_seq_region ?_))
 refine qF b1 0 0 rfl Try.underlying25 rfl siz3 rfl ?_
 refine qV (r_load rfl flat3 (B1.cell rfl)) ?_
 refine WpL_nil (Wp_block (Wp_seq_region ?_))
 refine qV (r_eql rfl rfl) ?_
 refine qA _ rfl ?_
 refine WpL_nil ?_
 have hc2 : (decide ((x.kind : Int) = 2)) = false := decide_eq_false (by omega)
 refine Wp_cond_false (congrArg Value.bool hc2) ?_
 refine Wp_seq (Wp_seq_region ?_)
 refine qV (r_eql rfl rfl) ?_
 refine qA _ rfl ?_
 refine WpL_nil ?_
 have hc3 : (decide ((x.kind : Int) = 4)) = false := decide_eq_false (by omega)
 refine Wp_cond_false (congrArg Value.bool hc3) ?_
 refine Wp_region ?_
 refine qV (r_eql rfl rfl) ?_
 refine qA _ rfl ?_
 refine WpL_nil (thn_normal ?_)
 have hc4 : (decide ((x.kind : Int) = 5)) = false := decide_eq_false (by omega)
 refine Wp_cond_false (congrArg Value.bool hc4) ?_
 refine Wp_seq_region ?_
 refine qV (r_eql rfl rfl) ?_
 refine qA _ rfl ?_
 refine WpL_nil ?_
 have hc5 : (decide ((x.kind : Int) = 3)) = false := decide_eq_false (by omega)
 refine Wp_cond_false (congrArg Value.bool hc5) ?_
 refine Wp_skip (inB_normal (thn_normal (Wp_seq_region ?_)))
 refine qM _ rfl ?_
 refine qA _ rfl ?_
 refine WpL_nil (Wp_ret ?_)
 refine fin_tmp Try.results45 (v := (.slice none 0 0)) rfl ?_
 exact ⟨⟨_, _, rfl, World.ownsRow_nil _ _ _ _⟩, E⟩
theorem fmap_take {l : List Re} {k : Nat} {y : Re} (h : l[k]? = some y) (f : Re → List Int) : ((l.take (k + 1)).map f).flatten = ((l.take k).map f).flatten ++ f y := by
 rw [List.take_add_one, h, Option.toList_some, List.map_append, List.flatten_append]; simp
theorem flat_pre (f : Re → List Int) : ∀ (l : List Re) (k : Nat), (((l.take k).map f).flatten).length ≤ ((l.map f).flatten).length
  | [], k => by simp
  | x :: l, 0 => by simp
  | x :: l, k + 1 => by
    have h := flat_pre f l k
    simp only [List.take_succ_cons, List.map_cons, List.flatten_cons, List.length_append]; omega
theorem bord_all (last : Bool) (l : List Re) : ((l.map (bordR last)).flatten).length ≤ Re.sizes l := by
 have h := bord_lens last l
 rw [bordRs_map, List.map_map] at h
 exact h
theorem bord_pre (last : Bool) (l : List Re) (k : Nat) : (((l.take k).map (bordR last)).flatten).length ≤ Re.sizes l := Nat.le_trans (flat_pre _ l k) (bord_all last l)
theorem bord_preO (last : Bool) (l : List Re) (k : Nat) : ((((ordB last l).take k).map (bordR last)).flatten).length ≤ Re.sizes l := by
 refine Nat.le_trans (flat_pre _ _ k) ?_
 unfold ordB
 split
 ·rw [List.map_reverse, flat_rev]; exact bord_all last l
 ·exact bord_all last l
theorem bord4_c (x : Re) (hk : x.kind = 4) (hof : ∀ y ∈ x.args, BordOk y) : BordOk x := by
 intro w0 vs last hxt hsz
 obtain ⟨sa, sc, aa, ac, rfl, hset, hlen, hargs⟩ := hxt.form
 have hal := len_lt_size x
 refine Ret_of Try.func45 rfl Try.ntmps45 (Nat.le_of_ble_eq_true rfl) ?_
 have E : Chg none1 w0 w0 := Chg.refl _ _
 refine Wp_seq_region ?_
 refine s_box (v := (.agg (R6 x sa sc aa ac))) (c := (R6 x sa sc aa ac)) (by decide) rfl rfl ?_
 intro br wr Nr
 have Fr := Nr.ge E
 replace E := E.ext Nr.ext
 have Br := Nr.blk
 refine qA _ rfl ?_
 refine WpL_nil (Wp_seq_region ?_)
 refine qA _ rfl ?_
 refine WpL_nil (Wp_seq (Wp_seq_region ?_))
 refine qF br 0 0 rfl Try.underlying25 rfl siz3 rfl ?_
 refine qV (r_load rfl flat3 (Br.cell rfl)) ?_
 refine WpL_nil (Wp_block (Wp_seq_region ?_))
 refine qV (r_eql rfl rfl) ?_
 refine qA _ rfl ?_
 refine WpL_nil ?_
 have hc1 : (decide ((x.kind : Int) = 2)) = false := decide_eq_false (by omega)
 refine Wp_cond_false (congrArg Value.bool hc1) ?_
 refine Wp_seq (Wp_seq_region ?_)
 refine qV (r_eql rfl rfl) ?_
 refine qA _ rfl ?_
 refine WpL_nil ?_
 have hc2 : (decide ((x.kind : Int) = 4)) = true := decide_eq_true hk
 refine Wp_cond_true (congrArg Value.bool hc2) ?_
 refine Wp_skip (thn_normal ?_)
 refine Wp_cond_true (congrArg Value.bool hc2) ?_
 refine Wp_seq_region ?_
 refine qF br 0 2 rfl Try.underlying25 rfl siz23 rfl ?_
 refine qV (r_load rfl flat23 (Br.cell rfl)) ?_
 refine qV (r_lenSlice Try.underlying23 rfl) ?_
 refine qM _ rfl ?_
 refine WpL_nil (Wp_block ?_)
 have hse := x.size_eq
 obtain ⟨z0, hz0⟩ : ∃ z0, z0 = (wr).heap.size := ⟨_, rfl⟩
 have hbr : br < z0 ∧ w0.heap.size ≤ z0 := by rw [hz0]; exact ⟨Br.lt, E.size⟩
 refine Wp_loop (fun nn_ σ W3 => ∃ (k m : Nat) (la : Option Addr) (lc : Nat) (L : List Int), (∃ jj_, σ = upds jj_ [(1, (.bool last)), (21, (.slice aa x.args.length ac)), (22, (I6 (x.args.length : Int))), (23, (I6 (k : Int))), (5, (.slice la m lc))]) ∧ Chg none1 w0 W3 ∧ Blk W3 br (R6 x sa sc aa ac) 25 ∧ (k ≤ x.args.length) ∧ (L = ((x.args.take k).map (bordR last)).flatten) ∧ (m = L.length) ∧ (W3.ownsRow z0 TDI 1 (.slice la m lc) m (L.map (Value.int .i64))) ∧ (z0 ≤ W3.heap.size) ∧ nn_ = x.args.length - k) (n := x.args.length - 0) ?_ ?_
 ·exact ⟨0, 0, none, 0, [], Fits.out ⟨rfl, rfl, rfl, rfl, rfl, trivial⟩, E, Br, Nat.zero_le _, (by simp), rfl, World.ownsRow_nil _ _ _ _, Nat.le_of_eq hz0, rfl⟩
 ·clear E Br
  rintro _ _ W3 ⟨k, m, la, lc, L, ⟨j3, rfl⟩, E, Br, hk1, hL, hm, hown, hzs, rfl⟩
  refine Wp_seq_region ?_
  refine qV (r_lss rfl rfl) ?_
  refine WpL_nil (Wp_seq ?_)
  refine Wp_cond rfl (fun hlt => ?_) (fun hlt => ?_)
  ·have khlt := hlt
   replace hlt := of_decide_eq_true hlt
   obtain ⟨y, hy⟩ := get_of_lt (l := x.args) (i := k) (by omega)
   obtain ⟨ab, ao, rfl, hres⟩ := args_at hargs (by omega)
   obtain ⟨us, hus, hyt⟩ := hres.get hy
   have hyt0 := hyt
   obtain ⟨ysa, ysc, yaa, yac, rfl, _, _, _⟩ := hyt.form
   have hys := Re.size_arg hy
   have hft := fmap_take hy (bordR last)
   have hLl := bord_pre last x.args (k + 1)
   rw [hft, List.length_append, ← hL] at hLl
   refine Wp_skip (thn_normal (Wp_seq (Wp_block (Wp_seq_region ?_))))
   refine qV (r_indexSlice (b := ab) (o := ao) (len := x.args.length) (cap := ac) (i := k) (o' := ao + k * 6) rfl rfl rfl Try.underlying23 siz25 (by omega) (by omega)) ?_
   refine qV (r_loadAgg rfl agg25 siz25 rfl (hus.ext E)) ?_
   refine s_allocStore (v := (.agg (R6 y ysa ysc yaa yac))) (c := (R6 y ysa ysc yaa yac)) (n := 6) (by decide) zer25 rfl siz25 rfl rfl rfl (by simp [Value.oneCell']) ?_
   intro bu wu Nu
   have Fu := Nu.ge E
   have Ou_br := Nu.lt Br
   replace Br := Nu.keep Br
   replace hown := own_ext hown Nu.ext
   replace hzs := Nat.le_trans hzs Nu.ext.size
   replace E := E.ext Nu.ext
   have Bu := Nu.blk
   refine WpL_nil (Wp_region ?_)
   refine qM _ rfl ?_
   refine qV (r_loadAgg (vs := [(I6 y.kind), (.slice ysa y.set.length ysc), (.slice yaa y.args.length yac), (I6 y.mn), (I6 y.mx), (.bool y.neg)]) rfl agg25 siz25 rfl (Bu.cells rfl)) ?_
   refine qM _ rfl ?_
   refine WpL_enter rfl rfl (by decide) (r_callF Try.func45 kQ kQ rfl) (hof y (List.mem_of_getElem? hy) _ _ last (ReAt.ext E y hyt0) (by omega)) ?_
   rintro _ w9 ⟨⟨ga, gc, rfl, hO9⟩, X9⟩
   replace Br := X9.keep Br
   replace Bu := X9.keep Bu
   replace hown := own_ext hown X9
   replace hzs := Nat.le_trans hzs X9.size
   replace E := E.ext X9
   refine s_appendAny (base := z0) (n := m) (m := ((bordR last y).length)) (xs := (L.map (Value.int .i64))) (news := ((bordR last y).map (Value.int .i64))) (size := 1) (bytes := 8) (v := (.slice la m lc)) (by decide) Try.underlying26 siz3 byt3 zer3 rfl (by decide) rfl hown rfl ((by rw [List.length_map, Nat.mul_one])) (ints_any (own_intsD hO9 rfl)) (ints_one _) (by unfold maxLen; omega) (by omega) (hzs) ?_
   intro v9 w29 Ov9 Cv9 Dv9
   replace Br := Cv9.keep (fun h => by have := (hown.lt _ h).1; omega) Br
   replace E := E.step Cv9 (fun x hx h => absurd (hown.lt x h).1 (by omega))
   obtain ⟨la2, lc2, rfl⟩ := own_form Ov9
   refine qA _ rfl ?_
   refine WpL_nil (inB_normal (thn_normal (Wp_region ?_)))
   refine qV (r_add rfl rfl (wI64 (by omega))) ?_
   refine qM _ rfl ?_
   refine WpL_nil (thn_normal ?_)
   exact ⟨x.args.length - (k + 1), by omega, k + 1, m + (bordR last y).length, la2, lc2, L ++ bordR last y, Fits.out ⟨rfl, rfl, rfl, rfl, rfl, trivial⟩, E, Br, (by omega), (by rw [hft, hL]), (by rw [List.length_append, hm]), (by rw [List.map_append]; exact Ov9), Nat.le_trans hzs Cv9.size, rfl⟩
  ·have khlt := hlt
   replace hlt := of_decide_eq_false hlt
   have hkk : x.args.take k = x.args := List.take_of_length_le (by omega)
   rw [hkk] at hL
   have he : bordR last x = L := by rw [bordR_eq, bordE, if_neg (by omega), if_pos (.inl hk), List.map_map, hL]; rfl
   refine Wp_exit (thn_exit (thn_exit (inB_here (inB_normal (thn_normal (Wp_seq_region ?_))))))
   refine qM _ rfl ?_
   refine qA _ rfl ?_
   refine WpL_nil (Wp_ret ?_)
   refine fin_tmp Try.results45 (v := (.slice la m lc)) rfl ?_
   rw [he, ← hm]; exact ⟨⟨_, _, rfl, by exact own_low hown hbr.2⟩, E⟩
theorem bord5_c (x : Re) (hk : x.kind = 5) (hof : ∀ y ∈ x.args, BordOk y) : BordOk x := by
 intro w0 vs last hxt hsz
 obtain ⟨sa, sc, aa, ac, rfl, hset, hlen, hargs⟩ := hxt.form
 have hal := len_lt_size x
 refine Ret_of Try.func45 rfl Try.ntmps45 (Nat.le_of_ble_eq_true rfl) ?_
 have E : Chg none1 w0 w0 := Chg.refl _ _
 refine Wp_seq_region ?_
 refine s_box (v := (.agg (R6 x sa sc aa ac))) (c := (R6 x sa sc aa ac)) (by decide) rfl rfl ?_
 intro br wr Nr
 have Fr := Nr.ge E
 replace E := E.ext Nr.ext
 have Br := Nr.blk
 refine qA _ rfl ?_
 refine WpL_nil (Wp_seq_region ?_)
 refine qA _ rfl ?_
 refine WpL_nil (Wp_seq (Wp_seq_region ?_))
 refine qF br 0 0 rfl Try.underlying25 rfl siz3 rfl ?_
 refine qV (r_load rfl flat3 (Br.cell rfl)) ?_
 refine WpL_nil (Wp_block (Wp_seq_region ?_))
 refine qV (r_eql rfl rfl) ?_
 refine qA _ rfl ?_
 refine WpL_nil ?_
 have hc1 : (decide ((x.kind : Int) = 2)) = false := decide_eq_false (by omega)
 refine Wp_cond_false (congrArg Value.bool hc1) ?_
 refine Wp_seq (Wp_seq_region ?_)
 refine qV (r_eql rfl rfl) ?_
 refine qA _ rfl ?_
 refine WpL_nil ?_
 have hc2 : (decide ((x.kind : Int) = 4)) = false := decide_eq_false (by omega)
 refine Wp_cond_false (congrArg Value.bool hc2) ?_
 refine Wp_region ?_
 refine qV (r_eql rfl rfl) ?_
 refine qA _ rfl ?_
 refine WpL_nil (thn_normal ?_)
 have hc3 : (decide ((x.kind : Int) = 5)) = true := decide_eq_true hk
 refine Wp_cond_true (congrArg Value.bool hc3) ?_
 refine Wp_seq_region ?_
 refine qF br 0 2 rfl Try.underlying25 rfl siz23 rfl ?_
 refine qV (r_load rfl flat23 (Br.cell rfl)) ?_
 refine qV (r_lenSlice Try.underlying23 rfl) ?_
 refine qM _ rfl ?_
 refine WpL_nil (Wp_block ?_)
 have hse := x.size_eq
 obtain ⟨z0, hz0⟩ : ∃ z0, z0 = (wr).heap.size := ⟨_, rfl⟩
 have hbr : br < z0 ∧ w0.heap.size ≤ z0 := by rw [hz0]; exact ⟨Br.lt, E.size⟩
 refine Wp_loop (fun nn_ σ W4 => ∃ (k m : Nat) (la : Option Addr) (lc : Nat) (L : List Int), (∃ jj_, σ = upds jj_ [(1, (.bool last)), (21, (.slice aa x.args.length ac)), (22, (I6 (x.args.length : Int))), (23, (I6 (k : Int))), (5, (.slice la m lc))]) ∧ Chg none1 w0 W4 ∧ Blk W4 br (R6 x sa sc aa ac) 25 ∧ (k ≤ x.args.length) ∧ (L = ((x.args.take k).map (bordR last)).flatten) ∧ (m = L.length) ∧ (W4.ownsRow z0 TDI 1 (.slice la m lc) m (L.map (Value.int .i64))) ∧ (z0 ≤ W4.heap.size) ∧ nn_ = x.args.length - k) (n := x.args.length - 0) ?_ ?_
 ·exact ⟨0, 0, none, 0, [], Fits.out ⟨rfl, rfl, rfl, rfl, rfl, trivial⟩, E, Br, Nat.zero_le _, (by simp), rfl, World.ownsRow_nil _ _ _ _, Nat.le_of_eq hz0, rfl⟩
 ·clear E Br
  rintro _ _ W4 ⟨k, m, la, lc, L, ⟨j4, rfl⟩, E, Br, hk1, hL, hm, hown, hzs, rfl⟩
  refine Wp_seq_region ?_
  refine qV (r_lss rfl rfl) ?_
  refine WpL_nil (Wp_seq ?_)
  refine Wp_cond rfl (fun hlt => ?_) (fun hlt => ?_)
  ·have khlt := hlt
   replace hlt := of_decide_eq_true hlt
   obtain ⟨y, hy⟩ := get_of_lt (l := x.args) (i := k) (by omega)
   obtain ⟨ab, ao, rfl, hres⟩ := args_at hargs (by omega)
   obtain ⟨us, hus, hyt⟩ := hres.get hy
   have hyt0 := hyt
   obtain ⟨ysa, ysc, yaa, yac, rfl, _, _, _⟩ := hyt.form
   have hys := Re.size_arg hy
   have hft := fmap_take hy (bordR last)
   have hLl := bord_pre last x.args (k + 1)
   rw [hft, List.length_append, ← hL] at hLl
   refine Wp_skip (thn_normal (Wp_seq (Wp_block (Wp_seq_region ?_))))
   refine qV (r_indexSlice (b := ab) (o := ao) (len := x.args.length) (cap := ac) (i := k) (o' := ao + k * 6) rfl rfl rfl Try.underlying23 siz25 (by omega) (by omega)) ?_
   refine qV (r_loadAgg rfl agg25 siz25 rfl (hus.ext E)) ?_
   refine s_allocStore (v := (.agg (R6 y ysa ysc yaa yac))) (c := (R6 y ysa ysc yaa yac)) (n := 6) (by decide) zer25 rfl siz25 rfl rfl rfl (by simp [Value.oneCell']) ?_
   intro bu wu Nu
   have Fu := Nu.ge E
   have Ou_br := Nu.lt Br
   replace Br := Nu.keep Br
   replace hown := own_ext hown Nu.ext
   replace hzs := Nat.le_trans hzs Nu.ext.size
   replace E := E.ext Nu.ext
   have Bu := Nu.blk
   refine WpL_nil (Wp_region ?_)
   refine qM _ rfl ?_
   refine qV (r_loadAgg (vs := [(I6 y.kind), (.slice ysa y.set.length ysc), (.slice yaa y.args.length yac), (I6 y.mn), (I6 y.mx), (.bool y.neg)]) rfl agg25 siz25 rfl (Bu.cells rfl)) ?_
   refine qM _ rfl ?_
   refine WpL_enter rfl rfl (by decide) (r_callF Try.func45 kQ kQ rfl) (hof y (List.mem_of_getElem? hy) _ _ last (ReAt.ext E y hyt0) (by omega)) ?_
   rintro _ w9 ⟨⟨ga, gc, rfl, hO9⟩, X9⟩
   replace Br := X9.keep Br
   replace Bu := X9.keep Bu
   replace hown := own_ext hown X9
   replace hzs := Nat.le_trans hzs X9.size
   replace E := E.ext X9
   refine s_appendAny (base := z0) (n := m) (m := ((bordR last y).length)) (xs := (L.map (Value.int .i64))) (news := ((bordR last y).map (Value.int .i64))) (size := 1) (bytes := 8) (v := (.slice la m lc)) (by decide) Try.underlying26 siz3 byt3 zer3 rfl (by decide) rfl hown rfl ((by rw [List.length_map, Nat.mul_one])) (ints_any (own_intsD hO9 rfl)) (ints_one _) (by unfold maxLen; omega) (by omega) (hzs) ?_
   intro v9 w29 Ov9 Cv9 Dv9
   replace Br := Cv9.keep (fun h => by have := (hown.lt _ h).1; omega) Br
   replace E := E.step Cv9 (fun x hx h => absurd (hown.lt x h).1 (by omega))
   obtain ⟨la2, lc2, rfl⟩ := own_form Ov9
   refine qA _ rfl ?_
   refine WpL_nil (inB_normal (thn_normal (Wp_region ?_)))
   refine qV (r_add rfl rfl (wI64 (by omega))) ?_
   refine qM _ rfl ?_
   refine WpL_nil (thn_normal ?_)
   exact ⟨x.args.length - (k + 1), by omega, k + 1, m + (bordR last y).length, la2, lc2, L ++ bordR last y, Fits.out ⟨rfl, rfl, rfl, rfl, rfl, trivial⟩, E, Br, (by omega), (by rw [hft, hL]), (by rw [List.length_append, hm]), (by rw [List.map_append]; exact Ov9), Nat.le_trans hzs Cv9.size, rfl⟩
  ·have khlt := hlt
   replace hlt := of_decide_eq_false hlt
   have hkk : x.args.take k = x.args := List.take_of_length_le (by omega)
   rw [hkk] at hL
   have he : bordR last x = L := by rw [bordR_eq, bordE, if_neg (by omega), if_pos (.inr hk), List.map_map, hL]; rfl
   refine Wp_exit (thn_exit (thn_exit (inB_here (inB_normal (thn_normal (Wp_seq_region ?_))))))
   refine qM _ rfl ?_
   refine qA _ rfl ?_
   refine WpL_nil (Wp_ret ?_)
   refine fin_tmp Try.results45 (v := (.slice la m lc)) rfl ?_
   rw [he, ← hm]; exact ⟨⟨_, _, rfl, by exact own_low hown hbr.2⟩, E⟩
abbrev prB (last : Bool) (x : Re) : Bool × List Int := (canR x, bordR last x)
theorem ordB_map {α β : Type} (f : α → β) (last : Bool) (l : List α) : ordB last (l.map f) = (ordB last l).map f := by
 unfold ordB; cases last
 ·rfl
 ·simp
theorem bordR_cat {x : Re} (hk : x.kind = 3) (last : Bool) : bordR last x = catB ((ordB last x.args).map (prB last)) := by
 rw [bordR_eq, bordE, if_neg (by omega), if_neg (by omega), if_pos hk, ordB_map]
theorem ordB_get {α : Type} {last : Bool} {l : List α} {k e : Nat} (hl : if last then e + k + 1 = l.length else e = k) (hk : k < l.length) : (ordB last l)[k]? = l[e]? := by
 unfold ordB
 cases last
 ·simp at hl; rw [hl]; rfl
 ·simp at hl
  show l.reverse[k]? = _
  rw [List.getElem?_reverse hk]
  congr 1; omega
theorem ordB_len {α : Type} (last : Bool) (l : List α) : (ordB last l).length = l.length := by
 unfold ordB; cases last
 ·rfl
 ·simp
theorem bord3f_c (x : Re) (hk : x.kind = 3) (hof : ∀ y ∈ x.args, BordOk y) (w0 : World) (vs : List Value) (hxt : ReAt w0 x vs) (hsz : x.size ≤ 1000000) : Ret Try.prog 45 #[.agg vs.toArray, .bool false] w0 fun v w => (∃ a c, v = .slice a (bordR false x).length c ∧ w.ownsRow w0.heap.size TDI 1 (.slice a (bordR false x).length c) (bordR false x).length ((bordR false x).map (Value.int .i64))) ∧ Ext w0 w := by
 obtain ⟨sa, sc, aa, ac, rfl, hset, hlen, hargs⟩ := hxt.form
 have hal := len_lt_size x
 have hla : ∀ {k : Nat}, k < x.args.length → (if false then k + k + 1 = x.args.length else k = k) := fun _ => rfl
 refine Ret_of Try.func45 rfl Try.ntmps45 (Nat.le_of_ble_eq_true rfl) ?_
 have E : Chg none1 w0 w0 := Chg.refl _ _
 refine Wp_seq_region ?_
 refine s_box (v := (.agg (R6 x sa sc aa ac))) (c := (R6 x sa sc aa ac)) (by decide) rfl rfl ?_
 intro br wr Nr
 have Fr := Nr.ge E
 replace E := E.ext Nr.ext
 have Br := Nr.blk
 refine qA _ rfl ?_
 refine WpL_nil (Wp_seq_region ?_)
 refine qA _ rfl ?_
 refine WpL_nil (Wp_seq (Wp_seq_region ?_))
 refine qF br 0 0 rfl Try.underlying25 rfl siz3 rfl ?_
 refine qV (r_load rfl flat3 (Br.cell rfl)) ?_
 refine WpL_nil (Wp_block (Wp_seq_region ?_))
 refine qV (r_eql rfl rfl) ?_
 refine qA _ rfl ?_
 refine WpL_nil ?_
 have hc1 : (decide ((x.kind : Int) = 2)) = false := decide_eq_false (by omega)
 refine Wp_cond_false (congrArg Value.bool hc1) ?_
 refine Wp_seq (Wp_seq_region ?_)
 refine qV (r_eql rfl rfl) ?_
 refine qA _ rfl ?_
 refine WpL_nil ?_
 have hc2 : (decide ((x.kind : Int) = 4)) = false := decide_eq_false (by omega)
 refine Wp_cond_false (congrArg Value.bool hc2) ?_
 refine Wp_region ?_
 refine qV (r_eql rfl rfl) ?_
 refine qA _ rfl ?_
 refine WpL_nil (thn_normal ?_)
 have hc3 : (decide ((x.kind : Int) = 5)) = false := decide_eq_false (by omega)
 refine Wp_cond_false (congrArg Value.bool hc3) ?_
 refine Wp_seq_region ?_
 refine qV (r_eql rfl rfl) ?_
 refine qA _ rfl ?_
 refine WpL_nil ?_
 have hc4 : (decide ((x.kind : Int) = 3)) = true := decide_eq_true hk
 refine Wp_cond_true (congrArg Value.bool hc4) ?_
 refine Wp_seq_region ?_
 refine qF br 0 2 rfl Try.underlying25 rfl siz23 rfl ?_
 refine qV (r_load rfl flat23 (Br.cell rfl)) ?_
 refine qV (r_lenSlice Try.underlying23 rfl) ?_
 refine qM _ rfl ?_
 refine WpL_nil (Wp_block ?_)
 have hse := x.size_eq
 obtain ⟨z0, hz0⟩ : ∃ z0, z0 = (wr).heap.size := ⟨_, rfl⟩
 have hbr : br < z0 ∧ w0.heap.size ≤ z0 := by rw [hz0]; exact ⟨Br.lt, E.size⟩
 refine Wp_loop (fun nn_ σ W5 => ∃ (k m : Nat) (la : Option Addr) (lc : Nat) (L : List Int), (∃ jj_, σ = upds jj_ [(1, (.bool false)), (2, (P6 br 0)), (37, (I6 (x.args.length : Int))), (38, (I6 (k : Int))), (5, (.slice la m lc))]) ∧ Chg none1 w0 W5 ∧ Blk W5 br (R6 x sa sc aa ac) 25 ∧ (k ≤ x.args.length) ∧ (L = (((ordB false x.args).take k).map (bordR false)).flatten) ∧ (bordR false x = L ++ catB (((ordB false x.args).drop k).map (prB false))) ∧ (m = L.length) ∧ (W5.ownsRow z0 TDI 1 (.slice la m lc) m (L.map (Value.int .i64))) ∧ (z0 ≤ W5.heap.size) ∧ nn_ = x.args.length - k) (n := x.args.length - 0) ?_ ?_
 ·exact ⟨0, 0, none, 0, [], Fits.out ⟨rfl, rfl, rfl, rfl, rfl, trivial⟩, E, Br, Nat.zero_le _, (by simp), (by rw [bordR_cat hk]; rfl), rfl, World.ownsRow_nil _ _ _ _, Nat.le_of_eq hz0, rfl⟩
 ·clear E Br
  rintro _ _ W5 ⟨k, m, la, lc, L, ⟨j5, rfl⟩, E, Br, hk1, hL, hQ, hm, hown, hzs, rfl⟩
  refine Wp_seq_region ?_
  refine qV (r_lss rfl rfl) ?_
  refine WpL_nil (Wp_seq ?_)
  refine Wp_cond rfl (fun hlt => ?_) (fun hlt => ?_)
  ·have khlt := hlt
   replace hlt := of_decide_eq_true hlt
   obtain ⟨y0, hy0⟩ := get_of_lt (l := x.args) (i := k) (by omega)
   obtain ⟨ab, ao, rfl, hres⟩ := args_at hargs (by omega)
   obtain ⟨us0, hus0, hyt00⟩ := hres.get hy0
   obtain ⟨ysa0, ysc0, yaa0, yac0, rfl, _, _, _⟩ := hyt00.form
   obtain ⟨y, hyo, hy⟩ : ∃ y, (ordB false x.args)[k]? = some y ∧ x.args[k]? = some y := by obtain ⟨y, hy⟩ := get_of_lt (l := x.args) (i := k) (by omega); exact ⟨y, by rw [← hy]; exact ordB_get (hla (by omega)) (by omega), hy⟩
   obtain ⟨us, hus, hyt⟩ := hres.get hy
   have hyt0 := hyt
   obtain ⟨ysa, ysc, yaa, yac, rfl, _, _, _⟩ := hyt.form
   have hys := Re.size_arg hy
   have hft := fmap_take hyo (bordR false)
   have hLl := bord_preO false x.args (k + 1)
   rw [hft, List.length_append, ← hL] at hLl
   rw [drop_at hyo, List.map_cons, catB] at hQ
   have hlz := hown.lt
   obtain rfl : y = y0 := by rw [hy] at hy0; exact Option.some.inj hy0
   refine Wp_skip (thn_normal (Wp_seq (Wp_block (Wp_seq_region ?_))))
   refine qM _ rfl ?_
   refine qA _ rfl ?_
   refine WpL_nil (Wp_seq_region ?_)
   refine qF br 0 2 rfl Try.underlying25 rfl siz23 rfl ?_
   refine qV (r_load rfl flat23 (Br.cell rfl)) ?_
   refine qM _ rfl ?_
   refine qV (r_indexSlice (b := ab) (o := ao) (len := x.args.length) (cap := ac) (i := k) (o' := ao + k * 6) rfl rfl rfl Try.underlying23 siz25 (by omega) (by omega)) ?_
   refine qV (r_loadAgg rfl agg25 siz25 rfl (hus.ext E)) ?_
   refine s_allocStore (v := (.agg (R6 y ysa ysc yaa yac))) (c := (R6 y ysa ysc yaa yac)) (n := 6) (by decide) zer25 rfl siz25 rfl rfl rfl (by simp [Value.oneCell']) ?_
   intro bv wv Nv
   have Fv := Nv.ge E
   have Ov_br := Nv.lt Br
   replace Br := Nv.keep Br
   replace hown := own_ext hown Nv.ext
   replace hzs := Nat.le_trans hzs Nv.ext.size
   replace E := E.ext Nv.ext
   have Bv := Nv.blk
   refine WpL_nil (Wp_seq (Wp_seq_region ?_))
   refine qM _ rfl ?_
   refine WpL_nil ?_
   refine Wp_cond_false rfl ?_
   refine Wp_skip (thn_normal (Wp_seq_region ?_))
   refine qM _ rfl ?_
   refine qV (r_loadAgg (vs := [(I6 y.kind), (.slice ysa y.set.length ysc), (.slice yaa y.args.length yac), (I6 y.mn), (I6 y.mx), (.bool y.neg)]) rfl agg25 siz25 rfl (Bv.cells rfl)) ?_
   refine qM _ rfl ?_
   refine WpL_enter rfl rfl (by decide) (r_callF Try.func45 kQ kQ rfl) (hof y (List.mem_of_getElem? hy) _ _ false (ReAt.ext E y hyt0) (by omega)) ?_
   rintro _ w9 ⟨⟨ga, gc, rfl, hO9⟩, X9⟩
   replace Br := X9.keep Br
   replace Bv := X9.keep Bv
   replace hown := own_ext hown X9
   replace hzs := Nat.le_trans hzs X9.size
   replace E := E.ext X9
   refine s_appendAny (base := z0) (n := m) (m := ((bordR false y).length)) (xs := (L.map (Value.int .i64))) (news := ((bordR false y).map (Value.int .i64))) (size := 1) (bytes := 8) (v := (.slice la m lc)) (by decide) Try.underlying26 siz3 byt3 zer3 rfl (by decide) rfl hown rfl ((by rw [List.length_map, Nat.mul_one])) (ints_any (own_intsD hO9 rfl)) (ints_one _) (by unfold maxLen; omega) (by omega) (hzs) ?_
   intro v9 w29 Ov9 Cv9 Dv9
   replace Br := Cv9.keep (fun h => by have := (hown.lt _ h).1; omega) Br
   replace Bv := Cv9.keep (fun h => (by have := (hlz _ h).2; have := Nv.eq; omega)) Bv
   replace E := E.step Cv9 (fun x hx h => absurd (hown.lt x h).1 (by omega))
   obtain ⟨la2, lc2, rfl⟩ := own_form Ov9
   have hO2 : w29.ownsRow z0 TDI 1 (.slice la2 (m + (bordR false y).length) lc2) (m + (bordR false y).length) ((L ++ bordR false y).map (Value.int .i64)) := by rw [List.map_append]; exact Ov9
   have hz2 := Nat.le_trans hzs Cv9.size
   refine qA _ rfl ?_
   refine WpL_nil (Wp_seq_region ?_)
   refine qV (r_loadAgg (vs := [(I6 y.kind), (.slice ysa y.set.length ysc), (.slice yaa y.args.length yac), (I6 y.mn), (I6 y.mx), (.bool y.neg)]) rfl agg25 siz25 rfl (Bv.cells rfl)) ?_
   refine WpL_enter rfl rfl (by decide) (r_callF Try.func47 kQ kQ rfl) (can_c _ y (Nat.le_refl _) _ _ (ReAt.ext E y hyt0)) ?_
   rintro _ w39 ⟨rfl, X39⟩
   replace Br := X39.keep Br
   replace Bv := X39.keep Bv
   replace hO2 := own_ext hO2 X39
   replace hz2 := Nat.le_trans hz2 X39.size
   replace E := E.ext X39
   refine qV (r_not rfl) ?_
   refine WpL_nil ?_
   refine Wp_cond rfl (fun hcn => ?_) (fun hcn => ?_)
   ·have khcn := hcn
    replace hcn := by simpa using hcn
    have hc0 : canR y = false := by simpa using hcn
    have he : bordR false x = L ++ bordR false y := by rw [hQ, show (prB false y).1 = canR y from rfl, hc0]; rfl
    refine Wp_exit ?_
    refine inB_there (by decide) ?_
    refine thn_exit (thn_exit (inB_here (inB_normal (thn_normal (Wp_seq_region ?_)))))
    refine qM _ rfl ?_
    refine qA _ rfl ?_
    refine WpL_nil (Wp_ret ?_)
    refine fin_tmp Try.results45 (v := (.slice la2 (m + (bordR false y).length) lc2)) rfl ?_
    rw [he, List.length_append, ← hm]; exact ⟨⟨_, _, rfl, own_low hO2 hbr.2⟩, E⟩
   ·have khcn := hcn
    replace hcn := by simpa using hcn
    have hc1 : canR y = true := by simpa using hcn
    refine Wp_skip (inB_normal (thn_normal (Wp_region ?_)))
    refine qV (r_add rfl rfl (wI64 (by omega))) ?_
    refine qM _ rfl ?_
    refine WpL_nil (thn_normal ?_)
    exact ⟨x.args.length - (k + 1), by omega, k + 1, m + (bordR false y).length, la2, lc2, L ++ bordR false y, Fits.out ⟨rfl, rfl, rfl, rfl, rfl, trivial⟩, E, Br, (by omega), (by rw [hft, hL]), (by rw [hQ, show (prB false y).1 = canR y from rfl, hc1, List.append_assoc]; rfl), (by rw [List.length_append, hm]), hO2, hz2, rfl⟩
  ·have khlt := hlt
   replace hlt := of_decide_eq_false hlt
   have hkk : (ordB false x.args).drop k = [] := List.drop_of_length_le (by rw [ordB_len]; omega)
   have he : bordR false x = L := by rw [hQ, hkk]; exact List.append_nil _
   refine Wp_exit (thn_exit (thn_exit (inB_here (inB_normal (thn_normal (Wp_seq_region ?_))))))
   refine qM _ rfl ?_
   refine qA _ rfl ?_
   refine WpL_nil (Wp_ret ?_)
   refine fin_tmp Try.results45 (v := (.slice la m lc)) rfl ?_
   rw [he, ← hm]; exact ⟨⟨_, _, rfl, own_low hown hbr.2⟩, E⟩
theorem bord3t_c (x : Re) (hk : x.kind = 3) (hof : ∀ y ∈ x.args, BordOk y) (w0 : World) (vs : List Value) (hxt : ReAt w0 x vs) (hsz : x.size ≤ 1000000) : Ret Try.prog 45 #[.agg vs.toArray, .bool true] w0 fun v w => (∃ a c, v = .slice a (bordR true x).length c ∧ w.ownsRow w0.heap.size TDI 1 (.slice a (bordR true x).length c) (bordR true x).length ((bordR true x).map (Value.int .i64))) ∧ Ext w0 w := by
 obtain ⟨sa, sc, aa, ac, rfl, hset, hlen, hargs⟩ := hxt.form
 have hal := len_lt_size x
 have hla : ∀ {k : Nat}, k < x.args.length → (if true then (x.args.length - 1 - k) + k + 1 = x.args.length else (x.args.length - 1 - k) = k) := fun h => by rw [if_pos rfl]; omega
 refine Ret_of Try.func45 rfl Try.ntmps45 (Nat.le_of_ble_eq_true rfl) ?_
 have E : Chg none1 w0 w0 := Chg.refl _ _
 refine Wp_seq_region ?_
 refine s_box (v := (.agg (R6 x sa sc aa ac))) (c := (R6 x sa sc aa ac)) (by decide) rfl rfl ?_
 intro br wr Nr
 have Fr := Nr.ge E
 replace E := E.ext Nr.ext
 have Br := Nr.blk
 refine qA _ rfl ?_
 refine WpL_nil (Wp_seq_region ?_)
 refine qA _ rfl ?_
 refine WpL_nil (Wp_seq (Wp_seq_region ?_))
 refine qF br 0 0 rfl Try.underlying25 rfl siz3 rfl ?_
 refine qV (r_load rfl flat3 (Br.cell rfl)) ?_
 refine WpL_nil (Wp_block (Wp_seq_region ?_))
 refine qV (r_eql rfl rfl) ?_
 refine qA _ rfl ?_
 refine WpL_nil ?_
 have hc1 : (decide ((x.kind : Int) = 2)) = false := decide_eq_false (by omega)
 refine Wp_cond_false (congrArg Value.bool hc1) ?_
 refine Wp_seq (Wp_seq_region ?_)
 refine qV (r_eql rfl rfl) ?_
 refine qA _ rfl ?_
 refine WpL_nil ?_
 have hc2 : (decide ((x.kind : Int) = 4)) = false := decide_eq_false (by omega)
 refine Wp_cond_false (congrArg Value.bool hc2) ?_
 refine Wp_region ?_
 refine qV (r_eql rfl rfl) ?_
 refine qA _ rfl ?_
 refine WpL_nil (thn_normal ?_)
 have hc3 : (decide ((x.kind : Int) = 5)) = false := decide_eq_false (by omega)
 refine Wp_cond_false (congrArg Value.bool hc3) ?_
 refine Wp_seq_region ?_
 refine qV (r_eql rfl rfl) ?_
 refine qA _ rfl ?_
 refine WpL_nil ?_
 have hc4 : (decide ((x.kind : Int) = 3)) = true := decide_eq_true hk
 refine Wp_cond_true (congrArg Value.bool hc4) ?_
 refine Wp_seq_region ?_
 refine qF br 0 2 rfl Try.underlying25 rfl siz23 rfl ?_
 refine qV (r_load rfl flat23 (Br.cell rfl)) ?_
 refine qV (r_lenSlice Try.underlying23 rfl) ?_
 refine qM _ rfl ?_
 refine WpL_nil (Wp_block ?_)
 have hse := x.size_eq
 obtain ⟨z0, hz0⟩ : ∃ z0, z0 = (wr).heap.size := ⟨_, rfl⟩
 have hbr : br < z0 ∧ w0.heap.size ≤ z0 := by rw [hz0]; exact ⟨Br.lt, E.size⟩
 refine Wp_loop (fun nn_ σ W5 => ∃ (k m : Nat) (la : Option Addr) (lc : Nat) (L : List Int), (∃ jj_, σ = upds jj_ [(1, (.bool true)), (2, (P6 br 0)), (37, (I6 (x.args.length : Int))), (38, (I6 (k : Int))), (5, (.slice la m lc))]) ∧ Chg none1 w0 W5 ∧ Blk W5 br (R6 x sa sc aa ac) 25 ∧ (k ≤ x.args.length) ∧ (L = (((ordB true x.args).take k).map (bordR true)).flatten) ∧ (bordR true x = L ++ catB (((ordB true x.args).drop k).map (prB true))) ∧ (m = L.length) ∧ (W5.ownsRow z0 TDI 1 (.slice la m lc) m (L.map (Value.int .i64))) ∧ (z0 ≤ W5.heap.size) ∧ nn_ = x.args.length - k) (n := x.args.length - 0) ?_ ?_
 ·exact ⟨0, 0, none, 0, [], Fits.out ⟨rfl, rfl, rfl, rfl, rfl, trivial⟩, E, Br, Nat.zero_le _, (by simp), (by rw [bordR_cat hk]; rfl), rfl, World.ownsRow_nil _ _ _ _, Nat.le_of_eq hz0, rfl⟩
 ·clear E Br
  rintro _ _ W5 ⟨k, m, la, lc, L, ⟨j5, rfl⟩, E, Br, hk1, hL, hQ, hm, hown, hzs, rfl⟩
  refine Wp_seq_region ?_
  refine qV (r_lss rfl rfl) ?_
  refine WpL_nil (Wp_seq ?_)
  refine Wp_cond rfl (fun hlt => ?_) (fun hlt => ?_)
  ·have khlt := hlt
   replace hlt := of_decide_eq_true hlt
   obtain ⟨y0, hy0⟩ := get_of_lt (l := x.args) (i := k) (by omega)
   obtain ⟨ab, ao, rfl, hres⟩ := args_at hargs (by omega)
   obtain ⟨us0, hus0, hyt00⟩ := hres.get hy0
   obtain ⟨ysa0, ysc0, yaa0, yac0, rfl, _, _, _⟩ := hyt00.form
   obtain ⟨y, hyo, hy⟩ : ∃ y, (ordB true x.args)[k]? = some y ∧ x.args[x.args.length - 1 - k]? = some y := by obtain ⟨y, hy⟩ := get_of_lt (l := x.args) (i := x.args.length - 1 - k) (by omega); exact ⟨y, by rw [← hy]; exact ordB_get (hla (by omega)) (by omega), hy⟩
   obtain ⟨us, hus, hyt⟩ := hres.get hy
   have hyt0 := hyt
   obtain ⟨ysa, ysc, yaa, yac, rfl, _, _, _⟩ := hyt.form
   have hys := Re.size_arg hy
   have hft := fmap_take hyo (bordR true)
   have hLl := bord_preO true x.args (k + 1)
   rw [hft, List.length_append, ← hL] at hLl
   rw [drop_at hyo, List.map_cons, catB] at hQ
   have hlz := hown.lt
   refine Wp_skip (thn_normal (Wp_seq (Wp_block (Wp_seq_region ?_))))
   refine qM _ rfl ?_
   refine qA _ rfl ?_
   refine WpL_nil (Wp_seq_region ?_)
   refine qF br 0 2 rfl Try.underlying25 rfl siz23 rfl ?_
   refine qV (r_load rfl flat23 (Br.cell rfl)) ?_
   refine qM _ rfl ?_
   refine qV (r_indexSlice (b := ab) (o := ao) (len := x.args.length) (cap := ac) (i := k) (o' := ao + k * 6) rfl rfl rfl Try.underlying23 siz25 (by omega) (by omega)) ?_
   refine qV (r_loadAgg rfl agg25 siz25 rfl (hus0.ext E)) ?_
   refine s_allocStore (v := (.agg (R6 y0 ysa0 ysc0 yaa0 yac0))) (c := (R6 y0 ysa0 ysc0 yaa0 yac0)) (n := 6) (by decide) zer25 rfl siz25 rfl rfl rfl (by simp [Value.oneCell']) ?_
   intro bv wv Nv
   have Fv := Nv.ge E
   have Ov_br := Nv.lt Br
   replace Br := Nv.keep Br
   replace hown := own_ext hown Nv.ext
   replace hzs := Nat.le_trans hzs Nv.ext.size
   replace E := E.ext Nv.ext
   have Bv := Nv.blk
   refine WpL_nil (Wp_seq (Wp_seq_region ?_))
   refine qM _ rfl ?_
   refine WpL_nil ?_
   refine Wp_cond_true rfl ?_
   refine Wp_region ?_
   refine qF br 0 2 rfl Try.underlying25 rfl siz23 rfl ?_
   refine qV (r_load rfl flat23 (Br.cell rfl)) ?_
   refine qF br 0 2 rfl Try.underlying25 rfl siz23 rfl ?_
   refine qV (r_load rfl flat23 (Br.cell rfl)) ?_
   refine qV (r_lenSlice Try.underlying23 rfl) ?_
   refine qV (r_sub rfl rfl (wI64 (by omega))) ?_
   refine qM _ rfl ?_
   refine qV (r_sub rfl rfl (wI64 (by omega))) ?_
   refine qV (r_indexSlice (b := ab) (o := ao) (len := x.args.length) (cap := ac) (i := x.args.length - 1 - k) (o' := ao + (x.args.length - 1 - k) * 6) rfl rfl (by omega) Try.underlying23 siz25 (by omega) (by omega)) ?_
   refine qV (r_loadAgg rfl agg25 siz25 rfl (hus.ext E)) ?_
   refine s_storeAgg (b := bv) (o := 0) (c' := (R6 y ysa ysc yaa yac)) rfl rfl (by simp [Value.oneCell']) siz25 rfl Bv (by first | (simp; done) | exact Nat.le_of_ble_eq_true rfl) rfl ?_
   intro w7 S7
   replace hown := own_chg hown S7.chg fun q hq h => by have h' : q = bv := h; have := (hlz q hq).2; have := Nv.eq; omega
   replace hzs := Nat.le_trans hzs S7.chg.size
   replace Br := S7.keep (by omega) Br
   replace E := S7.step E (by first | exact Or.inl (by omega) | exact Or.inr rfl | exact Or.inr (by assumption) | exact Or.inr (by simp) | exact Or.inr (by omega) | exact Or.inr (by dsimp only; omega))
   replace Bv := S7.blk
   refine WpL_nil (thn_normal (Wp_seq_region ?_))
   refine qM _ rfl ?_
   refine qV (r_loadAgg (vs := [(I6 y.kind), (.slice ysa y.set.length ysc), (.slice yaa y.args.length yac), (I6 y.mn), (I6 y.mx), (.bool y.neg)]) rfl agg25 siz25 rfl (Bv.cells rfl)) ?_
   refine qM _ rfl ?_
   refine WpL_enter rfl rfl (by decide) (r_callF Try.func45 kQ kQ rfl) (hof y (List.mem_of_getElem? hy) _ _ true (ReAt.ext E y hyt0) (by omega)) ?_
   rintro _ w9 ⟨⟨ga, gc, rfl, hO9⟩, X9⟩
   replace Br := X9.keep Br
   replace Bv := X9.keep Bv
   replace hown := own_ext hown X9
   replace hzs := Nat.le_trans hzs X9.size
   replace E := E.ext X9
   refine s_appendAny (base := z0) (n := m) (m := ((bordR true y).length)) (xs := (L.map (Value.int .i64))) (news := ((bordR true y).map (Value.int .i64))) (size := 1) (bytes := 8) (v := (.slice la m lc)) (by decide) Try.underlying26 siz3 byt3 zer3 rfl (by decide) rfl hown rfl ((by rw [List.length_map, Nat.mul_one])) (ints_any (own_intsD hO9 rfl)) (ints_one _) (by unfold maxLen; omega) (by omega) (hzs) ?_
   intro v9 w29 Ov9 Cv9 Dv9
   replace Br := Cv9.keep (fun h => by have := (hown.lt _ h).1; omega) Br
   replace Bv := Cv9.keep (fun h => (by have := (hlz _ h).2; have := Nv.eq; omega)) Bv
   replace E := E.step Cv9 (fun x hx h => absurd (hown.lt x h).1 (by omega))
   obtain ⟨la2, lc2, rfl⟩ := own_form Ov9
   have hO2 : w29.ownsRow z0 TDI 1 (.slice la2 (m + (bordR true y).length) lc2) (m + (bordR true y).length) ((L ++ bordR true y).map (Value.int .i64)) := by rw [List.map_append]; exact Ov9
   have hz2 := Nat.le_trans hzs Cv9.size
   refine qA _ rfl ?_
   refine WpL_nil (Wp_seq_region ?_)
   refine qV (r_loadAgg (vs := [(I6 y.kind), (.slice ysa y.set.length ysc), (.slice yaa y.args.length yac), (I6 y.mn), (I6 y.mx), (.bool y.neg)]) rfl agg25 siz25 rfl (Bv.cells rfl)) ?_
   refine WpL_enter rfl rfl (by decide) (r_callF Try.func47 kQ kQ rfl) (can_c _ y (Nat.le_refl _) _ _ (ReAt.ext E y hyt0)) ?_
   rintro _ w39 ⟨rfl, X39⟩
   replace Br := X39.keep Br
   replace Bv := X39.keep Bv
   replace hO2 := own_ext hO2 X39
   replace hz2 := Nat.le_trans hz2 X39.size
   replace E := E.ext X39
   refine qV (r_not rfl) ?_
   refine WpL_nil ?_
   refine Wp_cond rfl (fun hcn => ?_) (fun hcn => ?_)
   ·have khcn := hcn
    replace hcn := by simpa using hcn
    have hc0 : canR y = false := by simpa using hcn
    have he : bordR true x = L ++ bordR true y := by rw [hQ, show (prB true y).1 = canR y from rfl, hc0]; rfl
    refine Wp_exit ?_
    refine inB_there (by decide) ?_
    refine thn_exit (thn_exit (inB_here (inB_normal (thn_normal (Wp_seq_region ?_)))))
    refine qM _ rfl ?_
    refine qA _ rfl ?_
    refine WpL_nil (Wp_ret ?_)
    refine fin_tmp Try.results45 (v := (.slice la2 (m + (bordR true y).length) lc2)) rfl ?_
    rw [he, List.length_append, ← hm]; exact ⟨⟨_, _, rfl, own_low hO2 hbr.2⟩, E⟩
   ·have khcn := hcn
    replace hcn := by simpa using hcn
    have hc1 : canR y = true := by simpa using hcn
    refine Wp_skip (inB_normal (thn_normal (Wp_region ?_)))
    refine qV (r_add rfl rfl (wI64 (by omega))) ?_
    refine qM _ rfl ?_
    refine WpL_nil (thn_normal ?_)
    exact ⟨x.args.length - (k + 1), by omega, k + 1, m + (bordR true y).length, la2, lc2, L ++ bordR true y, Fits.out ⟨rfl, rfl, rfl, rfl, rfl, trivial⟩, E, Br, (by omega), (by rw [hft, hL]), (by rw [hQ, show (prB true y).1 = canR y from rfl, hc1, List.append_assoc]; rfl), (by rw [List.length_append, hm]), hO2, hz2, rfl⟩
  ·have khlt := hlt
   replace hlt := of_decide_eq_false hlt
   have hkk : (ordB true x.args).drop k = [] := List.drop_of_length_le (by rw [ordB_len]; omega)
   have he : bordR true x = L := by rw [hQ, hkk]; exact List.append_nil _
   refine Wp_exit (thn_exit (thn_exit (inB_here (inB_normal (thn_normal (Wp_seq_region ?_))))))
   refine qM _ rfl ?_
   refine qA _ rfl ?_
   refine WpL_nil (Wp_ret ?_)
   refine fin_tmp Try.results45 (v := (.slice la m lc)) rfl ?_
   rw [he, ← hm]; exact ⟨⟨_, _, rfl, own_low hown hbr.2⟩, E⟩
theorem bord_c : ∀ (n : Nat) (x : Re), x.size ≤ n → BordOk x := by
  intro n
  induction n with
  | zero => intro x h; have := x.size_pos; omega
  | succ n ih =>
  intro x hn
  have hof : ∀ y ∈ x.args, BordOk y := fun y hy => by
    obtain ⟨i, hi⟩ := List.getElem?_of_mem hy
    have h1 := Re.size_arg hi
    exact ih y (by omega)
  by_cases h2 : x.kind = 2
  · exact bord2_c x h2
  by_cases h3 : x.kind = 3
  · intro w0 vs last hxt hsz
    cases hl : last
    · exact bord3f_c x h3 hof w0 vs hxt hsz
    · exact bord3t_c x h3 hof w0 vs hxt hsz
  by_cases h4 : x.kind = 4
  · exact bord4_c x h4 hof
  by_cases h5 : x.kind = 5
  · exact bord5_c x h5 hof
  · exact bord0_c x ⟨h2, h3, h4, h5⟩
end Go.Proofs
namespace Go.Proofs
open Go Go.Eng Go.Sort
set_option maxRecDepth 100000
abbrev prI (x y : Int) : Int × Int := (x, y)
def prodI (a b : List Int) : List (Int × Int) := a.flatMap fun x => b.map (prI x)
def addM (es : List ((Int × Int) × Bool)) (ps : List (Int × Int)) : List ((Int × Int) × Bool) := ps.foldl (fun es q => putM es q true) es
theorem addM_app (es : List ((Int × Int) × Bool)) (a b : List (Int × Int)) : addM es (a ++ b) = addM (addM es a) b := List.foldl_append
theorem addM_get : ∀ (ps : List (Int × Int)) (es : List ((Int × Int) × Bool)) (q : Int × Int), (getM (addM es ps) q).getD false = true ↔ (q ∈ ps ∨ (getM es q).getD false = true)
  | [], es, q => by simp [addM]
  | p :: ps, es, q => by
    show (getM (addM (putM es p true) ps) q).getD false = true ↔ _
    rw [addM_get ps, getM_put, List.mem_cons]
    by_cases e : p = q
    · subst e; simp
    · rw [if_neg e]
      constructor
      · rintro (h | h)
        · exact .inl (.inr h)
        · exact .inr h
      · rintro ((h | h) | h)
        · exact absurd h.symm e
        · exact .inl h
        · exact .inr h
theorem prodI_mem {a b : List Int} {q : Int × Int} : q ∈ prodI a b ↔ q.1 ∈ a ∧ q.2 ∈ b := by
 unfold prodI
 rw [List.mem_flatMap]
 constructor
 ·rintro ⟨x, hx, h⟩
  obtain ⟨y, hy, rfl⟩ := List.mem_map.1 h
  exact ⟨hx, hy⟩
 ·rintro ⟨h1, h2⟩
  exact ⟨q.1, h1, List.mem_map.2 ⟨q.2, h2, rfl⟩⟩
theorem prodI_succ {a b : List Int} {k : Nat} {x : Int} (h : a[k]? = some x) : prodI (a.take (k + 1)) b = prodI (a.take k) b ++ b.map (prI x) := by
 unfold prodI
 rw [List.take_add_one, h, Option.toList_some, List.flatMap_append]
 simp
theorem addM_snoc (es : List ((Int × Int) × Bool)) (x : Int) {lb : List Int} {j : Nat} {y : Int} (h : lb[j]? = some y) : addM es ((lb.take (j + 1)).map (prI x)) = putM (addM es ((lb.take j).map (prI x))) (x, y) true := by
 rw [List.take_add_one, h, Option.toList_some, List.map_append, addM_app]; rfl
theorem cell_ne_map {κ ν : Type} {ek : κ → Value} {eV : ν → Value} {w : World} {b o bm : Nat} {v : Value} {es : List (κ × ν)} (h : w.cell? ⟨b, o, none⟩ = some v) (hm : MapAt w bm ek eV es) : b ≠ bm := by
 intro e
 subst e
 unfold MapAt at hm
 unfold World.cell? at h
 simp only [hm] at h
 cases h
theorem cross_c (w0 : World) (va vb : Value) (la lb : List Int) (bm : Nat) (es : List ((Int × Int) × Bool)) (ha : IntsAt w0 va la) (hb : IntsAt w0 vb lb) (hm : MapAt w0 bm kPair kBool es) :
  Ret Try.prog 44 #[va, vb, .map (some bm)] w0 fun v w => v = .tuple #[] ∧ MapAt w bm kPair kBool (addM es (prodI la lb)) ∧ Chg (fun y => y = bm) w0 w := by
 obtain ⟨aa, ac, rfl⟩ := SlAt.form ha
 obtain ⟨ba, bc, rfl⟩ := SlAt.form hb
 have hl1 : la.length ≤ 9223372036854775807 := by simpa using SlAt.le ha
 have hl2 : lb.length ≤ 9223372036854775807 := by simpa using SlAt.le hb
 simp only [List.length_map] at ha hb ⊢
 have hml := hm.lt
 have hm0 := hm
 refine Ret_of Try.func44 rfl Try.ntmps44 (Nat.le_of_ble_eq_true rfl) ?_
 have E : Chg (fun y => y = bm) w0 w0 := Chg.refl _ _
 refine Wp_seq_region ?_
 refine qM _ rfl ?_
 refine qV (r_lenSlice Try.underlying26 rfl) ?_
 refine qM _ rfl ?_
 refine WpL_nil (Wp_block ?_)
 refine Wp_loop (fun nn_ σ W1 => ∃ (k : Nat), (∃ jj_, σ = upds jj_ [(1, (.slice ba lb.length bc)), (2, (.map (some bm))), (10, (.slice aa la.length ac)), (11, (I6 (la.length : Int))), (12, (I6 (k : Int)))]) ∧ Chg (fun y => y = bm) w0 W1 ∧ MapAt W1 bm kPair kBool (addM es (prodI (la.take k) lb)) ∧ (k ≤ la.length) ∧ nn_ = la.length - k) (n := la.length - 0) ?_ ?_
 ·exact ⟨0, Fits.out ⟨rfl, rfl, rfl, rfl, rfl, trivial⟩, E, hm, Nat.zero_le _, rfl⟩
 ·clear E hm
  rintro _ _ W1 ⟨k, ⟨j1, rfl⟩, E, hm, hk, rfl⟩
  refine Wp_seq_region ?_
  refine qV (r_lss rfl rfl) ?_
  refine WpL_nil (Wp_seq ?_)
  refine Wp_cond rfl (fun hlt => ?_) (fun hlt => ?_)
  ·have khlt := hlt
   replace hlt := of_decide_eq_true hlt
   obtain ⟨x, hx⟩ := get_of_lt (l := la) (i := k) (by omega)
   obtain ⟨b1, o1, rfl, hc1⟩ := ints_cells ha (by omega)
   refine Wp_skip (thn_normal (Wp_seq (Wp_block (Wp_seq_region ?_))))
   refine qV (r_indexSlice (b := b1) (o := o1) (len := la.length) (cap := ac) (i := k) (o' := o1 + k) rfl rfl rfl Try.underlying26 siz3 (by omega) (by omega)) ?_
   refine qV (r_load rfl flat3 (E.cell (cell_ne_map (hc1 k x hx) hm0) (hc1 k x hx))) ?_
   refine qA _ rfl ?_
   refine WpL_nil (Wp_seq_region ?_)
   refine qM _ rfl ?_
   refine qV (r_lenSlice Try.underlying26 rfl) ?_
   refine qM _ rfl ?_
   refine WpL_nil (Wp_block ?_)
   refine Wp_loop (fun nn_ σ W3 => ∃ (j : Nat), (∃ jj_, σ = upds jj_ [(1, (.slice ba lb.length bc)), (2, (.map (some bm))), (7, (I6 x)), (10, (.slice (some ⟨b1, o1, none⟩) la.length ac)), (11, (I6 (la.length : Int))), (12, (I6 (k : Int))), (16, (.slice ba lb.length bc)), (17, (I6 (lb.length : Int))), (18, (I6 (j : Int)))]) ∧ Chg (fun y => y = bm) w0 W3 ∧ MapAt W3 bm kPair kBool (addM (addM es (prodI (la.take k) lb)) ((lb.take j).map (prI x))) ∧ (j ≤ lb.length) ∧ nn_ = lb.length - j) (n := lb.length - 0) ?_ ?_
   ·exact ⟨0, Fits.out ⟨rfl, rfl, rfl, rfl, rfl, rfl, rfl, rfl, rfl, trivial⟩, E, hm, Nat.zero_le _, rfl⟩
   ·clear E hm
    rintro _ _ W3 ⟨j, ⟨j3, rfl⟩, E, hm, hj, rfl⟩
    refine Wp_seq_region ?_
    refine qV (r_lss rfl rfl) ?_
    refine WpL_nil (Wp_seq ?_)
    refine Wp_cond rfl (fun hlt2 => ?_) (fun hlt2 => ?_)
    ·have khlt2 := hlt2
     replace hlt2 := of_decide_eq_true hlt2
     obtain ⟨y, hy⟩ := get_of_lt (l := lb) (i := j) (by omega)
     obtain ⟨b2, o2, rfl, hc2⟩ := ints_cells hb (by omega)
     refine Wp_skip (thn_normal (Wp_seq (Wp_block (Wp_seq_region ?_))))
     refine qV (r_indexSlice (b := b2) (o := o2) (len := lb.length) (cap := bc) (i := j) (o' := o2 + j) rfl rfl rfl Try.underlying26 siz3 (by omega) (by omega)) ?_
     refine qV (r_load rfl flat3 (E.cell (cell_ne_map (hc2 j y hy) hm0) (hc2 j y hy))) ?_
     refine qA _ rfl ?_
     refine WpL_nil (Wp_region ?_)
     refine qM _ rfl ?_
     refine qM _ rfl ?_
     refine qM _ rfl ?_
     refine qV (r_build (ps := [(0, (I6 x)), (1, (I6 y))]) (v := (.agg #[(I6 x), (I6 y)])) rfl (by kernel_rfl)) ?_
     refine s_mapUpdate (k := (x, y)) (v := true) Try.underlying92 (key88) hm rfl rfl rfl ?_
     intro w5 S5 H5
     replace E := S5.step E (by first | exact Or.inl (by omega) | exact Or.inr rfl | exact Or.inr (by assumption) | exact Or.inr (by simp) | exact Or.inr (by omega) | exact Or.inr (by dsimp only; omega))
     replace hm := H5
     refine WpL_nil (inB_normal (thn_normal (Wp_region ?_)))
     refine qV (r_add rfl rfl (wI64 (by omega))) ?_
     refine qM _ rfl ?_
     refine WpL_nil (thn_normal ?_)
     rw [← addM_snoc _ x hy] at hm
     exact ⟨lb.length - (j + 1), by omega, j + 1, Fits.out ⟨rfl, rfl, rfl, rfl, rfl, rfl, rfl, rfl, rfl, trivial⟩, E, hm, (by omega), rfl⟩
    ·have khlt2 := hlt2
     replace hlt2 := of_decide_eq_false hlt2
     have hjj : lb.take j = lb := List.take_of_length_le (by omega)
     rw [hjj, ← addM_app, ← prodI_succ hx] at hm
     refine Wp_exit (thn_exit (thn_exit (inB_here (inB_normal (thn_normal (Wp_region ?_))))))
     refine qV (r_add rfl rfl (wI64 (by omega))) ?_
     refine qM _ rfl ?_
     refine WpL_nil (thn_normal ?_)
     exact ⟨la.length - (k + 1), by omega, k + 1, Fits.out ⟨rfl, rfl, rfl, rfl, rfl, trivial⟩, E, hm, (by omega), rfl⟩
  ·have khlt := hlt
   replace hlt := of_decide_eq_false hlt
   have hkk : la.take k = la := List.take_of_length_le (by omega)
   rw [hkk] at hm
   refine Wp_exit (thn_exit (thn_exit (inB_here ?_)))
   refine fin_none Try.results44 ?_
   exact ⟨rfl, hm, E⟩
end Go.Proofs
namespace Go.Proofs
open Go Go.Eng Go.Sort
set_option maxRecDepth 100000
def folB (b : List Int) : List Re → List (Int × Int)
  | [] => []
  | z :: l => prodI b (bordR false z) ++ if canR z then folB b l else []
def stN (k : Int) (y : Re) (l : List Re) : List (Int × Int) := if k = 5 then prodI (bordR true y) (bordR false y) else if k = 3 then folB (bordR true y) l else []
mutual
def stR : Re → List (Int × Int)
  | .mk k _ a _ _ _ => stL k a
def stL (k : Int) : List Re → List (Int × Int)
  | [] => []
  | y :: l => stR y ++ (stN k y l ++ stL k l)
end
theorem stR_eq (x : Re) : stR x = stL x.kind x.args := by cases x; rw [stR]; rfl
def bdF (L : List Int) : Fct := fun v w => ∃ a c, v = .slice a L.length c ∧ IntsAt w (.slice a L.length c) L
theorem bdF_ext (L : List Int) : ∀ v w w', Ext w w' → bdF L v w → bdF L v w' := by
 rintro v w w' e ⟨a, c, h1, h2⟩
 exact ⟨a, c, h1, IntsAt.ext h2 e⟩
theorem bord_f {w0 : World} {vs : List Value} {x : Re} (last : Bool) (h : ReAt w0 x vs) (hs : x.size ≤ 1000000) : Ret Try.prog 45 #[.agg vs.toArray, .bool last] w0 fun v w => bdF (bordR last x) v w ∧ Ext w0 w :=
 (bord_c _ x (Nat.le_refl _) w0 vs last h hs).mono fun v w h => by obtain ⟨⟨a, c, h1, h2⟩, h3⟩ := h; exact ⟨⟨a, c, h1, own_intsD h2 rfl⟩, h3⟩
def StepOkR (x : Re) : Prop := ∀ (w0 : World) (vs : List Value) (S : Nat → Prop) (bm : Nat) (es : List ((Int × Int) × Bool)), ReIn S w0 x vs → ¬ S bm → x.size ≤ 1000000 → MapAt w0 bm kPair kBool es → Ret Try.prog 43 #[.agg vs.toArray, .map (some bm)] w0 fun v w => v = .tuple #[] ∧ MapAt w bm kPair kBool (addM es (stR x)) ∧ Chg (fun y => y = bm) w0 w
theorem step0_c (x : Re) (hk : x.kind ≠ 3 ∧ x.kind ≠ 5) (hof : ∀ y ∈ x.args, StepOkR y) : StepOkR x := by
 intro w0 vs S bm es hxt hbm hsz hm
 obtain ⟨sa, sc, aa, ac, rfl, hset, hlen, hargs⟩ := hxt.form
 have hal := len_lt_size x
 have hml := hm.lt
 refine Ret_of Try.func43 rfl Try.ntmps43 (Nat.le_of_ble_eq_true rfl) ?_
 have E : Chg (fun y => y = bm) w0 w0 := Chg.refl _ _
 refine Wp_seq_region ?_
 refine s_box (v := (.agg (R6 x sa sc aa ac))) (c := (R6 x sa sc aa ac)) (by decide) rfl rfl ?_
 intro br wr Nr
 have Fr := Nr.ge E
 have Or_bm := Nr.ltM hm
 replace hm := Nr.keepM hm
 replace E := E.ext Nr.ext
 have Br := Nr.blk
 refine WpL_nil (Wp_seq_region ?_)
 refine qF br 0 2 rfl Try.underlying25 rfl siz23 rfl ?_
 refine qV (r_load rfl flat23 (Br.cell rfl)) ?_
 refine qV (r_lenSlice Try.underlying23 rfl) ?_
 refine qM _ rfl ?_
 refine WpL_nil (Wp_block ?_)
 refine Wp_loop (fun nn_ σ W1 => ∃ (k : Nat) (cur : List ((Int × Int) × Bool)), (∃ jj_, σ = upds jj_ [(1, (.map (some bm))), (2, (P6 br 0)), (8, (.slice aa x.args.length ac)), (9, (I6 (x.args.length : Int))), (10, (I6 (k : Int)))]) ∧ Chg (fun y => y = bm) w0 W1 ∧ MapAt W1 bm kPair kBool cur ∧ Blk W1 br (R6 x sa sc aa ac) 25 ∧ (k ≤ x.args.length) ∧ (addM cur (stL x.kind (x.args.drop k)) = addM es (stR x)) ∧ nn_ = x.args.length - k) (n := x.args.length - 0) ?_ ?_
 ·exact ⟨0, es, Fits.out ⟨rfl, rfl, rfl, rfl, rfl, trivial⟩, E, hm, Br, Nat.zero_le _, (by rw [stR_eq]; rfl), rfl⟩
 ·clear E hm Br
  rintro _ _ W1 ⟨k, cur, ⟨j1, rfl⟩, E, hm, Br, hk1, hQ, rfl⟩
  refine Wp_seq_region ?_
  refine qV (r_lss rfl rfl) ?_
  refine WpL_nil (Wp_seq ?_)
  refine Wp_cond rfl (fun hlt => ?_) (fun hlt => ?_)
  ·have khlt := hlt
   replace hlt := of_decide_eq_true hlt
   obtain ⟨y, hy⟩ := get_of_lt (l := x.args) (i := k) (by omega)
   obtain ⟨ab, ao, hSab, rfl, hxr⟩ := hargs.resolve_left (fun h => by rw [h] at hy; simp at hy)
   obtain ⟨us, hus, hyt⟩ := ResIn.get hxr hy
   have hyt0 := hyt
   obtain ⟨ysa, ysc, yaa, yac, rfl, _, _, _⟩ := hyt.form
   have hys := Re.size_arg hy
   rw [drop_at hy, stL, addM_app, addM_app] at hQ
   refine Wp_skip (thn_normal (Wp_seq (Wp_block (Wp_seq_region ?_))))
   refine qM _ rfl ?_
   refine qV (r_indexSlice (b := ab) (o := ao) (len := x.args.length) (cap := ac) (i := k) (o' := ao + k * 6) rfl rfl rfl Try.underlying23 siz25 (by omega) (by omega)) ?_
   refine qV (r_loadAgg rfl agg25 siz25 rfl (hus.chg E (fun h => hbm (h ▸ hSab)))) ?_
   refine s_alloc (c := #[(I6 0), (.slice none 0 0), (.slice none 0 0), (I6 0), (I6 0), (.bool false)]) (by decide) zer25 rfl ?_
   intro bu wu Nu
   have Fu := Nu.ge E
   have Ou_bm := Nu.ltM hm
   have Ou_br := Nu.lt Br
   replace hm := Nu.keepM hm
   replace Br := Nu.keep Br
   replace E := E.ext Nu.ext
   have Bu := Nu.blk
   refine qA _ rfl ?_
   refine s_storeAgg (b := bu) (o := 0) (c' := (R6 y ysa ysc yaa yac)) rfl rfl (by simp [Value.oneCell']) siz25 rfl Bu (by first | (simp; done) | exact Nat.le_of_ble_eq_true rfl) rfl ?_
   intro w3 S3
   replace hm := S3.keepM (by omega) hm
   replace Br := S3.keep (by omega) Br
   replace E := S3.step E (by first | exact Or.inl (by omega) | exact Or.inr rfl | exact Or.inr (by assumption) | exact Or.inr (by simp) | exact Or.inr (by omega) | exact Or.inr (by dsimp only; omega))
   replace Bu := S3.blk
   refine WpL_nil (Wp_seq_region ?_)
   refine qV (r_loadAgg (vs := [(I6 y.kind), (.slice ysa y.set.length ysc), (.slice yaa y.args.length yac), (I6 y.mn), (I6 y.mx), (.bool y.neg)]) rfl agg25 siz25 rfl (Bu.cells rfl)) ?_
   refine qM _ rfl ?_
   refine WpL_enter rfl rfl (by decide) (r_callF Try.func43 kQ kQ rfl) (hof y (List.mem_of_getElem? hy) _ _ S bm _ (ReIn.chg E (fun q hq h => hbm (h ▸ hq)) y hyt0) hbm (by omega) hm) ?_
   rintro _ w9 ⟨rfl, hm9, X9⟩
   replace Br := X9.keep (by omega) Br
   replace Bu := X9.keep (by omega) Bu
   replace E := E.step X9 (by intro x hx hm; omega)
   refine WpL_nil (Wp_seq (Wp_seq_region ?_))
   refine qF br 0 0 rfl Try.underlying25 rfl siz3 rfl ?_
   refine qV (r_load rfl flat3 (Br.cell rfl)) ?_
   refine qV (r_eql rfl rfl) ?_
   refine WpL_nil ?_
   have hc4 : (decide ((x.kind : Int) = 5)) = false := decide_eq_false (by omega)
   refine Wp_cond_false (congrArg Value.bool hc4) ?_
   refine Wp_skip (thn_normal (Wp_seq_region ?_))
   refine qM _ rfl ?_
   refine qV (r_add rfl rfl (wI64 (by omega))) ?_
   refine qA _ rfl ?_
   refine WpL_nil (Wp_block ?_)
   refine Wp_loop (fun nn_ σ W5 => (∃ jj_, σ = upds jj_ [(1, (.map (some bm))), (2, (P6 br 0)), (5, (P6 bu 0)), (8, (.slice (some ⟨ab, ao, none⟩) x.args.length ac)), (9, (I6 (x.args.length : Int))), (10, (I6 (k : Int))), (6, (I6 ((k + 1 : Nat) : Int)))]) ∧ Chg (fun y => y = bm) w0 W5 ∧ Blk W5 br (R6 x sa sc (some ⟨ab, ao, none⟩) ac) 25 ∧ Blk W5 bu (R6 y ysa ysc yaa yac) 25 ∧ MapAt W5 bm kPair kBool (addM cur (stR y)) ∧ nn_ = (0 : Nat)) (n := (0 : Nat)) ?_ ?_
   ·exact ⟨Fits.out ⟨rfl, rfl, rfl, rfl, rfl, rfl, rfl, trivial⟩, E, Br, Bu, hm9, rfl⟩
   ·clear E Br Bu hm9
    rintro _ _ W5 ⟨⟨j5, rfl⟩, E, Br, Bu, hm9, rfl⟩
    refine Wp_seq (Wp_seq_region ?_)
    refine qM _ rfl ?_
    refine qF br 0 2 rfl Try.underlying25 rfl siz23 rfl ?_
    refine qV (r_load rfl flat23 (Br.cell rfl)) ?_
    refine qV (r_lenSlice Try.underlying23 rfl) ?_
    obtain ⟨e6, he6⟩ : ∃ e, (decide ((((k + 1 : Nat) : Int) : Int) < ((x.args.length : Nat) : Int))) = e := ⟨_, rfl⟩
    refine qV ((r_lss rfl rfl).trans (by rw [he6]; try rfl)) ?_
    refine qM _ rfl ?_
    refine qG (.bool e6) (yU e6 (P6 br 0)) (by cases e6 <;> first | exact gA | exact gB | exact .inl ⟨rfl, r_fieldAddr rfl Try.underlying25 rfl siz3 rfl⟩) ?_
    refine qG (.bool e6) (yU e6 (I6 x.kind)) (by cases e6 <;> first | exact gA | exact gB | exact .inl ⟨rfl, r_load rfl flat3 (Br.cell rfl)⟩) ?_
    obtain ⟨e7, he7⟩ : ∃ e, (decide ((x.kind : Int) = 3)) = e := ⟨_, rfl⟩
    refine qG (.bool e6) (yU e6 (.bool e7)) (by cases e6 <;> first | exact gA | exact gB | exact .inl ⟨rfl, (r_eql rfl rfl).trans (by rw [he7]; try rfl)⟩) ?_
    obtain ⟨e8, he8⟩ : ∃ e, (e6 && e7) = e := ⟨_, rfl⟩
    refine qV (r_pick (v := .bool e8) rfl (by rw [← he8]; cases e6 <;> rfl)) ?_
    refine WpL_nil ?_
    subst he8
    subst he7
    subst he6
    have hc9 : (((decide ((((k + 1 : Nat) : Int) : Int) < ((x.args.length : Nat) : Int))) && (decide ((x.kind : Int) = 3)))) = false := by simp; intro; omega
    refine Wp_cond_false (congrArg Value.bool hc9) ?_
    refine Wp_exit (thn_exit (thn_exit (inB_here (inB_normal (thn_normal (Wp_region ?_))))))
    refine qV (r_add rfl rfl (wI64 (by omega))) ?_
    refine qM _ rfl ?_
    refine WpL_nil (thn_normal ?_)
    have hN : stN x.kind y (x.args.drop (k + 1)) = [] := by unfold stN; rw [if_neg (by omega), if_neg (by omega)]
    rw [hN] at hQ
    exact ⟨x.args.length - (k + 1), by omega, k + 1, addM cur (stR y), Fits.out ⟨rfl, rfl, rfl, rfl, rfl, trivial⟩, E, hm9, Br, (by omega), hQ, rfl⟩
  ·have khlt := hlt
   replace hlt := of_decide_eq_false hlt
   have hkk : x.args.drop k = [] := List.drop_of_length_le (by omega)
   rw [hkk] at hQ
   refine Wp_exit (thn_exit (thn_exit (inB_here ?_)))
   refine fin_none Try.results43 ?_
   exact ⟨rfl, by rw [← hQ]; exact hm, E⟩
theorem step5_c (x : Re) (hk : x.kind = 5) (hof : ∀ y ∈ x.args, StepOkR y) : StepOkR x := by
 intro w0 vs S bm es hxt hbm hsz hm
 obtain ⟨sa, sc, aa, ac, rfl, hset, hlen, hargs⟩ := hxt.form
 have hal := len_lt_size x
 have hml := hm.lt
 refine Ret_of Try.func43 rfl Try.ntmps43 (Nat.le_of_ble_eq_true rfl) ?_
 have E : Chg (fun y => y = bm) w0 w0 := Chg.refl _ _
 refine Wp_seq_region ?_
 refine s_box (v := (.agg (R6 x sa sc aa ac))) (c := (R6 x sa sc aa ac)) (by decide) rfl rfl ?_
 intro br wr Nr
 have Fr := Nr.ge E
 have Or_bm := Nr.ltM hm
 replace hm := Nr.keepM hm
 replace E := E.ext Nr.ext
 have Br := Nr.blk
 refine WpL_nil (Wp_seq_region ?_)
 refine qF br 0 2 rfl Try.underlying25 rfl siz23 rfl ?_
 refine qV (r_load rfl flat23 (Br.cell rfl)) ?_
 refine qV (r_lenSlice Try.underlying23 rfl) ?_
 refine qM _ rfl ?_
 refine WpL_nil (Wp_block ?_)
 refine Wp_loop (fun nn_ σ W1 => ∃ (k : Nat) (cur : List ((Int × Int) × Bool)), (∃ jj_, σ = upds jj_ [(1, (.map (some bm))), (2, (P6 br 0)), (8, (.slice aa x.args.length ac)), (9, (I6 (x.args.length : Int))), (10, (I6 (k : Int)))]) ∧ Chg (fun y => y = bm) w0 W1 ∧ MapAt W1 bm kPair kBool cur ∧ Blk W1 br (R6 x sa sc aa ac) 25 ∧ (k ≤ x.args.length) ∧ (addM cur (stL x.kind (x.args.drop k)) = addM es (stR x)) ∧ nn_ = x.args.length - k) (n := x.args.length - 0) ?_ ?_
 ·exact ⟨0, es, Fits.out ⟨rfl, rfl, rfl, rfl, rfl, trivial⟩, E, hm, Br, Nat.zero_le _, (by rw [stR_eq]; rfl), rfl⟩
 ·clear E hm Br
  rintro _ _ W1 ⟨k, cur, ⟨j1, rfl⟩, E, hm, Br, hk1, hQ, rfl⟩
  refine Wp_seq_region ?_
  refine qV (r_lss rfl rfl) ?_
  refine WpL_nil (Wp_seq ?_)
  refine Wp_cond rfl (fun hlt => ?_) (fun hlt => ?_)
  ·have khlt := hlt
   replace hlt := of_decide_eq_true hlt
   obtain ⟨y, hy⟩ := get_of_lt (l := x.args) (i := k) (by omega)
   obtain ⟨ab, ao, hSab, rfl, hxr⟩ := hargs.resolve_left (fun h => by rw [h] at hy; simp at hy)
   obtain ⟨us, hus, hyt⟩ := ResIn.get hxr hy
   have hyt0 := hyt
   obtain ⟨ysa, ysc, yaa, yac, rfl, _, _, _⟩ := hyt.form
   have hys := Re.size_arg hy
   rw [drop_at hy, stL, addM_app, addM_app] at hQ
   refine Wp_skip (thn_normal (Wp_seq (Wp_block (Wp_seq_region ?_))))
   refine qM _ rfl ?_
   refine qV (r_indexSlice (b := ab) (o := ao) (len := x.args.length) (cap := ac) (i := k) (o' := ao + k * 6) rfl rfl rfl Try.underlying23 siz25 (by omega) (by omega)) ?_
   refine qV (r_loadAgg rfl agg25 siz25 rfl (hus.chg E (fun h => hbm (h ▸ hSab)))) ?_
   refine s_alloc (c := #[(I6 0), (.slice none 0 0), (.slice none 0 0), (I6 0), (I6 0), (.bool false)]) (by decide) zer25 rfl ?_
   intro bu wu Nu
   have Fu := Nu.ge E
   have Ou_bm := Nu.ltM hm
   have Ou_br := Nu.lt Br
   replace hm := Nu.keepM hm
   replace Br := Nu.keep Br
   replace E := E.ext Nu.ext
   have Bu := Nu.blk
   refine qA _ rfl ?_
   refine s_storeAgg (b := bu) (o := 0) (c' := (R6 y ysa ysc yaa yac)) rfl rfl (by simp [Value.oneCell']) siz25 rfl Bu (by first | (simp; done) | exact Nat.le_of_ble_eq_true rfl) rfl ?_
   intro w3 S3
   replace hm := S3.keepM (by omega) hm
   replace Br := S3.keep (by omega) Br
   replace E := S3.step E (by first | exact Or.inl (by omega) | exact Or.inr rfl | exact Or.inr (by assumption) | exact Or.inr (by simp) | exact Or.inr (by omega) | exact Or.inr (by dsimp only; omega))
   replace Bu := S3.blk
   refine WpL_nil (Wp_seq_region ?_)
   refine qV (r_loadAgg (vs := [(I6 y.kind), (.slice ysa y.set.length ysc), (.slice yaa y.args.length yac), (I6 y.mn), (I6 y.mx), (.bool y.neg)]) rfl agg25 siz25 rfl (Bu.cells rfl)) ?_
   refine qM _ rfl ?_
   refine WpL_enter rfl rfl (by decide) (r_callF Try.func43 kQ kQ rfl) (hof y (List.mem_of_getElem? hy) _ _ S bm _ (ReIn.chg E (fun q hq h => hbm (h ▸ hq)) y hyt0) hbm (by omega) hm) ?_
   rintro _ w9 ⟨rfl, hm9, X9⟩
   replace Br := X9.keep (by omega) Br
   replace Bu := X9.keep (by omega) Bu
   replace E := E.step X9 (by intro x hx hm; omega)
   refine WpL_nil (Wp_seq (Wp_seq_region ?_))
   refine qF br 0 0 rfl Try.underlying25 rfl siz3 rfl ?_
   refine qV (r_load rfl flat3 (Br.cell rfl)) ?_
   refine qV (r_eql rfl rfl) ?_
   refine WpL_nil ?_
   have hc4 : (decide ((x.kind : Int) = 5)) = true := decide_eq_true hk
   refine Wp_cond_true (congrArg Value.bool hc4) ?_
   have hya := ReIn.at y (ReIn.chg E (fun q hq h => hbm (h ▸ hq)) y hyt0)
   obtain ⟨WE, hWE⟩ : ∃ WE, WE = (w9) := ⟨_, rfl⟩
   rw [← hWE] at hya
   have hz_5 : w0.heap.size ≤ w9.heap.size := E.size
   have lz_5_br : br < w9.heap.size := Br.lt
   have lz_5_bu : bu < w9.heap.size := Bu.lt
   have lz_5_bm : bm < w9.heap.size := hm9.lt
   obtain ⟨Fs5, hFs5⟩ : ∃ Fs : List FctS, Fs = [(eF (.agg (R6 y ysa ysc yaa yac))), (fun _ _ => bdF (bordR true y)), (eF (.agg (R6 y ysa ysc yaa yac))), (fun _ _ => bdF (bordR false y)), (eF (.map (some bm))), (eF undef)] := ⟨_, rfl⟩
   refine Wp_dagS (MsL []) [true, true, true, true, true, false] [5] [21, 22, 23, 24, 25, 64] [[], [0], [], [1, 2], [], []] [[], [0], [], [1, 0, 2], [], []] Fs5 hFs5 (by kernel_rfl) mixed (by kernel_rfl) (by kernel_rfl) (by kernel_rfl) (by kernel_rfl) ?_ ?_
   ·intro wd X0
    refine qZ (fun S s' w' hi hN X U V H => ?_) ?_
    ·replace X := xN0 X
     exact DoesT_pure (r_loadAgg (U 5 rfl) agg25 siz25 rfl (((X0.trans X).keep Bu).cells rfl)) rfl
    refine DagStepsS.cons (StabS.chg (U := none1) (bdF_ext _) (fun p y hp hw h => by
       exact h.elim)) (LocS.const) (fun S s' w' hi hN X U V H => Or.inl ⟨Guarded_none rfl, ?_⟩) ?_
    ·replace X := xN0 X
     have e21 := (H 0 rfl).2 21 _ rfl (by rw [hFs5]; rfl)
     exact DoesT_callE (r_callF Try.func45 kQ kQ (lst2 e21 rfl)) (bord_f true (ReAt.ext (by rw [hWE]; exact X0.trans X) y hya) (by omega))
    refine qZ (fun S s' w' hi hN X U V H => ?_) ?_
    ·replace X := xN0 X
     exact DoesT_pure (r_loadAgg (U 5 rfl) agg25 siz25 rfl (((X0.trans X).keep Bu).cells rfl)) rfl
    refine DagStepsS.cons (StabS.chg (U := none1) (bdF_ext _) (fun p y hp hw h => by
       exact h.elim)) (LocS.const) (fun S s' w' hi hN X U V H => Or.inl ⟨Guarded_none rfl, ?_⟩) ?_
    ·replace X := xN0 X
     have e23 := (H 2 rfl).2 23 _ rfl (by rw [hFs5]; rfl)
     exact DoesT_callE (r_callF Try.func45 kQ kQ (lst2 e23 rfl)) (bord_f false (ReAt.ext (by rw [hWE]; exact X0.trans X) y hya) (by omega))
    refine qZ (fun S s' w' hi hN X U V H => ?_) ?_
    ·replace X := xN0 X
     exact DoesT_pure (r_move (U 1 rfl)) rfl
    refine DagStepsS.tail ?_
    exact DagStepsS.nil
   ·intro s' wd5 w5 X0 X5 U H
    replace X5 := X5.mono (M' := none1) (fun y _ h => by
      obtain ⟨j, hj, h⟩ := h
      exact h.elim)
    obtain ⟨a22, c22, e22, I22⟩ := (show ((fun _ _ => bdF (bordR true y)) : FctS) (allS [true, true, true, true, true, false]) s' (s' 22) w5 from H 1 rfl 22 (fun _ _ => bdF (bordR true y)) rfl (by rw [hFs5]; rfl))
    obtain ⟨a24, c24, e24, I24⟩ := (show ((fun _ _ => bdF (bordR false y)) : FctS) (allS [true, true, true, true, true, false]) s' (s' 24) w5 from H 3 rfl 24 (fun _ _ => bdF (bordR false y)) rfl (by rw [hFs5]; rfl))
    have e25 := H 4 rfl 25 _ rfl (by rw [hFs5]; rfl)
    obtain ⟨j5, rfl⟩ := Fits.out (σ := s') (l := [(1, (.map (some bm))), (2, (.pointer (some ⟨br, 0, none⟩))), (4, (.int .i64 ((k : Nat) : Int))), (5, (.pointer (some ⟨bu, 0, none⟩))), (8, (.slice (some ⟨ab, ao, none⟩) x.args.length ac)), (9, (.int .i64 ((x.args.length : Nat) : Int))), (10, (.int .i64 ((k : Nat) : Int))), (22, (.slice a22 ((bordR true y).length) c22)), (24, (.slice a24 ((bordR false y).length) c24)), (25, (.map (some bm)))]) ⟨U 1 rfl, U 2 rfl, U 4 rfl, U 5 rfl, U 8 rfl, U 9 rfl, U 10 rfl, e22, e24, e25, trivial⟩
    clear U H
    replace Br := (X0.trans X5).keep Br
    replace Bu := (X0.trans X5).keep Bu
    replace hm9 := (X0.trans X5).keepM hm9
    replace X5 := X0.trans X5
    replace E := E.ext X5
    refine WpL_enter rfl rfl (by decide) (r_callF Try.func44 kQ kQ rfl) (cross_c _ _ _ (bordR true y) (bordR false y) bm _ I22 I24 hm9) ?_
    rintro _ w29 ⟨rfl, hm29, X29⟩
    replace Br := X29.keep (by omega) Br
    replace Bu := X29.keep (by omega) Bu
    replace E := E.step X29 (by intro x hx hm; omega)
    refine WpL_nil (thn_normal (Wp_seq_region ?_))
    refine qM _ rfl ?_
    refine qV (r_add rfl rfl (wI64 (by omega))) ?_
    refine qA _ rfl ?_
    refine WpL_nil (Wp_block ?_)
    refine Wp_loop (fun nn_ σ W6 => (∃ jj_, σ = upds jj_ [(1, (.map (some bm))), (2, (P6 br 0)), (5, (P6 bu 0)), (8, (.slice (some ⟨ab, ao, none⟩) x.args.length ac)), (9, (I6 (x.args.length : Int))), (10, (I6 (k : Int))), (6, (I6 ((k + 1 : Nat) : Int)))]) ∧ Chg (fun y => y = bm) w0 W6 ∧ Blk W6 br (R6 x sa sc (some ⟨ab, ao, none⟩) ac) 25 ∧ Blk W6 bu (R6 y ysa ysc yaa yac) 25 ∧ MapAt W6 bm kPair kBool (addM (addM cur (stR y)) (prodI (bordR true y) (bordR false y))) ∧ nn_ = (0 : Nat)) (n := (0 : Nat)) ?_ ?_
    ·exact ⟨Fits.out ⟨rfl, rfl, rfl, rfl, rfl, rfl, rfl, trivial⟩, E, Br, Bu, hm29, rfl⟩
    ·clear E Br Bu hm29
     rintro _ _ W6 ⟨⟨j6, rfl⟩, E, Br, Bu, hm29, rfl⟩
     refine Wp_seq (Wp_seq_region ?_)
     refine qM _ rfl ?_
     refine qF br 0 2 rfl Try.underlying25 rfl siz23 rfl ?_
     refine qV (r_load rfl flat23 (Br.cell rfl)) ?_
     refine qV (r_lenSlice Try.underlying23 rfl) ?_
     obtain ⟨e7, he7⟩ : ∃ e, (decide ((((k + 1 : Nat) : Int) : Int) < ((x.args.length : Nat) : Int))) = e := ⟨_, rfl⟩
     refine qV ((r_lss rfl rfl).trans (by rw [he7]; try rfl)) ?_
     refine qM _ rfl ?_
     refine qG (.bool e7) (yU e7 (P6 br 0)) (by cases e7 <;> first | exact gA | exact gB | exact .inl ⟨rfl, r_fieldAddr rfl Try.underlying25 rfl siz3 rfl⟩) ?_
     refine qG (.bool e7) (yU e7 (I6 x.kind)) (by cases e7 <;> first | exact gA | exact gB | exact .inl ⟨rfl, r_load rfl flat3 (Br.cell rfl)⟩) ?_
     obtain ⟨e8, he8⟩ : ∃ e, (decide ((x.kind : Int) = 3)) = e := ⟨_, rfl⟩
     refine qG (.bool e7) (yU e7 (.bool e8)) (by cases e7 <;> first | exact gA | exact gB | exact .inl ⟨rfl, (r_eql rfl rfl).trans (by rw [he8]; try rfl)⟩) ?_
     obtain ⟨e9, he9⟩ : ∃ e, (e7 && e8) = e := ⟨_, rfl⟩
     refine qV (r_pick (v := .bool e9) rfl (by rw [← he9]; cases e7 <;> rfl)) ?_
     refine WpL_nil ?_
     subst he9
     subst he8
     subst he7
     have hc10 : (((decide ((((k + 1 : Nat) : Int) : Int) < ((x.args.length : Nat) : Int))) && (decide ((x.kind : Int) = 3)))) = false := by simp; intro; omega
     refine Wp_cond_false (congrArg Value.bool hc10) ?_
     refine Wp_exit (thn_exit (thn_exit (inB_here (inB_normal (thn_normal (Wp_region ?_))))))
     refine qV (r_add rfl rfl (wI64 (by omega))) ?_
     refine qM _ rfl ?_
     refine WpL_nil (thn_normal ?_)
     have hN : stN x.kind y (x.args.drop (k + 1)) = prodI (bordR true y) (bordR false y) := by unfold stN; rw [if_pos hk]
     rw [hN] at hQ
     exact ⟨x.args.length - (k + 1), by omega, k + 1, addM (addM cur (stR y)) (prodI (bordR true y) (bordR false y)), Fits.out ⟨rfl, rfl, rfl, rfl, rfl, trivial⟩, E, hm29, Br, (by omega), hQ, rfl⟩
  ·have khlt := hlt
   replace hlt := of_decide_eq_false hlt
   have hkk : x.args.drop k = [] := List.drop_of_length_le (by omega)
   rw [hkk] at hQ
   refine Wp_exit (thn_exit (thn_exit (inB_here ?_)))
   refine fin_none Try.results43 ?_
   exact ⟨rfl, by rw [← hQ]; exact hm, E⟩
theorem step3_c (x : Re) (hk : x.kind = 3) (hof : ∀ y ∈ x.args, StepOkR y) : StepOkR x := by
 intro w0 vs S bm es hxt hbm hsz hm
 obtain ⟨sa, sc, aa, ac, rfl, hset, hlen, hargs⟩ := hxt.form
 have hal := len_lt_size x
 have hml := hm.lt
 refine Ret_of Try.func43 rfl Try.ntmps43 (Nat.le_of_ble_eq_true rfl) ?_
 have E : Chg (fun y => y = bm) w0 w0 := Chg.refl _ _
 refine Wp_seq_region ?_
 refine s_box (v := (.agg (R6 x sa sc aa ac))) (c := (R6 x sa sc aa ac)) (by decide) rfl rfl ?_
 intro br wr Nr
 have Fr := Nr.ge E
 have Or_bm := Nr.ltM hm
 replace hm := Nr.keepM hm
 replace E := E.ext Nr.ext
 have Br := Nr.blk
 refine WpL_nil (Wp_seq_region ?_)
 refine qF br 0 2 rfl Try.underlying25 rfl siz23 rfl ?_
 refine qV (r_load rfl flat23 (Br.cell rfl)) ?_
 refine qV (r_lenSlice Try.underlying23 rfl) ?_
 refine qM _ rfl ?_
 refine WpL_nil (Wp_block ?_)
 refine Wp_loop (fun nn_ σ W1 => ∃ (k : Nat) (cur : List ((Int × Int) × Bool)), (∃ jj_, σ = upds jj_ [(1, (.map (some bm))), (2, (P6 br 0)), (8, (.slice aa x.args.length ac)), (9, (I6 (x.args.length : Int))), (10, (I6 (k : Int)))]) ∧ Chg (fun y => y = bm) w0 W1 ∧ MapAt W1 bm kPair kBool cur ∧ Blk W1 br (R6 x sa sc aa ac) 25 ∧ (k ≤ x.args.length) ∧ (addM cur (stL x.kind (x.args.drop k)) = addM es (stR x)) ∧ nn_ = x.args.length - k) (n := x.args.length - 0) ?_ ?_
 ·exact ⟨0, es, Fits.out ⟨rfl, rfl, rfl, rfl, rfl, trivial⟩, E, hm, Br, Nat.zero_le _, (by rw [stR_eq]; rfl), rfl⟩
 ·clear E hm Br
  rintro _ _ W1 ⟨k, cur, ⟨j1, rfl⟩, E, hm, Br, hk1, hQ, rfl⟩
  refine Wp_seq_region ?_
  refine qV (r_lss rfl rfl) ?_
  refine WpL_nil (Wp_seq ?_)
  refine Wp_cond rfl (fun hlt => ?_) (fun hlt => ?_)
  ·have khlt := hlt
   replace hlt := of_decide_eq_true hlt
   obtain ⟨y, hy⟩ := get_of_lt (l := x.args) (i := k) (by omega)
   obtain ⟨ab, ao, hSab, rfl, hxr⟩ := hargs.resolve_left (fun h => by rw [h] at hy; simp at hy)
   obtain ⟨us, hus, hyt⟩ := ResIn.get hxr hy
   have hyt0 := hyt
   obtain ⟨ysa, ysc, yaa, yac, rfl, _, _, _⟩ := hyt.form
   have hys := Re.size_arg hy
   rw [drop_at hy, stL, addM_app, addM_app] at hQ
   refine Wp_skip (thn_normal (Wp_seq (Wp_block (Wp_seq_region ?_))))
   refine qM _ rfl ?_
   refine qV (r_indexSlice (b := ab) (o := ao) (len := x.args.length) (cap := ac) (i := k) (o' := ao + k * 6) rfl rfl rfl Try.underlying23 siz25 (by omega) (by omega)) ?_
   refine qV (r_loadAgg rfl agg25 siz25 rfl (hus.chg E (fun h => hbm (h ▸ hSab)))) ?_
   refine s_alloc (c := #[(I6 0), (.slice none 0 0), (.slice none 0 0), (I6 0), (I6 0), (.bool false)]) (by decide) zer25 rfl ?_
   intro bu wu Nu
   have Fu := Nu.ge E
   have Ou_bm := Nu.ltM hm
   have Ou_br := Nu.lt Br
   replace hm := Nu.keepM hm
   replace Br := Nu.keep Br
   replace E := E.ext Nu.ext
   have Bu := Nu.blk
   refine qA _ rfl ?_
   refine s_storeAgg (b := bu) (o := 0) (c' := (R6 y ysa ysc yaa yac)) rfl rfl (by simp [Value.oneCell']) siz25 rfl Bu (by first | (simp; done) | exact Nat.le_of_ble_eq_true rfl) rfl ?_
   intro w3 S3
   replace hm := S3.keepM (by omega) hm
   replace Br := S3.keep (by omega) Br
   replace E := S3.step E (by first | exact Or.inl (by omega) | exact Or.inr rfl | exact Or.inr (by assumption) | exact Or.inr (by simp) | exact Or.inr (by omega) | exact Or.inr (by dsimp only; omega))
   replace Bu := S3.blk
   refine WpL_nil (Wp_seq_region ?_)
   refine qV (r_loadAgg (vs := [(I6 y.kind), (.slice ysa y.set.length ysc), (.slice yaa y.args.length yac), (I6 y.mn), (I6 y.mx), (.bool y.neg)]) rfl agg25 siz25 rfl (Bu.cells rfl)) ?_
   refine qM _ rfl ?_
   refine WpL_enter rfl rfl (by decide) (r_callF Try.func43 kQ kQ rfl) (hof y (List.mem_of_getElem? hy) _ _ S bm _ (ReIn.chg E (fun q hq h => hbm (h ▸ hq)) y hyt0) hbm (by omega) hm) ?_
   rintro _ w9 ⟨rfl, hm9, X9⟩
   replace Br := X9.keep (by omega) Br
   replace Bu := X9.keep (by omega) Bu
   replace E := E.step X9 (by intro x hx hm; omega)
   refine WpL_nil (Wp_seq (Wp_seq_region ?_))
   refine qF br 0 0 rfl Try.underlying25 rfl siz3 rfl ?_
   refine qV (r_load rfl flat3 (Br.cell rfl)) ?_
   refine qV (r_eql rfl rfl) ?_
   refine WpL_nil ?_
   have hc4 : (decide ((x.kind : Int) = 5)) = false := decide_eq_false (by omega)
   refine Wp_cond_false (congrArg Value.bool hc4) ?_
   refine Wp_skip (thn_normal (Wp_seq_region ?_))
   refine qM _ rfl ?_
   refine qV (r_add rfl rfl (wI64 (by omega))) ?_
   refine qA _ rfl ?_
   refine WpL_nil (Wp_block ?_)
   have hN : stN x.kind y (x.args.drop (k + 1)) = folB (bordR true y) (x.args.drop (k + 1)) := by unfold stN; rw [if_neg (by omega), if_pos hk]
   rw [hN] at hQ
   refine Wp_loop (fun nn_ σ W5 => ∃ (j : Nat) (cu : List ((Int × Int) × Bool)), (∃ jj_, σ = upds jj_ [(1, (.map (some bm))), (2, (P6 br 0)), (5, (P6 bu 0)), (8, (.slice (some ⟨ab, ao, none⟩) x.args.length ac)), (9, (I6 (x.args.length : Int))), (10, (I6 (k : Int))), (6, (I6 (j : Int)))]) ∧ Chg (fun y => y = bm) w0 W5 ∧ Blk W5 br (R6 x sa sc (some ⟨ab, ao, none⟩) ac) 25 ∧ Blk W5 bu (R6 y ysa ysc yaa yac) 25 ∧ MapAt W5 bm kPair kBool cu ∧ (k + 1 ≤ j) ∧ (j ≤ x.args.length) ∧ (addM cu (folB (bordR true y) (x.args.drop j)) = addM (addM cur (stR y)) (folB (bordR true y) (x.args.drop (k + 1)))) ∧ nn_ = x.args.length - j) (n := x.args.length - (k + 1)) ?_ ?_
   ·exact ⟨k + 1, addM cur (stR y), Fits.out ⟨rfl, rfl, rfl, rfl, rfl, rfl, rfl, trivial⟩, E, Br, Bu, hm9, Nat.le_refl _, (by omega), rfl, rfl⟩
   ·clear E Br Bu hm9
    rintro _ _ W5 ⟨j, cu, ⟨j5, rfl⟩, E, Br, Bu, hm9, hj1, hj2, hB, rfl⟩
    refine Wp_seq (Wp_seq_region ?_)
    refine qM _ rfl ?_
    refine qF br 0 2 rfl Try.underlying25 rfl siz23 rfl ?_
    refine qV (r_load rfl flat23 (Br.cell rfl)) ?_
    refine qV (r_lenSlice Try.underlying23 rfl) ?_
    obtain ⟨e6, he6⟩ : ∃ e, (decide ((((j : Nat) : Int) : Int) < ((x.args.length : Nat) : Int))) = e := ⟨_, rfl⟩
    refine qV ((r_lss rfl rfl).trans (by rw [he6]; try rfl)) ?_
    refine qM _ rfl ?_
    refine qG (.bool e6) (yU e6 (P6 br 0)) (by cases e6 <;> first | exact gA | exact gB | exact .inl ⟨rfl, r_fieldAddr rfl Try.underlying25 rfl siz3 rfl⟩) ?_
    refine qG (.bool e6) (yU e6 (I6 x.kind)) (by cases e6 <;> first | exact gA | exact gB | exact .inl ⟨rfl, r_load rfl flat3 (Br.cell rfl)⟩) ?_
    obtain ⟨e7, he7⟩ : ∃ e, (decide ((x.kind : Int) = 3)) = e := ⟨_, rfl⟩
    refine qG (.bool e6) (yU e6 (.bool e7)) (by cases e6 <;> first | exact gA | exact gB | exact .inl ⟨rfl, (r_eql rfl rfl).trans (by rw [he7]; try rfl)⟩) ?_
    obtain ⟨e8, he8⟩ : ∃ e, (e6 && e7) = e := ⟨_, rfl⟩
    refine qV (r_pick (v := .bool e8) rfl (by rw [← he8]; cases e6 <;> rfl)) ?_
    refine WpL_nil ?_
    subst he8
    subst he7
    subst he6
    refine Wp_cond rfl (fun hlt2 => ?_) (fun hlt2 => ?_)
    ·have khlt2 := hlt2
     have hlt3 : j < x.args.length := by simp at hlt2; omega
     obtain ⟨z, hz⟩ := get_of_lt (l := x.args) (i := j) hlt3
     obtain ⟨zs, hzs, hzt⟩ := ResIn.get hxr hz
     have hzt0 := hzt
     obtain ⟨zsa, zsc, zaa, zac, rfl, _, _, _⟩ := hzt.form
     have hzz := Re.size_arg hz
     have hya := ReIn.at y (ReIn.chg E (fun q hq h => hbm (h ▸ hq)) y hyt0)
     have hza := ReIn.at z (ReIn.chg E (fun q hq h => hbm (h ▸ hq)) z hzt0)
     have hzc := hzs.chg E (fun h => hbm (h ▸ hSab))
     rw [drop_at hz, folB, addM_app] at hB
     refine Wp_skip (thn_normal (Wp_seq (Wp_block ?_)))
     obtain ⟨WE, hWE⟩ : ∃ WE, WE = (W5) := ⟨_, rfl⟩
     rw [← hWE] at hya hza hzc
     have hz_10 : w0.heap.size ≤ W5.heap.size := E.size
     have lz_10_br : br < W5.heap.size := Br.lt
     have lz_10_bu : bu < W5.heap.size := Bu.lt
     have lz_10_bm : bm < W5.heap.size := hm9.lt
     refine Wp_seq ?_
     obtain ⟨Fs10, hFs10⟩ : ∃ Fs : List FctS, Fs = [(eF (.agg (R6 y ysa ysc yaa yac))), (fun _ _ => bdF (bordR true y)), (eF (P6 br 2)), (eF (.slice (some ⟨ab, ao, none⟩) x.args.length ac)), (eF (I6 (j : Int))), (eF (.pointer (some ⟨ab, ao + j * 6, none⟩))), (eF (.agg (R6 z zsa zsc zaa zac))), (fun _ _ => bdF (bordR false z)), (eF (.map (some bm))), (eF undef)] := ⟨_, rfl⟩
     refine Wp_dagS (MsL []) [true, true, true, true, true, true, true, true, true, false] [9] [41, 42, 43, 44, 45, 46, 47, 48, 49, 68] [[], [0], [], [2], [], [3, 4], [5], [1, 6], [], []] [[], [0], [], [2], [], [3, 2, 4], [5, 3, 2, 4], [1, 0, 6, 5, 3, 2, 4], [], []] Fs10 hFs10 (by kernel_rfl) mixed (by kernel_rfl) (by kernel_rfl) (by kernel_rfl) (by kernel_rfl) ?_ ?_
     ·intro wd X0
      refine qZ (fun S s' w' hi hN X U V H => ?_) ?_
      ·replace X := xN0 X
       exact DoesT_pure (r_loadAgg (U 5 rfl) agg25 siz25 rfl (((X0.trans X).keep Bu).cells rfl)) rfl
      refine DagStepsS.cons (StabS.chg (U := none1) (bdF_ext _) (fun p y hp hw h => by
         exact h.elim)) (LocS.const) (fun S s' w' hi hN X U V H => Or.inl ⟨Guarded_none rfl, ?_⟩) ?_
      ·replace X := xN0 X
       have e41 := (H 0 rfl).2 41 _ rfl (by rw [hFs10]; rfl)
       exact DoesT_callE (r_callF Try.func45 kQ kQ (lst2 e41 rfl)) (bord_f true (ReAt.ext (by rw [hWE]; exact X0.trans X) y hya) (by omega))
      refine qZ (fun S s' w' hi hN X U V H => ?_) ?_
      ·replace X := xN0 X
       exact DoesT_pure (r_fieldAddr (U 2 rfl) Try.underlying25 rfl siz23 rfl) rfl
      refine qZ (fun S s' w' hi hN X U V H => ?_) ?_
      ·replace X := xN0 X
       have e43 := (H 2 rfl).2 43 _ rfl (by rw [hFs10]; rfl)
       exact DoesT_pure (r_load e43 flat23 (((X0.trans X).keep Br).cell rfl)) rfl
      refine qZ (fun S s' w' hi hN X U V H => ?_) ?_
      ·replace X := xN0 X
       exact DoesT_pure (r_move (U 6 rfl)) rfl
      refine qZ (fun S s' w' hi hN X U V H => ?_) ?_
      ·replace X := xN0 X
       have e44 := (H 3 rfl).2 44 _ rfl (by rw [hFs10]; rfl)
       have e45 := (H 4 rfl).2 45 _ rfl (by rw [hFs10]; rfl)
       exact DoesT_pure (r_indexSlice (i := j) e44 e45 rfl Try.underlying23 siz25 (by omega) (by omega)) rfl
      refine qZ (fun S s' w' hi hN X U V H => ?_) ?_
      ·replace X := xN0 X
       have e46 := (H 5 rfl).2 46 _ rfl (by rw [hFs10]; rfl)
       exact DoesT_pure (r_loadAgg e46 agg25 siz25 rfl (hzc.ext (by rw [hWE]; exact X0.trans X))) rfl
      refine DagStepsS.cons (StabS.chg (U := none1) (bdF_ext _) (fun p y hp hw h => by
         exact h.elim)) (LocS.const) (fun S s' w' hi hN X U V H => Or.inl ⟨Guarded_none rfl, ?_⟩) ?_
      ·replace X := xN0 X
       have e47 := (H 6 rfl).2 47 _ rfl (by rw [hFs10]; rfl)
       exact DoesT_callE (r_callF Try.func45 kQ kQ (lst2 e47 rfl)) (bord_f false (ReAt.ext (by rw [hWE]; exact X0.trans X) z hza) (by omega))
      refine qZ (fun S s' w' hi hN X U V H => ?_) ?_
      ·replace X := xN0 X
       exact DoesT_pure (r_move (U 1 rfl)) rfl
      refine DagStepsS.tail ?_
      exact DagStepsS.nil
     ·intro s' wd10 w10 X0 X10 U H
      replace X10 := X10.mono (M' := none1) (fun y _ h => by
        obtain ⟨j, hj, h⟩ := h
        exact h.elim)
      obtain ⟨a42, c42, e42, I42⟩ := (show ((fun _ _ => bdF (bordR true y)) : FctS) (allS [true, true, true, true, true, true, true, true, true, false]) s' (s' 42) w10 from H 1 rfl 42 (fun _ _ => bdF (bordR true y)) rfl (by rw [hFs10]; rfl))
      obtain ⟨a48, c48, e48, I48⟩ := (show ((fun _ _ => bdF (bordR false z)) : FctS) (allS [true, true, true, true, true, true, true, true, true, false]) s' (s' 48) w10 from H 7 rfl 48 (fun _ _ => bdF (bordR false z)) rfl (by rw [hFs10]; rfl))
      have e49 := H 8 rfl 49 _ rfl (by rw [hFs10]; rfl)
      obtain ⟨j10, rfl⟩ := Fits.out (σ := s') (l := [(1, (.map (some bm))), (2, (.pointer (some ⟨br, 0, none⟩))), (5, (.pointer (some ⟨bu, 0, none⟩))), (6, (.int .i64 ((j : Nat) : Int))), (8, (.slice (some ⟨ab, ao, none⟩) x.args.length ac)), (9, (.int .i64 ((x.args.length : Nat) : Int))), (10, (.int .i64 ((k : Nat) : Int))), (42, (.slice a42 ((bordR true y).length) c42)), (48, (.slice a48 ((bordR false z).length) c48)), (49, (.map (some bm)))]) ⟨U 1 rfl, U 2 rfl, U 5 rfl, U 6 rfl, U 8 rfl, U 9 rfl, U 10 rfl, e42, e48, e49, trivial⟩
      clear U H
      replace Br := (X0.trans X10).keep Br
      replace Bu := (X0.trans X10).keep Bu
      replace hm9 := (X0.trans X10).keepM hm9
      replace X10 := X0.trans X10
      replace E := E.ext X10
      refine WpL_enter rfl rfl (by decide) (r_callF Try.func44 kQ kQ rfl) (cross_c _ _ _ (bordR true y) (bordR false z) bm _ I42 I48 hm9) ?_
      rintro _ w29 ⟨rfl, hm29, X29⟩
      replace Br := X29.keep (by omega) Br
      replace Bu := X29.keep (by omega) Bu
      replace E := E.step X29 (by intro x hx hm; omega)
      refine WpL_nil (thn_normal (Wp_seq_region ?_))
      refine qF br 0 2 rfl Try.underlying25 rfl siz23 rfl ?_
      refine qV (r_load rfl flat23 (Br.cell rfl)) ?_
      refine qM _ rfl ?_
      refine qV (r_indexSlice (b := ab) (o := ao) (len := x.args.length) (cap := ac) (i := j) (o' := ao + j * 6) rfl rfl rfl Try.underlying23 siz25 (by omega) (by omega)) ?_
      refine qV (r_loadAgg rfl agg25 siz25 rfl (hzs.chg E (fun h => hbm (h ▸ hSab)))) ?_
      refine WpL_enter rfl rfl (by decide) (r_callF Try.func47 kQ kQ rfl) (can_c _ z (Nat.le_refl _) _ _ (ReIn.at z (ReIn.chg E (fun q hq h => hbm (h ▸ hq)) z hzt0))) ?_
      rintro _ w39 ⟨rfl, X39⟩
      replace Br := X39.keep Br
      replace Bu := X39.keep Bu
      replace hm29 := X39.keepM hm29
      replace E := E.ext X39
      refine qV (r_not rfl) ?_
      refine WpL_nil ?_
      refine Wp_cond rfl (fun hcn => ?_) (fun hcn => ?_)
      ·have khcn := hcn
       replace hcn := by simpa using hcn
       have hc0 : canR z = false := by simpa using hcn
       rw [hc0] at hB
       rw [← hB] at hQ
       refine Wp_exit ?_
       refine inB_there (by decide) ?_
       refine thn_exit (thn_exit (inB_here (inB_normal (thn_normal (Wp_region ?_)))))
       refine qV (r_add rfl rfl (wI64 (by omega))) ?_
       refine qM _ rfl ?_
       refine WpL_nil (thn_normal ?_)
       exact ⟨x.args.length - (k + 1), by omega, k + 1, addM cu (prodI (bordR true y) (bordR false z)), Fits.out ⟨rfl, rfl, rfl, rfl, rfl, trivial⟩, E, hm29, Br, (by omega), hQ, rfl⟩
      ·have khcn := hcn
       replace hcn := by simpa using hcn
       have hc1 : canR z = true := by simpa using hcn
       rw [hc1] at hB
       refine Wp_skip (inB_normal (thn_normal (Wp_region ?_)))
       refine qM _ rfl ?_
       refine qV (r_add rfl rfl (wI64 (by omega))) ?_
       refine qA _ rfl ?_
       refine WpL_nil (thn_normal ?_)
       exact ⟨x.args.length - (j + 1), by omega, j + 1, addM cu (prodI (bordR true y) (bordR false z)), Fits.out ⟨rfl, rfl, rfl, rfl, rfl, rfl, rfl, trivial⟩, E, Br, Bu, hm29, (by omega), (by omega), hB, rfl⟩
    ·have khlt2 := hlt2
     have hjj : x.args.drop j = [] := List.drop_of_length_le (by simp [hk] at hlt2; omega)
     rw [hjj] at hB
     rw [← hB] at hQ
     refine Wp_exit (thn_exit (thn_exit (inB_here (inB_normal (thn_normal (Wp_region ?_))))))
     refine qV (r_add rfl rfl (wI64 (by omega))) ?_
     refine qM _ rfl ?_
     refine WpL_nil (thn_normal ?_)
     exact ⟨x.args.length - (k + 1), by omega, k + 1, cu, Fits.out ⟨rfl, rfl, rfl, rfl, rfl, trivial⟩, E, hm9, Br, (by omega), hQ, rfl⟩
  ·have khlt := hlt
   replace hlt := of_decide_eq_false hlt
   have hkk : x.args.drop k = [] := List.drop_of_length_le (by omega)
   rw [hkk] at hQ
   refine Wp_exit (thn_exit (thn_exit (inB_here ?_)))
   refine fin_none Try.results43 ?_
   exact ⟨rfl, by rw [← hQ]; exact hm, E⟩
theorem steps_c : ∀ (n : Nat) (x : Re), x.size ≤ n → StepOkR x := by
  intro n
  induction n with
  | zero => intro x h; have := x.size_pos; omega
  | succ n ih =>
  intro x hn
  have hof : ∀ y ∈ x.args, StepOkR y := fun y hy => by
    obtain ⟨i, hi⟩ := List.getElem?_of_mem hy
    have h1 := Re.size_arg hi
    exact ih y (by omega)
  by_cases h3 : x.kind = 3
  · exact step3_c x h3 hof
  by_cases h5 : x.kind = 5
  · exact step5_c x h5 hof
  · exact step0_c x ⟨h3, h5⟩ hof
end Go.Proofs
namespace Go.Proofs
open Go Go.Eng
set_option maxRecDepth 100000
def plE (k mx : Int) (n : Nat) : Nat := if k = 2 then 1 else if k = 6 then n * mx.toNat else n
mutual
def plN : Re → Nat
  | .mk k _ a _ mx _ => plE k mx (plNs a)
def plNs : List Re → Nat
  | [] => 0
  | x :: l => plN x + plNs l
end
def wtE (k mx : Int) (n : Nat) : Nat := if k = 6 then (1 + n) * (max 1 mx).toNat else 1 + n
mutual
def wtN : Re → Nat
  | .mk k _ a _ mx _ => wtE k mx (wtNs a)
def wtNs : List Re → Nat
  | [] => 0
  | x :: l => wtN x + wtNs l
end
theorem plN_eq (x : Re) : plN x = plE x.kind x.mx (plNs x.args) := by cases x; rw [plN]; rfl
theorem wtN_eq (x : Re) : wtN x = wtE x.kind x.mx (wtNs x.args) := by cases x; rw [wtN]; rfl
theorem plNs_app : ∀ a b : List Re, plNs (a ++ b) = plNs a + plNs b
  | [], b => by simp [plNs]
  | x :: a, b => by simp only [List.cons_append, plNs, plNs_app a b]; omega
theorem wtNs_app : ∀ a b : List Re, wtNs (a ++ b) = wtNs a + wtNs b
  | [], b => by simp [wtNs]
  | x :: a, b => by simp only [List.cons_append, wtNs, wtNs_app a b]; omega
theorem plNs_succ {l : List Re} {k : Nat} {x : Re} (h : l[k]? = some x) : plNs (l.take (k + 1)) = plNs (l.take k) + plN x := by
 rw [List.take_add_one, h, Option.toList_some, plNs_app]; simp [plNs]
theorem wtNs_succ {l : List Re} {k : Nat} {x : Re} (h : l[k]? = some x) : wtNs (l.take (k + 1)) = wtNs (l.take k) + wtN x := by
 rw [List.take_add_one, h, Option.toList_some, wtNs_app]; simp [wtNs]
theorem min_mul (n m c : Nat) : min (min n c * m) c = min (n * m) c := by
 rcases Nat.le_total n c with h | h
 ·rw [Nat.min_eq_left h]
 ·rw [Nat.min_eq_right h]
  rcases Nat.eq_zero_or_pos m with h0 | h0
  ·subst h0; simp
  ·have h1 : c ≤ c * m := Nat.le_mul_of_pos_right c h0
   have h2 : c * m ≤ n * m := Nat.mul_le_mul_right m h
   omega
theorem places_c : ∀ (N : Nat) (t : Re), t.size ≤ N → N ≤ 2097152 → okRe t → ∀ (w0 : World) (vs : List Value), ReAt w0 t vs →
    Ret Try.prog 11 #[.agg vs.toArray] w0 fun v w => v = .int .i64 ((min (plN t) 1000 : Nat) : Int) ∧ Ext w0 w := by
  intro N
  induction N with
  | zero => intro t ht; have := t.size_pos; omega
  | succ N ih =>
  intro t hN hNb hok w0 vs ht
  have ht0 := ht
  obtain ⟨sa, sc, aa, ac, rfl, hset, hlen, hargs⟩ := ht.form
  have hal := len_lt_size t
  refine Ret_of Try.func11 rfl Try.ntmps11 (Nat.le_of_ble_eq_true rfl) ?_
  have E : Chg none1 w0 w0 := Chg.refl _ _
  refine Wp_seq_region ?_
  refine s_box (v := (.agg (R6 t sa sc aa ac))) (c := (R6 t sa sc aa ac)) (by decide) rfl rfl ?_
  intro b1 w1 N1
  have F1 := N1.ge E
  replace E := E.ext N1.ext
  have B1 := N1.blk
  refine qA _ rfl ?_
  refine WpL_nil (Wp_seq_region ?_)
  refine qA _ rfl ?_
  refine WpL_nil (Wp_seq (Wp_seq_region ?_))
  refine qF b1 0 2 rfl Try.underlying25 rfl siz23 rfl ?_
  refine qV (r_load rfl flat23 (B1.cell rfl)) ?_
  refine qV (r_lenSlice Try.underlying23 rfl) ?_
  refine qM _ rfl ?_
  refine WpL_nil (Wp_block ?_)
  refine Wp_loop (fun nn_ σ W2 => ∃ (k n : Nat), (∃ jj_, σ = upds jj_ [(1, (P6 b1 0)), (7, (.slice aa t.args.length ac)), (8, (I6 (t.args.length : Int))), (9, (I6 (k : Int))), (3, (I6 (n : Int)))]) ∧ Chg none1 w0 W2 ∧ Blk W2 b1 (R6 t sa sc aa ac) 25 ∧ (k ≤ t.args.length) ∧ (n = min (plNs (t.args.take k)) 1000) ∧ nn_ = t.args.length - k) (n := t.args.length - 0) ?_ ?_
  · exact ⟨0, 0, Fits.out ⟨rfl, rfl, rfl, rfl, rfl, trivial⟩, E, B1, Nat.zero_le _, rfl, rfl⟩
  · clear E B1
    rintro _ _ W2 ⟨k, n, ⟨j2, rfl⟩, E, B1, hk, hn, rfl⟩
    refine Wp_seq_region ?_
    refine qV (r_lss rfl rfl) ?_
    refine WpL_nil (Wp_seq ?_)
    refine Wp_cond rfl (fun hlt => ?_) (fun hlt => ?_)
    · have khlt := hlt
      replace hlt := of_decide_eq_true hlt
      obtain ⟨x, hx⟩ := get_of_lt (l := t.args) (i := k) (by omega)
      obtain ⟨ab, ao, rfl, hres⟩ := args_at hargs (by omega)
      obtain ⟨us, hus, hxt⟩ := hres.get hx
      have hsz := Re.size_arg hx
      have hxo := okRes_get (okRe_args hok) hx
      have hsu := plNs_succ hx
      refine Wp_skip (thn_normal (Wp_seq (Wp_block (Wp_seq_region ?_))))
      refine qV (r_indexSlice (b := ab) (o := ao) (len := t.args.length) (cap := ac) (i := k) (o' := ao + k * 6) rfl rfl rfl Try.underlying23 siz25 (by omega) (by omega)) ?_
      refine qV (r_loadAgg rfl agg25 siz25 hxt.len (hus.ext E)) ?_
      refine s_allocStore (v := (.agg us.toArray)) (c := us.toArray) (n := 6) (by decide) zer25 rfl siz25 rfl rfl (by simpa using hxt.len) (by simpa using ReAt.one hxt) ?_
      intro b4 w4 N4
      have F4 := N4.ge E
      have O4_b1 := N4.lt B1
      replace B1 := N4.keep B1
      replace E := E.ext N4.ext
      have B4 := N4.blk
      refine WpL_nil (Wp_region ?_)
      refine qM _ rfl ?_
      refine qV (r_loadAgg rfl agg25 siz25 hxt.len (B4.cells (by simp))) ?_
      refine WpL_enter rfl rfl (by decide) (r_callF Try.func11 kQ kQ rfl) (ih x (by omega) (by omega) hxo _ us (ReAt.ext E x hxt)) ?_
      rintro _ w9 ⟨rfl, X9⟩
      replace B1 := X9.keep B1
      replace B4 := X9.keep B4
      replace E := E.ext X9
      refine qV (r_add rfl rfl (wI64 (by omega))) ?_
      refine qV (r_min2 (c := ((min (plNs (t.args.take (k + 1))) 1000 : Nat) : Int)) rfl rfl (by omega)) ?_
      refine qA _ rfl ?_
      refine WpL_nil (inB_normal (thn_normal (Wp_region ?_)))
      refine qV (r_add rfl rfl (wI64 (by omega))) ?_
      refine qM _ rfl ?_
      refine WpL_nil (thn_normal ?_)
      exact ⟨t.args.length - (k + 1), by omega, k + 1, min (plNs (t.args.take (k + 1))) 1000, Fits.out ⟨rfl, rfl, rfl, rfl, rfl, trivial⟩, E, B1, (by omega), rfl, rfl⟩
    · have khlt := hlt
      replace hlt := of_decide_eq_false hlt
      have hkk : t.args.take k = t.args := List.take_of_length_le (by omega)
      rw [hkk] at hn
      refine Wp_exit (thn_exit (thn_exit (inB_here (thn_normal (Wp_seq (Wp_seq_region ?_))))))
      refine qF b1 0 0 rfl Try.underlying25 rfl siz3 rfl ?_
      refine qV (r_load rfl flat3 (B1.cell rfl)) ?_
      refine qV (r_eql rfl rfl) ?_
      refine WpL_nil ?_
      refine Wp_cond rfl (fun h2 => ?_) (fun h2 => ?_)
      · have kh2 := h2
        replace h2 := of_decide_eq_true h2
        refine Wp_region ?_
        refine qA _ rfl ?_
        refine WpL_nil (thn_normal (Wp_seq (Wp_seq_region ?_)))
        refine qF b1 0 0 rfl Try.underlying25 rfl siz3 rfl ?_
        refine qV (r_load rfl flat3 (B1.cell rfl)) ?_
        refine qV (r_eql rfl rfl) ?_
        refine WpL_nil ?_
        have hc6 : (decide ((t.kind : Int) = 6)) = false := decide_eq_false (by omega)
        refine Wp_cond_false (congrArg Value.bool hc6) ?_
        refine Wp_skip (thn_normal (Wp_seq_region ?_))
        refine qM _ rfl ?_
        refine qA _ rfl ?_
        refine WpL_nil (Wp_ret ?_)
        refine fin_tmp Try.results11 (v := (.int .i64 1)) rfl ?_
        exact ⟨by rw [plN_eq, plE, if_pos h2]; rfl, E⟩
      · have kh2 := h2
        replace h2 := of_decide_eq_false h2
        refine Wp_skip (thn_normal (Wp_seq (Wp_seq_region ?_)))
        refine qF b1 0 0 rfl Try.underlying25 rfl siz3 rfl ?_
        refine qV (r_load rfl flat3 (B1.cell rfl)) ?_
        refine qV (r_eql rfl rfl) ?_
        refine WpL_nil ?_
        refine Wp_cond rfl (fun h6 => ?_) (fun h6 => ?_)
        · have kh6 := h6
          replace h6 := of_decide_eq_true h6
          have hrep := okRe_rep hok h6
          obtain ⟨mx, hmx⟩ : ∃ m : Nat, t.mx = (m : Int) := ⟨t.mx.toNat, by omega⟩
          have hmul : n * mx ≤ 1000 * 8 := Nat.mul_le_mul (by omega) (by omega)
          have hcast : ((n : Nat) : Int) * t.mx = ((n * mx : Nat) : Int) := by rw [hmx]; push_cast; rfl
          refine Wp_region ?_
          refine qM _ rfl ?_
          refine qF b1 0 4 rfl Try.underlying25 rfl siz3 rfl ?_
          refine qV (r_load rfl flat3 (B1.cell rfl)) ?_
          refine qV (r_mul (c := ((n * mx : Nat) : Int)) rfl rfl (by rw [hcast]; exact wI64 (by omega))) ?_
          refine qV (r_min2 (c := ((min (n * mx) 1000 : Nat) : Int)) rfl rfl (by omega)) ?_
          refine qA _ rfl ?_
          refine WpL_nil (thn_normal (Wp_seq_region ?_))
          refine qM _ rfl ?_
          refine qA _ rfl ?_
          refine WpL_nil (Wp_ret ?_)
          refine fin_tmp Try.results11 (v := (.int .i64 ((min (n * mx) 1000 : Nat) : Int))) rfl ?_
          have hpl : min (n * mx) 1000 = min (plN t) 1000 := by rw [plN_eq, plE, if_neg h2, if_pos h6, hmx, Int.toNat_natCast, hn]; exact min_mul _ _ _
          exact ⟨by rw [hpl], E⟩
        · have kh6 := h6
          replace h6 := of_decide_eq_false h6
          have hpl : n = min (plN t) 1000 := by rw [plN_eq, plE, if_neg h2, if_neg h6]; exact hn
          refine Wp_skip (thn_normal (Wp_seq_region ?_))
          refine qM _ rfl ?_
          refine qA _ rfl ?_
          refine WpL_nil (Wp_ret ?_)
          refine fin_tmp Try.results11 (v := (.int .i64 ((n : Nat) : Int))) rfl ?_
          exact ⟨by rw [← hpl], E⟩
theorem weight2_c : ∀ (N : Nat) (t : Re), t.size ≤ N → N ≤ 2097152 → okRe t → ∀ (w0 : World) (vs : List Value), ReAt w0 t vs →
    Ret Try.prog 12 #[.agg vs.toArray] w0 fun v w => v = .int .i64 ((min (wtN t) 1000000 : Nat) : Int) ∧ Ext w0 w := by
  intro N
  induction N with
  | zero => intro t ht; have := t.size_pos; omega
  | succ N ih =>
  intro t hN hNb hok w0 vs ht
  have ht0 := ht
  obtain ⟨sa, sc, aa, ac, rfl, hset, hlen, hargs⟩ := ht.form
  have hal := len_lt_size t
  refine Ret_of Try.func12 rfl Try.ntmps12 (Nat.le_of_ble_eq_true rfl) ?_
  have E : Chg none1 w0 w0 := Chg.refl _ _
  refine Wp_seq_region ?_
  refine s_box (v := (.agg (R6 t sa sc aa ac))) (c := (R6 t sa sc aa ac)) (by decide) rfl rfl ?_
  intro b1 w1 N1
  have F1 := N1.ge E
  replace E := E.ext N1.ext
  have B1 := N1.blk
  refine qA _ rfl ?_
  refine WpL_nil (Wp_seq_region ?_)
  refine qA _ rfl ?_
  refine WpL_nil (Wp_seq (Wp_seq_region ?_))
  refine qF b1 0 2 rfl Try.underlying25 rfl siz23 rfl ?_
  refine qV (r_load rfl flat23 (B1.cell rfl)) ?_
  refine qV (r_lenSlice Try.underlying23 rfl) ?_
  refine qM _ rfl ?_
  refine WpL_nil (Wp_block ?_)
  refine Wp_loop (fun nn_ σ W2 => ∃ (k n : Nat), (∃ jj_, σ = upds jj_ [(1, (P6 b1 0)), (7, (.slice aa t.args.length ac)), (8, (I6 (t.args.length : Int))), (9, (I6 (k : Int))), (3, (I6 (n : Int)))]) ∧ Chg none1 w0 W2 ∧ Blk W2 b1 (R6 t sa sc aa ac) 25 ∧ (k ≤ t.args.length) ∧ (n = min (1 + wtNs (t.args.take k)) 1000000) ∧ nn_ = t.args.length - k) (n := t.args.length - 0) ?_ ?_
  · exact ⟨0, 1, Fits.out ⟨rfl, rfl, rfl, rfl, rfl, trivial⟩, E, B1, Nat.zero_le _, rfl, rfl⟩
  · clear E B1
    rintro _ _ W2 ⟨k, n, ⟨j2, rfl⟩, E, B1, hk, hn, rfl⟩
    refine Wp_seq_region ?_
    refine qV (r_lss rfl rfl) ?_
    refine WpL_nil (Wp_seq ?_)
    refine Wp_cond rfl (fun hlt => ?_) (fun hlt => ?_)
    · have khlt := hlt
      replace hlt := of_decide_eq_true hlt
      obtain ⟨x, hx⟩ := get_of_lt (l := t.args) (i := k) (by omega)
      obtain ⟨ab, ao, rfl, hres⟩ := args_at hargs (by omega)
      obtain ⟨us, hus, hxt⟩ := hres.get hx
      have hsz := Re.size_arg hx
      have hxo := okRes_get (okRe_args hok) hx
      have hsu := wtNs_succ hx
      refine Wp_skip (thn_normal (Wp_seq (Wp_block (Wp_seq_region ?_))))
      refine qV (r_indexSlice (b := ab) (o := ao) (len := t.args.length) (cap := ac) (i := k) (o' := ao + k * 6) rfl rfl rfl Try.underlying23 siz25 (by omega) (by omega)) ?_
      refine qV (r_loadAgg rfl agg25 siz25 hxt.len (hus.ext E)) ?_
      refine s_allocStore (v := (.agg us.toArray)) (c := us.toArray) (n := 6) (by decide) zer25 rfl siz25 rfl rfl (by simpa using hxt.len) (by simpa using ReAt.one hxt) ?_
      intro b4 w4 N4
      have F4 := N4.ge E
      have O4_b1 := N4.lt B1
      replace B1 := N4.keep B1
      replace E := E.ext N4.ext
      have B4 := N4.blk
      refine WpL_nil (Wp_region ?_)
      refine qM _ rfl ?_
      refine qV (r_loadAgg rfl agg25 siz25 hxt.len (B4.cells (by simp))) ?_
      refine WpL_enter rfl rfl (by decide) (r_callF Try.func12 kQ kQ rfl) (ih x (by omega) (by omega) hxo _ us (ReAt.ext E x hxt)) ?_
      rintro _ w9 ⟨rfl, X9⟩
      replace B1 := X9.keep B1
      replace B4 := X9.keep B4
      replace E := E.ext X9
      refine qV (r_add rfl rfl (wI64 (by omega))) ?_
      refine qV (r_min2 (c := ((min (1 + wtNs (t.args.take (k + 1))) 1000000 : Nat) : Int)) rfl rfl (by omega)) ?_
      refine qA _ rfl ?_
      refine WpL_nil (inB_normal (thn_normal (Wp_region ?_)))
      refine qV (r_add rfl rfl (wI64 (by omega))) ?_
      refine qM _ rfl ?_
      refine WpL_nil (thn_normal ?_)
      exact ⟨t.args.length - (k + 1), by omega, k + 1, min (1 + wtNs (t.args.take (k + 1))) 1000000, Fits.out ⟨rfl, rfl, rfl, rfl, rfl, trivial⟩, E, B1, (by omega), rfl, rfl⟩
    · have khlt := hlt
      replace hlt := of_decide_eq_false hlt
      have hkk : t.args.take k = t.args := List.take_of_length_le (by omega)
      rw [hkk] at hn
      refine Wp_exit (thn_exit (thn_exit (inB_here (thn_normal (Wp_seq (Wp_seq_region ?_))))))
      refine qF b1 0 0 rfl Try.underlying25 rfl siz3 rfl ?_
      refine qV (r_load rfl flat3 (B1.cell rfl)) ?_
      refine qV (r_eql rfl rfl) ?_
      refine WpL_nil ?_
      refine Wp_cond rfl (fun h6 => ?_) (fun h6 => ?_)
      · have kh6 := h6
        replace h6 := of_decide_eq_true h6
        have hrep := okRe_rep hok h6
        refine Wp_region ?_
        refine qM _ rfl ?_
        refine qF b1 0 4 rfl Try.underlying25 rfl siz3 rfl ?_
        refine qV (r_load rfl flat3 (B1.cell rfl)) ?_
        refine qV (r_max2 (c := max 1 t.mx) rfl rfl rfl) ?_
        obtain ⟨mx, hmx⟩ : ∃ m : Nat, max 1 t.mx = (m : Int) := ⟨(max 1 t.mx).toNat, by omega⟩
        have hmul : n * mx ≤ 1000000 * 8 := Nat.mul_le_mul (by omega) (by omega)
        have hcast : ((n : Nat) : Int) * max 1 t.mx = ((n * mx : Nat) : Int) := by rw [hmx]; push_cast; rfl
        refine qV (r_mul (c := ((n * mx : Nat) : Int)) rfl rfl (by rw [hcast]; exact wI64 (by omega))) ?_
        refine qV (r_min2 (c := ((min (n * mx) 1000000 : Nat) : Int)) rfl rfl (by omega)) ?_
        refine qA _ rfl ?_
        refine WpL_nil (thn_normal (Wp_seq_region ?_))
        refine qM _ rfl ?_
        refine qA _ rfl ?_
        refine WpL_nil (Wp_ret ?_)
        refine fin_tmp Try.results12 (v := (.int .i64 ((min (n * mx) 1000000 : Nat) : Int))) rfl ?_
        have hpl : min (n * mx) 1000000 = min (wtN t) 1000000 := by rw [wtN_eq, wtE, if_pos h6, hmx, Int.toNat_natCast, hn]; exact min_mul _ _ _
        exact ⟨by rw [hpl], E⟩
      · have kh6 := h6
        replace h6 := of_decide_eq_false h6
        have hpl : n = min (wtN t) 1000000 := by rw [wtN_eq, wtE, if_neg h6]; exact hn
        refine Wp_skip (thn_normal (Wp_seq_region ?_))
        refine qM _ rfl ?_
        refine qA _ rfl ?_
        refine WpL_nil (Wp_ret ?_)
        refine fin_tmp Try.results12 (v := (.int .i64 ((n : Nat) : Int))) rfl ?_
        exact ⟨by rw [← hpl], E⟩
end Go.Proofs
namespace Go.Proofs
open Go Go.Eng
set_option maxRecDepth 100000
mutual
def fl2 : Re → Bool
  | .mk k _ a _ _ _ => (k != 2 || a.isEmpty) && fl2s a
def fl2s : List Re → Bool
  | [] => true
  | x :: l => fl2 x && fl2s l
end
theorem fl2s_iff : ∀ l : List Re, fl2s l = true ↔ ∀ x ∈ l, fl2 x = true
  | [] => by simp [fl2s]
  | x :: l => by simp [fl2s, fl2s_iff l]
theorem fl2_of {x : Re} (h1 : x.kind = 2 → x.args = []) (h2 : ∀ y ∈ x.args, fl2 y = true) : fl2 x = true := by
 cases x
 rename_i k z a mn mx g
 rw [fl2, Bool.and_eq_true]
 refine ⟨?_, (fl2s_iff a).2 h2⟩
 by_cases hk : k = 2
 ·have := h1 hk
  rw [show a = [] from this]; simp
 ·simp [hk]
theorem fl2_args {x : Re} (h : fl2 x = true) : (x.kind = 2 → x.args = []) ∧ ∀ y ∈ x.args, fl2 y = true := by
 cases x
 rename_i k z a mn mx g
 rw [fl2, Bool.and_eq_true] at h
 refine ⟨fun hk => ?_, (fl2s_iff a).1 h.2⟩
 have hk' : k = 2 := hk
 have h1 := h.1
 rw [hk'] at h1
 show a = []
 simpa using h1
theorem node_set0 {t : Re} (h : nodeE t = 0) (hk : t.kind = 2) : t.args = [] := by
 unfold nodeE at h
 split at h
 ·cases h
 split at h
 ·cases h
 rename_i h2
 have h3 : formB t = true := by simpa using h2
 unfold formB at h3
 simp only [Bool.and_eq_true] at h3
 have h4 := h3.1.1.1.1
 unfold okB at h4
 rw [if_neg (by omega), if_neg (by omega)] at h4
 have := of_decide_eq_true h4
 exact List.eq_nil_of_length_eq_zero (by omega)
theorem okRe_fl2 : ∀ (n : Nat) (x : Re), x.size ≤ n → okRe x → fl2 x = true := by
  intro n
  induction n with
  | zero => intro x h; have := x.size_pos; omega
  | succ n ih =>
  intro x hn hok
  refine fl2_of (node_set0 (okRe_node hok)) fun y hy => ?_
  obtain ⟨i, hi⟩ := List.getElem?_of_mem hy
  have h1 := Re.size_arg hi
  exact ih y (by omega) (okRes_get (okRe_args hok) hi)
theorem itE_fl {mn : Int} {b : Re} (h : fl2 b = true) (j : Nat) : fl2 (itE mn b j) = true := by
 unfold itE
 split
 ·exact h
 ·exact fl2_of (fun h => (by cases h)) fun y hy => by
   rcases List.mem_cons.1 hy with rfl | h1
   ·exact h
   ·rw [List.mem_singleton.1 h1]; rfl
theorem exp_fl2 : ∀ (n : Nat) (x : Re), x.size ≤ n → fl2 x = true → fl2 (expT x) = true := by
  intro n
  induction n with
  | zero => intro x h; have := x.size_pos; omega
  | succ n ih =>
  intro x hn hf
  obtain ⟨h1, h2⟩ := fl2_args hf
  have hof : ∀ y ∈ x.args.map expT, fl2 y = true := fun y hy => by
    obtain ⟨z, hz, rfl⟩ := List.mem_map.1 hy
    obtain ⟨i, hi⟩ := List.getElem?_of_mem hz
    have h3 := Re.size_arg hi
    exact ih z (by omega) (h2 z hz)
  have hhd : fl2 ((x.args.map expT).headD emptyR) = true := by
    cases he : x.args.map expT with
    | nil => rfl
    | cons a l => exact hof a (by rw [he]; exact List.mem_cons_self)
  rw [expT_eq, expE]
  split
  · exact hhd
  split
  · refine fl2_of (fun h => (by cases h)) fun y hy => ?_
    rcases List.mem_cons.1 hy with rfl | h3
    · rfl
    · obtain ⟨j, _, rfl⟩ := List.mem_map.1 h3
      exact itE_fl hhd j
  · exact fl2_of (fun hk => by show x.args.map expT = []; rw [h1 hk]; rfl) hof
theorem itE_size (mn : Int) (b : Re) (j : Nat) : (itE mn b j).size ≤ b.size + 2 := by
 unfold itE
 split
 ·omega
 ·show Re.sizes [b, emptyR] + 1 ≤ _
  simp only [Re.sizes]
  show b.size + (1 + 0) + 1 ≤ _
  omega
theorem its_size (mn : Int) (b : Re) : ∀ m : Nat, Re.sizes ((List.range m).map (itE mn b)) ≤ m * (b.size + 2)
  | 0 => by simp [Re.sizes]
  | m + 1 => by
    rw [List.range_succ, List.map_append, Re.sizes_append]
    have h1 := its_size mn b m
    have h2 := itE_size mn b m
    have h3 : (m + 1) * (b.size + 2) = m * (b.size + 2) + (b.size + 2) := Nat.succ_mul _ _
    simp only [List.map_cons, List.map_nil, Re.sizes]
    omega
theorem wtN_pos (x : Re) : 1 ≤ wtN x := by
 rw [wtN_eq, wtE]
 split
 ·have h1 : 1 ≤ (max 1 x.mx).toNat := by omega
  have h2 : 1 * 1 ≤ (1 + wtNs x.args) * (max 1 x.mx).toNat := Nat.mul_le_mul (by omega) h1
  omega
 ·omega
theorem exp_size : ∀ (n : Nat) (x : Re), x.size ≤ n → okRe x → (expT x).size ≤ 4 * wtN x := by
  intro n
  induction n with
  | zero => intro x h; have := x.size_pos; omega
  | succ n ih =>
  intro x hn hok
  have hN := node_inv (okRe_node hok)
  have hof : ∀ y ∈ x.args, (expT y).size ≤ 4 * wtN y := fun y hy => by
    obtain ⟨i, hi⟩ := List.getElem?_of_mem hy
    have h1 := Re.size_arg hi
    exact ih y (by omega) (okRes_get (okRe_args hok) hi)
  have hall : ∀ l : List Re, (∀ y ∈ l, (expT y).size ≤ 4 * wtN y) → Re.sizes (l.map expT) ≤ 4 * wtNs l := by
    intro l
    induction l with
    | nil => intro _; simp [Re.sizes]
    | cons y l ihl =>
      intro h
      have h1 := h y List.mem_cons_self
      have h2 := ihl fun z hz => h z (List.mem_cons_of_mem _ hz)
      simp only [List.map_cons, Re.sizes, wtNs]
      omega
  by_cases h9 : x.kind = 9
  · obtain ⟨y, hy⟩ := kids1 (hN.one (by omega))
    have h1 := hof y (by rw [hy]; exact List.mem_singleton.2 rfl)
    rw [expT_eq, expE, if_pos h9, wtN_eq, wtE, if_neg (by omega), hy]
    show (expT y).size ≤ 4 * (1 + (wtN y + 0))
    omega
  by_cases h6 : x.kind = 6
  · obtain ⟨y, hy⟩ := kids1 (hN.one (by omega))
    have h1 := hof y (by rw [hy]; exact List.mem_singleton.2 rfl)
    rw [expT_eq, expE, if_neg h9, if_pos h6, wtN_eq, wtE, if_pos h6, hy]
    have h2 := its_size x.mn (expT y) x.mx.toNat
    have hrep := okRe_rep hok h6
    have hw := wtN_pos y
    show Re.sizes (emptyR :: (List.range x.mx.toNat).map (itE x.mn (expT y))) + 1 ≤ 4 * ((1 + (wtN y + 0)) * (max 1 x.mx).toNat)
    simp only [Re.sizes]
    have he : emptyR.size = 1 := rfl
    rw [he]
    rcases Nat.eq_zero_or_pos x.mx.toNat with h0 | h0
    · rw [h0] at h2 ⊢
      have h3 : (max 1 x.mx).toNat = 1 := by omega
      rw [h3]
      omega
    · have h3 : (max 1 x.mx).toNat = x.mx.toNat := by omega
      rw [h3]
      obtain ⟨m, hm⟩ : ∃ m, m = x.mx.toNat := ⟨_, rfl⟩
      rw [← hm] at h2 h0 ⊢
      have h4 : m * ((expT y).size + 2) ≤ m * (4 * wtN y + 2) := Nat.mul_le_mul_left _ (by omega)
      have h5 : 4 * ((1 + (wtN y + 0)) * m) = m * (4 * wtN y + 2) + 2 * m := by
        rw [Nat.add_zero, Nat.mul_comm (1 + wtN y) m, Nat.mul_add, Nat.mul_add, Nat.mul_add, Nat.mul_one, Nat.mul_left_comm]
        omega
      omega
  · have h1 := hall x.args hof
    rw [expT_eq, expE, if_neg h9, if_neg h6, wtN_eq, wtE, if_neg h6]
    show Re.sizes (x.args.map expT) + 1 ≤ _
    omega
mutual
theorem numR_size : ∀ (x : Re) (n : Nat), (numR x n).1.size = x.size
  | .mk k z a mn mx g, n => by
    rw [numR]
    split
    · rfl
    · show Re.sizes (numRs a n).1 + 1 = Re.sizes a + 1
      rw [numRs_size a n]
theorem numRs_size : ∀ (l : List Re) (n : Nat), Re.sizes (numRs l n).1 = Re.sizes l
  | [], n => rfl
  | x :: l, n => by
    rw [numRs]
    show (numR x n).1.size + Re.sizes (numRs l (numR x n).2).1 = x.size + Re.sizes l
    rw [numR_size x, numRs_size l]
end
mutual
def setsR : Re → List (List Sp)
  | .mk k z a _ _ _ => if k = 2 then [z] else setsRs a
def setsRs : List Re → List (List Sp)
  | [] => []
  | x :: l => setsR x ++ setsRs l
end
mutual
theorem numR_cnt : ∀ (x : Re) (n : Nat), (numR x n).2 = n + (setsR x).length
  | .mk k z a mn mx g, n => by
    rw [numR, setsR]
    split
    · rfl
    · exact numRs_cnt a n
theorem numRs_cnt : ∀ (l : List Re) (n : Nat), (numRs l n).2 = n + (setsRs l).length
  | [], n => rfl
  | x :: l, n => by
    rw [numRs, setsRs, List.length_append]
    show (numRs l (numR x n).2).2 = _
    rw [numRs_cnt l, numR_cnt x]; omega
end
def manyF (zs : List (List Sp)) (y : Re) : List (List Sp) := if y.kind = 2 then zs.set y.mn.toNat y.set else zs
mutual
theorem pre_mn : ∀ (x : Re) (n : Nat), fl2 x = true → ∀ y ∈ preL (numR x n).1, y.kind = 2 → (n : Int) < y.mn ∧ y.mn ≤ ((numR x n).2 : Int)
  | .mk k z a mn mx g, n, hf, y, hy, hk => by
    rw [fl2, Bool.and_eq_true] at hf
    rw [numR] at hy ⊢
    split at hy
    · rename_i h2
      rw [if_pos h2]
      have ha : a = [] := by have := hf.1; rw [h2] at this; simpa using this
      subst ha
      simp only [preL, preLs, List.mem_singleton] at hy
      subst hy
      show (n : Int) < ((n + 1 : Nat) : Int) ∧ ((n + 1 : Nat) : Int) ≤ ((n + 1 : Nat) : Int)
      omega
    · rename_i h2
      rw [if_neg h2]
      simp only [preL, List.mem_cons] at hy
      rcases hy with rfl | hy
      · exact absurd hk h2
      · exact pres_mn a n hf.2 y hy hk
theorem pres_mn : ∀ (l : List Re) (n : Nat), fl2s l = true → ∀ y ∈ preLs (numRs l n).1, y.kind = 2 → (n : Int) < y.mn ∧ y.mn ≤ ((numRs l n).2 : Int)
  | [], n, _, y, hy, _ => by simp [numRs, preLs] at hy
  | x :: l, n, hf, y, hy, hk => by
    rw [fl2s, Bool.and_eq_true] at hf
    rw [numRs] at hy ⊢
    simp only [preLs, List.mem_append] at hy
    have h3 := numR_cnt x n
    have h4 := numRs_cnt l (numR x n).2
    rcases hy with hy | hy
    · have := pre_mn x n hf.1 y hy hk
      show _ ∧ y.mn ≤ ((numRs l (numR x n).2).2 : Int)
      omega
    · have := pres_mn l (numR x n).2 hf.2 y hy hk
      show _ ∧ y.mn ≤ ((numRs l (numR x n).2).2 : Int)
      omega
end
theorem set_app {α : Type} (l m : List α) (k : Nat) (v : α) : (l ++ m).set (l.length + k) v = l ++ m.set k v := by
 rw [List.set_append_right _ _ (by omega), Nat.add_sub_cancel_left]
theorem foldl_manyF_len : ∀ (ys : List Re) (zs : List (List Sp)), (ys.foldl manyF zs).length = zs.length
  | [], zs => rfl
  | y :: ys, zs => by
    rw [List.foldl_cons, foldl_manyF_len ys]
    unfold manyF; split
    · rw [List.length_set]
    · rfl
mutual
theorem pre_many : ∀ (x : Re) (n : Nat), fl2 x = true → ∀ (A : List (List Sp)) (r : Nat), A.length = n + 1 → (preL (numR x n).1).foldl manyF (A ++ List.replicate ((setsR x).length + r) []) = A ++ setsR x ++ List.replicate r []
  | .mk k z a mn mx g, n, hf, A, r, hA => by
    rw [fl2, Bool.and_eq_true] at hf
    rw [numR, setsR]
    split
    · rename_i h2
      have ha : a = [] := by have := hf.1; rw [h2] at this; simpa using this
      subst ha
      simp only [preL, preLs, List.foldl_cons, List.foldl_nil]
      unfold manyF
      rw [if_pos (by exact h2)]
      show (A ++ List.replicate (1 + r) []).set ((n + 1 : Nat) : Int).toNat z = _
      rw [Int.toNat_natCast, Nat.add_comm 1 r, List.replicate_succ, ← hA]
      have := set_app A ([] :: List.replicate r []) 0 z
      rw [Nat.add_zero] at this
      rw [this, List.append_assoc]; rfl
    · rename_i h2
      simp only [preL, List.foldl_cons]
      rw [show manyF (A ++ List.replicate ((setsRs a).length + r) []) (Re.mk k z (numRs a n).1 mn mx g) = A ++ List.replicate ((setsRs a).length + r) [] from if_neg h2]
      exact pres_many a n hf.2 A r hA
theorem pres_many : ∀ (l : List Re) (n : Nat), fl2s l = true → ∀ (A : List (List Sp)) (r : Nat), A.length = n + 1 → (preLs (numRs l n).1).foldl manyF (A ++ List.replicate ((setsRs l).length + r) []) = A ++ setsRs l ++ List.replicate r []
  | [], n, _, A, r, _ => by simp [numRs, preLs, setsRs]
  | x :: l, n, hf, A, r, hA => by
    rw [fl2s, Bool.and_eq_true] at hf
    rw [numRs, setsRs]
    simp only [preLs, List.foldl_append, List.length_append]
    rw [Nat.add_assoc, pre_many x n hf.1 A _ hA]
    rw [pres_many l (numR x n).2 hf.2 (A ++ setsR x) r (by rw [List.length_append, hA, numR_cnt]; omega), List.append_assoc A]
end
theorem rhas_c (w0 : World) (v : Value) (l : List Int) (x : Int) (h : IntsAt w0 v l) : Ret Try.prog 46 #[v, .int .i64 x] w0 fun r w => r = .bool (l.contains x) ∧ Ext w0 w := by
 obtain ⟨a, c, rfl⟩ := SlAt.form h
 have hb1 : l.length ≤ 9223372036854775807 := by simpa using SlAt.le h
 simp only [List.length_map] at h ⊢
 refine Ret_of Try.func46 rfl Try.ntmps46 (Nat.le_of_ble_eq_true rfl) ?_
 have E : Chg none1 w0 w0 := Chg.refl _ _
 refine Wp_seq_region ?_
 refine qA _ rfl ?_
 refine WpL_nil (Wp_seq (Wp_seq_region ?_))
 refine qM _ rfl ?_
 refine qV (r_lenSlice Try.underlying26 rfl) ?_
 refine qM _ rfl ?_
 refine WpL_nil (Wp_block ?_)
 refine Wp_loop (fun nn_ σ W1 => ∃ (k : Nat), (∃ jj_, σ = upds jj_ [(1, (I6 x)), (7, (.slice a l.length c)), (8, (I6 (l.length : Int))), (9, (I6 (k : Int)))]) ∧ Chg none1 w0 W1 ∧ (k ≤ l.length) ∧ ((l.take k).contains x = false) ∧ nn_ = l.length - k) (n := l.length - 0) ?_ ?_
 ·exact ⟨0, Fits.out ⟨rfl, rfl, rfl, rfl, trivial⟩, E, Nat.zero_le _, rfl, rfl⟩
 ·clear E
  rintro _ _ W1 ⟨k, ⟨j1, rfl⟩, E, hk, hp, rfl⟩
  refine Wp_seq_region ?_
  refine qV (r_lss rfl rfl) ?_
  refine WpL_nil (Wp_seq ?_)
  refine Wp_cond rfl (fun hlt => ?_) (fun hlt => ?_)
  ·have khlt := hlt
   replace hlt := of_decide_eq_true hlt
   obtain ⟨y, hy⟩ := get_of_lt (l := l) (i := k) (by omega)
   obtain ⟨b, o, rfl, hc⟩ := ints_cells h (by omega)
   refine Wp_skip (thn_normal (Wp_seq (Wp_block (Wp_seq_region ?_))))
   refine qV (r_indexSlice (b := b) (o := o) (len := l.length) (cap := c) (i := k) (o' := o + k) rfl rfl rfl Try.underlying26 siz3 (by omega) (by omega)) ?_
   refine qV (r_load rfl flat3 (E.cell (fun f => f) (hc k y hy))) ?_
   refine qA _ rfl ?_
   refine WpL_nil (Wp_seq_region ?_)
   refine qM _ rfl ?_
   refine qM _ rfl ?_
   refine qV (r_eql rfl rfl) ?_
   refine WpL_nil ?_
   refine Wp_cond rfl (fun he => ?_) (fun he => ?_)
   ·have khe := he
    replace he := of_decide_eq_true he
    refine Wp_seq_region ?_
    refine qA _ rfl ?_
    refine WpL_nil (Wp_ret (inB_ret (thn_ret (thn_ret (inB_ret (thn_ret ?_))))))
    refine fin_tmp Try.results46 (v := (.bool true)) rfl ?_
    exact ⟨bool_eq (by symm; rw [List.contains_iff_mem, he]; exact List.mem_of_getElem? hy), E⟩
   ·have khe := he
    replace he := of_decide_eq_false he
    refine Wp_skip (inB_normal (thn_normal (Wp_region ?_)))
    refine qV (r_add rfl rfl (wI64 (by omega))) ?_
    refine qM _ rfl ?_
    refine WpL_nil (thn_normal ?_)
    exact ⟨l.length - (k + 1), by omega, k + 1, Fits.out ⟨rfl, rfl, rfl, rfl, trivial⟩, E, (by omega), (by rw [List.take_add_one, hy, Option.toList_some]; rw [Bool.eq_false_iff, ne_eq, List.contains_iff_mem] at hp ⊢; intro h; rcases List.mem_append.1 h with h | h; exact hp h; exact he (by simpa using h)), rfl⟩
  ·have khlt := hlt
   replace hlt := of_decide_eq_false hlt
   have hkk : l.take k = l := List.take_of_length_le (by omega)
   rw [hkk] at hp
   refine Wp_exit (thn_exit (thn_exit (inB_here (thn_normal (Wp_seq_region ?_)))))
   refine qA _ rfl ?_
   refine WpL_nil (Wp_ret ?_)
   refine fin_tmp Try.results46 (v := (.bool false)) rfl ?_
   exact ⟨by rw [hp], E⟩
end Go.Proofs
namespace Go.Proofs
open Go Go.Eng
structure GS where
 sets : List (List Sp)
 fol : List (List Nat)
structure Pt where
 nul : Bool
 fst : List Nat
 lst : List Nat
abbrev GF := GS → Option (GS × Pt)
def lnk1 (f : List (List Nat)) (to : List Nat) (p : Nat) : List (List Nat) := f.set p (f.getD p [] ++ to)
def lnk (f : List (List Nat)) (src to : List Nat) : List (List Nat) := src.foldl (fun f p => lnk1 f to p) f
def catP (a b : Pt) : Pt := ⟨a.nul && b.nul, if a.nul then a.fst ++ b.fst else a.fst, if b.nul then a.lst ++ b.lst else b.lst⟩
def catG (g : GS) (a b : Pt) : GS := ⟨g.sets, lnk g.fol a.lst b.fst⟩
def altP (a b : Pt) : Pt := ⟨a.nul || b.nul, a.fst ++ b.fst, a.lst ++ b.lst⟩
def catGs : List GF → GS → Pt → Option (GS × Pt)
  | [], g, o => some (g, o)
  | f :: fs, g, o => (f g).bind fun (g1, p) => catGs fs (catG g1 o p) (catP o p)
def altGs : List GF → GS → Pt → Option (GS × Pt)
  | [], g, o => some (g, o)
  | f :: fs, g, o => (f g).bind fun (g1, p) => altGs fs g1 (altP o p)
def orP (p : Pt) (b : Bool) : Pt := ⟨p.nul || b, p.fst, p.lst⟩
def repGs (f : GF) (mn : Int) (g : GS) : Nat → Option (GS × Pt)
  | 0 => some (g, ⟨true, [], []⟩)
  | k + 1 => (repGs f mn g k).bind fun (g1, o) => (f g1).bind fun (g2, p) => some (catG g2 o (orP p (decide (mn ≤ (k : Int)))), catP o (orP p (decide (mn ≤ (k : Int)))))
def setG (z : List Sp) : GF := fun g => if 499 < g.sets.length + 1 then none else some (⟨g.sets ++ [z], g.fol ++ [[]]⟩, ⟨false, [g.sets.length + 1], [g.sets.length + 1]⟩)
def gnode (k : Int) (z : List Sp) (mn mx : Int) (fs : List GF) : GF := fun g =>
 if k = 1 then some (g, ⟨true, [], []⟩)
 else if k = 2 then setG z g
 else if k = 3 then catGs fs g ⟨true, [], []⟩
 else if k = 4 then altGs fs g ⟨false, [], []⟩
 else if k = 5 then (match fs with | f :: _ => (f g).bind fun (g1, p) => some (catG g1 p p, ⟨true, p.fst, p.lst⟩) | [] => none)
 else if k = 6 then (match fs with | f :: _ => repGs f mn g mx.toNat | [] => none)
 else if k = 9 then (match fs with | f :: _ => f g | [] => none)
 else some (g, ⟨false, [], []⟩)
mutual
def gkO : Re → GF
  | .mk k z a mn mx _ => gnode k z mn mx (gkL a)
def gkL : List Re → List GF
  | [] => []
  | x :: l => gkO x :: gkL l
end
theorem gkL_map : ∀ l : List Re, gkL l = l.map gkO
  | [] => rfl
  | x :: l => by rw [gkL, gkL_map l]; rfl
theorem lnk1_len (f : List (List Nat)) (to : List Nat) (p : Nat) : (lnk1 f to p).length = f.length := by unfold lnk1; rw [List.length_set]
theorem lnk1_get (f : List (List Nat)) (to : List Nat) (p i : Nat) : (lnk1 f to p)[i]? = (f[i]?).map fun l => if i = p then l ++ to else l := by
  unfold lnk1
  rw [List.getElem?_set]
  by_cases e : p = i
  · subst e
    rw [if_pos rfl]
    by_cases h : p < f.length
    · rw [if_pos h, List.getD_eq_getElem?_getD, List.getElem?_eq_getElem h]
      simp
    · rw [if_neg h, List.getElem?_eq_none (by omega)]; rfl
  · rw [if_neg e]
    cases f[i]? with
    | none => rfl
    | some l => simp only [Option.map_some]; rw [if_neg (fun h => e h.symm)]
theorem lnk_len : ∀ (src : List Nat) (f : List (List Nat)) (to : List Nat), (lnk f src to).length = f.length
  | [], f, to => rfl
  | p :: src, f, to => (lnk_len src (lnk1 f to p) to).trans (lnk1_len f to p)
theorem lnk_get : ∀ (src : List Nat) (f : List (List Nat)) (to : List Nat) (i : Nat), src.Nodup → (lnk f src to)[i]? = (f[i]?).map fun l => if i ∈ src then l ++ to else l
  | [], f, to, i, _ => by
    show f[i]? = _
    cases f[i]? <;> simp
  | p :: src, f, to, i, h => by
    rw [List.nodup_cons] at h
    show (lnk (lnk1 f to p) src to)[i]? = _
    rw [lnk_get src _ to i h.2, lnk1_get]
    cases f[i]? with
    | none => rfl
    | some l =>
      simp only [Option.map_some, Option.some.injEq, List.mem_cons]
      by_cases e : i = p
      · subst e
        rw [if_pos rfl, if_neg h.1, if_pos (.inl rfl)]
      · rw [if_neg e]
        by_cases e2 : i ∈ src
        · rw [if_pos e2, if_pos (.inr e2)]
        · rw [if_neg e2, if_neg (fun h => h.elim e e2)]
theorem lnk_snoc (f : List (List Nat)) (src to : List Nat) (p : Nat) : lnk f (src ++ [p]) to = lnk1 (lnk f src to) to p := by unfold lnk; rw [List.foldl_append]; rfl
/-- Rows are not longer than B. -/
def RowB (B : Nat) (f : List (List Nat)) : Prop := ∀ (i : Nat) l, f[i]? = some l → l.length ≤ B
theorem RowB.lnk1 {B : Nat} {f : List (List Nat)} (h : RowB B f) {to : List Nat} (p : Nat) {m : Nat} (hm : to.length ≤ m) : RowB (B + m) (lnk1 f to p) := by
 intro i l hl
 rw [lnk1_get, Option.map_eq_some_iff] at hl
 obtain ⟨l0, h0, rfl⟩ := hl
 have := h i l0 h0
 split
 ·rw [List.length_append]; omega
 ·omega
/-- A list that rises, within bounds. -/
def Rise (n m : Nat) (l : List Nat) : Prop := l.Pairwise (· < ·) ∧ (∀ t ∈ l, n < t ∧ t ≤ m) ∧ l.length + n ≤ m
theorem Rise.nil {n m : Nat} (h : n ≤ m) : Rise n m [] := ⟨.nil, fun t h => (by cases h), by simpa using h⟩
theorem Rise.nodup {n m : Nat} {l : List Nat} (h : Rise n m l) : l.Nodup := List.nodup_iff_pairwise_ne.2 (h.1.imp fun h => Nat.ne_of_lt h)
theorem Rise.mono {n m n' m' : Nat} {l : List Nat} (h : Rise n m l) (h1 : n' ≤ n) (h2 : m ≤ m') : Rise n' m' l := ⟨h.1, fun t ht => by have := h.2.1 t ht; omega, by have := h.2.2; omega⟩
theorem Rise.app {n m k : Nat} {a b : List Nat} (h : Rise n m a) (g : Rise m k b) : Rise n k (a ++ b) := by
 refine ⟨List.pairwise_append.2 ⟨h.1, g.1, fun x hx y hy => ?_⟩, fun t ht => ?_, ?_⟩
 ·have := h.2.1 x hx; have := g.2.1 y hy; omega
 ·have h2 := h.2.2; have g2 := g.2.2
  rcases List.mem_append.1 ht with h1 | h1
  ·have := h.2.1 t h1; omega
  ·have := g.2.1 t h1; omega
 ·rw [List.length_append]; have := h.2.2; have := g.2.2; omega
def GI (g : GS) : Prop := g.fol.length = g.sets.length + 1 ∧ g.sets.length ≤ 499
/-- What a part of an expression adds. -/
structure GSt1 (c : Nat) (g g' : GS) (p : Pt) : Prop where
 inv : GI g'
 pre : ∃ zs, g'.sets = g.sets ++ zs
 old : ∀ i, i ≤ g.sets.length → g'.fol[i]? = g.fol[i]?
 new : ∀ (i : Nat) l, g.sets.length < i → g'.fol[i]? = some l → l.length ≤ c * (g'.sets.length - g.sets.length) ∧ ∀ t ∈ l, g.sets.length < t ∧ t ≤ g'.sets.length
 fst : Rise g.sets.length g'.sets.length p.fst
 lst : Rise g.sets.length g'.sets.length p.lst
theorem GSt1.le {c : Nat} {g g' : GS} {p : Pt} (h : GSt1 c g g' p) : g.sets.length ≤ g'.sets.length := by obtain ⟨zs, h1⟩ := h.pre; rw [h1, List.length_append]; omega
theorem GSt1.refl (c : Nat) {g : GS} (h : GI g) (b : Bool) : GSt1 c g g ⟨b, [], []⟩ :=
 ⟨h, ⟨[], by simp⟩, fun _ _ => rfl, fun i l hi hl => by have := lt_of_get hl; have := h.1; omega, Rise.nil (Nat.le_refl _), Rise.nil (Nat.le_refl _)⟩
theorem GSt1.rows {c : Nat} {g g' : GS} {p : Pt} (h : GSt1 c g g' p) (hg : RowB 25000 g.fol) (hc : c ≤ 45) : RowB 25000 g'.fol := by
 intro i l hl
 rcases Nat.lt_or_ge g.sets.length i with h1 | h1
 ·have h2 := (h.new i l h1 hl).1
  have h3 : c * (g'.sets.length - g.sets.length) ≤ 45 * 499 := Nat.mul_le_mul hc (by have := h.inv.2; omega)
  omega
 ·rw [h.old i h1] at hl
  exact hg i l hl
/-- One part behind what there is. -/
theorem GSt1.cat {c C : Nat} {g0 g g1 : GS} {o p : Pt} (h : GSt1 c g0 g o) (k : GSt1 C g g1 p) (hc : C + 1 ≤ c) : GSt1 c g0 (catG g1 o p) (catP o p) := by
  have hl := h.le
  have kl := k.le
  have hnd := h.lst.nodup
  have hget := fun i => lnk_get o.lst g1.fol p.fst i hnd
  refine ⟨⟨by show (lnk g1.fol o.lst p.fst).length = _; rw [lnk_len]; exact k.inv.1, k.inv.2⟩, ?_, fun i hi => ?_, fun i l hi hl2 => ?_, ?_, ?_⟩
  · obtain ⟨z1, e1⟩ := h.pre
    obtain ⟨z2, e2⟩ := k.pre
    exact ⟨z1 ++ z2, by show g1.sets = _; rw [e2, e1, List.append_assoc]⟩
  · show (lnk g1.fol o.lst p.fst)[i]? = _
    rw [hget, k.old i (by omega), h.old i hi]
    cases g0.fol[i]? with
    | none => rfl
    | some l => simp only [Option.map_some]; rw [if_neg (fun hm => by have := (h.lst.2.1 i hm).1; omega)]
  · have hl3 : (lnk g1.fol o.lst p.fst)[i]? = some l := hl2
    rw [hget, Option.map_eq_some_iff] at hl3
    obtain ⟨l0, h0, rfl⟩ := hl3
    show _ ≤ c * (g1.sets.length - g0.sets.length) ∧ _
    have hp2 := k.fst.2.2
    have hb : l0.length + (if i ∈ o.lst then p.fst.length else 0) ≤ c * (g1.sets.length - g0.sets.length) ∧ ∀ t ∈ l0, g0.sets.length < t ∧ t ≤ g1.sets.length := by
      rcases Nat.lt_or_ge g.sets.length i with h1 | h1
      · have h2 := k.new i l0 h1 h0
        rw [if_neg (fun hm => by have := (h.lst.2.1 i hm).2; omega)]
        refine ⟨?_, fun t ht => by have := h2.2 t ht; omega⟩
        have : C * (g1.sets.length - g.sets.length) ≤ c * (g1.sets.length - g0.sets.length) := Nat.mul_le_mul (by omega) (by omega)
        omega
      · rw [k.old i h1] at h0
        have h2 := h.new i l0 hi h0
        refine ⟨?_, fun t ht => by have := h2.2 t ht; omega⟩
        have h5 : c * (g1.sets.length - g0.sets.length) = c * (g.sets.length - g0.sets.length) + c * (g1.sets.length - g.sets.length) := by rw [← Nat.mul_add]; congr 1; omega
        have h6 : 1 * (g1.sets.length - g.sets.length) ≤ c * (g1.sets.length - g.sets.length) := Nat.mul_le_mul_right _ (by omega)
        split <;> omega
    split
    · rename_i hm
      rw [if_pos hm] at hb
      refine ⟨by rw [List.length_append]; exact hb.1, fun t ht => ?_⟩
      rcases List.mem_append.1 ht with h1 | h1
      · exact hb.2 t h1
      · have := k.fst.2.1 t h1; exact ⟨by omega, this.2⟩
    · exact ⟨by omega, hb.2⟩
  · show Rise _ g1.sets.length (if o.nul then o.fst ++ p.fst else o.fst)
    split
    · exact h.fst.app k.fst
    · exact h.fst.mono (Nat.le_refl _) kl
  · show Rise _ g1.sets.length (if p.nul then o.lst ++ p.lst else p.lst)
    split
    · exact h.lst.app k.lst
    · exact k.lst.mono hl (Nat.le_refl _)
theorem GSt1.alt {c C : Nat} {g0 g g1 : GS} {o p : Pt} (h : GSt1 c g0 g o) (k : GSt1 C g g1 p) (hc : C ≤ c) : GSt1 c g0 g1 (altP o p) := by
 have hl := h.le
 have kl := k.le
 refine ⟨k.inv, ?_, fun i hi => (k.old i (by omega)).trans (h.old i hi), fun i l hi hl2 => ?_, h.fst.app k.fst, h.lst.app k.lst⟩
 ·obtain ⟨z1, e1⟩ := h.pre
  obtain ⟨z2, e2⟩ := k.pre
  exact ⟨z1 ++ z2, by rw [e2, e1, List.append_assoc]⟩
 ·rcases Nat.lt_or_ge g.sets.length i with h1 | h1
  ·have h2 := k.new i l h1 hl2
   refine ⟨?_, fun t ht => by have := h2.2 t ht; omega⟩
   have : C * (g1.sets.length - g.sets.length) ≤ c * (g1.sets.length - g0.sets.length) := Nat.mul_le_mul hc (by omega)
   omega
  ·rw [k.old i h1] at hl2
   have h2 := h.new i l hi hl2
   refine ⟨?_, fun t ht => by have := h2.2 t ht; omega⟩
   have : c * (g.sets.length - g0.sets.length) ≤ c * (g1.sets.length - g0.sets.length) := Nat.mul_le_mul (Nat.le_refl _) (by omega)
   omega
theorem GSt1.orP {c : Nat} {g g' : GS} {p : Pt} (h : GSt1 c g g' p) (b : Bool) : GSt1 c g g' (orP p b) := ⟨h.inv, h.pre, h.old, h.new, h.fst, h.lst⟩
theorem GSt1.wide {c c' : Nat} {g g' : GS} {p : Pt} (h : GSt1 c g g' p) (hc : c ≤ c') : GSt1 c' g g' p := ⟨h.inv, h.pre, h.old, fun i l hi hl => by have h2 := h.new i l hi hl; exact ⟨Nat.le_trans h2.1 (Nat.mul_le_mul_right _ hc), h2.2⟩, h.fst, h.lst⟩
theorem GSt1.star {c C : Nat} {g g1 : GS} {p : Pt} (k : GSt1 C g g1 p) (hc : C + 1 ≤ c) : GSt1 c g (catG g1 p p) ⟨true, p.fst, p.lst⟩ := by
  have kl := k.le
  have hnd := k.lst.nodup
  have hget := fun i => lnk_get p.lst g1.fol p.fst i hnd
  refine ⟨⟨by show (lnk g1.fol p.lst p.fst).length = _; rw [lnk_len]; exact k.inv.1, k.inv.2⟩, k.pre, fun i hi => ?_, fun i l hi hl2 => ?_, k.fst, k.lst⟩
  · show (lnk g1.fol p.lst p.fst)[i]? = _
    rw [hget, k.old i hi]
    cases g.fol[i]? with
    | none => rfl
    | some l => simp only [Option.map_some]; rw [if_neg (fun hm => by have := (k.lst.2.1 i hm).1; omega)]
  · have hl3 : (lnk g1.fol p.lst p.fst)[i]? = some l := hl2
    rw [hget, Option.map_eq_some_iff] at hl3
    obtain ⟨l0, h0, rfl⟩ := hl3
    show _ ≤ c * (g1.sets.length - g.sets.length) ∧ _
    have h2 := k.new i l0 hi h0
    have hp2 := k.fst.2.2
    have h5 : (C + 1) * (g1.sets.length - g.sets.length) ≤ c * (g1.sets.length - g.sets.length) := Nat.mul_le_mul_right _ hc
    rw [Nat.add_mul, Nat.one_mul] at h5
    split
    · refine ⟨by rw [List.length_append]; omega, fun t ht => ?_⟩
      rcases List.mem_append.1 ht with h1 | h1
      · exact h2.2 t h1
      · exact k.fst.2.1 t h1
    · exact ⟨by omega, h2.2⟩
def GOk (c : Nat) (f : GF) : Prop := ∀ g g' p, GI g → f g = some (g', p) → GSt1 c g g' p
theorem catGs_ok {c C : Nat} (hc : C + 1 ≤ c) {g0 : GS} : ∀ (fs : List GF), (∀ f ∈ fs, GOk C f) → ∀ (g g' : GS) (o p : Pt), GSt1 c g0 g o → catGs fs g o = some (g', p) → GSt1 c g0 g' p
  | [], _, g, g', o, p, h, e => by
    simp only [catGs, Option.some.injEq, Prod.mk.injEq] at e
    obtain ⟨rfl, rfl⟩ := e; exact h
  | f :: fs, hf, g, g', o, p, h, e => by
    rw [catGs] at e
    obtain ⟨⟨g1, p1⟩, e1, e2⟩ := Option.bind_eq_some_iff.1 e
    exact catGs_ok hc fs (fun f' h' => hf f' (List.mem_cons_of_mem _ h')) _ _ _ _ (h.cat (hf f List.mem_cons_self _ _ _ h.inv e1) hc) e2
theorem altGs_ok {c C : Nat} (hc : C ≤ c) {g0 : GS} : ∀ (fs : List GF), (∀ f ∈ fs, GOk C f) → ∀ (g g' : GS) (o p : Pt), GSt1 c g0 g o → altGs fs g o = some (g', p) → GSt1 c g0 g' p
  | [], _, g, g', o, p, h, e => by
    simp only [altGs, Option.some.injEq, Prod.mk.injEq] at e
    obtain ⟨rfl, rfl⟩ := e; exact h
  | f :: fs, hf, g, g', o, p, h, e => by
    rw [altGs] at e
    obtain ⟨⟨g1, p1⟩, e1, e2⟩ := Option.bind_eq_some_iff.1 e
    exact altGs_ok hc fs (fun f' h' => hf f' (List.mem_cons_of_mem _ h')) _ _ _ _ (h.alt (hf f List.mem_cons_self _ _ _ h.inv e1) hc) e2
theorem repGs_ok {c C : Nat} (hc : C + 1 ≤ c) {f : GF} (hf : GOk C f) {mn : Int} {g : GS} (hg : GI g) : ∀ (k : Nat) (g' : GS) (p : Pt), repGs f mn g k = some (g', p) → GSt1 c g g' p
  | 0, g', p, e => by
    simp only [repGs, Option.some.injEq, Prod.mk.injEq] at e
    obtain ⟨rfl, rfl⟩ := e; exact GSt1.refl c hg true
  | k + 1, g', p, e => by
    rw [repGs] at e
    obtain ⟨⟨g1, o⟩, e1, e2⟩ := Option.bind_eq_some_iff.1 e
    obtain ⟨⟨g2, q⟩, e3, e4⟩ := Option.bind_eq_some_iff.1 e2
    simp only [Option.some.injEq, Prod.mk.injEq] at e4
    obtain ⟨rfl, rfl⟩ := e4
    have h1 := repGs_ok hc hf hg k g1 o e1
    exact h1.cat ((hf _ _ _ h1.inv e3).orP _) hc
theorem setG_ok (z : List Sp) : GOk 1 (setG z) := by
 intro g g' p hg e
 unfold setG at e
 split at e
 ·cases e
 ·rename_i hn
  simp only [Option.some.injEq, Prod.mk.injEq] at e
  obtain ⟨rfl, rfl⟩ := e
  have hr : Rise g.sets.length (g.sets ++ [z]).length [g.sets.length + 1] := ⟨List.pairwise_singleton _ _, fun t ht => by rw [List.mem_singleton.1 ht]; simp, by simp; omega⟩
  refine ⟨⟨by show (g.fol ++ [[]]).length = (g.sets ++ [z]).length + 1; simp [hg.1], by show (g.sets ++ [z]).length ≤ 499; simp; omega⟩, ⟨[z], rfl⟩, fun i hi => ?_, fun i l hi hl => ?_, hr, hr⟩
  ·show (g.fol ++ [[]])[i]? = _
   rw [List.getElem?_append_left (by have := hg.1; omega)]
  ·have h1 : (g.fol ++ [[]])[i]? = some l := hl
   rw [List.getElem?_append_right (by have := hg.1; omega)] at h1
   have := List.mem_of_getElem? h1
   rw [List.mem_singleton.1 this]
   exact ⟨Nat.zero_le _, fun t ht => (by cases ht)⟩
theorem gnode_ok {k : Int} {z : List Sp} {mn mx : Int} {fs : List GF} {C : Nat} (hf : ∀ f ∈ fs, GOk C f) : GOk (C + 1) (gnode k z mn mx fs) := by
  intro g g' p hg e
  unfold gnode at e
  split at e
  · simp only [Option.some.injEq, Prod.mk.injEq] at e
    obtain ⟨rfl, rfl⟩ := e; exact GSt1.refl _ hg true
  split at e
  · exact (setG_ok z g g' p hg e).wide (by omega)
  split at e
  · exact catGs_ok (Nat.le_refl _) fs hf _ _ _ _ (GSt1.refl _ hg true) e
  split at e
  · exact altGs_ok (Nat.le_succ _) fs hf _ _ _ _ (GSt1.refl _ hg false) e
  split at e
  · cases fs with
    | nil => cases e
    | cons f fs =>
      simp only at e
      obtain ⟨⟨g1, p1⟩, e1, e2⟩ := Option.bind_eq_some_iff.1 e
      simp only [Option.some.injEq, Prod.mk.injEq] at e2
      obtain ⟨rfl, rfl⟩ := e2
      exact (hf f List.mem_cons_self _ _ _ hg e1).star (Nat.le_refl _)
  split at e
  · cases fs with
    | nil => cases e
    | cons f fs => exact repGs_ok (Nat.le_refl _) (hf f List.mem_cons_self) hg _ _ _ e
  split at e
  · cases fs with
    | nil => cases e
    | cons f fs => exact (hf f List.mem_cons_self _ _ _ hg e).wide (Nat.le_succ _)
  · simp only [Option.some.injEq, Prod.mk.injEq] at e
    obtain ⟨rfl, rfl⟩ := e; exact GSt1.refl _ hg false
theorem GOk.wide {c c' : Nat} {f : GF} (h : GOk c f) (hc : c ≤ c') : GOk c' f := fun g g' p hg e => (h g g' p hg e).wide hc
mutual
theorem gkO_ok : ∀ t : Re, GOk t.size (gkO t)
  | .mk k z a mn mx b => by
    rw [gkO, Re.size_eq]
    exact gnode_ok (gkL_ok a)
theorem gkL_ok : ∀ l : List Re, ∀ f ∈ gkL l, GOk (Re.sizes l) f
  | [], f, hf => by cases hf
  | x :: l, f, hf => by
    rw [gkL] at hf
    have e : Re.sizes (x :: l) = x.size + Re.sizes l := rfl
    rcases List.mem_cons.1 hf with rfl | h1
    · exact (gkO_ok x).wide (by omega)
    · exact (gkL_ok l f h1).wide (by omega)
end
end Go.Proofs
