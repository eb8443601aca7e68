/- Contracts: the sort of a list of spans, by the shelf. -/
import Derived.Test.YtpjamnekclkhhaaSf
import Derived.Test.YtpjamnekclkhhaaShf
namespace Go.Proofs
open Go Go.Eng Go.Sort
set_option maxRecDepth 100000

structure VSp where
  s : Sp
  ok : vSp s
instance : Inhabited VSp := ⟨⟨(0, 0), by unfold vSp; simp⟩⟩
def encV (s : VSp) : List Value := spanV s.s
theorem sortW_chg {α : Type} [Inhabited α] (enc : α → List Value) (k : Nat) (w : World) (g off m : Nat) (dk : Array α) (os : Array Obj) : Chg (fun x => x = g) w (sortWorldK enc k w g off m dk os) := by
  refine ⟨rfl, rfl, rfl, Nat.le_add_right _ _, ?_, fun b hb hne => ?_⟩
  · simp [sortWorldK, grow, putRowK, putRow, mapBlock, ahead]
  · simp only [sortWorldK, grow, putRowK, putRow, mapBlock, ahead]
    rw [Array.getElem?_append_left (by simpa using hb), Array.getElem?_modify, if_neg (fun h => hne h.symm)]; rfl
theorem own_holds {w : World} {base g n c : Nat} {d : List VSp} (h : w.ownsRow base TSp 2 (.slice (some ⟨g, 0, none⟩) n c) n ((d.map VSp.s).map spanV).flatten) (hn : d.length = n) : HoldsK encV 2 w g 0 d.toArray := by
  have hat : SpansAt w (.slice (some ⟨g, 0, none⟩) n c) (d.map VSp.s) := own_slat h (by intro x hx; simp only [List.mem_map] at hx; obtain ⟨p, _, rfl⟩ := hx; rfl) (by simpa using hn) (by decide)
  intro j hj
  rw [size_flatK] at hj
  simp only [List.size_toArray] at hj
  have hj2 : j / 2 < d.length := by omega
  obtain ⟨b, o, hab, hcl⟩ := spans_cells hat (by omega)
  simp only [Option.some.injEq, Addr.mk.injEq, and_true] at hab
  obtain ⟨rfl, rfl⟩ := hab
  have hx : (d.map VSp.s)[j / 2]? = some d[j / 2].s := by rw [List.getElem?_map, List.getElem?_eq_getElem hj2]; rfl
  have hc := hcl (j / 2) _ hx
  rw [get_flatK _ _ _ _ (by simpa using hj)]
  have he : d.toArray[j / 2]! = d[j / 2] := by rw [getElem!_pos d.toArray (j / 2) (by simpa using hj2)]; simp
  rw [he]
  constructor
  · rcases Nat.mod_two_eq_zero_or_one j with h2 | h2
    · have := hc.at0
      rw [h2]
      rw [show 0 + j / 2 * 2 = 0 + j from by omega] at this
      simpa [encV, spanV] using this
    · have := hc.at1
      rw [h2]
      rw [show 0 + j / 2 * 2 + 1 = 0 + j from by omega] at this
      simpa [encV, spanV] using this
  · rcases h.2 with ⟨h1, _⟩ | ⟨g', cap, cur, hv, _, hg, _⟩
    · simp at h1
    · simp only [Value.slice.injEq, Option.some.injEq, Addr.mk.injEq, and_true] at hv
      obtain ⟨rfl, _⟩ := hv
      simp [World.frozen?, hg]
theorem holds_spans {w : World} {g n c : Nat} {d : Array VSp} (h : HoldsK encV 2 w g 0 d) (hn : d.size = n) (hc : n ≤ c) (hl : n ≤ 8796093022208) : SpansAt w (.slice (some ⟨g, 0, none⟩) n c) (d.toList.map VSp.s) := by
  refine ⟨_, c, by simp [hn], by simp; omega, by simp; omega, .inr ⟨g, 0, rfl, fun i r hr j u hu => ?_⟩⟩
  simp only [List.getElem?_map, Option.map_eq_some_iff] at hr
  obtain ⟨s, ⟨x, hx, rfl⟩, rfl⟩ := hr
  have hi : i < d.size := by have := lt_of_get hx; simpa using this
  have hj : j < 2 := by have := lt_of_get hu; simpa [spanV] using this
  have h1 := (HoldsK.cell h hi hj).1
  have he : d[i]! = x := by
    rw [getElem!_pos d i hi]
    rw [Array.getElem?_toList, Array.getElem?_eq_getElem hi] at hx
    simpa using hx
  rw [h1, he]
  match j, hj, hu with
  | 0, _, hu => simpa [encV, spanV] using hu
  | 1, _, hu => simpa [encV, spanV] using hu
theorem enters_callee {P : Program} {f : FuncId} {fn : Func} (hf : P.funcs[f]? = some fn) (hn : (fn.name == "runtime.NumGoroutine") = false) (hb : fn.body.isNone = false) : ∀ args w, (callFunc f args).run P w = .ok (.enter f args) w := fun args w => run_callF (vs := args) (w := w) hf hn hb
theorem bitsLen_c (w0 : World) : Ret Try.prog 95 #[.int .u64 0] w0 fun v w => v = .int .i64 (Lib.bitLen 0 : Nat) ∧ Ext w0 w :=
  (Any.bits_Len (SlLaysF0.n15.bits (P := Try.prog) (ρ := Try.sortSp_ren) { Try.sortSp with }) 0 w0 (by omega) (by omega)).mono fun _ _ ⟨he, hw⟩ => ⟨_, he, rfl, by rw [hw]; exact Ext.refl _⟩
theorem ins0_c (w0 : World) (a : Option Addr) (c : Nat) (fv : Value) : Ret Try.prog 107 #[.slice a 0 c, .int .i64 0, .int .i64 0, fv] w0 fun v w => v = .tuple #[] ∧ Ext w0 w := by
  refine Ret_of Try.func107 rfl Try.ntmps107 (Nat.le_of_ble_eq_true rfl) ?_
  have E : Chg none1 w0 w0 := Chg.refl _ _
  refine Wp_seq_region ?_
  refine WpL_val rfl rfl (by decide) (r_move (v := (.int .i64 0)) rfl) ?_
  refine WpL_val rfl rfl (by decide) (r_add (k := .i64) (a := 0) (b := 1) (c := 1) rfl rfl (by decide)) ?_
  refine WpL_val rfl rfl (by decide) (r_assign (v := (.int .i64 1)) rfl) ?_
  refine WpL_nil ?_
  refine Wp_block ?_
  refine Wp_loop (fun nn_ σ W1 => (∃ jj_, σ = upds jj_ [(0, (.slice a 0 c)), (1, (.int .i64 0)), (2, (.int .i64 0)), (3, fv), (8, (.int .i64 1))]) ∧ Chg none1 w0 W1 ∧ nn_ = (0 : Nat)) (n := (0 : Nat)) ?_ ?_
  · exact ⟨Fits.out ⟨rfl, rfl, rfl, rfl, rfl, trivial⟩, E, rfl⟩
  · clear E
    rintro _ _ W1 ⟨⟨j1, rfl⟩, E, rfl⟩
    refine Wp_seq ?_
    refine Wp_seq_region ?_
    refine WpL_val rfl rfl (by decide) (r_move (v := (.int .i64 1)) rfl) ?_
    refine WpL_val rfl rfl (by decide) (r_move (v := (.int .i64 0)) rfl) ?_
    refine WpL_val rfl rfl (by decide) (r_lss (k := .i64) (a := 1) (b := 0) rfl rfl) ?_
    refine WpL_nil ?_
    refine Wp_cond_false rfl ?_
    refine Wp_exit ?_
    refine thn_exit ?_
    refine thn_exit ?_
    refine inB_here ?_
    refine fin_none Try.results107 ?_
    exact ⟨rfl, E⟩
theorem pdq0_c (w0 : World) (a : Option Addr) (c : Nat) (n : Int) (fv : Value) : Ret Try.prog 94 #[.slice a 0 c, .int .i64 0, .int .i64 0, .int .i64 n, fv] w0 fun v w => v = .tuple #[] ∧ Ext w0 w := by
  refine Ret_of Try.func94 rfl Try.ntmps94 (Nat.le_of_ble_eq_true rfl) ?_
  have E : Chg none1 w0 w0 := Chg.refl _ _
  refine Wp_seq_region ?_
  refine WpL_val rfl rfl (by decide) (r_assign (v := (.bool true)) rfl) ?_
  refine WpL_nil ?_
  refine Wp_seq_region ?_
  refine WpL_val rfl rfl (by decide) (r_assign (v := (.bool true)) rfl) ?_
  refine WpL_nil ?_
  refine Wp_block ?_
  refine Wp_loop (fun nn_ σ W1 => (∃ jj_, σ = upds jj_ [(0, (.slice a 0 c)), (1, (.int .i64 0)), (2, (.int .i64 0)), (4, fv)]) ∧ Chg none1 w0 W1 ∧ nn_ = (0 : Nat)) (n := (0 : Nat)) ?_ ?_
  · exact ⟨Fits.out ⟨rfl, rfl, rfl, rfl, trivial⟩, E, rfl⟩
  · clear E
    rintro _ _ W1 ⟨⟨j1, rfl⟩, E, rfl⟩
    refine Wp_block ?_
    refine Wp_seq_region ?_
    refine WpL_val rfl rfl (by decide) (r_move (v := (.int .i64 0)) rfl) ?_
    refine WpL_val rfl rfl (by decide) (r_move (v := (.int .i64 0)) rfl) ?_
    refine WpL_val rfl rfl (by decide) (r_sub (k := .i64) (a := 0) (b := 0) (c := 0) rfl rfl (by decide)) ?_
    refine WpL_val rfl rfl (by decide) (r_assign (v := (.int .i64 0)) rfl) ?_
    refine WpL_nil ?_
    refine Wp_seq ?_
    refine Wp_seq_region ?_
    refine WpL_val rfl rfl (by decide) (r_move (v := (.int .i64 0)) rfl) ?_
    refine WpL_val rfl rfl (by decide) (r_leq (k := .i64) (a := 0) (b := 12) rfl rfl) ?_
    refine WpL_nil ?_
    refine Wp_cond_true rfl ?_
    refine Wp_seq_region ?_
    refine WpL_val rfl rfl (by decide) (r_move (v := (.slice a 0 c)) rfl) ?_
    refine WpL_val rfl rfl (by decide) (r_move (v := (.int .i64 0)) rfl) ?_
    refine WpL_val rfl rfl (by decide) (r_move (v := (.int .i64 0)) rfl) ?_
    refine WpL_val rfl rfl (by decide) (r_move (v := fv) rfl) ?_
    refine WpL_enter rfl rfl (by decide) (r_callF (vs := [(.slice a 0 c), (.int .i64 0), (.int .i64 0), fv]) Try.func107 nm107 bd107 rfl) (ins0_c _ a c fv) ?_
    rintro _ w9 ⟨rfl, X9⟩
    replace E := E.ext X9
    refine WpL_nil ?_
    refine Wp_ret ?_
    refine thn_ret ?_
    refine inB_ret ?_
    refine thn_ret ?_
    refine inB_ret ?_
    refine fin_noneR Try.results94 ?_
    exact ⟨rfl, E⟩
theorem sort0_c (w0 : World) (a : Option Addr) (c : Nat) (fv : Value) : Ret Try.prog 55 #[.slice a 0 c, fv] w0 fun v w => v = .tuple #[] ∧ Ext w0 w := by
  refine Ret_of Try.func55 rfl Try.ntmps55 (Nat.le_of_ble_eq_true rfl) ?_
  have E : Chg none1 w0 w0 := Chg.refl _ _
  refine Wp_seq_region ?_
  refine WpL_val rfl rfl (by decide) (r_move (v := (.slice a 0 c)) rfl) ?_
  refine WpL_val rfl rfl (by decide) (r_lenSlice (ad := a) (n := 0) (cap := c) Try.underlying23 rfl) ?_
  refine WpL_val rfl rfl (by decide) (r_assign (v := (.int .i64 0)) rfl) ?_
  refine WpL_nil ?_
  refine Wp_region ?_
  refine WpL_val rfl rfl (by decide) (r_move (v := (.slice a 0 c)) rfl) ?_
  refine WpL_val rfl rfl (by decide) (r_move (v := (.int .i64 0)) rfl) ?_
  refine WpL_val rfl rfl (by decide) (r_move (v := (.int .i64 0)) rfl) ?_
  refine WpL_val rfl rfl (by decide) (r_convInt (k := .i64) (k' := .u64) (n := 0) (c := 0) ⟨_, Try.underlying3⟩ Try.underlying105 rfl (wU64 (by omega))) ?_
  refine WpL_enter rfl rfl (by decide) (r_callF (vs := [(.int .u64 0)]) Try.func95 nm95 bd95 rfl) (bitsLen_c _) ?_
  rintro _ w8 ⟨rfl, X8⟩
  replace E := E.ext X8
  refine WpL_val rfl rfl (by decide) (r_move (v := fv) rfl) ?_
  refine WpL_enter rfl rfl (by decide) (r_callF (vs := [(.slice a 0 c), (.int .i64 0), (.int .i64 0), (.int .i64 (Lib.bitLen 0 : Nat)), fv]) Try.func94 nm94 bd94 rfl) (pdq0_c _ a c _ fv) ?_
  rintro _ w9 ⟨rfl, X9⟩
  replace E := E.ext X9
  refine WpL_nil ?_
  refine fin_none Try.results55 ?_
  exact ⟨rfl, E⟩
theorem sorts_c (cf : VSp → VSp → Int) (hO : SWO (ltOf cf)) {f : FuncId} {fn : Func} (hf : (Try.prog).funcs[f]? = some fn) (hn : (fn.name == "runtime.NumGoroutine") = false) (hb : fn.body.isNone = false)
    (hcmp : ∀ (W : World) (x y : VSp), Ret Try.prog f #[.agg #[.int .i64 x.s.1, .int .i64 x.s.2], .agg #[.int .i64 y.s.1, .int .i64 y.s.2]] W fun v w => v = .int .i64 (cf x y) ∧ Ext W w)
    (w0 : World) (base : Nat) (v : Value) (l : List Sp) (h : OwnS w0 base v l) (hl : l.length ≤ 8796093022208) (hok : ∀ s ∈ l, vSp s) :
    Ret Try.prog 55 #[v, .func (.func f) #[] #[]] w0 fun r w => r = .tuple #[] ∧ (∃ l' : List VSp, (l'.map VSp.s).Perm l ∧ l'.Pairwise (fun s t => ¬ cf t s < 0) ∧ SpansAt w v (l'.map VSp.s)) ∧ Chg (fun x => v.ownBlock = some x) w0 w := by
  have eg := enters_callee hf hn hb
  obtain ⟨d, rfl⟩ : ∃ d : List VSp, d.map VSp.s = l := ⟨l.pmap VSp.mk hok, by rw [List.map_pmap]; simp⟩
  have ht : ∀ w, (isAgg (Try.sortSp_ren.t 24)).run Try.prog w = .ok true w := fun w => aggB.run agg37 w
  have hs : ∀ w, (Go.sizeOf (Try.sortSp_ren.t 24)).run Try.prog w = .ok 2 w := fun w => siz37.run w
  rcases h.2.2 with ⟨rfl, h0⟩ | ⟨g, cap, cur, rfl, hbg, hg, hnc, hcm, hcs, htake⟩
  · have hd : d = [] := List.eq_nil_of_length_eq_zero (by simpa using h0)
    subst hd
    exact (sort0_c w0 none 0 (.func (.func f) #[] #[])).mono fun v w' ⟨hv, hw⟩ => ⟨hv, ⟨[], List.Perm.refl _, List.Pairwise.nil, SlAt.nil _ _ _ _⟩, Ext.chg hw⟩
  · simp only [List.length_map] at *
    have hH := own_holds (d := d) (n := d.length) (by have := h.2; rwa [List.length_map] at this) rfl
    have hblk : g < w0.heap.size := (Array.getElem?_eq_some_iff.1 hg).1
    have hc : CmpLays Try.prog f #[] encV 2 cf g 0 d.toArray.size w0 := fun m os dk _ x y => by
      refine Calls.mono (hcmp _ x y) ?_
      rintro e w' ⟨v, rfl, rfl, hx⟩
      obtain ⟨q, os', hw⟩ := Ext.grown hx
      exact ⟨rfl, q, os', hw⟩
    have hcon := AnyQ.slices_SortFunc Try.sortSp 2 ht hs encV (fun _ => rfl) (fun x u hu => by simp [encV, spanV] at hu; rcases hu with rfl | rfl <;> rfl) cf hO f #[] g 0 cap d.toArray w0 eg hc hH hblk (by simp; omega)
    refine Calls.mono hcon ?_
    rintro e w' ⟨rfl, d', n, os, hp, hso, rfl⟩
    have hsz : d'.size = d.length := by have := hp.1; simpa using this
    have hperm : d'.toList.Perm d := by
      have h3 := hp.2.2
      simp only [List.size_toArray] at h3
      rw [show d.length = d'.size from hsz.symm, Array.extract_size] at h3
      rw [hsz] at h3
      simpa using h3
    refine ⟨_, rfl, rfl, ⟨d'.toList, hperm.map _, ?_, ?_⟩, (sortW_chg encV 2 w0 g 0 n d' os).mono fun x _ hx => by subst hx; rfl⟩
    · rw [List.pairwise_iff_getElem]
      intro i j hi hj hij
      have h4 := hso i j (Nat.zero_le _) hij (by simp at hj ⊢; omega)
      simp only [Array.length_toList] at hi hj
      rw [getElem!_pos d' i hi, getElem!_pos d' j hj] at h4
      simpa [ltOf] using h4
    · exact holds_spans (holdsK_sortWorldK_c encV 2 w0 g 0 d.toArray d' n os hH hblk (by simpa using hsz)) hsz hnc hl
end Go.Proofs
