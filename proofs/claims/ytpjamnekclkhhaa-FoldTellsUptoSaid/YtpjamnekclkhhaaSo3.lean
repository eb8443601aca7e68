/- Contracts: the reference's closure, and package fold's comparison of texts. -/
import Derived.Test.YtpjamnekclkhhaaSo2
namespace Go.Proofs
open Go Go.Eng Go.Sort
set_option maxRecDepth 100000

theorem r_indexVi {P : Program} {σ : Env} {w : World} {dst : Option Tmp} {ty : TypeId} {pos : String} {af : Array Edge} {g : Option (Nat × Bool)} {x y : Operand} {t e len i : Nat} {cs : Array Value} {v : Value} {k : IntKind} {a : Int} (hu : P.underlying t = some (.array len e)) (hs : Siz P e 1) (hg : flatB P e = true) (hx : ev σ x = .agg cs) (hy : ev σ y = .int k a) (ha : a = ((i : Nat) : Int)) (hi : i < len) (hv : cs[i]? = some v) :
    (execOp (ev σ) ⟨dst, .index t x y, ty, pos, af, g⟩).run P w = .ok (.value v) w := by
  subst ha
  simp [execOp, hx, hy, Instr.index, asIntOf, run_underlying hu, hs.run, hi, part, flatB.run hg, hv]
def pj (p : Sp) (j : Nat) : Int := if j = 0 then p.1 else p.2
def one9 (a : List Sp) (q : Int) : List Sp := if inS a q then pts (orbitL q) else []
def rcloN (a : List Sp) (p : Sp) (j : Nat) : List Sp := (List.range j).flatMap fun i => one9 a (pj p i)
def rcloP (a : List Sp) (p : Sp) : List Sp := rcloN a p 2
def rclo (a : List Sp) : List Sp := fpL.flatMap (rcloP a)
theorem rcloN_succ (a : List Sp) (p : Sp) (j : Nat) : rcloN a p (j + 1) = rcloN a p j ++ one9 a (pj p j) := by
  unfold rcloN; rw [List.range_succ, List.flatMap_append]; simp
theorem one9_len (a : List Sp) (q : Int) : (one9 a q).length ≤ 3 := by
  unfold one9
  split
  · simp only [pts, List.length_map]; exact orb_len q
  · simp
theorem rcloN_len (a : List Sp) (p : Sp) : ∀ j, (rcloN a p j).length ≤ 3 * j
  | 0 => by simp [rcloN]
  | j + 1 => by
    have h1 := rcloN_len a p j
    have h2 := one9_len a (pj p j)
    rw [rcloN_succ, List.length_append]; omega
theorem flat_len (a : List Sp) (l : List Sp) : (l.flatMap (rcloP a)).length ≤ 6 * l.length := by
  induction l with
  | nil => simp
  | cons p r ih =>
    have h1 := rcloN_len a p 2
    unfold rcloP at ih ⊢
    rw [List.flatMap_cons, List.length_append, List.length_cons]; omega
theorem mem_rclo {a : List Sp} {s : Sp} : s ∈ rclo a ↔ ∃ q, (∃ p ∈ fpL, q = p.1 ∨ q = p.2) ∧ inS a q = true ∧ s.1 ∈ orbitL q ∧ s.2 = s.1 := by
  unfold rclo
  rw [List.mem_flatMap]
  have h9 : ∀ q, s ∈ one9 a q ↔ inS a q = true ∧ s.1 ∈ orbitL q ∧ s.2 = s.1 := fun q => by
    unfold one9
    split
    · rename_i h; rw [mem_pts]; simp [h]
    · rename_i h; simp [h]
  have h8 : ∀ p, s ∈ rcloP a p ↔ s ∈ one9 a p.1 ∨ s ∈ one9 a p.2 := fun p => by
    unfold rcloP
    rw [rcloN_succ, rcloN_succ]
    simp [rcloN, pj]
  constructor
  · rintro ⟨p, hp, h⟩
    rcases (h8 p).1 h with h | h
    · exact ⟨p.1, ⟨p, hp, .inl rfl⟩, (h9 _).1 h⟩
    · exact ⟨p.2, ⟨p, hp, .inr rfl⟩, (h9 _).1 h⟩
  · rintro ⟨q, ⟨p, hp, rfl | rfl⟩, h⟩
    · exact ⟨p, hp, (h8 p).2 (.inl ((h9 _).2 h))⟩
    · exact ⟨p, hp, (h8 p).2 (.inr ((h9 _).2 h))⟩
theorem rclose_mem {a : List Sp} (ca : Canon a) {r : Int} : inS (a ++ rclo a) r = inS (closeAll a) r := by
  rw [Bool.eq_iff_iff, inS_close, inS_append, Bool.or_eq_true]
  constructor
  · rintro (h | h)
    · exact .inl h
    · obtain ⟨s, hs, h1, h2⟩ := inS_iff.1 h
      obtain ⟨q, ⟨p, hp, hq⟩, h3, h4, h5⟩ := mem_rclo.1 hs
      have hr : s.1 = r := by omega
      have hb := fp_lt hp
      have hq2 : 0 ≤ q ∧ q < 1000 := by rcases hq with rfl | rfl <;> omega
      obtain ⟨n, rfl⟩ := Int.eq_ofNat_of_zero_le hq2.1
      exact .inr ⟨n, by omega, h3, hr ▸ h4⟩
  · rintro (h | ⟨n, hn, h1, h2⟩)
    · exact .inl h
    · by_cases hp : ∀ p ∈ fpL, ((n : Nat) : Int) ≠ p.1 ∧ ((n : Nat) : Int) ≠ p.2
      · rw [orb_pair hp, List.mem_singleton] at h2
        left; rw [h2]; exact h1
      · right
        have : ∃ p ∈ fpL, ((n : Nat) : Int) = p.1 ∨ ((n : Nat) : Int) = p.2 := by
          apply Classical.byContradiction
          intro hn
          exact hp fun p hq => ⟨fun e => hn ⟨p, hq, .inl e⟩, fun e => hn ⟨p, hq, .inr e⟩⟩
        exact inS_iff.2 ⟨(r, r), mem_rclo.2 ⟨_, this, h1, h2, rfl⟩, Int.le_refl _, Int.le_refl _⟩
theorem rclose_ok {a : List Sp} (ca : Canon a) : ∀ s ∈ a ++ rclo a, vSp s := by
  intro s hs
  rcases List.mem_append.1 hs with hs | hs
  · exact ca.ok s hs
  · obtain ⟨q, ⟨p, hp, hq⟩, h3, h4, h5⟩ := mem_rclo.1 hs
    have hb := fp_lt hp
    have hq2 : 0 ≤ q ∧ q < 1000 := by rcases hq with rfl | rfl <;> omega
    have h6 := orb_same hq2.1 h4
    have := h6.2.2.1 hq2.2
    unfold vSp; omega
set_option maxHeartbeats 8000000 in
theorem rclose_c (w0 : World) (u : Value) (a : List Sp) (ha : SpansAt w0 u a) : Ret Try.prog 29 #[u] w0 fun r w => (∃ out e, closeP a out e ∧ SetRes w r out e) ∧ Ext w0 w := by
  obtain ⟨aa, ac, rfl⟩ := SlAt.form ha
  simp only [List.length_map] at ha ⊢
  have hfp := fp_len
  obtain ⟨fp, hfpe⟩ : ∃ fp, fp = fpL := ⟨_, rfl⟩
  rw [← hfpe] at hfp
  obtain ⟨base, hbase⟩ : ∃ base, base = w0.heap.size := ⟨_, rfl⟩
  refine Ret_of Try.func29 rfl Try.ntmps29 (Nat.le_of_ble_eq_true rfl) ?_
  have E : Chg none1 w0 w0 := Chg.refl _ _
  refine Wp_seq_region ?_
  refine WpL_val rfl rfl (by decide) (r_assign (v := (.slice none 0 0)) rfl) ?_
  refine WpL_val rfl rfl (by decide) (r_assign (v := (.int .i64 0)) rfl) ?_
  refine WpL_nil ?_
  refine Wp_seq ?_
  refine Wp_seq_region ?_
  refine WpL_val rfl rfl (by decide) (r_move (v := (.slice aa a.length ac)) rfl) ?_
  refine WpL_enter rfl rfl (by decide) (r_callF (vs := [(.slice aa a.length ac)]) Try.func34 nm34 bd34 rfl) (cset_c _ _ a ha) ?_
  rintro _ w9 ⟨rfl, X9⟩
  replace E := E.ext X9
  refine WpL_val rfl rfl (by decide) (r_assign (v := (.int .i64 (checkE a))) rfl) ?_
  refine WpL_nil ?_
  refine Wp_seq_region ?_
  refine WpL_val rfl rfl (by decide) (r_move (v := (.int .i64 (checkE a))) rfl) ?_
  refine WpL_val rfl rfl (by decide) (r_neq (k := .i64) (a := checkE a) (b := 0) rfl rfl) ?_
  refine WpL_nil ?_
  refine Wp_cond (b := decide ((checkE a : Int) ≠ 0)) rfl (fun hc0 => ?_) (fun hc0 => ?_)
  · have khc0 := hc0
    replace hc0 := of_decide_eq_true hc0
    refine Wp_seq_region ?_
    refine WpL_val rfl rfl (by decide) (r_move (v := (.int .i64 (checkE a))) rfl) ?_
    refine WpL_val rfl rfl (by decide) (r_assign (v := (.slice none 0 0)) rfl) ?_
    refine WpL_val rfl rfl (by decide) (r_assign (v := (.int .i64 (checkE a))) rfl) ?_
    refine WpL_nil ?_
    refine Wp_ret ?_
    refine thn_ret ?_
    refine fin_tmp2 Try.results29 (v := (.slice none 0 0)) (v' := (.int .i64 (checkE a))) rfl rfl ?_
    exact ⟨⟨[], _, .inl ⟨hc0, rfl, rfl⟩, none, 0, rfl, SlAt.nil _ _ _ _⟩, E⟩
  · have khc0 := hc0
    replace hc0 := of_decide_eq_false hc0
    have hc1 : checkE a = 0 := by omega
    obtain ⟨ca, la⟩ := checkE_canon hc1
    have hs0 := E.size
    refine Wp_skip ?_
    refine thn_normal ?_
    refine Wp_seq_region ?_
    refine s_build0 (by decide) Try.underlying23 siz37 ?_
    intro bq wq Nq
    have Fq := Nq.ge E
    replace E := E.ext Nq.ext
    have Bq := Nq.blk
    refine WpL_val rfl rfl (by decide) (r_move (v := (.slice aa a.length ac)) rfl) ?_
    have hown0 := own_empty (base := base) (size := 2) Bq (by omega)
    refine s_appendAny (base := base) (n := 0) (m := a.length) (xs := []) (news := (a.map spanV).flatten) (size := 2) (bytes := 16) (v := (.slice (some ⟨bq, 0, none⟩) 0 0)) (by decide) Try.underlying23 siz37 byt37 zer37 rfl (by decide) rfl hown0 rfl (spans_six a) (spans_any (ha.ext E)) (spans_one a) (by unfold maxLen; omega) (by omega) (by have := Nq.ext.size; omega) ?_
    intro v8 w8 Ov8 Cv8 Dv8
    replace E := E.step Cv8 (fun x hx h => absurd (hown0.lt x h).1 (by omega))
    obtain ⟨xa, xc, rfl⟩ := own_form Ov8
    have hO : w8.ownsRow base TSp 2 (.slice xa (0 + a.length) xc) (0 + a.length) (a.map spanV).flatten := by simpa using Ov8
    obtain ⟨n8, hn8e⟩ : ∃ n, n = w8.heap.size := ⟨_, rfl⟩
    refine WpL_val rfl rfl (by decide) (r_assign (v := (.slice xa (0 + a.length) xc)) rfl) ?_
    refine WpL_nil ?_
    refine Wp_seq ?_
    refine Wp_seq_region ?_
    refine WpL_enter rfl rfl (by decide) (r_callF (vs := []) Try.func67 nm67 bd67 rfl) ((fpairs_c _).mono (fun v w h => (by rw [← hfpe, ← hn8e] at h; exact h : ((∃ a c, v = .slice a fp.length c) ∧ SlIn (fun b => n8 ≤ b ∧ b < w.heap.size) w 2 v (fp.map spanV)) ∧ Ext _ w))) ?_
    rintro _ w7 ⟨⟨⟨fa, fc, rfl⟩, hF⟩, X7⟩
    replace E := E.ext X7
    obtain ⟨n9, hn9⟩ : ∃ n, n = w7.heap.size := ⟨_, rfl⟩
    rw [← hn9] at hF
    refine WpL_val rfl rfl (by decide) (r_lenSlice (ad := fa) (n := fp.length) (cap := fc) Try.underlying80 rfl) ?_
    refine WpL_val rfl rfl (by decide) (r_move (v := (.int .i64 0)) rfl) ?_
    refine WpL_nil ?_
    refine Wp_block ?_
    refine Wp_loop (fun nn_ σ W2 => ∃ (i : Nat) (la1 : Option Addr) (lc1 : Nat) (m1 : Nat), (∃ jj_, σ = upds jj_ [(0, (.slice aa a.length ac)), (20, (.slice fa fp.length fc)), (21, (.int .i64 ((fp.length : Nat) : Int))), (22, (.int .i64 ((i : Nat) : Int))), (5, (.slice la1 m1 lc1))]) ∧ Chg none1 w0 W2 ∧ (i ≤ fp.length) ∧ (m1 = (a ++ (fp.take i).flatMap (rcloP a)).length) ∧ (W2.ownsRow base TSp 2 (.slice la1 m1 lc1) m1 ((a ++ (fp.take i).flatMap (rcloP a)).map spanV).flatten) ∧ (SlIn (fun b => n8 ≤ b ∧ b < n9) W2 2 (.slice fa fp.length fc) (fp.map spanV)) ∧ (n9 ≤ W2.heap.size) ∧ (∀ x, (Value.slice la1 m1 lc1).ownBlock = some x → x < n8 ∨ n9 ≤ x) ∧ nn_ = fp.length - i) (n := fp.length - 0) ?_ ?_
    · exact ⟨0, xa, xc, 0 + a.length, Fits.out ⟨rfl, rfl, rfl, rfl, rfl, trivial⟩, E, Nat.zero_le _, (by simp), (by simpa using own_ext hO X7), hF, (by omega), (fun x hx => .inl (by rw [hn8e]; exact (hO.lt x hx).2)), rfl⟩
    · clear E
      rintro _ _ W2 ⟨i, la1, lc1, m1, ⟨j2, rfl⟩, E, hi, hm1, hown1, hF1, hn91, hap1, rfl⟩
      refine Wp_seq_region ?_
      refine WpL_val rfl rfl (by decide) (r_lss (k := .i64) (a := ((i : Nat) : Int)) (b := ((fp.length : Nat) : Int)) rfl rfl) ?_
      refine WpL_nil ?_
      refine Wp_seq ?_
      refine Wp_cond (b := decide ((((i : Nat) : Int) : Int) < ((fp.length : Nat) : Int))) rfl (fun hlt => ?_) (fun hlt => ?_)
      · have khlt := hlt
        replace hlt := of_decide_eq_true hlt
        obtain ⟨p, hp⟩ := get_of_lt (l := fp) (i := i) (by omega)
        have hpf : p ∈ fpL := by rw [← hfpe]; exact List.mem_of_getElem? hp
        have hpb := fp_lt hpf
        have hfl := flat_len a (fp.take i)
        rw [List.length_take] at hfl
        obtain ⟨b, o, hab, hcl⟩ := spans_cells (SlIn.at hF1 : SpansAt _ _ fp) (by omega)
        subst hab
        have hts : (fp.take (i + 1)).flatMap (rcloP a) = (fp.take i).flatMap (rcloP a) ++ rcloP a p := by rw [take_snoc hp, List.flatMap_append]; simp
        rw [List.length_append] at hm1
        refine Wp_skip ?_
        refine thn_normal ?_
        refine Wp_seq ?_
        refine Wp_block ?_
        refine Wp_seq_region ?_
        refine WpL_val rfl rfl (by decide) (r_indexSlice (b := b) (o := o) (len := fp.length) (cap := fc) (i := i) (o' := o + i * 2) rfl rfl rfl Try.underlying80 siz82 (by omega) (by omega)) ?_
        refine WpL_val rfl rfl (by decide) (r_loadAgg (vs := [(.int .i64 p.1), (.int .i64 p.2)]) rfl agg82 siz82 rfl (hcl i p hp)) ?_
        refine s_allocStore (v := (.agg #[(.int .i64 p.1), (.int .i64 p.2)])) (c := #[(.int .i64 p.1), (.int .i64 p.2)]) (n := 2) (by decide) zer82 rfl siz82 rfl rfl rfl (by simp [Value.oneCell']) ?_
        intro bt wt Nt
        have Ft := Nt.ge E
        replace hown1 := own_ext hown1 Nt.ext
        replace hF1 := hF1.chg Nt.ext (fun _ _ f => f)
        replace hn91 := Nat.le_trans hn91 Nt.ext.size
        replace E := E.ext Nt.ext
        have Bt := Nt.blk
        refine WpL_nil ?_
        refine Wp_seq_region ?_
        refine WpL_val rfl rfl (by decide) (r_loadAgg (vs := [(.int .i64 p.1), (.int .i64 p.2)]) rfl agg82 siz82 rfl (Bt.cells rfl)) ?_
        refine WpL_val rfl rfl (by decide) (r_move (v := (.int .i64 0)) rfl) ?_
        refine WpL_nil ?_
        refine Wp_block ?_
        refine Wp_loop (fun nn_ σ W4 => ∃ (j : Nat) (la2 : Option Addr) (lc2 : Nat) (m2 : Nat), (∃ jj_, σ = upds jj_ [(0, (.slice aa a.length ac)), (20, (.slice (some ⟨b, o, none⟩) fp.length fc)), (21, (.int .i64 ((fp.length : Nat) : Int))), (22, (.int .i64 ((i : Nat) : Int))), (26, (.agg #[(.int .i64 p.1), (.int .i64 p.2)])), (27, (.int .i64 ((j : Nat) : Int))), (5, (.slice la2 m2 lc2))]) ∧ Chg none1 w0 W4 ∧ (j ≤ 2) ∧ (m2 = (a ++ (fp.take i).flatMap (rcloP a) ++ rcloN a p j).length) ∧ (W4.ownsRow base TSp 2 (.slice la2 m2 lc2) m2 ((a ++ (fp.take i).flatMap (rcloP a) ++ rcloN a p j).map spanV).flatten) ∧ (SlIn (fun b => n8 ≤ b ∧ b < n9) W4 2 (.slice (some ⟨b, o, none⟩) fp.length fc) (fp.map spanV)) ∧ (n9 ≤ W4.heap.size) ∧ (∀ x, (Value.slice la2 m2 lc2).ownBlock = some x → x < n8 ∨ n9 ≤ x) ∧ nn_ = 2 - j) (n := 2 - 0) ?_ ?_
        · exact ⟨0, la1, lc1, m1, Fits.out ⟨rfl, rfl, rfl, rfl, rfl, rfl, rfl, trivial⟩, E, (by omega), (by simpa [rcloN] using hm1), (by simpa [rcloN] using hown1), hF1, hn91, hap1, rfl⟩
        · clear E
          rintro _ _ W4 ⟨j, la2, lc2, m2, ⟨j4, rfl⟩, E, hj, hm2, hown2, hF2, hn92, hap2, rfl⟩
          refine Wp_seq_region ?_
          refine WpL_val rfl rfl (by decide) (r_lss (k := .i64) (a := ((j : Nat) : Int)) (b := 2) rfl rfl) ?_
          refine WpL_nil ?_
          refine Wp_seq ?_
          refine Wp_cond (b := decide ((((j : Nat) : Int) : Int) < 2)) rfl (fun hlt2 => ?_) (fun hlt2 => ?_)
          · have khlt2 := hlt2
            replace hlt2 := of_decide_eq_true hlt2
            have hns := rcloN_succ a p j
            have hnl := rcloN_len a p j
            rw [List.length_append, List.length_append] at hm2
            obtain ⟨q, hq⟩ : ∃ q, q = pj p j := ⟨_, rfl⟩
            have hqb : 0 ≤ q ∧ q ≤ 1114111 := by rw [hq]; unfold pj; split <;> omega
            rw [← hq] at hns
            refine Wp_skip ?_
            refine thn_normal ?_
            refine Wp_seq ?_
            refine Wp_block ?_
            refine Wp_seq_region ?_
            refine WpL_val rfl rfl (by decide) (r_indexVi (i := j) (v := .int .i64 q) Try.underlying82 siz3 flat3 rfl rfl rfl (by omega) (by rw [hq]; rcases (show j = 0 ∨ j = 1 by omega) with rfl | rfl <;> rfl)) ?_
            refine WpL_val rfl rfl (by decide) (r_assign (v := (.int .i64 q)) rfl) ?_
            refine WpL_nil ?_
            refine Wp_seq_region ?_
            refine WpL_val rfl rfl (by decide) (r_move (v := (.slice aa a.length ac)) rfl) ?_
            refine WpL_val rfl rfl (by decide) (r_move (v := (.int .i64 q)) rfl) ?_
            refine WpL_enter rfl rfl (by decide) (r_callF (vs := [(.slice aa a.length ac), (.int .i64 q)]) Try.func39 nm39 bd39 rfl) (inset_c _ _ a q (ha.ext E)) ?_
            rintro _ w6 ⟨rfl, X6⟩
            replace hown2 := own_ext hown2 X6
            replace hF2 := hF2.chg X6 (fun _ _ f => f)
            replace hn92 := Nat.le_trans hn92 X6.size
            replace E := E.ext X6
            refine WpL_nil ?_
            refine Wp_cond (b := inS a q) rfl (fun hin => ?_) (fun hin => ?_)
            · have khin := hin
              have hone : one9 a q = pts (orbitL q) := by unfold one9; rw [if_pos hin]
              have hown6 := hown2
              obtain ⟨n6, hn6⟩ : ∃ n, n = w6.heap.size := ⟨_, rfl⟩
              obtain ⟨ob, hob⟩ : ∃ ob, ob = orbitL q := ⟨_, rfl⟩
              have hol := orb_len q
              rw [← hob] at hol hone
              refine Wp_seq_region ?_
              refine WpL_val rfl rfl (by decide) (r_move (v := (.int .i64 q)) rfl) ?_
              refine WpL_enter rfl rfl (by decide) (r_callF (vs := [(.int .i64 q)]) Try.func27 nm27 bd27 rfl) ((rorbit_c _ q).mono (fun v w h => (by rw [← hob, ← hn6] at h; exact h : IntsN n6 w v ob ∧ Ext _ w))) ?_
              rintro _ w5 ⟨⟨⟨oa, oc, rfl⟩, hor⟩, X5⟩
              replace hown2 := own_ext hown2 X5
              replace hF2 := hF2.chg X5 (fun _ _ f => f)
              replace hn92 := Nat.le_trans hn92 X5.size
              replace E := E.ext X5
              obtain ⟨n7, hn7⟩ : ∃ n, n = w5.heap.size := ⟨_, rfl⟩
              rw [← hn7] at hor
              refine WpL_val rfl rfl (by decide) (r_lenSlice (ad := oa) (n := ob.length) (cap := oc) Try.underlying22 rfl) ?_
              refine WpL_val rfl rfl (by decide) (r_move (v := (.int .i64 0)) rfl) ?_
              refine WpL_nil ?_
              refine Wp_block ?_
              refine Wp_loop (fun nn_ σ W7 => ∃ (l : Nat) (la3 : Option Addr) (lc3 : Nat) (m3 : Nat), (∃ jj_, σ = upds jj_ [(0, (.slice aa a.length ac)), (20, (.slice (some ⟨b, o, none⟩) fp.length fc)), (21, (.int .i64 ((fp.length : Nat) : Int))), (22, (.int .i64 ((i : Nat) : Int))), (26, (.agg #[(.int .i64 p.1), (.int .i64 p.2)])), (27, (.int .i64 ((j : Nat) : Int))), (34, (.slice oa ob.length oc)), (35, (.int .i64 ((ob.length : Nat) : Int))), (36, (.int .i64 ((l : Nat) : Int))), (5, (.slice la3 m3 lc3))]) ∧ Chg none1 w0 W7 ∧ (l ≤ ob.length) ∧ (m3 = m2 + l) ∧ (W7.ownsRow base TSp 2 (.slice la3 m3 lc3) m3 ((a ++ (fp.take i).flatMap (rcloP a) ++ rcloN a p j ++ pts (ob.take l)).map spanV).flatten) ∧ (SlIn (fun b => n8 ≤ b ∧ b < n9) W7 2 (.slice (some ⟨b, o, none⟩) fp.length fc) (fp.map spanV)) ∧ (n9 ≤ W7.heap.size) ∧ (∀ x, (Value.slice la3 m3 lc3).ownBlock = some x → (x < n8 ∨ n9 ≤ x) ∧ (x < n6 ∨ n7 ≤ x)) ∧ (SlIn (fun b => n6 ≤ b ∧ b < n7) W7 1 (.slice oa ob.length oc) (ob.map intV)) ∧ (n7 ≤ W7.heap.size) ∧ nn_ = ob.length - l) (n := ob.length - 0) ?_ ?_
              · exact ⟨0, la2, lc2, m2, Fits.out ⟨rfl, rfl, rfl, rfl, rfl, rfl, rfl, rfl, rfl, rfl, trivial⟩, E, Nat.zero_le _, (by omega), (by simpa [pts] using hown2), hF2, hn92, (fun x hx => ⟨hap2 x hx, .inl (by rw [hn6]; exact (hown6.lt x hx).2)⟩), hor, (by omega), rfl⟩
              · clear E
                rintro _ _ W7 ⟨l, la3, lc3, m3, ⟨j7, rfl⟩, E, hl, hm3, hown3, hF3, hn93, hap3, hor3, hn73, rfl⟩
                refine Wp_seq_region ?_
                refine WpL_val rfl rfl (by decide) (r_lss (k := .i64) (a := ((l : Nat) : Int)) (b := ((ob.length : Nat) : Int)) rfl rfl) ?_
                refine WpL_nil ?_
                refine Wp_seq ?_
                refine Wp_cond (b := decide ((((l : Nat) : Int) : Int) < ((ob.length : Nat) : Int))) rfl (fun hlt3 => ?_) (fun hlt3 => ?_)
                · have khlt3 := hlt3
                  replace hlt3 := of_decide_eq_true hlt3
                  obtain ⟨x, hx⟩ := get_of_lt (l := ob) (i := l) (by omega)
                  have hpt := pts_take hx
                  obtain ⟨b9, o9, hab9, hcc⟩ := ints_cells (SlIn.at hor3 : IntsAt _ _ ob) (by omega)
                  subst hab9
                  refine Wp_skip ?_
                  refine thn_normal ?_
                  refine Wp_seq ?_
                  refine Wp_block ?_
                  refine Wp_seq_region ?_
                  refine WpL_val rfl rfl (by decide) (r_indexSlice (b := b9) (o := o9) (len := ob.length) (cap := oc) (i := l) (o' := o9 + l) rfl rfl rfl Try.underlying22 siz3 (by omega) (by omega)) ?_
                  refine WpL_val rfl rfl (by decide) (r_load (v := (.int .i64 x)) rfl flat3 (hcc l x hx)) ?_
                  refine WpL_val rfl rfl (by decide) (r_assign (v := (.int .i64 x)) rfl) ?_
                  refine WpL_nil ?_
                  refine Wp_region ?_
                  refine WpL_val rfl rfl (by decide) (r_move (v := (.slice la3 m3 lc3)) rfl) ?_
                  refine WpL_val rfl rfl (by decide) (r_move (v := (.int .i64 x)) rfl) ?_
                  refine WpL_val rfl rfl (by decide) (r_move (v := (.int .i64 x)) rfl) ?_
                  refine WpL_val rfl rfl (by decide) (r_build (ps := [(0, (.int .i64 x)), (1, (.int .i64 x))]) (v := (.agg #[(.int .i64 x), (.int .i64 x)])) rfl (by kernel_rfl)) ?_
                  refine s_buildSlice (ps := [(0, (.agg #[(.int .i64 x), (.int .i64 x)]))]) (c := #[(.int .i64 x), (.int .i64 x)]) (by decide) rfl Try.underlying23 siz37 zer37 (by decide) (by decide) (by kernel_rfl) ?_
                  intro bz wz Nz
                  have Fz := Nz.ge E
                  replace hown3 := own_ext hown3 Nz.ext
                  replace hF3 := hF3.chg Nz.ext (fun _ _ f => f)
                  replace hn93 := Nat.le_trans hn93 Nz.ext.size
                  replace hor3 := hor3.chg Nz.ext (fun _ _ f => f)
                  replace hn73 := Nat.le_trans hn73 Nz.ext.size
                  replace E := E.ext Nz.ext
                  have Bz := Nz.blk
                  refine s_append (base := base) (n := m3) (m := 1) (xs := ((a ++ (fp.take i).flatMap (rcloP a) ++ rcloN a p j ++ pts (ob.take l)).map spanV).flatten) (news := [(.int .i64 x), (.int .i64 x)]) (size := 2) (bytes := 16) (v := (.slice la3 m3 lc3)) (by decide) Try.underlying23 siz37 byt37 zer37 rfl (by decide) rfl hown3 rfl (rfl) (Bz.cells rfl) (by simp [Value.oneCell']) (by unfold maxLen; omega) (by omega) (by have := E.size; omega) ?_
                  intro v4 w4 Ov4 Cv4 Dv4
                  replace E := E.step Cv4 (fun x hx h => absurd (hown3.lt x h).1 (by omega))
                  obtain ⟨la4, lc4, rfl⟩ := own_form Ov4
                  refine WpL_val rfl rfl (by decide) (r_assign (v := (.slice la4 (m3 + 1) lc4)) rfl) ?_
                  refine WpL_nil ?_
                  refine inB_normal ?_
                  refine thn_normal ?_
                  refine Wp_region ?_
                  refine WpL_val rfl rfl (by decide) (r_add (k := .i64) (a := ((l : Nat) : Int)) (b := 1) (c := ((l : Nat) : Int) + 1) rfl rfl (wI64 (by omega))) ?_
                  refine WpL_val rfl rfl (by decide) (r_move (v := (.int .i64 (((l : Nat) : Int) + 1))) rfl) ?_
                  refine WpL_nil ?_
                  refine thn_normal ?_
                  exact ⟨ob.length - (l + 1), by omega, l + 1, la4, lc4, m3 + 1, Fits.out ⟨rfl, rfl, rfl, rfl, rfl, rfl, rfl, rfl, rfl, rfl, trivial⟩, E, (by omega), (by omega), (by rw [hpt, ← List.append_assoc, spanV_snoc]; exact Ov4), hF3.chg Cv4 (fun b hb h => by have := hap3 b h; omega), Nat.le_trans hn93 Cv4.size, (fun y hy => by rcases Dv4 y hy with h | h; exact hap3 y h; exact ⟨.inr (by omega), .inr (by omega)⟩), hor3.chg Cv4 (fun b hb h => by have := hap3 b h; omega), Nat.le_trans hn73 Cv4.size, rfl⟩
                · have khlt3 := hlt3
                  replace hlt3 := of_decide_eq_false hlt3
                  have hll : l = ob.length := by omega
                  rw [hll, List.take_length, List.append_assoc, ← hone, ← hns] at hown3
                  refine Wp_exit ?_
                  refine thn_exit ?_
                  refine thn_exit ?_
                  refine inB_here ?_
                  refine inB_normal ?_
                  refine thn_normal ?_
                  refine Wp_region ?_
                  refine WpL_val rfl rfl (by decide) (r_add (k := .i64) (a := ((j : Nat) : Int)) (b := 1) (c := ((j : Nat) : Int) + 1) rfl rfl (wI64 (by omega))) ?_
                  refine WpL_val rfl rfl (by decide) (r_move (v := (.int .i64 (((j : Nat) : Int) + 1))) rfl) ?_
                  refine WpL_nil ?_
                  refine thn_normal ?_
                  exact ⟨2 - (j + 1), by omega, j + 1, la3, lc3, m3, Fits.out ⟨rfl, rfl, rfl, rfl, rfl, rfl, rfl, trivial⟩, E, (by omega), (by rw [hns, hone]; simp only [List.length_append, pts, List.length_map]; omega), hown3, hF3, hn93, (fun x hx => (hap3 x hx).1), rfl⟩
            · have khin := hin
              have hone : one9 a q = [] := by unfold one9; rw [if_neg (by simp [hin])]
              refine Wp_skip ?_
              refine inB_normal ?_
              refine thn_normal ?_
              refine Wp_region ?_
              refine WpL_val rfl rfl (by decide) (r_add (k := .i64) (a := ((j : Nat) : Int)) (b := 1) (c := ((j : Nat) : Int) + 1) rfl rfl (wI64 (by omega))) ?_
              refine WpL_val rfl rfl (by decide) (r_move (v := (.int .i64 (((j : Nat) : Int) + 1))) rfl) ?_
              refine WpL_nil ?_
              refine thn_normal ?_
              exact ⟨2 - (j + 1), by omega, j + 1, la2, lc2, m2, Fits.out ⟨rfl, rfl, rfl, rfl, rfl, rfl, rfl, trivial⟩, E, (by omega), (by rw [hns, hone, List.append_nil]; simp only [List.length_append]; omega), (by rw [hns, hone, List.append_nil]; exact hown2), hF2, hn92, hap2, rfl⟩
          · have khlt2 := hlt2
            replace hlt2 := of_decide_eq_false hlt2
            have hjj : j = 2 := by omega
            rw [hjj] at hm2 hown2
            refine Wp_exit ?_
            refine thn_exit ?_
            refine thn_exit ?_
            refine inB_here ?_
            refine inB_normal ?_
            refine thn_normal ?_
            refine Wp_region ?_
            refine WpL_val rfl rfl (by decide) (r_add (k := .i64) (a := ((i : Nat) : Int)) (b := 1) (c := ((i : Nat) : Int) + 1) rfl rfl (wI64 (by omega))) ?_
            refine WpL_val rfl rfl (by decide) (r_move (v := (.int .i64 (((i : Nat) : Int) + 1))) rfl) ?_
            refine WpL_nil ?_
            refine thn_normal ?_
            exact ⟨fp.length - (i + 1), by omega, i + 1, la2, lc2, m2, Fits.out ⟨rfl, rfl, rfl, rfl, rfl, trivial⟩, E, (by omega), (by rw [hts, ← List.append_assoc]; exact hm2), (by rw [hts, ← List.append_assoc]; exact hown2), hF2, hn92, hap2, rfl⟩
      · have khlt := hlt
        replace hlt := of_decide_eq_false hlt
        have hii : i = fp.length := by omega
        rw [hii, List.take_length, hfpe] at hm1 hown1
        have hfl := flat_len a fpL
        have hlen : (a ++ rclo a).length ≤ 100000 := by rw [List.length_append]; unfold rclo; rw [hfpe] at hfp; omega
        have hS : OwnS W2 base (.slice la1 m1 lc1) (a ++ rclo a) := ⟨⟨la1, lc1, by rw [hm1]; rfl⟩, by have h9 := hown1; rw [hm1] at h9 ⊢; exact h9⟩
        refine Wp_exit ?_
        refine thn_exit ?_
        refine thn_exit ?_
        refine inB_here ?_
        refine thn_normal ?_
        refine Wp_seq_region ?_
        refine WpL_val rfl rfl (by decide) (r_move (v := (.slice la1 m1 lc1)) rfl) ?_
        refine WpL_enter rfl rfl (by decide) (r_callF (vs := [(.slice la1 m1 lc1)]) Try.func36 nm36 bd36 rfl) (nset_c _ _ (a ++ rclo a) hS.at (by omega)) ?_
        rintro _ w3 ⟨⟨out, e, hn, ga, gc, rfl, hsp⟩, X3⟩
        replace E := E.ext X3
        refine WpL_val rfl rfl (by decide) (r_extract (vs := #[(.slice ga out.length gc), (.int .i64 e)]) (v := (.slice ga out.length gc)) rfl rfl) ?_
        refine WpL_val rfl rfl (by decide) (r_extract (vs := #[(.slice ga out.length gc), (.int .i64 e)]) (v := (.int .i64 e)) rfl rfl) ?_
        refine WpL_val rfl rfl (by decide) (r_assign (v := (.slice ga out.length gc)) rfl) ?_
        refine WpL_val rfl rfl (by decide) (r_assign (v := (.int .i64 e)) rfl) ?_
        refine WpL_nil ?_
        refine Wp_ret ?_
        refine fin_tmp2 Try.results29 (v := (.slice ga out.length gc)) (v' := (.int .i64 e)) rfl rfl ?_
        refine ⟨⟨out, e, .inr ⟨hc1, ?_⟩, ga, gc, rfl, hsp⟩, E⟩
        rcases hn with ⟨⟨s, hs, hv⟩, _⟩ | ⟨_, j, hj, hf⟩
        · exact absurd (rclose_ok ca s hs) hv
        · exact ⟨j, ⟨hj.1, fun r r0 r1 => by rw [hj.2 r r0 r1, rclose_mem ca]⟩, hf⟩
end Go.Proofs
