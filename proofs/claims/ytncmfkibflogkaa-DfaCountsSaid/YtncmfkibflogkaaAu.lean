/- dfa.Least, walked. -/
import Derived.Test.YtncmfkibflogkaaAt
namespace Go.Eng
open Go
theorem r_field {P : Program} {σ : Env} {w : World} {dst : Option Tmp} {ty : TypeId} {pos : String} {af : Array Edge} {g : Option (Nat × Bool)} {t : TypeId} {x : Operand} {f : Nat} {v v' : Value} (hx : ev σ x = v) (hb : (Instr.field t v f).run P w = .ok v' w) :
    (execOp (ev σ) ⟨dst, .field t x f, ty, pos, af, g⟩).run P w = .ok (.value v') w := by simp [execOp, hx, hb]
theorem r_index {P : Program} {σ : Env} {w : World} {dst : Option Tmp} {ty : TypeId} {pos : String} {af : Array Edge} {g : Option (Nat × Bool)} {t : TypeId} {x y : Operand} {v i v' : Value} (hx : ev σ x = v) (hy : ev σ y = i) (hb : (Instr.index t v i).run P w = .ok v' w) :
    (execOp (ev σ) ⟨dst, .index t x y, ty, pos, af, g⟩).run P w = .ok (.value v') w := by simp [execOp, hx, hy, hb]
def kPair (p : Int × Int) : Value := .agg #[.int .i64 p.1, .int .i64 p.2]
end Go.Eng
namespace Go.Proofs
open Go Go.Eng Go.Sort
set_option maxRecDepth 100000

def toI (w : List Nat) : List Int := w.map fun x => ((x : Nat) : Int)
theorem toI_nat (w : List Nat) : (toI w).map Int.toNat = w := by induction w with | nil => rfl | cons x w ih => simp only [toI, List.map_cons, Int.toNat_natCast] at ih ⊢; rw [ih]
theorem wk_snoc {work : List Int} {i : Nat} {s : Int} (hs : work[i]? = some s) (t : Int) : (work ++ [t])[i]? = some s := by rw [List.getElem?_append_left (lt_of_get hs)]; exact hs
def LeastR (n c : Nat) (f : List Nat → Int) (r : Value) (w : World) : Prop :=
  (∃ l a cc, r = .tuple #[.slice a l.length cc, .bool true, .int .i64 0] ∧ IntsAt w (.slice a l.length cc) (toI l) ∧ LeastOf c f l ∧ l.length < n) ∨ (r = .tuple #[.slice none 0 0, .bool false, .int .i64 0] ∧ ∀ u, inW c u → f u < 0)
theorem revo_c (w0 : World) (base c : Nat) (a : Option Addr) (l : List Int) (n : Nat) (hn : n = l.length) (h : w0.ownsRow base TDI 1 (.slice a n c) n (l.map (Value.int .i64))) (hl : l.length ≤ 1000000000) :
    Ret Try.prog 53 #[.slice a n c] w0 fun _ w => w.ownsRow base TDI 1 (.slice a n c) n (l.reverse.map (Value.int .i64)) ∧ Chg (fun x => (Value.slice a n c).ownBlock = some x) w0 w := by
  subst hn
  rcases h.2 with ⟨h1, h2⟩ | ⟨g, cap, cur, hv, hb, hg, hnc, hcm, hcs, htake⟩
  · have hl0 : l = [] := by simpa using h2
    subst hl0
    exact (revi0_c w0 a c).mono fun v w h3 => ⟨own_ext h h3, Ext.chg h3⟩
  · simp only [Value.slice.injEq] at hv
    obtain ⟨rfl, _, rfl⟩ := hv
    have e9 : (l.map (Value.int .i64) ++ cur.toList.drop (l.length * 1)).toArray = cur := by rw [← htake, List.take_append_drop]
    refine (revi_c w0 g c TDI l (cur.toList.drop (l.length * 1)) (by rw [e9]; exact hg) hl).mono fun v w h3 => ⟨⟨by simp, .inr ⟨g, c, _, rfl, hb, h3.1, hnc, hcm, ?_, ?_⟩⟩, h3.2.mono fun y _ hy => by subst hy; rfl⟩
    · have := congrArg Array.size e9
      simp at this ⊢; omega
    · simp [List.take_append_of_le_length]
theorem BfsW.wlen_n {c n i x : Nat} {d : Dfa} {work : List Int} {wd : List (List Nat)} {ps : List (Nat × Nat)} (h : BfsW c (stpD d) d.start work wd ps i x) (hsl : ∀ t ∈ work, 0 ≤ t ∧ t < n) : work.length ≤ n := by
  have hd : (work.map Int.toNat).Nodup := by
    rw [List.nodup_iff_pairwise_ne, List.pairwise_map]
    refine List.Pairwise.imp_of_mem (fun {a b} ha hb hne => ?_) (List.nodup_iff_pairwise_ne.1 h.nd)
    have := hsl a ha; have := hsl b hb
    intro he; exact hne (by omega)
  have := nodup_leN (m := List.range n) hd fun x hx => by
    obtain ⟨s, hs, rfl⟩ := List.mem_map.1 hx
    have := hsl s hs
    exact List.mem_range.2 (by omega)
  simpa using this
theorem ByOf.cases {c n i x : Nat} {d : Dfa} {work : List Int} {wd : List (List Nat)} {ps : List (Nat × Nat)} {es : List (Int × (Int × Int))} (h : ByOf work ps es) (hB : BfsW c (stpD d) d.start work wd ps i x) (hsl : ∀ t ∈ work, 0 ≤ t ∧ t < n) {j : Nat} {s : Int} {v : List Nat} (hj : work[j]? = some s) (hv : wd[j]? = some v) :
    (((getM es s).getD (0, 0)).1 < 0 ∧ v = []) ∨ (0 ≤ ((getM es s).getD (0, 0)).1 ∧ ∃ (j2 y : Nat) (v2 : List Nat) (s2 : Int), j2 < j ∧ work[j2]? = some s2 ∧ wd[j2]? = some v2 ∧ v = v2 ++ [y] ∧ getM es s = some (s2, ((y : Nat) : Int))) := by
  rcases Nat.eq_zero_or_pos j with h0 | h0
  · subst h0
    obtain ⟨t0, ht0⟩ := h.first
    rw [h.get hB.nd hj ht0]
    refine .inl ⟨by decide, ?_⟩
    rw [hB.wf] at hv
    exact (Option.some.inj hv).symm
  · obtain ⟨j2, y, v2, hj2, hps, hv2, rfl⟩ := hB.par j v h0 hv
    obtain ⟨s2, hs2⟩ := get_of_lt (l := work) (i := j2) (by rw [← hB.len]; exact lt_of_get hv2)
    obtain ⟨t0, ht0⟩ := h.link j j2 y s2 h0 hj2 hps hs2
    have hg := h.get hB.nd hj ht0
    refine .inr ⟨?_, j2, y, v2, s2, hj2, hs2, hv2, rfl, hg⟩
    rw [hg]
    exact (hsl s2 (List.mem_of_getElem? hs2)).1
set_option maxHeartbeats 8000000 in
theorem dfLeast_c (w0 : World) (n c : Nat) (d : Dfa) (dv : List Value) (ok : OkD n c d) (h : DfaAt w0 d dv) (hn : 1 ≤ n ∧ n ≤ 200) (hc : 1 ≤ c ∧ c ≤ 16) :
    Ret Try.prog 30 #[.agg dv.toArray] w0 fun r w => LeastR n c (beh d d.start) r w ∧ Ext w0 w := by
  have hdfa := h
  obtain ⟨aa, ac, na, nc, rfl, hacc, hnxt⟩ := h
  have hnl := ok.nl
  have hal := ok.al
  have hst := ok.st
  rw [hal, hnl] at hdfa ⊢
  rw [hal] at hacc
  rw [hnl] at hnxt
  obtain ⟨nb, no, rfl, hnx⟩ := intss_cells (n := n) hnxt (by omega)
  obtain ⟨ab, ao, rfl, hax⟩ := ints_cells (n := n) hacc (by omega)
  have hrowc : ∀ (s : Nat), s < n → ∃ row ra rc, d.next[s]? = some row ∧ row.length = c ∧ w0.cell? ⟨nb, no + s, none⟩ = some (.slice ra c rc) ∧ IntsAt w0 (.slice ra c rc) row := fun s hs => by
    obtain ⟨row, hrow⟩ := get_of_lt (l := d.next) (i := s) (by omega)
    have hrl := (ok.row row (List.mem_of_getElem? hrow)).1
    obtain ⟨ra, rc, h1, h2⟩ := hnx s row hrow
    rw [hrl] at h1 h2
    exact ⟨row, ra, rc, hrow, hrl, h1, h2⟩
  refine Ret_of Try.func30 rfl Try.ntmps30 (Nat.le_of_ble_eq_true rfl) ?_
  have E : Chg none1 w0 w0 := Chg.refl _ _
  refine Wp_seq_region ?_
  refine s_box (v := (.agg #[(.int .i64 d.start), (.slice (some ⟨ab, ao, none⟩) n ac), (.slice (some ⟨nb, no, none⟩) n nc)])) (c := #[(.int .i64 d.start), (.slice (some ⟨ab, ao, none⟩) n ac), (.slice (some ⟨nb, no, none⟩) n nc)]) (by decide) rfl rfl ?_
  intro bq wq Nq
  have Fq := Nq.ge E
  replace E := E.ext Nq.ext
  have Bq := Nq.blk
  refine WpL_val rfl rfl (by decide) (r_assign (v := (.slice none 0 0)) rfl) ?_
  refine WpL_val rfl rfl (by decide) (r_assign (v := (.bool false)) rfl) ?_
  refine WpL_val rfl rfl (by decide) (r_assign (v := (.int .i64 0)) rfl) ?_
  refine WpL_nil ?_
  refine Wp_seq ?_
  refine Wp_seq_region ?_
  refine WpL_val rfl rfl (by decide) (r_loadAgg (vs := [(.int .i64 d.start), (.slice (some ⟨ab, ao, none⟩) n ac), (.slice (some ⟨nb, no, none⟩) n nc)]) rfl agg25 siz25 rfl (Bq.cells rfl)) ?_
  refine WpL_enter rfl rfl (by decide) (r_callF (vs := [(.agg #[(.int .i64 d.start), (.slice (some ⟨ab, ao, none⟩) n ac), (.slice (some ⟨nb, no, none⟩) n nc)])]) Try.func50 nm50 bd50 rfl) (dcheck_c _ d _ (hdfa.ext E)) ?_
  rintro _ w9 ⟨rfl, X9⟩
  replace Bq := X9.keep Bq
  replace E := E.ext X9
  refine WpL_val rfl rfl (by decide) (r_assign (v := (.int .i64 (checkD d))) rfl) ?_
  refine WpL_nil ?_
  refine Wp_seq_region ?_
  refine WpL_val rfl rfl (by decide) (r_move (v := (.int .i64 (checkD d))) rfl) ?_
  refine WpL_val rfl rfl (by decide) (r_neq (k := .i64) (a := checkD d) (b := 0) rfl rfl) ?_
  refine WpL_nil ?_
  have hc1 : (decide ((checkD d : Int) ≠ 0)) = false := decide_eq_false (by rw [okD_check ok hn hc]; decide)
  refine Wp_cond_false (congrArg Value.bool hc1) ?_
  refine Wp_skip ?_
  refine thn_normal ?_
  refine Wp_seq_region ?_
  refine s_makeMap kInt kPair (by decide) ?_
  intro bm wm Nm
  have Fm := Nm.ge E
  have Om_bq := Nm.lt Bq
  replace Bq := Nm.keep Bq
  replace E := E.ext Nm.ext
  intro Mm
  refine WpL_val rfl rfl (by decide) (r_fieldAddr (b := bq) (o := 0) (o' := 0) rfl Try.underlying25 rfl siz3 rfl) ?_
  refine WpL_val rfl rfl (by decide) (r_load (v := (.int .i64 d.start)) rfl flat3 (Bq.cell rfl)) ?_
  refine WpL_val rfl rfl (by decide) (r_build (ps := [(0, (.int .i64 (-1))), (1, (.int .i64 (-1)))]) (v := (.agg #[(.int .i64 (-1)), (.int .i64 (-1))])) rfl (by kernel_rfl)) ?_
  refine s_insert (k := d.start) (v := ((-1), (-1))) Try.underlying91 (keyInt Try.underlying3) Mm rfl rfl rfl ?_
  intro w2 S2 H2
  replace Bq := S2.keep (by omega) Bq
  replace E := S2.step E (by first | exact Or.inl (by omega) | exact Or.inr rfl | exact Or.inr (by assumption) | exact Or.inr (by simp) | exact Or.inr (by omega) | exact Or.inr (by dsimp only; omega))
  replace Mm := H2
  refine WpL_val rfl rfl (by decide) (r_move (v := (.map (some bm))) rfl) ?_
  refine WpL_val rfl rfl (by decide) (r_assign (v := (.map (some bm))) rfl) ?_
  refine WpL_nil ?_
  refine Wp_seq_region ?_
  refine WpL_val rfl rfl (by decide) (r_fieldAddr (b := bq) (o := 0) (o' := 0) rfl Try.underlying25 rfl siz3 rfl) ?_
  refine WpL_val rfl rfl (by decide) (r_load (v := (.int .i64 d.start)) rfl flat3 (Bq.cell rfl)) ?_
  refine s_buildSlice (ps := [(0, (.int .i64 d.start))]) (c := #[(.int .i64 d.start)]) (by decide) rfl Try.underlying22 siz3 zer3 (by decide) (by decide) (by kernel_rfl) ?_
  intro bs ws Ns
  have Fs := Ns.ge E
  have Os_bq := Ns.lt Bq
  have Os_bm := Ns.ltM Mm
  replace Bq := Ns.keep Bq
  replace Mm := Ns.keepM Mm
  replace E := E.ext Ns.ext
  have Bs := Ns.blk
  refine WpL_val rfl rfl (by decide) (r_assign (v := (.slice (some ⟨bs, 0, none⟩) 1 1)) rfl) ?_
  refine WpL_nil ?_
  refine Wp_seq ?_
  refine Wp_seq_region ?_
  refine WpL_val rfl rfl (by decide) (r_assign (v := (.int .i64 0)) rfl) ?_
  refine WpL_nil ?_
  refine Wp_block ?_
  obtain ⟨n1, hn1e⟩ : ∃ n1, n1 = bs := ⟨_, rfl⟩
  have hbsn : bs < ws.heap.size := Bs.lt
  have hS0 := own_lit1 (base := n1) Bs (by omega)
  refine Wp_loop (fun nn_ σ W3 => ∃ (i : Nat) (work : List Int) (wd : List (List Nat)) (ps : List (Nat × Nat)) (es : List (Int × (Int × Int))) (sa : Option Addr) (sc2 sn : Nat), (∃ jj_, σ = upds jj_ [(1, (.pointer (some ⟨bq, 0, none⟩))), (6, (.map (some bm))), (8, (.int .i64 ((i : Nat) : Int))), (7, (.slice sa sn sc2))]) ∧ Chg none1 w0 W3 ∧ Blk W3 bq #[(.int .i64 d.start), (.slice (some ⟨ab, ao, none⟩) n ac), (.slice (some ⟨nb, no, none⟩) n nc)] 25 ∧ MapAt W3 bm kInt kPair es ∧ (BfsW c (stpD d) d.start work wd ps i 0) ∧ (ByOf work ps es) ∧ (∀ (j : Nat) t, j < i → work[j]? = some t → atD d t < 0) ∧ (∀ t ∈ work, 0 ≤ t ∧ t < n) ∧ (sn = work.length) ∧ (i ≤ sn) ∧ (W3.ownsRow n1 TDI 1 (.slice sa sn sc2) sn (work.map (Value.int .i64))) ∧ (n1 ≤ W3.heap.size) ∧ nn_ = n - i) (n := n - 0) ?_ ?_
  · exact ⟨0, [d.start], [[]], [(0, 0)], [(d.start, (-1, -1))], some ⟨bs, 0, none⟩, 1, 1, Fits.out ⟨rfl, rfl, rfl, rfl, trivial⟩, E, Bq, Mm, BfsW.start _ _ _ _, ByOf.start _ _, (fun j t h => by omega), (fun t h => by rw [List.mem_singleton] at h; omega), rfl, (by omega), hS0, (by omega), rfl⟩
  · clear E Bq Mm
    rintro _ _ W3 ⟨i, work, wd, ps, es, sa, sc2, sn, ⟨j3, rfl⟩, E, Bq, Mm, hB, hby, hno, hsl, hsn, hin, hS, hsz, rfl⟩
    refine Wp_seq ?_
    refine Wp_seq_region ?_
    refine WpL_val rfl rfl (by decide) (r_move (v := (.int .i64 ((i : Nat) : Int))) rfl) ?_
    refine WpL_val rfl rfl (by decide) (r_move (v := (.slice sa sn sc2)) rfl) ?_
    refine WpL_val rfl rfl (by decide) (r_lenSlice (ad := sa) (n := sn) (cap := sc2) Try.underlying22 rfl) ?_
    refine WpL_val rfl rfl (by decide) (r_lss (k := .i64) (a := ((i : Nat) : Int)) (b := ((sn : Nat) : Int)) rfl rfl) ?_
    refine WpL_nil ?_
    refine Wp_cond (b := decide ((((i : Nat) : Int) : Int) < ((sn : Nat) : Int))) rfl (fun hlt => ?_) (fun hlt => ?_)
    · have khlt := hlt
      replace hlt := of_decide_eq_true hlt
      obtain ⟨s, hsi⟩ := get_of_lt (l := work) (i := i) (by omega)
      obtain ⟨v, hvi⟩ := hB.get hsi
      obtain ⟨hs0, hsn'⟩ := hsl s (List.mem_of_getElem? hsi)
      obtain ⟨sN, hsN⟩ := Int.eq_ofNat_of_zero_le hs0
      obtain ⟨row, ra, rc, hrow, hrl, hcell, hri⟩ := hrowc sN (by omega)
      have hwl := hB.wlen_n hsl
      obtain ⟨sb, rfl, hsb1, hsc⟩ := own_cells hS (by omega)
      have hat := acc_at ok (show sN < n by omega)
      obtain ⟨yv, hyv⟩ : ∃ y, y = atD d s := ⟨_, rfl⟩
      rw [← hsN, ← hyv] at hat
      refine Wp_skip ?_
      refine thn_normal ?_
      refine Wp_seq ?_
      refine Wp_block ?_
      refine Wp_seq_region ?_
      refine WpL_val rfl rfl (by decide) (r_move (v := (.slice (some ⟨sb, 0, none⟩) sn sc2)) rfl) ?_
      refine WpL_val rfl rfl (by decide) (r_move (v := (.int .i64 ((i : Nat) : Int))) rfl) ?_
      refine WpL_val rfl rfl (by decide) (r_indexSlice (b := sb) (o := 0) (len := sn) (cap := sc2) (i := i) (o' := 0 + i) rfl rfl rfl Try.underlying22 siz3 (by omega) (by omega)) ?_
      refine WpL_val rfl rfl (by decide) (r_load (v := (.int .i64 s)) rfl flat3 (hsc i _ (by rw [List.getElem?_map, hsi]; rfl))) ?_
      refine WpL_val rfl rfl (by decide) (r_assign (v := (.int .i64 s)) rfl) ?_
      refine WpL_nil ?_
      refine Wp_seq ?_
      refine Wp_seq_region ?_
      refine WpL_val rfl rfl (by decide) (r_fieldAddr (b := bq) (o := 0) (o' := 1) rfl Try.underlying25 rfl siz22 rfl) ?_
      refine WpL_val rfl rfl (by decide) (r_load (v := (.slice (some ⟨ab, ao, none⟩) n ac)) rfl flat22 (Bq.cell rfl)) ?_
      refine WpL_val rfl rfl (by decide) (r_move (v := (.int .i64 s)) rfl) ?_
      refine WpL_val rfl rfl (by decide) (r_indexSlice (b := ab) (o := ao) (len := n) (cap := ac) (i := sN) (o' := ao + sN) rfl rfl (by omega) Try.underlying22 siz3 (by omega) (by omega)) ?_
      refine WpL_val rfl rfl (by decide) (r_load (v := (.int .i64 yv)) rfl flat3 (E.cell (fun f => f) (hax sN _ hat))) ?_
      refine WpL_val rfl rfl (by decide) (r_geq (k := .i64) (a := yv) (b := 0) rfl rfl) ?_
      refine WpL_nil ?_
      refine Wp_cond (b := decide ((0 : Int) ≤ yv)) rfl (fun hpos => ?_) (fun hpos => ?_)
      · have khpos := hpos
        replace hpos := of_decide_eq_true hpos
        have hL := hB.least hno hsi hvi (by omega)
        have hvl := hB.wlen i v hvi
        obtain ⟨n2, hn2⟩ : ∃ n2, n2 = (W3).heap.size := ⟨_, rfl⟩
        have hq2 : bq < n2 ∧ bm < n2 := ⟨by rw [hn2]; exact Bq.lt, by rw [hn2]; exact Mm.lt⟩
        refine Wp_seq_region ?_
        refine WpL_val rfl rfl (by decide) (r_assign (v := (.slice none 0 0)) rfl) ?_
        refine WpL_nil ?_
        refine Wp_seq ?_
        refine Wp_block ?_
        refine Wp_loop (fun nn_ σ W6 => ∃ (j : Nat) (s1 : Int) (v1 u : List Nat) (oa : Option Addr) (oc on : Nat), (∃ jj_, σ = upds jj_ [(6, (.map (some bm))), (9, (.int .i64 s1)), (10, (.slice oa on oc))]) ∧ Chg none1 w0 W6 ∧ Blk W6 bq #[(.int .i64 d.start), (.slice (some ⟨ab, ao, none⟩) n ac), (.slice (some ⟨nb, no, none⟩) n nc)] 25 ∧ MapAt W6 bm kInt kPair es ∧ (work[j]? = some s1) ∧ (wd[j]? = some v1) ∧ (v = v1 ++ u) ∧ (on = u.length) ∧ (W6.ownsRow n2 TDI 1 (.slice oa on oc) on ((toI u.reverse).map (Value.int .i64))) ∧ (n2 ≤ W6.heap.size) ∧ nn_ = j + 1) (n := i + 1) ?_ ?_
        · exact ⟨i, s, v, [], none, 0, 0, Fits.out ⟨rfl, rfl, rfl, trivial⟩, E, Bq, Mm, hsi, hvi, (by simp), rfl, World.ownsRow_nil _ _ _ _, (by omega), rfl⟩
        · clear E Bq Mm
          rintro _ _ W6 ⟨j, s1, v1, u, oa, oc, on, ⟨j6, rfl⟩, E, Bq, Mm, hj, hvj, hvu, hon, hO, hsz2, rfl⟩
          refine Wp_seq ?_
          refine Wp_seq_region ?_
          refine WpL_val rfl rfl (by decide) (r_move (v := (.map (some bm))) rfl) ?_
          refine WpL_val rfl rfl (by decide) (r_move (v := (.int .i64 s1)) rfl) ?_
          refine WpL_val (v := (.agg #[(.int .i64 (((getM es s1).getD (0, 0)).1)), (.int .i64 (((getM es s1).getD (0, 0)).2))])) rfl rfl (by decide) (r_lookup (k := s1) (z := (0, 0)) Try.underlying91 (keyInt Try.underlying3) zer90 Mm rfl rfl) ?_
          refine WpL_val rfl rfl (by decide) (r_field (v := (.agg #[(.int .i64 (((getM es s1).getD (0, 0)).1)), (.int .i64 (((getM es s1).getD (0, 0)).2))])) (v' := (.int .i64 (((getM es s1).getD (0, 0)).1))) rfl (by kernel_rfl)) ?_
          refine WpL_val rfl rfl (by decide) (r_geq (k := .i64) (a := ((getM es s1).getD (0, 0)).1) (b := 0) rfl rfl) ?_
          refine WpL_nil ?_
          refine Wp_cond (b := decide ((0 : Int) ≤ ((getM es s1).getD (0, 0)).1)) rfl (fun hge => ?_) (fun hge => ?_)
          · have khge := hge
            replace hge := of_decide_eq_true hge
            obtain ⟨_, j2, y, v2, s2, hj2, hs2, hv2, rfl, hgm⟩ := (hby.cases hB hsl hj hvj).resolve_left fun h9 => by have := h9.1; omega
            have hul : u.length ≤ i := by rw [hvu] at hvl; simp at hvl; omega
            rw [hgm] at hge
            refine Wp_skip ?_
            refine thn_normal ?_
            refine Wp_block ?_
            refine Wp_seq_region ?_
            refine WpL_val rfl rfl (by decide) (r_move (v := (.slice oa on oc)) rfl) ?_
            refine WpL_val rfl rfl (by decide) (r_move (v := (.map (some bm))) rfl) ?_
            refine WpL_val rfl rfl (by decide) (r_move (v := (.int .i64 s1)) rfl) ?_
            refine WpL_val (v := (.agg #[(.int .i64 (((getM es s1).getD (0, 0)).1)), (.int .i64 (((getM es s1).getD (0, 0)).2))])) rfl rfl (by decide) (r_lookup (k := s1) (z := (0, 0)) Try.underlying91 (keyInt Try.underlying3) zer90 Mm rfl rfl) ?_
            refine WpL_val rfl rfl (by decide) (r_field (v := (.agg #[(.int .i64 (((getM es s1).getD (0, 0)).1)), (.int .i64 (((getM es s1).getD (0, 0)).2))])) (v' := (.int .i64 (((getM es s1).getD (0, 0)).2))) rfl (by kernel_rfl)) ?_
            refine s_buildSlice (ps := [(0, (.int .i64 (((getM es s1).getD (0, 0)).2)))]) (c := #[(.int .i64 (((getM es s1).getD (0, 0)).2))]) (by decide) rfl Try.underlying22 siz3 zer3 (by decide) (by decide) (by kernel_rfl) ?_
            intro b8 w8 N8
            have F8 := N8.ge E
            have O8_bq := N8.lt Bq
            have O8_bm := N8.ltM Mm
            replace Bq := N8.keep Bq
            replace Mm := N8.keepM Mm
            replace hO := own_ext hO N8.ext
            replace hsz2 := Nat.le_trans hsz2 N8.ext.size
            replace E := E.ext N8.ext
            have B8 := N8.blk
            refine s_append (base := n2) (n := on) (m := 1) (xs := ((toI u.reverse).map (Value.int .i64))) (news := [(.int .i64 (((getM es s1).getD (0, 0)).2))]) (size := 1) (bytes := 8) (v := (.slice oa on oc)) (by decide) Try.underlying22 siz3 byt3 zer3 rfl (by decide) rfl hO rfl (rfl) (B8.cells rfl) (by simp [Value.oneCell']) (by unfold maxLen; omega) (by omega) (hsz2) ?_
            intro v7 w59 Ov7 Cv7 Dv7
            replace Bq := Cv7.keep (fun h => by have := (hO.lt _ h).1; omega) Bq
            replace Mm := Cv7.keepM (fun h => by have := (hO.lt _ h).1; omega) Mm
            replace E := E.step Cv7 (fun x hx h => absurd (hO.lt x h).1 (by omega))
            obtain ⟨sa3, sc3, rfl⟩ := own_form Ov7
            refine WpL_val rfl rfl (by decide) (r_assign (v := (.slice sa3 (on + 1) sc3)) rfl) ?_
            refine WpL_nil ?_
            refine Wp_region ?_
            refine WpL_val rfl rfl (by decide) (r_move (v := (.map (some bm))) rfl) ?_
            refine WpL_val rfl rfl (by decide) (r_move (v := (.int .i64 s1)) rfl) ?_
            refine WpL_val (v := (.agg #[(.int .i64 (((getM es s1).getD (0, 0)).1)), (.int .i64 (((getM es s1).getD (0, 0)).2))])) rfl rfl (by decide) (r_lookup (k := s1) (z := (0, 0)) Try.underlying91 (keyInt Try.underlying3) zer90 Mm rfl rfl) ?_
            refine WpL_val rfl rfl (by decide) (r_field (v := (.agg #[(.int .i64 (((getM es s1).getD (0, 0)).1)), (.int .i64 (((getM es s1).getD (0, 0)).2))])) (v' := (.int .i64 (((getM es s1).getD (0, 0)).1))) rfl (by kernel_rfl)) ?_
            refine WpL_val rfl rfl (by decide) (r_assign (v := (.int .i64 (((getM es s1).getD (0, 0)).1))) rfl) ?_
            refine WpL_nil ?_
            refine inB_normal ?_
            refine thn_normal ?_
            rw [hgm]
            exact ⟨j2 + 1, by omega, j2, s2, v2, y :: u, sa3, sc3, (on + 1), Fits.out ⟨rfl, rfl, rfl, trivial⟩, E, Bq, Mm, hs2, hv2, (by rw [hvu]; simp), (by simp [hon]), (by simpa [toI, hgm] using Ov7), Nat.le_trans hsz2 Cv7.size, rfl⟩
          · have khge := hge
            replace hge := of_decide_eq_false hge
            obtain ⟨_, rfl⟩ := (hby.cases hB hsl hj hvj).resolve_right fun h9 => by have := h9.1; omega
            rw [List.nil_append] at hvu
            subst hvu
            refine Wp_exit ?_
            refine thn_exit ?_
            refine thn_exit ?_
            refine inB_here ?_
            refine thn_normal ?_
            refine Wp_seq_region ?_
            refine WpL_val rfl rfl (by decide) (r_move (v := (.slice oa on oc)) rfl) ?_
            refine WpL_enter rfl rfl (by decide) (r_callF (vs := [(.slice oa on oc)]) Try.func53 nm53 bd53 rfl) (revo_c _ n2 oc oa (toI v.reverse) on (by simp [hon, toI]) hO (by simp [toI]; omega)) ?_
            rintro _ w69 ⟨hO2, C69⟩
            replace Bq := C69.keep (fun h => by have := (hO.lt _ h).1; omega) Bq
            replace Mm := C69.keepM (fun h => by have := (hO.lt _ h).1; omega) Mm
            replace E := E.step C69 (fun x hx h => absurd (hO.lt x h).1 (by omega))
            refine WpL_nil ?_
            refine Wp_seq_region ?_
            refine WpL_val rfl rfl (by decide) (r_move (v := (.slice oa on oc)) rfl) ?_
            refine WpL_val rfl rfl (by decide) (r_assign (v := (.slice oa on oc)) rfl) ?_
            refine WpL_val rfl rfl (by decide) (r_assign (v := (.bool true)) rfl) ?_
            refine WpL_val rfl rfl (by decide) (r_assign (v := (.int .i64 0)) rfl) ?_
            refine WpL_nil ?_
            refine Wp_ret ?_
            refine thn_ret ?_
            refine inB_ret ?_
            refine thn_ret ?_
            refine thn_ret ?_
            refine inB_ret ?_
            refine thn_ret ?_
            refine fin_tmp3 Try.results30 (v := (.slice oa on oc)) (v' := (.bool true)) (v'' := (.int .i64 0)) rfl rfl rfl ?_
            exact ⟨.inl ⟨v, oa, oc, by rw [hon], by rw [← hon]; exact own_intsD (n := on) (by simpa [toI, List.map_reverse] using hO2) (by simp [hon, toI]), hL, by omega⟩, E⟩
      · have khpos := hpos
        replace hpos := of_decide_eq_false hpos
        refine Wp_skip ?_
        refine thn_normal ?_
        refine Wp_seq_region ?_
        refine WpL_val rfl rfl (by decide) (r_fieldAddr (b := bq) (o := 0) (o' := 2) rfl Try.underlying25 rfl siz23 rfl) ?_
        refine WpL_val rfl rfl (by decide) (r_load (v := (.slice (some ⟨nb, no, none⟩) n nc)) rfl flat23 (Bq.cell rfl)) ?_
        refine WpL_val rfl rfl (by decide) (r_move (v := (.int .i64 s)) rfl) ?_
        refine WpL_val rfl rfl (by decide) (r_indexSlice (b := nb) (o := no) (len := n) (cap := nc) (i := sN) (o' := no + sN) rfl rfl (by omega) Try.underlying23 siz22 (by omega) (by omega)) ?_
        refine WpL_val rfl rfl (by decide) (r_load (v := (.slice ra c rc)) rfl flat22 (E.cell (fun f => f) hcell)) ?_
        refine WpL_val rfl rfl (by decide) (r_lenSlice (ad := ra) (n := c) (cap := rc) Try.underlying22 rfl) ?_
        refine WpL_val rfl rfl (by decide) (r_move (v := (.int .i64 0)) rfl) ?_
        refine WpL_nil ?_
        refine Wp_block ?_
        refine Wp_loop (fun nn_ σ W9 => ∃ (x : Nat) (work : List Int) (wd : List (List Nat)) (ps : List (Nat × Nat)) (es : List (Int × (Int × Int))) (sa : Option Addr) (sc2 sn : Nat), (∃ jj_, σ = upds jj_ [(1, (.pointer (some ⟨bq, 0, none⟩))), (6, (.map (some bm))), (8, (.int .i64 ((i : Nat) : Int))), (9, (.int .i64 s)), (67, (.slice ra c rc)), (68, (.int .i64 ((c : Nat) : Int))), (69, (.int .i64 ((x : Nat) : Int))), (7, (.slice sa sn sc2))]) ∧ Chg none1 w0 W9 ∧ Blk W9 bq #[(.int .i64 d.start), (.slice (some ⟨ab, ao, none⟩) n ac), (.slice (some ⟨nb, no, none⟩) n nc)] 25 ∧ MapAt W9 bm kInt kPair es ∧ (x ≤ c) ∧ (BfsW c (stpD d) d.start work wd ps i x) ∧ (ByOf work ps es) ∧ (∀ (j : Nat) t, j < i + 1 → work[j]? = some t → atD d t < 0) ∧ (∀ t ∈ work, 0 ≤ t ∧ t < n) ∧ (work[i]? = some s) ∧ (wd[i]? = some v) ∧ (sn = work.length) ∧ (W9.ownsRow n1 TDI 1 (.slice sa sn sc2) sn (work.map (Value.int .i64))) ∧ (n1 ≤ W9.heap.size) ∧ nn_ = c - x) (n := c - 0) ?_ ?_
        · exact ⟨0, work, wd, ps, es, some ⟨sb, 0, none⟩, sc2, sn, Fits.out ⟨rfl, rfl, rfl, rfl, rfl, rfl, rfl, rfl, trivial⟩, E, Bq, Mm, Nat.zero_le _, hB, hby, (fun j t hj ht => by rcases Nat.lt_or_ge j i with h1 | h1; exact hno j t h1 ht; (have h2 : j = i := by omega); rw [h2, hsi] at ht; cases ht; omega), hsl, hsi, hvi, hsn, hS, hsz, rfl⟩
        · clear E Bq Mm
          rintro _ _ W9 ⟨x, work, wd, ps, es, sa, sc2, sn, ⟨j9, rfl⟩, E, Bq, Mm, hx, hB, hby, hno, hsl, hsi, hvi, hsn, hS, hsz, rfl⟩
          refine Wp_seq_region ?_
          refine WpL_val rfl rfl (by decide) (r_lss (k := .i64) (a := ((x : Nat) : Int)) (b := ((c : Nat) : Int)) rfl rfl) ?_
          refine WpL_nil ?_
          refine Wp_seq ?_
          refine Wp_cond (b := decide ((((x : Nat) : Int) : Int) < ((c : Nat) : Int))) rfl (fun hlt2 => ?_) (fun hlt2 => ?_)
          · have khlt2 := hlt2
            replace hlt2 := of_decide_eq_true hlt2
            obtain ⟨t, ht⟩ := get_of_lt (l := row) (i := x) (by omega)
            obtain ⟨rb, ro, rfl, hrc⟩ := ints_cells (n := c) hri (by omega)
            obtain ⟨htk, _, _, hxl, hxh⟩ := toD_row ok hrow ht
            rw [← hsN] at htk
            refine Wp_skip ?_
            refine thn_normal ?_
            refine Wp_seq ?_
            refine Wp_block ?_
            refine Wp_seq_region ?_
            refine WpL_val rfl rfl (by decide) (r_move (v := (.int .i64 ((x : Nat) : Int))) rfl) ?_
            refine WpL_val rfl rfl (by decide) (r_indexSlice (b := rb) (o := ro) (len := c) (cap := rc) (i := x) (o' := ro + x) rfl rfl rfl Try.underlying22 siz3 (by omega) (by omega)) ?_
            refine WpL_val rfl rfl (by decide) (r_load (v := (.int .i64 t)) rfl flat3 (E.cell (fun f => f) (hrc x t ht))) ?_
            refine WpL_val rfl rfl (by decide) (r_assign (v := (.int .i64 ((x : Nat) : Int))) rfl) ?_
            refine WpL_val rfl rfl (by decide) (r_assign (v := (.int .i64 t)) rfl) ?_
            refine WpL_nil ?_
            refine Wp_seq_region ?_
            refine WpL_val rfl rfl (by decide) (r_move (v := (.map (some bm))) rfl) ?_
            refine WpL_val rfl rfl (by decide) (r_move (v := (.int .i64 t)) rfl) ?_
            refine WpL_val (v := (.tuple #[(.agg #[(.int .i64 (((getM es t).getD (0, 0)).1)), (.int .i64 (((getM es t).getD (0, 0)).2))]), (.bool ((getM es t).isSome))])) rfl rfl (by decide) (r_lookup2 (k := t) (z := (0, 0)) Try.underlying91 (keyInt Try.underlying3) zer90 Mm rfl rfl) ?_
            refine WpL_val rfl rfl (by decide) (r_move (v := (.tuple #[(.agg #[(.int .i64 (((getM es t).getD (0, 0)).1)), (.int .i64 (((getM es t).getD (0, 0)).2))]), (.bool ((getM es t).isSome))])) rfl) ?_
            refine WpL_val rfl rfl (by decide) (r_extract (vs := #[(.agg #[(.int .i64 (((getM es t).getD (0, 0)).1)), (.int .i64 (((getM es t).getD (0, 0)).2))]), (.bool ((getM es t).isSome))]) (v := (.agg #[(.int .i64 (((getM es t).getD (0, 0)).1)), (.int .i64 (((getM es t).getD (0, 0)).2))])) rfl rfl) ?_
            refine WpL_val rfl rfl (by decide) (r_extract (vs := #[(.agg #[(.int .i64 (((getM es t).getD (0, 0)).1)), (.int .i64 (((getM es t).getD (0, 0)).2))]), (.bool ((getM es t).isSome))]) (v := (.bool ((getM es t).isSome))) rfl rfl) ?_
            refine s_allocStore (v := (.agg #[(.int .i64 (((getM es t).getD (0, 0)).1)), (.int .i64 (((getM es t).getD (0, 0)).2))])) (c := #[(.int .i64 (((getM es t).getD (0, 0)).1)), (.int .i64 (((getM es t).getD (0, 0)).2))]) (n := 2) (by decide) zer90 rfl siz90 rfl rfl rfl (by simp [Value.oneCell']) ?_
            intro bz wz Nz
            have Fz := Nz.ge E
            have Oz_bq := Nz.lt Bq
            have Oz_bm := Nz.ltM Mm
            replace Bq := Nz.keep Bq
            replace Mm := Nz.keepM Mm
            replace hS := own_ext hS Nz.ext
            replace hsz := Nat.le_trans hsz Nz.ext.size
            replace E := E.ext Nz.ext
            have Bz := Nz.blk
            refine WpL_val rfl rfl (by decide) (r_assign (v := (.bool ((getM es t).isSome))) rfl) ?_
            refine WpL_nil ?_
            refine Wp_seq_region ?_
            refine WpL_val rfl rfl (by decide) (r_move (v := (.int .i64 t)) rfl) ?_
            refine WpL_val rfl rfl (by decide) (r_geq (k := .i64) (a := t) (b := 0) rfl rfl) ?_
            refine WpL_val rfl rfl (by decide) (r_move (v := (.bool (decide ((0 : Int) ≤ t)))) rfl) ?_
            rcases Bool.eq_false_or_eq_true (decide ((0 : Int) ≤ t)) with hneg | hneg
            · have khneg := hneg
              replace khneg := of_decide_eq_true khneg
              refine WpL_guard_yes (oj := _) rfl rfl (by decide) (congrArg Value.bool hneg) ?_
              refine WpL_val rfl rfl (by decide) (r_move (v := (.bool ((getM es t).isSome))) rfl) ?_
              refine WpL_guard_yes (oj := _) rfl rfl (by decide) (congrArg Value.bool hneg) ?_
              refine WpL_val rfl rfl (by decide) (r_not (b := (getM es t).isSome) rfl) ?_
              refine WpL_val rfl rfl (by decide) (r_pick (b := decide ((0 : Int) ≤ t)) (v := (.bool (!((getM es t).isSome)))) rfl (by rw [hneg]; rfl)) ?_
              refine WpL_nil ?_
              refine Wp_cond (b := !((getM es t).isSome)) rfl (fun hin1 => ?_) (fun hin1 => ?_)
              · have khin1 := hin1
                replace hin1 := by simpa using hin1
                have hnm : t ∉ work := fun h9 => by rw [← hby.keys] at h9; have h8 := getM_isSome.2 h9; rw [hin1] at h8; cases h8
                have hst9 : stpD d s x = some t := by unfold stpD; rw [htk, if_pos khneg]
                have hBn := hB.new hsi hvi (show x < c by omega) hst9 hnm
                obtain ⟨hpm, hbyn⟩ := hby.put hB.plen hsi (x := x) hnm
                have hwl2 := hB.wlen_n hsl
                refine Wp_seq_region ?_
                refine WpL_val rfl rfl (by decide) (r_move (v := (.map (some bm))) rfl) ?_
                refine WpL_val rfl rfl (by decide) (r_move (v := (.int .i64 t)) rfl) ?_
                refine WpL_val rfl rfl (by decide) (r_move (v := (.int .i64 s)) rfl) ?_
                refine WpL_val rfl rfl (by decide) (r_move (v := (.int .i64 ((x : Nat) : Int))) rfl) ?_
                refine WpL_val rfl rfl (by decide) (r_build (ps := [(0, (.int .i64 s)), (1, (.int .i64 ((x : Nat) : Int)))]) (v := (.agg #[(.int .i64 s), (.int .i64 ((x : Nat) : Int))])) rfl (by kernel_rfl)) ?_
                refine s_mapUpdate (k := t) (v := (s, ((x : Nat) : Int))) Try.underlying91 (keyInt Try.underlying3) Mm rfl rfl rfl ?_
                intro w13 S13 H13
                replace hS := own_chg hS S13.chg fun b hb h => by have := (hS.lt b hb).1; have h' : b = bm := h; omega
                replace hsz := Nat.le_trans hsz S13.chg.size
                replace Bq := S13.keep (by omega) Bq
                replace Bz := S13.keep (by omega) Bz
                replace E := S13.step E (by first | exact Or.inl (by omega) | exact Or.inr rfl | exact Or.inr (by assumption) | exact Or.inr (by simp) | exact Or.inr (by omega) | exact Or.inr (by dsimp only; omega))
                replace Mm := H13
                refine WpL_nil ?_
                refine Wp_region ?_
                refine WpL_val rfl rfl (by decide) (r_move (v := (.slice sa sn sc2)) rfl) ?_
                refine WpL_val rfl rfl (by decide) (r_move (v := (.int .i64 t)) rfl) ?_
                refine s_buildSlice (ps := [(0, (.int .i64 t))]) (c := #[(.int .i64 t)]) (by decide) rfl Try.underlying22 siz3 zer3 (by decide) (by decide) (by kernel_rfl) ?_
                intro b14 w14 N14
                have F14 := N14.ge E
                have O14_bq := N14.lt Bq
                have O14_bm := N14.ltM Mm
                have O14_bz := N14.lt Bz
                replace Bq := N14.keep Bq
                replace Mm := N14.keepM Mm
                replace Bz := N14.keep Bz
                replace hS := own_ext hS N14.ext
                replace hsz := Nat.le_trans hsz N14.ext.size
                replace E := E.ext N14.ext
                have B14 := N14.blk
                refine s_append (base := n1) (n := sn) (m := 1) (xs := (work.map (Value.int .i64))) (news := [(.int .i64 t)]) (size := 1) (bytes := 8) (v := (.slice sa sn sc2)) (by decide) Try.underlying22 siz3 byt3 zer3 rfl (by decide) rfl hS rfl (rfl) (B14.cells rfl) (by simp [Value.oneCell']) (by unfold maxLen; omega) (by omega) (hsz) ?_
                intro v7 w59 Ov7 Cv7 Dv7
                replace Bq := Cv7.keep (fun h => by have := (hS.lt _ h).1; omega) Bq
                replace Mm := Cv7.keepM (fun h => by have := (hS.lt _ h).1; omega) Mm
                replace E := E.step Cv7 (fun x hx h => absurd (hS.lt x h).1 (by omega))
                obtain ⟨sa3, sc3, rfl⟩ := own_form Ov7
                rw [hpm] at Mm
                refine WpL_val rfl rfl (by decide) (r_assign (v := (.slice sa3 (sn + 1) sc3)) rfl) ?_
                refine WpL_nil ?_
                refine inB_normal ?_
                refine thn_normal ?_
                refine Wp_region ?_
                refine WpL_val rfl rfl (by decide) (r_add (k := .i64) (a := ((x : Nat) : Int)) (b := 1) (c := ((x : Nat) : Int) + 1) rfl rfl (wI64 (by omega))) ?_
                refine WpL_val rfl rfl (by decide) (r_move (v := (.int .i64 (((x : Nat) : Int) + 1))) rfl) ?_
                refine WpL_nil ?_
                refine thn_normal ?_
                exact ⟨c - (x + 1), by omega, x + 1, work ++ [t], wd ++ [v ++ [x]], ps ++ [(i, x)], es ++ [(t, (s, ((x : Nat) : Int)))], sa3, sc3, (sn + 1), Fits.out ⟨rfl, rfl, rfl, rfl, rfl, rfl, rfl, rfl, trivial⟩, E, Bq, Mm, (by omega), hBn, hbyn, (fun j t9 hj ht9 => hno j t9 hj (by rwa [List.getElem?_append_left (by have := lt_of_get hsi; omega)] at ht9)), (fun t9 h9 => by rcases List.mem_append.1 h9 with h8 | h8; exact hsl t9 h8; rw [List.mem_singleton] at h8; omega), wk_snoc hsi t, (by rw [List.getElem?_append_left (lt_of_get hvi)]; exact hvi), (by simp [hsn]), (by rw [List.map_append]; exact Ov7), Nat.le_trans hsz Cv7.size, rfl⟩
              · have khin1 := hin1
                replace hin1 := by simpa using hin1
                have hmm : t ∈ work := by have h9 : (getM es t).isSome = true := (by simpa using hin1); rw [← hby.keys]; exact getM_isSome.1 h9
                have hst9 : stpD d s x = some t := by unfold stpD; rw [htk, if_pos khneg]
                refine Wp_skip ?_
                refine inB_normal ?_
                refine thn_normal ?_
                refine Wp_region ?_
                refine WpL_val rfl rfl (by decide) (r_add (k := .i64) (a := ((x : Nat) : Int)) (b := 1) (c := ((x : Nat) : Int) + 1) rfl rfl (wI64 (by omega))) ?_
                refine WpL_val rfl rfl (by decide) (r_move (v := (.int .i64 (((x : Nat) : Int) + 1))) rfl) ?_
                refine WpL_nil ?_
                refine thn_normal ?_
                exact ⟨c - (x + 1), by omega, x + 1, work, wd, ps, es, sa, sc2, sn, Fits.out ⟨rfl, rfl, rfl, rfl, rfl, rfl, rfl, rfl, trivial⟩, E, Bq, Mm, (by omega), hB.old hsi hst9 hmm, hby, hno, hsl, hsi, hvi, hsn, hS, hsz, rfl⟩
            · have khneg := hneg
              replace khneg := of_decide_eq_false khneg
              have hst9 : stpD d s x = none := by unfold stpD; rw [htk, if_neg khneg]
              refine WpL_guard_no (oj := _) rfl rfl (by decide) (v := .bool false) (congrArg Value.bool hneg) (Or.inl rfl) ?_
              refine WpL_guard_no (oj := _) rfl rfl (by decide) (v := .bool false) (congrArg Value.bool hneg) (Or.inl rfl) ?_
              refine WpL_val rfl rfl (by decide) (r_pick (b := decide ((0 : Int) ≤ t)) (v := (.bool false)) rfl (by rw [hneg]; rfl)) ?_
              refine WpL_nil ?_
              refine Wp_cond_false rfl ?_
              refine Wp_skip ?_
              refine inB_normal ?_
              refine thn_normal ?_
              refine Wp_region ?_
              refine WpL_val rfl rfl (by decide) (r_add (k := .i64) (a := ((x : Nat) : Int)) (b := 1) (c := ((x : Nat) : Int) + 1) rfl rfl (wI64 (by omega))) ?_
              refine WpL_val rfl rfl (by decide) (r_move (v := (.int .i64 (((x : Nat) : Int) + 1))) rfl) ?_
              refine WpL_nil ?_
              refine thn_normal ?_
              exact ⟨c - (x + 1), by omega, x + 1, work, wd, ps, es, sa, sc2, sn, Fits.out ⟨rfl, rfl, rfl, rfl, rfl, rfl, rfl, rfl, trivial⟩, E, Bq, Mm, (by omega), hB.none hsi hst9, hby, hno, hsl, hsi, hvi, hsn, hS, hsz, rfl⟩
          · have khlt2 := hlt2
            replace hlt2 := of_decide_eq_false hlt2
            have hxc : x = c := by omega
            rw [hxc] at hB
            have hil := lt_of_get hsi
            refine Wp_exit ?_
            refine thn_exit ?_
            refine thn_exit ?_
            refine inB_here ?_
            refine inB_normal ?_
            refine thn_normal ?_
            refine Wp_region ?_
            refine WpL_val rfl rfl (by decide) (r_move (v := (.int .i64 ((i : Nat) : Int))) rfl) ?_
            refine WpL_val rfl rfl (by decide) (r_add (k := .i64) (a := ((i : Nat) : Int)) (b := 1) (c := ((i : Nat) : Int) + 1) rfl rfl (wI64 (by omega))) ?_
            refine WpL_val rfl rfl (by decide) (r_assign (v := (.int .i64 (((i : Nat) : Int) + 1))) rfl) ?_
            refine WpL_nil ?_
            refine thn_normal ?_
            exact ⟨n - (i + 1), by omega, i + 1, work, wd, ps, es, sa, sc2, sn, Fits.out ⟨rfl, rfl, rfl, rfl, trivial⟩, E, Bq, Mm, hB.row, hby, hno, hsl, hsn, (by omega), hS, hsz, rfl⟩
    · have khlt := hlt
      replace hlt := of_decide_eq_false hlt
      refine Wp_exit ?_
      refine thn_exit ?_
      refine thn_exit ?_
      refine inB_here ?_
      refine thn_normal ?_
      refine Wp_seq_region ?_
      refine WpL_val rfl rfl (by decide) (r_assign (v := (.slice none 0 0)) rfl) ?_
      refine WpL_val rfl rfl (by decide) (r_assign (v := (.bool false)) rfl) ?_
      refine WpL_val rfl rfl (by decide) (r_assign (v := (.int .i64 0)) rfl) ?_
      refine WpL_nil ?_
      refine Wp_ret ?_
      refine fin_tmp3 Try.results30 (v := (.slice none 0 0)) (v' := (.bool false)) (v'' := (.int .i64 0)) rfl rfl rfl ?_
      exact ⟨.inr ⟨rfl, hB.never (by omega) hno⟩, E⟩
end Go.Proofs
