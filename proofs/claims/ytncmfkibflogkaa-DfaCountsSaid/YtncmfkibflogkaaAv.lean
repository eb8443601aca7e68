/- parlkeep1.plain, walked. -/
import Derived.Test.YtncmfkibflogkaaAu
import Derived.Test.YtncmfkibflogkaaWm
namespace Go.Proofs
open Go Go.Eng Go.Sort
set_option maxRecDepth 100000

def mapS {α : Type} (f : α → α) (l : List α) (s : Nat) : List α := (l.take s).map f ++ l.drop s
theorem mapS_zero {α : Type} (f : α → α) (l : List α) : mapS f l 0 = l := by simp [mapS]
theorem mapS_all {α : Type} (f : α → α) (l : List α) : mapS f l l.length = l.map f := by simp [mapS]
theorem mapS_get {α : Type} {f : α → α} {l : List α} {s : Nat} {x : α} (h : l[s]? = some x) : (mapS f l s)[s]? = some x := by
  have hx := lt_of_get h
  rw [mapS, List.getElem?_append_right (by simp; omega)]
  simp only [List.length_map, List.length_take, List.getElem?_drop]
  rw [show s + (s - min s l.length) = s by omega, h]
theorem mapS_set {α : Type} {f : α → α} {l : List α} {s : Nat} {x : α} (h : l[s]? = some x) : (mapS f l s).set s (f x) = mapS f l (s + 1) := by
  have hx := lt_of_get h
  have e : l[s] = x := by rw [List.getElem?_eq_getElem hx] at h; simpa using h
  rw [mapS, mapS, List.take_add_one, h, List.drop_eq_getElem_cons hx, e, List.set_append_right _ _ (by simp; omega)]
  simp only [List.length_map, List.length_take, List.map_append, Option.toList_some, List.map_cons, List.map_nil]
  rw [show s - min s l.length = 0 by omega]
  simp
theorem mapS_len {α : Type} (f : α → α) (l : List α) (s : Nat) : (mapS f l s).length = l.length := by simp [mapS]; omega
def min0 (x : Int) : Int := min x 0
def padR (m : Nat) (r : List Int) : List Int := r ++ List.replicate (m - r.length) (-1)
def plD (m : Nat) (d : Dfa) : Dfa := ⟨d.start, d.accept.map min0, d.next.map (padR m)⟩
theorem plD_ok {n c m : Nat} {d : Dfa} (h : okDfa n c d) (hm : c ≤ m) (h1 : 1 ≤ n) : OkD n m (plD m d) ∧ ∀ x ∈ (plD m d).accept, x ≤ 0 := by
  obtain ⟨h1, h2, h3, h4, h5⟩ := h
  refine ⟨⟨by simp [plD, h1], by simp [plD, h2], h3, fun x hx => ?_, fun r hr => ?_⟩, fun x hx => ?_⟩
  · obtain ⟨y, hy, rfl⟩ := List.mem_map.1 hx
    have := h4 y hy
    unfold min0; omega
  · obtain ⟨q, hq, rfl⟩ := List.mem_map.1 hr
    have h6 := h5 q hq
    refine ⟨by simp [padR]; omega, fun x hx => ?_⟩
    rcases List.mem_append.1 hx with h7 | h7
    · exact h6.2 x h7
    · rw [List.eq_of_mem_replicate h7]; omega
  · obtain ⟨y, hy, rfl⟩ := List.mem_map.1 hx
    unfold min0; omega
theorem MStP.setA {base top n ca kn ga i : Nat} {vals : List Value} {D : Nat → Prop} {w w' : World} {vn : Value} {acc : List Int} {rows : List (List Int)} {cur : Array Value} {y : Int} (h : MStP base top vals D w (.slice (some ⟨ga, 0, none⟩) n ca) vn n kn acc rows) (hB : Blk w ga cur TI) (hi : i < n) (P : Put w w' ga (cur.setIfInBounds i (.int .i64 y)) TI) :
    MStP base top vals D w' (.slice (some ⟨ga, 0, none⟩) n ca) vn n kn (acc.set i y) rows := by
  obtain ⟨h1, h2, h3, h4, h5, h6, h7, h8⟩ := h
  refine ⟨by rw [List.map_set]; exact own_writeG h1 hB (by omega) P.blk, own_chg h2 P.chg (fun q hq e => h5 ga rfl (by have e' : q = ga := e; rw [← e']; exact hq)), h3, fun i u l hu hl => (h4 i u l hu hl).chg P.chg (fun y hy e => (h6 y hy).2.1 (by have e' : y = ga := e; rw [e']; rfl)), h5, h6, h7, Nat.le_trans h8 P.chg.size⟩
theorem MStP.setN {base top n cn ka gn i b : Nat} {vals : List Value} {D : Nat → Prop} {w w' : World} {va u : Value} {acc row : List Int} {rows : List (List Int)} {cur : Array Value} (h : MStP base top vals D w va (.slice (some ⟨gn, 0, none⟩) n cn) ka n acc rows) (hB : Blk w gn cur TL) (hi : i < n) (P : Put w w' gn (cur.setIfInBounds i u) TL) (hu : SlIn (fun y => y = b) w 1 u (row.map intV)) (hb : top ≤ b ∧ b < w.heap.size) (hbb : base ≤ b) :
    MStP base w.heap.size (vals.set i u) (fun y => D y ∨ y = b) w' va (.slice (some ⟨gn, 0, none⟩) n cn) ka n acc (rows.set i row) := by
  obtain ⟨h1, h2, h3, h4, h5, h6, h7, h8⟩ := h
  have hg := h7 gn (.inr rfl)
  refine ⟨own_chg h1 P.chg (fun q hq e => h5 q hq (by have e' : q = gn := e; rw [e']; rfl)), own_writeG h2 hB (by omega) P.blk, by simp [h3], fun j v l hv hl => ?_, h5, fun y hy => ?_, fun y hy => by have := h7 y hy; omega, P.chg.size⟩
  · rw [List.getElem?_set] at hv hl
    by_cases hj : i = j
    · subst hj
      rw [if_pos rfl] at hv hl
      split at hv
      · split at hl
        · cases hv; cases hl
          exact (hu.chg P.chg (fun y hy e => by have e' : y = gn := e; have hy' : y = b := hy; omega)).mono fun y hy => .inr hy
        · cases hl
      · cases hv
    · rw [if_neg hj] at hv hl
      exact ((h4 j v l hv hl).chg P.chg (fun y hy e => (h6 y hy).2.2 (by have e' : y = gn := e; rw [e']; rfl))).mono fun y hy => .inl hy
  · rcases hy with hy | hy
    · have := h6 y hy
      exact ⟨⟨this.1.1, by omega⟩, this.2⟩
    · subst hy
      exact ⟨⟨hbb, hb.2⟩, fun e => by have := h7 y (.inl e); omega, fun e => by have := h7 y (.inr e); omega⟩
theorem MStP.chg {base top ka kn : Nat} {vals : List Value} {D M : Nat → Prop} {w w' : World} {va vn : Value} {acc : List Int} {rows : List (List Int)} (c : Chg M w w') (hM : ∀ y, M y → y < base ∨ top ≤ y) (h : MStP base top vals D w va vn ka kn acc rows) : MStP base top vals D w' va vn ka kn acc rows := by
  obtain ⟨h1, h2, h3, h4, h5, h6, h7, h8⟩ := h
  have hb : ∀ y, base ≤ y → y < top → ¬ M y := fun y h hlt hm => by have := hM y hm; omega
  exact ⟨own_chg h1 c (fun q hq => hb q (h1.lt q hq).1 (h7 q (.inl hq))), own_chg h2 c (fun q hq => hb q (h2.lt q hq).1 (h7 q (.inr hq))), h3, fun i u l hu hl => (h4 i u l hu hl).chg c (fun y hy => hb y (h6 y hy).1.1 (h6 y hy).1.2), h5, h6, h7, Nat.le_trans h8 c.size⟩
theorem MStP.ext {base top ka kn : Nat} {vals : List Value} {D : Nat → Prop} {w w' : World} {va vn : Value} {acc : List Int} {rows : List (List Int)} (c : Ext w w') (h : MStP base top vals D w va vn ka kn acc rows) : MStP base top vals D w' va vn ka kn acc rows := MStP.chg c (fun _ f => f.elim) h
theorem MStP.row {base top n nc c ka : Nat} {vals : List Value} {D : Nat → Prop} {w : World} {va : Value} {acc row : List Int} {rows : List (List Int)} {gn s : Nat} (h : MStP base top vals D w va (.slice (some ⟨gn, 0, none⟩) n nc) ka n acc rows) (hr : rows[s]? = some row) (hn : rows.length = n) (hl : row.length = c) (hc : 0 < c) :
    ∃ rb ro rc, vals[s]? = some (.slice (some ⟨rb, ro, none⟩) c rc) ∧ w.cell? ⟨gn, 0 + s, none⟩ = some (.slice (some ⟨rb, ro, none⟩) c rc) ∧ CellsAt w rb ro (row.map (Value.int .i64)) := by
  obtain ⟨h1, h2, h3, h4, h5, h6, h7, h8⟩ := h
  have hsl := lt_of_get hr
  obtain ⟨u, hu⟩ := get_of_lt (l := vals) (i := s) (by omega)
  have hs := (h4 s u row hu hr).at
  obtain ⟨ra, rc, rfl⟩ := SlAt.form hs
  simp only [List.length_map] at hs hu
  rw [hl] at hs hu
  obtain ⟨rb, ro, rfl, hx⟩ := ints_cells hs hc
  obtain ⟨g9, hg9, _, hca⟩ := own_cells h2 (by omega)
  simp only [Option.some.injEq, Addr.mk.injEq, and_true] at hg9
  subst hg9
  refine ⟨rb, ro, rc, hu, hca s _ hu, fun j v hv => ?_⟩
  rw [List.getElem?_map] at hv
  cases hj : row[j]? with
  | none => rw [hj] at hv; cases hv
  | some y => rw [hj] at hv; simp only [Option.map_some, Option.some.injEq] at hv; subst hv; exact hx j y hj
theorem MSt.own {base top n : Nat} {w : World} {va vn : Value} {acc : List Int} {rows : List (List Int)} {aa na : Option Addr} {ac nc : Nat} (h : MSt base top w (.slice aa n ac) (.slice na n nc) n n acc rows) (hn : 0 < n) : ∃ ga gn, aa = some ⟨ga, 0, none⟩ ∧ na = some ⟨gn, 0, none⟩ ∧ base ≤ ga ∧ base ≤ gn ∧ ga < top ∧ gn < top ∧ ga ≠ gn := by
  obtain ⟨vals, D, h1, h2, h3, h4, h5, h6, h7, h8⟩ := h
  obtain ⟨ga, rfl, hg1, _⟩ := own_cells h1 hn
  obtain ⟨gn, rfl, hg2, _⟩ := own_cells h2 hn
  exact ⟨ga, gn, rfl, rfl, hg1, hg2, h7 ga (.inl rfl), h7 gn (.inr rfl), fun e => h5 ga rfl (by rw [e]; rfl)⟩
theorem mkDfa_o (w0 : World) (v : Value) (l : List Int) (hl : IntsAt w0 v l) : Ret Try.prog 36 #[v] w0 fun r w => ∃ n c d ga ac gn nc base top, (1 ≤ n ∧ n ≤ 6) ∧ (1 ≤ c ∧ c ≤ 3) ∧ okDfa n c d ∧ r = .agg #[.int .i64 d.start, .slice (some ⟨ga, 0, none⟩) n ac, .slice (some ⟨gn, 0, none⟩) n nc] ∧ (w0.heap.size ≤ base ∧ base ≤ ga ∧ base ≤ gn ∧ ga < top ∧ gn < top ∧ ga ≠ gn ∧ top ≤ w.heap.size) ∧ MSt base top w (.slice (some ⟨ga, 0, none⟩) n ac) (.slice (some ⟨gn, 0, none⟩) n nc) n n d.accept d.next ∧ Ext w0 w :=
  (mkDfa_m w0 v l hl).mono fun r w h => by
    obtain ⟨n, c, d, aa, ac, na, nc, base, top, h1, h2, h3, h4, h5, h6, h7⟩ := h
    obtain ⟨ga, gn, rfl, rfl, g1, g2, g3, g4, g5⟩ := MSt.own (va := undef) (vn := undef) h6 (by omega)
    exact ⟨n, c, d, ga, ac, gn, nc, base, top, h1, h2, h3, h4, ⟨h5, g1, g2, g3, g4, g5, h6.choose_spec.choose_spec.2.2.2.2.2.2.2⟩, h6, h7⟩
theorem pad_copy {row : List Int} {m : Nat} (h : row.length ≤ m) : ((((List.replicate m (-1 : Int)).map (Value.int .i64)).toArray).toList.take 0 ++ row.map (Value.int .i64) ++ (((List.replicate m (-1 : Int)).map (Value.int .i64)).toArray).toList.drop (0 + (row.map (Value.int .i64)).length)).toArray = ((padR m row).map (Value.int .i64)).toArray := by
  simp [padR]
set_option maxHeartbeats 4000000 in
theorem plain_c (w0 : World) (v : Value) (l : List Int) (hl : IntsAt w0 v l) :
    Ret Try.prog 21 #[v, .int .i64 3] w0 fun r w => (∃ n d vs, (1 ≤ n ∧ n ≤ 6) ∧ OkD n 3 d ∧ (∀ x ∈ d.accept, x ≤ 0) ∧ r = .agg vs.toArray ∧ DfaAt w d vs) ∧ Ext w0 w := by
  obtain ⟨a0, c0, rfl⟩ := SlAt.form hl
  simp only [List.length_map] at hl ⊢
  refine Ret_of Try.func21 rfl Try.ntmps21 (Nat.le_of_ble_eq_true rfl) ?_
  have E : Chg none1 w0 w0 := Chg.refl _ _
  refine Wp_seq_region ?_
  refine s_alloc (c := #[(.int .i64 0), (.slice none 0 0), (.slice none 0 0)]) (by decide) zer25 rfl ?_
  intro br wr Nr
  have Fr := Nr.ge E
  replace E := E.ext Nr.ext
  have Br := Nr.blk
  refine WpL_nil ?_
  refine Wp_seq_region ?_
  refine WpL_val rfl rfl (by decide) (r_move (v := (.slice a0 l.length c0)) rfl) ?_
  have hbr := Br.lt
  refine WpL_enter rfl rfl (by decide) (r_callF (vs := [(.slice a0 l.length c0)]) Try.func36 nm36 bd36 rfl) (mkDfa_o _ _ l (hl.ext E)) ?_
  rintro _ w9 ⟨n, c, d, ga, ac, gn, nc, base, top0, hn, hc, hok, rfl, hgs, hM, X9⟩
  replace Br := X9.keep Br
  replace E := E.ext X9
  obtain ⟨hok1, hok2, hok3, hok4, hok5⟩ := id hok
  refine s_allocStore (v := (.agg #[(.int .i64 d.start), (.slice (some ⟨ga, 0, none⟩) n ac), (.slice (some ⟨gn, 0, none⟩) n nc)])) (c := #[(.int .i64 d.start), (.slice (some ⟨ga, 0, none⟩) n ac), (.slice (some ⟨gn, 0, none⟩) n nc)]) (n := 3) (by decide) zer25 rfl siz25 rfl rfl rfl (by simp [Value.oneCell']) ?_
  intro bq wq Nq
  have Fq := Nq.ge E
  have Oq_br := Nq.lt Br
  replace Br := Nq.keep Br
  replace hM := hM.ext Nq.ext
  replace E := E.ext Nq.ext
  have Bq := Nq.blk
  refine WpL_nil ?_
  refine Wp_seq ?_
  refine Wp_seq_region ?_
  refine WpL_val rfl rfl (by decide) (r_fieldAddr (b := bq) (o := 0) (o' := 2) rfl Try.underlying25 rfl siz23 rfl) ?_
  refine WpL_val rfl rfl (by decide) (r_load (v := (.slice (some ⟨gn, 0, none⟩) n nc)) rfl flat23 (Bq.cell rfl)) ?_
  refine WpL_val rfl rfl (by decide) (r_lenSlice (ad := some ⟨gn, 0, none⟩) (n := n) (cap := nc) Try.underlying23 rfl) ?_
  refine WpL_val rfl rfl (by decide) (r_move (v := (.int .i64 0)) rfl) ?_
  refine WpL_nil ?_
  refine Wp_block ?_
  have hbq : top0 ≤ bq := by have := Nq.eq; omega
  refine Wp_loop (fun nn_ σ W1 => ∃ (s top : Nat) (acc : List Int) (rows : List (List Int)), (∃ jj_, σ = upds jj_ [(1, (.int .i64 3)), (4, (.pointer (some ⟨br, 0, none⟩))), (5, (.pointer (some ⟨bq, 0, none⟩))), (12, (.int .i64 ((n : Nat) : Int))), (13, (.int .i64 ((s : Nat) : Int)))]) ∧ Chg none1 w0 W1 ∧ Blk W1 br #[(.int .i64 0), (.slice none 0 0), (.slice none 0 0)] 25 ∧ Blk W1 bq #[(.int .i64 d.start), (.slice (some ⟨ga, 0, none⟩) n ac), (.slice (some ⟨gn, 0, none⟩) n nc)] 25 ∧ (s ≤ n) ∧ (acc = mapS min0 d.accept s) ∧ (rows = mapS (padR 3) d.next s) ∧ (MSt base top W1 (.slice (some ⟨ga, 0, none⟩) n ac) (.slice (some ⟨gn, 0, none⟩) n nc) n n acc rows) ∧ nn_ = n - s) (n := n - 0) ?_ ?_
  · exact ⟨0, top0, d.accept, d.next, Fits.out ⟨rfl, rfl, rfl, rfl, rfl, trivial⟩, E, Br, Bq, Nat.zero_le _, (mapS_zero _ _).symm, (mapS_zero _ _).symm, hM, rfl⟩
  · clear E Br Bq
    rintro _ _ W1 ⟨s, top, acc, rows, ⟨j1, rfl⟩, E, Br, Bq, hs, hacc, hrows, hM, rfl⟩
    refine Wp_seq_region ?_
    refine WpL_val rfl rfl (by decide) (r_lss (k := .i64) (a := ((s : Nat) : Int)) (b := ((n : Nat) : Int)) rfl rfl) ?_
    refine WpL_nil ?_
    refine Wp_seq ?_
    refine Wp_cond (b := decide ((((s : Nat) : Int) : Int) < ((n : Nat) : Int))) rfl (fun hlt => ?_) (fun hlt => ?_)
    · have khlt := hlt
      replace hlt := of_decide_eq_true hlt
      obtain ⟨vals, D, hMP0⟩ := hM
      have hMP : MStP base top vals D (W1) (.slice (some ⟨ga, 0, none⟩) n ac) (.slice (some ⟨gn, 0, none⟩) n nc) n n acc rows := hMP0
      clear hMP0
      obtain ⟨x, hx⟩ := get_of_lt (l := d.accept) (i := s) (by omega)
      obtain ⟨row, hrow⟩ := get_of_lt (l := d.next) (i := s) (by omega)
      have hxa : acc[s]? = some x := by rw [hacc]; exact mapS_get hx
      have hxr : rows[s]? = some row := by rw [hrows]; exact mapS_get hrow
      have hrl := (hok5 row (List.mem_of_getElem? hrow)).1
      obtain ⟨cur, hBa, hcs⟩ := own_blkG hMP.1
      have hbg : br < ga ∧ ga < bq ∧ br < gn ∧ gn < bq := by omega
      obtain ⟨g9, hg9, _, hca⟩ := own_cells hMP.1 (by omega)
      simp only [Option.some.injEq, Addr.mk.injEq, and_true] at hg9
      subst hg9
      have hcx := hca s (.int .i64 x) (by rw [List.getElem?_map, hxa]; rfl)
      refine Wp_skip ?_
      refine thn_normal ?_
      refine Wp_seq ?_
      refine Wp_block ?_
      refine Wp_seq_region ?_
      refine WpL_val rfl rfl (by decide) (r_move (v := (.int .i64 ((s : Nat) : Int))) rfl) ?_
      refine WpL_val rfl rfl (by decide) (r_assign (v := (.int .i64 ((s : Nat) : Int))) rfl) ?_
      refine WpL_nil ?_
      refine Wp_seq_draw 10 mixed (by kernel_rfl) ?_
      intro w3 X3 _
      replace Br := X3.keep Br
      replace Bq := X3.keep Bq
      replace hBa := X3.keep hBa
      replace hMP := MStP.ext X3 hMP
      replace hcx := X3.cell hcx
      replace E := E.ext X3
      refine WpT_val rfl rfl (by decide) (r_fieldAddr (b := bq) (o := 0) (o' := 1) rfl Try.underlying25 rfl siz22 rfl) ?_
      refine WpT_val rfl rfl (by decide) (r_load (v := (.slice (some ⟨ga, 0, none⟩) n ac)) rfl flat22 (Bq.cell rfl)) ?_
      refine WpT_val rfl rfl (by decide) (r_move (v := (.int .i64 ((s : Nat) : Int))) rfl) ?_
      refine WpT_val rfl rfl (by decide) (r_fieldAddr (b := bq) (o := 0) (o' := 1) rfl Try.underlying25 rfl siz22 rfl) ?_
      refine WpT_val rfl rfl (by decide) (r_load (v := (.slice (some ⟨ga, 0, none⟩) n ac)) rfl flat22 (Bq.cell rfl)) ?_
      refine WpT_val rfl rfl (by decide) (r_move (v := (.int .i64 ((s : Nat) : Int))) rfl) ?_
      refine WpT_val rfl rfl (by decide) (r_indexSlice (b := ga) (o := 0) (len := n) (cap := ac) (i := s) (o' := 0 + s) rfl rfl rfl Try.underlying22 siz3 (by omega) (by omega)) ?_
      refine WpT_val rfl rfl (by decide) (r_load (v := (.int .i64 x)) rfl flat3 (hcx)) ?_
      refine WpT_val rfl rfl (by decide) (r_minI (k := .i64) (a := x) (b := 0) (c := min0 x) rfl rfl rfl) ?_
      refine WpT_val rfl rfl (by decide) (r_indexSlice (b := ga) (o := 0) (len := n) (cap := ac) (i := s) (o' := 0 + s) rfl rfl rfl Try.underlying22 siz3 (by omega) (by omega)) ?_
      refine WpT_zero ?_
      have hB0 := hBa
      have hPx : True := trivial
      refine s_store (b := ga) (o := 0 + s) (c' := cur.setIfInBounds (0 + s) (.int .i64 (min0 x))) (v := (.int .i64 (min0 x))) rfl rfl rfl siz3 hBa (by omega) (rfl) ?_
      intro w4 S4
      replace hPx := S4
      replace Br := S4.keep (by omega) Br
      replace Bq := S4.keep (by omega) Bq
      replace E := S4.step E (by first | exact Or.inl (by omega) | exact Or.inr rfl | exact Or.inr (by assumption) | exact Or.inr (by simp) | exact Or.inr (by omega) | exact Or.inr (by dsimp only; omega))
      replace hBa := S4.blk
      have hMQ := hMP.setA hB0 (i := 0 + s) (by omega) hPx
      rw [Nat.zero_add, hacc, mapS_set hx] at hMQ
      refine WpL_nil ?_
      refine Wp_seq_region ?_
      refine s_buildSlice (ps := [(0, (.int .i64 (-1)))]) (c := #[(.int .i64 (-1))]) (by decide) rfl Try.underlying22 siz3 zer3 (by decide) (by decide) (by kernel_rfl) ?_
      intro be we Ne
      have Fe := Ne.ge E
      have Oe_br := Ne.lt Br
      have Oe_bq := Ne.lt Bq
      replace Br := Ne.keep Br
      replace Bq := Ne.keep Bq
      replace hMQ := MStP.ext Ne.ext hMQ
      replace E := E.ext Ne.ext
      have Be := Ne.blk
      refine WpL_val rfl rfl (by decide) (r_move (v := (.int .i64 3)) rfl) ?_
      have hT9 : top ≤ (we).heap.size ∧ bq < (we).heap.size := ⟨hMQ.2.2.2.2.2.2.2, Bq.lt⟩
      refine WpL_enter rfl rfl (by decide) (r_callF (vs := [(.slice (some ⟨be, 0, none⟩) 1 1), (.int .i64 3)]) Try.func55 nm55 bd55 rfl) (repeat_c _ be 1 3 (-1) _ Be (by decide) (by decide)) ?_
      rintro _ w19 ⟨⟨g, rfl, hg, hG⟩, X19⟩
      replace Br := X19.keep Br
      replace Bq := X19.keep Bq
      replace Be := X19.keep Be
      replace hMQ := MStP.ext X19 hMQ
      replace E := E.ext X19
      have htg : top ≤ g ∧ bq < g := ⟨by omega, by omega⟩
      obtain ⟨rb, ro, rc, hu, hcell, hrc⟩ := hMQ.row hxr (by rw [hrows, mapS_len, hok1]) hrl (by omega)
      refine WpL_val rfl rfl (by decide) (r_assign (v := (.slice (some ⟨g, 0, none⟩) 3 3)) rfl) ?_
      refine WpL_nil ?_
      refine Wp_seq_region ?_
      refine WpL_val rfl rfl (by decide) (r_move (v := (.slice (some ⟨g, 0, none⟩) 3 3)) rfl) ?_
      refine WpL_val rfl rfl (by decide) (r_fieldAddr (b := bq) (o := 0) (o' := 2) rfl Try.underlying25 rfl siz23 rfl) ?_
      refine WpL_val rfl rfl (by decide) (r_load (v := (.slice (some ⟨gn, 0, none⟩) n nc)) rfl flat23 (Bq.cell rfl)) ?_
      refine WpL_val rfl rfl (by decide) (r_move (v := (.int .i64 ((s : Nat) : Int))) rfl) ?_
      refine WpL_val rfl rfl (by decide) (r_indexSlice (b := gn) (o := 0) (len := n) (cap := nc) (i := s) (o' := 0 + s) rfl rfl rfl Try.underlying23 siz22 (by omega) (by omega)) ?_
      refine WpL_val rfl rfl (by decide) (r_load (v := (.slice (some ⟨rb, ro, none⟩) c rc)) rfl flat22 (hcell)) ?_
      refine s_copy (g := g) (o := 0) (cs := row.map (Value.int .i64)) (c' := ((padR 3 row).map (Value.int .i64)).toArray) (by decide) Try.underlying22 siz3 rfl rfl hG (hrc) (by rw [List.length_map, hrl]; simp only [Nat.min_def]; split <;> omega) (by simp [hrl]; omega) (by intro v hv; obtain ⟨y, _, rfl⟩ := List.mem_map.1 hv; rfl) (pad_copy (by omega)) ?_
      intro w5 S5
      replace hMQ := MStP.chg S5.chg (fun y h => .inr (by have h' : y = g := h; omega)) hMQ
      replace Br := S5.keep (by omega) Br
      replace Bq := S5.keep (by omega) Bq
      replace E := S5.step E (by first | exact Or.inl (by omega) | exact Or.inr rfl | exact Or.inr (by assumption) | exact Or.inr (by simp) | exact Or.inr (by omega) | exact Or.inr (by dsimp only; omega))
      replace hG := S5.blk
      obtain ⟨curN, hBn, hcsN⟩ := own_blkG hMQ.2.1
      have hB1 := hBn
      have hPy : True := trivial
      have hgl := hG.lt
      have hGi : SlIn (fun y => y = g) (w5) 1 (.slice (some ⟨g, 0, none⟩) 3 3) ((padR 3 row).map intV) := SlIn.mk (blk_ints hG (by simp [padR]; omega)) rfl
      refine WpL_nil ?_
      refine Wp_region ?_
      refine WpL_val rfl rfl (by decide) (r_fieldAddr (b := bq) (o := 0) (o' := 2) rfl Try.underlying25 rfl siz23 rfl) ?_
      refine WpL_val rfl rfl (by decide) (r_load (v := (.slice (some ⟨gn, 0, none⟩) n nc)) rfl flat23 (Bq.cell rfl)) ?_
      refine WpL_val rfl rfl (by decide) (r_move (v := (.int .i64 ((s : Nat) : Int))) rfl) ?_
      refine WpL_val rfl rfl (by decide) (r_move (v := (.slice (some ⟨g, 0, none⟩) 3 3)) rfl) ?_
      refine WpL_val rfl rfl (by decide) (r_indexSlice (b := gn) (o := 0) (len := n) (cap := nc) (i := s) (o' := 0 + s) rfl rfl rfl Try.underlying23 siz22 (by omega) (by omega)) ?_
      refine s_store (b := gn) (o := 0 + s) (c' := curN.setIfInBounds (0 + s) (.slice (some ⟨g, 0, none⟩) 3 3)) (v := (.slice (some ⟨g, 0, none⟩) 3 3)) rfl rfl rfl siz22 hBn (by omega) (rfl) ?_
      intro w6 S6
      replace hPy := S6
      replace Br := S6.keep (by omega) Br
      replace Bq := S6.keep (by omega) Bq
      replace hG := S6.keep (by omega) hG
      replace E := S6.step E (by first | exact Or.inl (by omega) | exact Or.inr rfl | exact Or.inr (by assumption) | exact Or.inr (by simp) | exact Or.inr (by omega) | exact Or.inr (by dsimp only; omega))
      replace hBn := S6.blk
      have hMR := hMQ.setN hB1 (i := 0 + s) (by omega) hPy hGi ⟨htg.1, hgl⟩ (by omega)
      rw [Nat.zero_add, hrows, mapS_set hrow] at hMR
      refine WpL_nil ?_
      refine inB_normal ?_
      refine thn_normal ?_
      refine Wp_region ?_
      refine WpL_val rfl rfl (by decide) (r_add (k := .i64) (a := ((s : Nat) : Int)) (b := 1) (c := ((s : Nat) : Int) + 1) rfl rfl (wI64 (by omega))) ?_
      refine WpL_val rfl rfl (by decide) (r_move (v := (.int .i64 (((s : Nat) : Int) + 1))) rfl) ?_
      refine WpL_nil ?_
      refine thn_normal ?_
      exact ⟨n - (s + 1), by omega, s + 1, _, mapS min0 d.accept (s + 1), mapS (padR 3) d.next (s + 1), Fits.out ⟨rfl, rfl, rfl, rfl, rfl, trivial⟩, E, Br, Bq, (by omega), rfl, rfl, ⟨_, _, hMR⟩, rfl⟩
    · have khlt := hlt
      replace hlt := of_decide_eq_false hlt
      have hsn : s = n := by omega
      rw [hsn, ← hok2, mapS_all] at hacc
      rw [hsn, ← hok1, mapS_all] at hrows
      rw [hacc, hrows] at hM
      obtain ⟨hpk, hpa⟩ := plD_ok hok (m := 3) (by omega) (by omega)
      refine Wp_exit ?_
      refine thn_exit ?_
      refine thn_exit ?_
      refine inB_here ?_
      refine thn_normal ?_
      refine Wp_seq_region ?_
      refine WpL_val rfl rfl (by decide) (r_loadAgg (vs := [(.int .i64 d.start), (.slice (some ⟨ga, 0, none⟩) n ac), (.slice (some ⟨gn, 0, none⟩) n nc)]) rfl agg25 siz25 rfl (Bq.cells rfl)) ?_
      refine s_storeAgg (b := br) (o := 0) (c' := #[(.int .i64 d.start), (.slice (some ⟨ga, 0, none⟩) n ac), (.slice (some ⟨gn, 0, none⟩) n nc)]) rfl rfl (by simp [Value.oneCell']) siz25 rfl Br (by simp) rfl ?_
      intro w7 S7
      replace hM := hM.chg S7.chg (fun y h => .inl (by have h' : y = br := h; omega))
      replace Bq := S7.keep (by omega) Bq
      replace E := S7.step E (by first | exact Or.inl (by omega) | exact Or.inr rfl | exact Or.inr (by assumption) | exact Or.inr (by simp) | exact Or.inr (by omega) | exact Or.inr (by dsimp only; omega))
      replace Br := S7.blk
      refine WpL_nil ?_
      refine Wp_ret ?_
      refine fin_agg Try.results21 (vs := [(.int .i64 d.start), (.slice (some ⟨ga, 0, none⟩) n ac), (.slice (some ⟨gn, 0, none⟩) n nc)]) (b := br) rfl agg25 siz25 rfl (Br.cells rfl) ?_
      exact ⟨⟨n, plD 3 d, [.int .i64 d.start, .slice (some ⟨ga, 0, none⟩) n ac, .slice (some ⟨gn, 0, none⟩) n nc], hn, hpk, hpa, rfl, MSt.done (start := d.start) hM (by simp; omega) (by simp; omega)⟩, E⟩
end Go.Proofs
