/- Contracts and plain lemmas, part 5. -/
import Derived.Tactics
import Derived.Deep.Quiet
import Derived.Laws.AppendOwn
import Derived.KernelRfl
import Derived.Laws.Entries
import Derived.Laws.Build
import Derived.Below
import Derived.RowKit3
import Derived.StillTail
import Derived.Sort.Grow
import Derived.Deep.Draws
import Derived.Test.YtllhcafmcbibbaaChecked
import Derived.Laws.StructEq
import Derived.Laws.MakeOwn
import Derived.MapKept
import Derived.Laws.BytesArg
import Derived.Laws.CopyRow
import Derived.DeepKeys3
import Derived.OpenShut
import Derived.ChangeSlices
import Derived.Test.YtllhcafmcbibbaaZr4
namespace Go.Proofs
open Go Go.Eng
set_option maxRecDepth 100000
abbrev TP2 : Nat := 88
def emptI (n0 : Nat) : Fct := fun v w => ∃ b, v = .slice (some ⟨b, 0, none⟩) 0 0 ∧ n0 ≤ b ∧ Blk w b #[] TI
theorem emptI_ext (n0 : Nat) : ∀ v w w', Chg none1 w w' → emptI n0 v w → emptI n0 v w' := by
  rintro v w w' e ⟨b, h1, h2, h3⟩
  exact ⟨b, h1, h2, Ext.keep e h3⟩
def ownI (n0 m : Nat) (xs : List Value) : Fct := fun v w => ∃ a c, v = .slice a m c ∧ w.ownsRow n0 TI 1 v m xs
theorem ownI_ext (n0 m : Nat) (xs : List Value) : ∀ v w w', Chg none1 w w' → ownI n0 m xs v w → ownI n0 m xs v w' := by
  rintro v w w' e ⟨a, c, h1, h2⟩
  exact ⟨a, c, h1, own_ext h2 e⟩
def tabG (n0 : Nat) (start : Int) (cols : Nat) (l : List Int) (n : Nat) : Fct := fun v w => ∃ a c q, v = .agg #[.int .i64 start, .int .i64 ((cols : Nat) : Int), .slice a l.length c, .slice (some ⟨q, 0, none⟩) n n, .slice none 0 0, .slice none 0 0] ∧ w.ownsRow n0 TI 1 (.slice a l.length c) l.length (l.map (Value.int .i64)) ∧ n0 ≤ q ∧ Blk w q (List.replicate n (Value.int .i64 0)).toArray TI ∧ ∀ y, (Value.slice a l.length c).ownBlock = some y → y ≠ q
theorem tabG_ext (n0 : Nat) (start : Int) (cols : Nat) (l : List Int) (n : Nat) : ∀ v w w', Chg none1 w w' → tabG n0 start cols l n v w → tabG n0 start cols l n v w' := by
  rintro v w w' e ⟨a, c, q, h1, h2, h3, h4, h5⟩
  exact ⟨a, c, q, h1, own_ext h2 e, h3, Ext.keep e h4, h5⟩
section
variable {N n0 : Nat} {σ : Env} {w : World} {dst : Option Tmp} {ty : TypeId} {pos : String} {af : Array Edge} {g : Option (Nat × Bool)} {s x : Operand}
theorem DoesT_b0I (hn : n0 ≤ w.heap.size) : DoesT none1 Try.prog N ⟨dst, .buildSlice 26 0 #[], ty, pos, af, g⟩ (emptI n0) σ w := by
  have hnw := New.mk' w #[] TI
  refine DoesT_val (v := .slice (some ⟨w.heap.size, 0, none⟩) 0 0) (w' := { w with heap := w.heap.push (.cells #[] TI (0, 0)) }) ?_ hnw.ext ⟨_, rfl, hn, hnw.blk⟩
  have h0 : Array.range 0 = #[] := rfl
  simp [execOp, Instr.buildSlice, run_underlying Try.underlying26, (siz3).run, Instr.fill, newRow, h0]
theorem DoesT_firstI {b0 m c bx ox : Nat} {news : List Value} (hs : ev σ s = .slice (some ⟨b0, 0, none⟩) 0 0) (hb0 : n0 ≤ b0) (hB : Blk w b0 #[] TI) (hx : ev σ x = .slice (some ⟨bx, ox, none⟩) m c) (hl : news.length = m) (hpos : 0 < m) (hnews : CellsAt w bx ox news) (h1 : ∀ u ∈ news, u.oneCell' = true) (hm : m ≤ 1000000) (hn0 : n0 ≤ w.heap.size) :
    DoesT none1 Try.prog N ⟨dst, .call ⟨.builtin .append, #[s, x], #[26, 26]⟩, ty, pos, af, g⟩ (fun v w' => ownI n0 m news v w' ∧ ∀ y, v.ownBlock = some y → w.heap.size ≤ y) σ w := by
  have hown := own_empty (base := n0) (size := 1) hB hb0
  have hsz := siz3
  have hby := byt3
  have hz := zer3
  unfold Siz at hsz; unfold Byt at hby; unfold Zer at hz
  cases hi : (Try.prog).info? TI with
  | none => rw [hi] at hsz; simp at hsz
  | some i =>
  rw [hi] at hsz hby hz
  simp at hsz hby hz
  have hcells : ∀ j u, news[j]? = some u → w.cell? ((⟨bx, ox, none⟩ : Addr).add j) = some u := fun j u hj => by rw [Addr.add_lit]; exact hnews j u hj
  obtain ⟨v', w', hr, h2, h3, _⟩ := run_append_own (P := Try.prog) w n0 26 ty TI i _ 1 _ Try.underlying26 hi hz hsz hby rfl (by decide) (.slice (some ⟨b0, 0, none⟩) 0 0) 0 [] hown ⟨bx, ox, none⟩ m c news (by omega) hcells h1 (by unfold maxLen; omega) (by omega) hn0
  have hx' : Ext w w' := by
    have hr2 := run_append_grow (P := Try.prog) w 26 ty TI i _ Try.underlying26 hi hz ⟨b0, 0, none⟩ 0 0 [] (by simp) (fun j u h => by simp at h) ⟨bx, ox, none⟩ m c news (by rw [hsz]; omega) hcells (by omega) (by omega) (growslice_fits (by omega) (by rw [hby]; omega))
    rw [hr2] at hr
    cases hr
    exact Ext.trans (drew_ext w) (New.mk' _ _ _).ext
  have hW := append_where (P := Try.prog) Try.underlying26 hi hz hsz hby rfl (by decide) hown (news := news) (by omega) hcells h1 (by unfold maxLen; omega) (by omega) hr
  simp only [Nat.zero_add, List.nil_append] at h2
  obtain ⟨a, cc, rfl⟩ := own_form h2
  refine DoesT_val (v := .slice a m cc) (w' := w') (by simp [execOp, resolve, invoke, builtin, hs, hx, hr]) hx' ⟨⟨a, cc, rfl, h2⟩, fun y hy => ?_⟩
  have hbw : Blk w' b0 #[] TI := Ext.keep hx' hB
  rcases hW y hy with h4 | h4
  · exfalso
    have h5 : b0 = y := Option.some.inj h4
    subst h5
    rcases h2.2 with ⟨h6, h7⟩ | ⟨g', cap', cur', hv, _, hg, h7, _, h8, _⟩
    · omega
    · simp only [Value.slice.injEq] at hv
      have h9 : g' = b0 := by
        have := hv.1
        rw [this] at hy
        exact Option.some.inj hy
      subst h9
      unfold Blk at hbw
      rw [hbw] at hg
      simp at hg
      rw [hg] at h8
      simp at h8
      omega
  · exact h4
end
theorem sp_flat_set : ∀ {sl : List (Int × Int)} {i : Nat} (p : Int × Int) (rest : List Value), i < sl.length → ((sl.map spanV).flatten ++ rest).take (i * 2) ++ spanV p ++ ((sl.map spanV).flatten ++ rest).drop (i * 2 + 2) = ((sl.set i p).map spanV).flatten ++ rest
  | [], i, p, rest, h => by simp at h
  | q :: sl, 0, p, rest, _ => by simp [spanV]
  | q :: sl, i + 1, p, rest, h => by
    have ih := sp_flat_set (sl := sl) (i := i) p rest (by simpa using h)
    have e : ((q :: sl).map spanV).flatten ++ rest = .int .i64 q.1 :: .int .i64 q.2 :: ((sl.map spanV).flatten ++ rest) := rfl
    rw [e, show (i + 1) * 2 = i * 2 + 1 + 1 by omega, show i * 2 + 1 + 1 + 2 = (i * 2 + 2) + 1 + 1 by omega, List.take_succ_cons, List.take_succ_cons, List.drop_succ_cons, List.drop_succ_cons, List.set_cons_succ]
    show .int .i64 q.1 :: .int .i64 q.2 :: (_ ++ _ ++ _) = .int .i64 q.1 :: .int .i64 q.2 :: (_ ++ rest)
    rw [ih]
    rfl
theorem sp_flat_len (sl : List (Int × Int)) : ((sl.map spanV).flatten).length = sl.length * 2 := by
  induction sl with
  | nil => rfl
  | cons q sl ih => simp only [List.map_cons, List.flatten_cons, List.length_append, ih, List.length_cons, spanV, List.length_nil]; omega
theorem own_blkP {w : World} {base e size n c : Nat} {a : Option Addr} {xs : List Value} (h : w.ownsRow base e size (.slice a n c) n xs) (hn : 0 < n) : ∃ g rest, a = some ⟨g, 0, none⟩ ∧ base ≤ g ∧ n ≤ c ∧ c ≤ maxLen ∧ (xs ++ rest).length = c * size ∧ Blk w g (xs ++ rest).toArray e := by
  rcases h.2 with ⟨h1, rfl⟩ | ⟨g, cap, cur, hv, hb, hgg, hnc, hcm, hcs, htake⟩
  · omega
  · simp only [Value.slice.injEq] at hv
    obtain ⟨rfl, _, rfl⟩ := hv
    have e1 : xs ++ cur.toList.drop (n * size) = cur.toList := by rw [← htake, List.take_append_drop]
    refine ⟨g, cur.toList.drop (n * size), rfl, hb, hnc, hcm, by rw [e1]; simpa using hcs, ?_⟩
    rw [e1]
    exact hgg
theorem blk_ownP {w : World} {base g n c e size : Nat} {xs rest : List Value} (h : Blk w g (xs ++ rest).toArray e) (hb : base ≤ g) (hn : xs.length = n * size) (hc : n ≤ c) (hm : c ≤ maxLen) (hl : (xs ++ rest).length = c * size) : w.ownsRow base e size (.slice (some ⟨g, 0, none⟩) n c) n xs :=
  ⟨by simpa using hn, .inr ⟨g, c, _, rfl, hb, h, hc, hm, by simpa using hl, by simp [← hn]⟩⟩
theorem fitB_pad (sl : List (Int × Int)) (row : List Int) (b : Nat) : fitB ((sl ++ [sl0]).drop b) row = fitB (sl.drop b) row := by
  unfold fitB
  congr 1
  funext c
  rw [slD_drop, slD_drop, slD_snoc]
theorem sp_slat {w : World} {base n c : Nat} {a : Option Addr} {sl : List (Int × Int)} (h : w.ownsRow base TP2 2 (.slice a n c) n ((sl.map spanV).flatten)) (hn : sl.length = n) : SlAt w 2 (.slice a n c) (sl.map spanV) :=
  own_slat h (fun r hr => by obtain ⟨p, _, rfl⟩ := List.mem_map.1 hr; rfl) (by simpa using hn) (by decide)
theorem sp_flat_get : ∀ {sl : List (Int × Int)} {i : Nat} {p : Int × Int}, sl[i]? = some p → ((sl.map spanV).flatten)[i * 2]? = some (.int .i64 p.1)
  | [], i, p, h => by simp at h
  | q :: sl, 0, p, h => by simp at h; subst h; rfl
  | q :: sl, i + 1, p, h => by
    rw [show (i + 1) * 2 = i * 2 + 1 + 1 by omega]
    exact sp_flat_get (sl := sl) (i := i) (by simpa using h)
theorem sp_flat_get2 : ∀ {sl : List (Int × Int)} {i : Nat} {p : Int × Int}, sl[i]? = some p → ((sl.map spanV).flatten)[i * 2 + 1]? = some (.int .i64 p.2)
  | [], i, p, h => by simp at h
  | q :: sl, 0, p, h => by simp at h; subst h; rfl
  | q :: sl, i + 1, p, h => by
    rw [show (i + 1) * 2 + 1 = (i * 2 + 1) + 1 + 1 by omega]
    exact sp_flat_get2 (sl := sl) (i := i) (by simpa using h)
theorem RFin.of {rows : List (List Int)} {dn : List Nat} {sl : List (Int × Int)} {bs : List Nat} {L : Nat} (h : RSt rows dn sl bs) (hL : L ≤ sl.length) (ht : ∀ i, L ≤ i → (sl.getD i sl0).1 < 0) (hX : ∀ i, (sl.getD i sl0).1 < 0 → sl.getD i sl0 = sl0) (hl : L = 0 ∨ 0 ≤ (sl.getD (L - 1) sl0).1) : RFin rows dn ((sl.take L).map (·.1)) ((sl.take L).map (·.2)) bs := by
  obtain ⟨O, X, B, h1, h2, h3⟩ := h.tr
  have hg : ∀ i, (sl.take L)[i]? = if i < L then some (sl.getD i sl0) else none := fun i => by
    by_cases e : i < L
    · rw [if_pos e, List.getElem?_take_of_lt e, List.getD_eq_getElem?_getD, List.getElem?_eq_getElem (show i < sl.length by omega)]; rfl
    · rw [if_neg e, List.getElem?_eq_none (by simp; omega)]
  have hlen : (sl.take L).length = L := by simp; omega
  refine ⟨⟨O, X, B, h1, fun i => ?_, fun i => ?_, h3, fun i hi => ?_⟩, by simp⟩
  · rw [List.getD_eq_getElem?_getD, List.getElem?_map, hg i]
    by_cases e : i < L
    · rw [if_pos e, h2]; rfl
    · have := ht i (by omega)
      have h9 := hX i this
      rw [h2] at h9
      have h10 : O i = -1 := congrArg Prod.fst h9
      rw [if_neg e, h10]; rfl
  · rw [List.getD_eq_getElem?_getD, List.getElem?_map, hg i]
    by_cases e : i < L
    · rw [if_pos e, h2]; rfl
    · have := ht i (by omega)
      have h9 := hX i this
      rw [h2] at h9
      have h10 : X i = -1 := congrArg Prod.snd h9
      rw [if_neg e, h10]; rfl
  · simp only [List.length_map, hlen] at hi
    refine ⟨L - 1, by omega, ?_⟩
    rcases hl with h4 | h4
    · omega
    · rw [h2] at h4; exact h4
/-- Where nobody owns a slot, there is no next state. -/
theorem PkR.free {rows : List (List Int)} (hr : ∀ r ∈ rows, ∀ x ∈ r, -1 ≤ x) : ∀ {l : List Nat} {O X : Nat → Int} {B : Nat → Nat}, PkR rows l O X B → ∀ i, O i < 0 → O i = -1 ∧ X i = -1
  | [], _, _, _, h, i, _ => by cases h; exact ⟨rfl, rfl⟩
  | s :: l, _, _, _, h, i, hi => by
    cases h with
    | cons h1 h2 h3 h4 =>
      unfold putO putX at *
      split at hi
      · omega
      · rename_i hn
        rw [if_neg hn, if_neg hn]
        exact PkR.free hr h1 i hi
theorem OSt.add {n2 L : Nat} {B : Nat → Prop} {w wb : World} {vo vn vo' vn' : Value} {owner nxt : List Int} {x y : Int} (h : OSt n2 B w vo vn L owner nxt) (O : wb.ownsRow n2 TI 1 vo' (L + 1) (owner.map (Value.int .i64) ++ [.int .i64 x])) (D : ∀ k, vo'.ownBlock = some k → vo.ownBlock = some k ∨ w.heap.size ≤ k)
    (O' : wb.ownsRow n2 TI 1 vn' (L + 1) (nxt.map (Value.int .i64) ++ [.int .i64 y])) (D' : ∀ k, vn'.ownBlock = some k → vn.ownBlock = some k ∨ w.heap.size ≤ k) (ap : ApartV vo' vn') (hB : ∀ y, B y → y < w.heap.size) : OSt n2 B wb vo' vn' (L + 1) (owner ++ [x]) (nxt ++ [y]) := by
  refine ⟨by simpa using O, by simpa using O', ap, fun k hk hm => ?_, fun k hk hm => ?_, by simp [h.ol], by simp [h.nl]⟩
  · rcases D k hk with h1 | h1
    · exact h.ob k h1 hm
    · have := hB k hm; omega
  · rcases D' k hk with h1 | h1
    · exact h.nb k h1 hm
    · have := hB k hm; omega
theorem slD_end {sl : List (Int × Int)} {i : Nat} (h : sl.length ≤ i) : sl.getD i sl0 = sl0 := by rw [List.getD_eq_getElem?_getD, List.getElem?_eq_none h]; rfl
theorem slD_get {sl : List (Int × Int)} {i : Nat} {p : Int × Int} (h : sl[i]? = some p) : sl.getD i sl0 = p := by rw [List.getD_eq_getElem?_getD, h]; rfl
theorem RSt.free {rows : List (List Int)} {dn bs : List Nat} {sl : List (Int × Int)} (h : RSt rows dn sl bs) (hr : ∀ r ∈ rows, ∀ x ∈ r, -1 ≤ x) : ∀ i, (sl.getD i sl0).1 < 0 → sl.getD i sl0 = sl0 := fun i hi => by
  obtain ⟨O, X, B, h1, h2, _⟩ := h.tr
  rw [h2] at hi ⊢
  have h3 := h1.free hr i hi
  rw [h3.1, h3.2]
set_option maxHeartbeats 16000000 in
theorem rpackof_c (w0 : World) (n c : Nat) (d : Dfa) (vs : List Value) (hd : DfaAt w0 d vs) (ok : OkD n c d) (hn : 1 ≤ n ∧ n ≤ 200) (hc : 1 ≤ c ∧ c ≤ 16) :
    Ret Try.prog 19 #[.agg vs.toArray] w0 fun r w => (∃ va vb vo vn bs ow nx dn, r = .agg #[.int .i64 d.start, .int .i64 ((c : Nat) : Int), va, vb, vo, vn] ∧ IntsAt w va d.accept ∧ IntsAt w vb (natV bs) ∧ IntsAt w vo ow ∧ IntsAt w vn nx ∧ bs.length = n ∧ RefO d.next dn 0 0 ∧ RFin d.next dn ow nx bs) ∧ Ext w0 w := by
  obtain ⟨aa, ac, na, nc, rfl, ha, hnx⟩ := hd
  have hnl := ok.nl
  have hal := ok.al
  obtain ⟨row0, hrow0⟩ := get_of_lt (l := d.next) (i := 0) (by omega)
  have hrow0l := (ok.row row0 (List.mem_of_getElem? hrow0)).1
  obtain ⟨nb, no, rfl, hncl⟩ := intss_cells hnx (by omega)
  obtain ⟨ra0, rc0, hcell0, hints0⟩ := hncl 0 row0 hrow0
  obtain ⟨ab, ao, rfl, hax⟩ := ints_cells ha (by omega)
  rw [hrow0l] at hcell0
  have hacells : CellsAt w0 ab ao (d.accept.map (Value.int .i64)) := fun i u hu => by
    rw [List.getElem?_map, Option.map_eq_some_iff] at hu
    obtain ⟨x, hx, rfl⟩ := hu
    exact hax i x hx
  refine Ret_of Try.func19 rfl Try.ntmps19 (Nat.le_of_ble_eq_true rfl) ?_
  have E : Chg none1 w0 w0 := Chg.refl _ _
  refine Wp_seq_region ?_
  refine s_box (v := (.agg #[(.int .i64 d.start), (.slice (some ⟨ab, ao, none⟩) d.accept.length ac), (.slice (some ⟨nb, no, none⟩) d.next.length nc)])) (c := #[(.int .i64 d.start), (.slice (some ⟨ab, ao, none⟩) d.accept.length ac), (.slice (some ⟨nb, no, none⟩) d.next.length nc)]) (by decide) rfl rfl ?_
  intro bd wd Nd
  have Fd := Nd.ge E
  replace E := E.ext Nd.ext
  have Bd := Nd.blk
  refine s_alloc (c := #[(.int .i64 0), (.int .i64 0), (.slice none 0 0), (.slice none 0 0), (.slice none 0 0), (.slice none 0 0)]) (by decide) zer46 rfl ?_
  intro br wr Nr
  have Fr := Nr.ge E
  have Or_bd := Nr.lt Bd
  replace Bd := Nr.keep Bd
  replace E := E.ext Nr.ext
  have Br := Nr.blk
  refine WpL_nil ?_
  have hz_1 : w0.heap.size ≤ wr.heap.size := E.size
  have lz_1_bd : bd < wr.heap.size := Bd.lt
  have lz_1_br : br < wr.heap.size := Br.lt
  refine Wp_seq ?_
  obtain ⟨Fs1, hFs1⟩ : ∃ Fs : List FctS, Fs = [(fun _ _ v _ => v = (.pointer (some ⟨bd, 2, none⟩))), (fun _ _ v _ => v = (.slice (some ⟨nb, no, none⟩) d.next.length nc)), (fun _ _ v _ => v = (.int .i64 ((d.next.length : Nat) : Int))), (fun _ _ v _ => v = (.pointer (some ⟨bd, 2, none⟩))), (fun _ _ v _ => v = (.slice (some ⟨nb, no, none⟩) d.next.length nc)), (fun _ _ v _ => v = (.pointer (some ⟨nb, no + 0, none⟩))), (fun _ _ v _ => v = (.slice ra0 c rc0)), (fun _ _ v _ => v = (.int .i64 ((c : Nat) : Int))), (fun _ _ v _ => v = (.int .i64 ((d.next.length : Nat) : Int))), (fun _ _ v _ => v = (.int .i64 ((c : Nat) : Int)))] := ⟨_, rfl⟩
  refine Wp_dagS (MsL []) [true, true, true, true, true, true, true, true, true, true] [] [18, 19, 20, 21, 22, 23, 24, 25, 3, 4] [[], [0], [1], [], [3], [4], [5], [6], [0, 1, 2], [0, 1, 2, 3, 4, 5, 6, 7, 8]] [[], [0], [1, 0], [], [3], [4, 3], [5, 4, 3], [6, 5, 4, 3], [0, 1, 2], [0, 1, 2, 3, 4, 5, 6, 7, 8]] Fs1 hFs1 (by kernel_rfl) mixed (by kernel_rfl) (by kernel_rfl) (by kernel_rfl) (by kernel_rfl) ?_ ?_
  · intro wd X0
    refine DagStepsS.cons (StabS.eq) (LocS.const) (fun S s' w' hi hN X U V H => Or.inl ⟨Guarded_none rfl, ?_⟩) ?_
    · replace X := X.mono (M' := none1) (fun y _ h => by
          obtain ⟨j, hj, h⟩ := h
          exact h.elim)
      exact DoesT_pure (r_fieldAddr (b := bd) (o := 0) (o' := 2) (U 1 rfl) Try.underlying44 rfl siz42 rfl) rfl
    refine DagStepsS.cons (StabS.eq) (LocS.const) (fun S s' w' hi hN X U V H => Or.inl ⟨Guarded_none rfl, ?_⟩) ?_
    · replace X := X.mono (M' := none1) (fun y _ h => by
          obtain ⟨j, hj, h⟩ := h
          exact h.elim)
      have e18 : s' 18 = (.pointer (some ⟨bd, 2, none⟩)) := (H 0 rfl).2 18 (fun _ _ v _ => v = (.pointer (some ⟨bd, 2, none⟩))) rfl (by rw [hFs1]; rfl)
      exact DoesT_pure (r_load (v := (.slice (some ⟨nb, no, none⟩) d.next.length nc)) e18 flat42 (((X0.trans X).keep Bd).cell rfl)) rfl
    refine DagStepsS.cons (StabS.eq) (LocS.const) (fun S s' w' hi hN X U V H => Or.inl ⟨Guarded_none rfl, ?_⟩) ?_
    · replace X := X.mono (M' := none1) (fun y _ h => by
          obtain ⟨j, hj, h⟩ := h
          exact h.elim)
      have e19 : s' 19 = (.slice (some ⟨nb, no, none⟩) d.next.length nc) := (H 1 rfl).2 19 (fun _ _ v _ => v = (.slice (some ⟨nb, no, none⟩) d.next.length nc)) rfl (by rw [hFs1]; rfl)
      exact DoesT_pure (r_lenSlice (ad := some ⟨nb, no, none⟩) (n := d.next.length) (cap := nc) Try.underlying42 e19) rfl
    refine DagStepsS.cons (StabS.eq) (LocS.const) (fun S s' w' hi hN X U V H => Or.inl ⟨Guarded_none rfl, ?_⟩) ?_
    · replace X := X.mono (M' := none1) (fun y _ h => by
          obtain ⟨j, hj, h⟩ := h
          exact h.elim)
      exact DoesT_pure (r_fieldAddr (b := bd) (o := 0) (o' := 2) (U 1 rfl) Try.underlying44 rfl siz42 rfl) rfl
    refine DagStepsS.cons (StabS.eq) (LocS.const) (fun S s' w' hi hN X U V H => Or.inl ⟨Guarded_none rfl, ?_⟩) ?_
    · replace X := X.mono (M' := none1) (fun y _ h => by
          obtain ⟨j, hj, h⟩ := h
          exact h.elim)
      have e21 : s' 21 = (.pointer (some ⟨bd, 2, none⟩)) := (H 3 rfl).2 21 (fun _ _ v _ => v = (.pointer (some ⟨bd, 2, none⟩))) rfl (by rw [hFs1]; rfl)
      exact DoesT_pure (r_load (v := (.slice (some ⟨nb, no, none⟩) d.next.length nc)) e21 flat42 (((X0.trans X).keep Bd).cell rfl)) rfl
    refine DagStepsS.cons (StabS.eq) (LocS.const) (fun S s' w' hi hN X U V H => Or.inl ⟨Guarded_none rfl, ?_⟩) ?_
    · replace X := X.mono (M' := none1) (fun y _ h => by
          obtain ⟨j, hj, h⟩ := h
          exact h.elim)
      have e22 : s' 22 = (.slice (some ⟨nb, no, none⟩) d.next.length nc) := (H 4 rfl).2 22 (fun _ _ v _ => v = (.slice (some ⟨nb, no, none⟩) d.next.length nc)) rfl (by rw [hFs1]; rfl)
      exact DoesT_pure (r_indexSlice (b := nb) (o := no) (len := d.next.length) (cap := nc) (i := 0) (o' := no + 0) e22 rfl rfl Try.underlying42 siz26 (by omega) (by omega)) rfl
    refine DagStepsS.cons (StabS.eq) (LocS.const) (fun S s' w' hi hN X U V H => Or.inl ⟨Guarded_none rfl, ?_⟩) ?_
    · replace X := X.mono (M' := none1) (fun y _ h => by
          obtain ⟨j, hj, h⟩ := h
          exact h.elim)
      have e23 : s' 23 = (.pointer (some ⟨nb, no + 0, none⟩)) := (H 5 rfl).2 23 (fun _ _ v _ => v = (.pointer (some ⟨nb, no + 0, none⟩))) rfl (by rw [hFs1]; rfl)
      exact DoesT_pure (r_load (v := (.slice ra0 c rc0)) e23 flat26 ((by rw [Nat.add_zero]; exact (Ext.trans E (X0.trans X)).cell (by simpa using hcell0)))) rfl
    refine DagStepsS.cons (StabS.eq) (LocS.const) (fun S s' w' hi hN X U V H => Or.inl ⟨Guarded_none rfl, ?_⟩) ?_
    · replace X := X.mono (M' := none1) (fun y _ h => by
          obtain ⟨j, hj, h⟩ := h
          exact h.elim)
      have e24 : s' 24 = (.slice ra0 c rc0) := (H 6 rfl).2 24 (fun _ _ v _ => v = (.slice ra0 c rc0)) rfl (by rw [hFs1]; rfl)
      exact DoesT_pure (r_lenSlice (ad := ra0) (n := c) (cap := rc0) Try.underlying26 e24) rfl
    refine DagStepsS.cons (StabS.eq) (LocS.const) (fun S s' w' hi hN X U V H => Or.inl ⟨Guarded_none rfl, ?_⟩) ?_
    · replace X := X.mono (M' := none1) (fun y _ h => by
          obtain ⟨j, hj, h⟩ := h
          exact h.elim)
      have e20 : s' 20 = (.int .i64 ((d.next.length : Nat) : Int)) := (H 2 rfl).2 20 (fun _ _ v _ => v = (.int .i64 ((d.next.length : Nat) : Int))) rfl (by rw [hFs1]; rfl)
      exact DoesT_pure (r_assign (v := (.int .i64 ((d.next.length : Nat) : Int))) e20) rfl
    refine DagStepsS.cons (StabS.eq) (LocS.const) (fun S s' w' hi hN X U V H => Or.inl ⟨Guarded_none rfl, ?_⟩) ?_
    · replace X := X.mono (M' := none1) (fun y _ h => by
          obtain ⟨j, hj, h⟩ := h
          exact h.elim)
      have e25 : s' 25 = (.int .i64 ((c : Nat) : Int)) := (H 7 rfl).2 25 (fun _ _ v _ => v = (.int .i64 ((c : Nat) : Int))) rfl (by rw [hFs1]; rfl)
      exact DoesT_pure (r_assign (v := (.int .i64 ((c : Nat) : Int))) e25) rfl
    exact DagStepsS.nil
  · intro s' wd1 w1 X0 X1 U H
    replace X1 := X1.mono (M' := none1) (fun y _ h => by
        obtain ⟨j, hj, h⟩ := h
        exact h.elim)
    have e3 : s' 3 = (.int .i64 ((d.next.length : Nat) : Int)) := H 8 rfl 3 (fun _ _ v _ => v = (.int .i64 ((d.next.length : Nat) : Int))) rfl (by rw [hFs1]; rfl)
    have e4 : s' 4 = (.int .i64 ((c : Nat) : Int)) := H 9 rfl 4 (fun _ _ v _ => v = (.int .i64 ((c : Nat) : Int))) rfl (by rw [hFs1]; rfl)
    obtain ⟨j1, rfl⟩ := Fits.out (σ := s') (l := [(1, (.pointer (some ⟨bd, 0, none⟩))), (2, (.pointer (some ⟨br, 0, none⟩))), (3, (.int .i64 ((d.next.length : Nat) : Int))), (4, (.int .i64 ((c : Nat) : Int)))]) ⟨U 1 rfl, U 2 rfl, e3, e4, trivial⟩
    clear U H
    replace Bd := (X0.trans X1).keep Bd
    replace Br := (X0.trans X1).keep Br
    replace X1 := X0.trans X1
    replace E := E.ext X1
    refine WpL_nil ?_
    refine thn_normal ?_
    obtain ⟨n0, hn0⟩ : ∃ n0, n0 = (w1).heap.size := ⟨_, rfl⟩
    have hbd : bd < n0 ∧ br < n0 := by rw [hn0]; exact ⟨Bd.lt, Br.lt⟩
    refine Wp_seq ?_
    obtain ⟨Fs2, hFs2⟩ : ∃ Fs : List (FactT (none1)), Fs = [.eq (.pointer (some ⟨bd, 0, none⟩)), .eq (.int .i64 d.start), .eq (.int .i64 ((c : Nat) : Int)), .gen (emptI n0) (emptI_ext _), .eq (.pointer (some ⟨bd, 1, none⟩)), .eq (.slice (some ⟨ab, ao, none⟩) d.accept.length ac), .gen (ownI n0 d.accept.length (d.accept.map (Value.int .i64))) (ownI_ext _ _ _), .eq (.int .i64 ((d.next.length : Nat) : Int)), .gen (makeF n0 d.next.length) (makeF_ext _ _), .gen (tabG n0 d.start c d.accept d.next.length) (tabG_ext _ _ _ _ _), .gen (boxF n0) (boxF_ext _)] := ⟨_, rfl⟩
    refine Wp_dagT2 (none1) 11 6 [26, 27, 28, 29, 30, 31, 32, 33, 34, 35, 5] [[], [0], [], [], [], [4], [3, 5], [], [7], [1, 2, 6, 8], []] Fs2 hFs2 rfl mixed (by kernel_rfl) (by kernel_rfl) (by kernel_rfl) 6 8 32 34 (.gen (ownI n0 d.accept.length (d.accept.map (Value.int .i64))) (ownI_ext _ _ _)) (.gen (makeF n0 d.next.length) (makeF_ext _ _)) (ApartV) ⟨⟨by decide, rfl, rfl⟩, by rw [hFs2]; rfl, by rw [hFs2]; rfl⟩ ?_ ?_ ?_ ?_
    · intro wd X0 o_ ws_ ho_ hw_ s' w' X U H HO
      obtain rfl : _ = o_ := Option.some.inj ho_
      obtain rfl : _ = ws_ := Option.some.inj hw_
      obtain ⟨b34, e34, g34, B34⟩ := (show (.gen (makeF n0 d.next.length) (makeF_ext _ _) : FactT (none1)).In (s' 34) w' from HO)
      obtain ⟨b29, e29, g29, B29⟩ := (show (.gen (emptI n0) (emptI_ext _) : FactT (none1)).In (s' 29) w' from H 3 rfl 29 (.gen (emptI n0) (emptI_ext _)) rfl (by rw [hFs2]; rfl))
      have e31 : s' 31 = (.slice (some ⟨ab, ao, none⟩) d.accept.length ac) := H 5 rfl 31 (.eq (.slice (some ⟨ab, ao, none⟩) d.accept.length ac)) rfl (by rw [hFs2]; rfl)
      exact DoesT_weak (DoesT_firstI e29 g29 B29 e31 (by simp) (by omega) (hacells.ext (Ext.trans E (X0.trans X))) (by simp [Value.oneCell']) (by omega) (by have := X0.size; have := X.size; omega)) (fun v w9 h => ⟨h.1, fun y hy hv => by rw [e34] at hv; have h8 := h.2 y hy; have h7 := B34.lt; simp [Value.ownBlock] at hv; omega⟩)
    · intro wd X0 o_ ws_ ho_ hw_ s' w' X U H HO
      obtain rfl : _ = o_ := Option.some.inj ho_
      obtain rfl : _ = ws_ := Option.some.inj hw_
      obtain ⟨a32, c32, e32, O32⟩ := (show (.gen (ownI n0 d.accept.length (d.accept.map (Value.int .i64))) (ownI_ext _ _ _) : FactT (none1)).In (s' 32) w' from HO)
      have e33 : s' 33 = (.int .i64 ((d.next.length : Nat) : Int)) := H 7 rfl 33 (.eq (.int .i64 ((d.next.length : Nat) : Int))) rfl (by rw [hFs2]; rfl)
      exact DoesT_make (x := .tmp 33) (y := .tmp 33) (R := fun v => ApartV (s' 32) v) e33 e33 (by omega) (by have := X0.size; have := X.size; omega) (fun y hy => by have h9 := (O32.lt y hy).2; simp [Value.ownBlock]; omega)
    · intro wd X0
      refine DagStepsK.cons (fun s' w' X U H HK => ?_) ?_
      · exact DoesT_val (r_fieldAddr (b := bd) (o := 0) (o' := 0) (U 1 rfl) Try.underlying44 rfl siz3 rfl) (Chg.refl _ _) rfl
      refine DagStepsK.cons (fun s' w' X U H HK => ?_) ?_
      · have e26 : s' 26 = (.pointer (some ⟨bd, 0, none⟩)) := H 0 rfl 26 (.eq (.pointer (some ⟨bd, 0, none⟩))) rfl (by rw [hFs2]; rfl)
        exact DoesT_val (r_load (v := (.int .i64 d.start)) e26 flat3 ((Chg.keep X (fun f => f) (X0.keep Bd)).cell rfl)) (Chg.refl _ _) rfl
      refine DagStepsK.cons (fun s' w' X U H HK => ?_) ?_
      · exact DoesT_val (r_move (v := (.int .i64 ((c : Nat) : Int))) (U 4 rfl)) (Chg.refl _ _) rfl
      refine DagStepsK.cons (fun s' w' X U H HK => ?_) ?_
      · exact DoesT_b0I (by have := X0.size; have := X.size; omega)
      refine DagStepsK.cons (fun s' w' X U H HK => ?_) ?_
      · exact DoesT_val (r_fieldAddr (b := bd) (o := 0) (o' := 1) (U 1 rfl) Try.underlying44 rfl siz26 rfl) (Chg.refl _ _) rfl
      refine DagStepsK.cons (fun s' w' X U H HK => ?_) ?_
      · have e30 : s' 30 = (.pointer (some ⟨bd, 1, none⟩)) := H 4 rfl 30 (.eq (.pointer (some ⟨bd, 1, none⟩))) rfl (by rw [hFs2]; rfl)
        exact DoesT_val (r_load (v := (.slice (some ⟨ab, ao, none⟩) d.accept.length ac)) e30 flat26 ((Chg.keep X (fun f => f) (X0.keep Bd)).cell rfl)) (Chg.refl _ _) rfl
      refine DagStepsK.cons (fun s' w' X U H HK => ?_) ?_
      · obtain ⟨b29, e29, g29, B29⟩ := (show (.gen (emptI n0) (emptI_ext _) : FactT (none1)).In (s' 29) w' from H 3 rfl 29 (.gen (emptI n0) (emptI_ext _)) rfl (by rw [hFs2]; rfl))
        have e31 : s' 31 = (.slice (some ⟨ab, ao, none⟩) d.accept.length ac) := H 5 rfl 31 (.eq (.slice (some ⟨ab, ao, none⟩) d.accept.length ac)) rfl (by rw [hFs2]; rfl)
        exact DoesT_weak (DoesT_firstI e29 g29 B29 e31 (by simp) (by omega) (hacells.ext (Ext.trans E (X0.trans X))) (by simp [Value.oneCell']) (by omega) (by have := X0.size; have := X.size; omega)) (fun v w9 h => h.1)
      refine DagStepsK.cons (fun s' w' X U H HK => ?_) ?_
      · exact DoesT_val (r_move (v := (.int .i64 ((d.next.length : Nat) : Int))) (U 3 rfl)) (Chg.refl _ _) rfl
      refine DagStepsK.cons (fun s' w' X U H HK => ?_) ?_
      · have e33 : s' 33 = (.int .i64 ((d.next.length : Nat) : Int)) := H 7 rfl 33 (.eq (.int .i64 ((d.next.length : Nat) : Int))) rfl (by rw [hFs2]; rfl)
        exact DoesT_weak (DoesT_make (x := .tmp 33) (y := .tmp 33) (R := fun _ => True) e33 e33 (by omega) (by have := X0.size; have := X.size; omega) trivial) (fun _ _ h => h.1)
      refine DagStepsK.cons (fun s' w' X U H HK => ?_) ?_
      · have e27 : s' 27 = (.int .i64 d.start) := H 1 rfl 27 (.eq (.int .i64 d.start)) rfl (by rw [hFs2]; rfl)
        have e28 : s' 28 = (.int .i64 ((c : Nat) : Int)) := H 2 rfl 28 (.eq (.int .i64 ((c : Nat) : Int))) rfl (by rw [hFs2]; rfl)
        obtain ⟨a32, c32, e32, O32⟩ := (show (.gen (ownI n0 d.accept.length (d.accept.map (Value.int .i64))) (ownI_ext _ _ _) : FactT (none1)).In (s' 32) w' from H 6 rfl 32 (.gen (ownI n0 d.accept.length (d.accept.map (Value.int .i64))) (ownI_ext _ _ _)) rfl (by rw [hFs2]; rfl))
        obtain ⟨b34, e34, g34, B34⟩ := (show (.gen (makeF n0 d.next.length) (makeF_ext _ _) : FactT (none1)).In (s' 34) w' from H 8 rfl 34 (.gen (makeF n0 d.next.length) (makeF_ext _ _)) rfl (by rw [hFs2]; rfl))
        exact DoesT_val (r_build (ps := [(0, .int .i64 d.start), (1, .int .i64 ((c : Nat) : Int)), (2, .slice a32 d.accept.length c32), (3, .slice (some ⟨b34, 0, none⟩) d.next.length d.next.length)]) (v := .agg #[.int .i64 d.start, .int .i64 ((c : Nat) : Int), .slice a32 d.accept.length c32, .slice (some ⟨b34, 0, none⟩) d.next.length d.next.length, .slice none 0 0, .slice none 0 0]) (by simp only [List.map, ev, e27, e28, e32, e34]) (by kernel_rfl)) (Chg.refl _ _) ⟨a32, c32, b34, rfl, by rw [e32] at O32; exact O32, g34, B34, fun y hy h => by have := HK rfl rfl; rw [e32, e34] at this; exact this y hy (by simp [Value.ownBlock, h])⟩
      refine DagStepsK.cons (fun s' w' X U H HK => ?_) ?_
      · exact DoesT_box (by have := X0.size; have := X.size; omega)
      exact DagStepsK.nil
    · intro s' wd2 w2 X0 X2 U H HK
      obtain ⟨a32, c32, e32, O32⟩ := (show (.gen (ownI n0 d.accept.length (d.accept.map (Value.int .i64))) (ownI_ext _ _ _) : FactT (none1)).In (s' 32) w2 from H 6 32 (.gen (ownI n0 d.accept.length (d.accept.map (Value.int .i64))) (ownI_ext _ _ _)) rfl (by rw [hFs2]; rfl))
      obtain ⟨a35, c35, q35, e35, O35, g35, Q35, n35⟩ := (show (.gen (tabG n0 d.start c d.accept d.next.length) (tabG_ext _ _ _ _ _) : FactT (none1)).In (s' 35) w2 from H 9 35 (.gen (tabG n0 d.start c d.accept d.next.length) (tabG_ext _ _ _ _ _)) rfl (by rw [hFs2]; rfl))
      obtain ⟨b5, e5, g5, B5⟩ := (show (.gen (boxF n0) (boxF_ext _) : FactT (none1)).In (s' 5) w2 from H 10 5 (.gen (boxF n0) (boxF_ext _)) rfl (by rw [hFs2]; rfl))
      obtain ⟨j2, rfl⟩ := Fits.out (σ := s') (l := [(1, (.pointer (some ⟨bd, 0, none⟩))), (2, (.pointer (some ⟨br, 0, none⟩))), (4, (.int .i64 ((c : Nat) : Int))), (35, (.agg #[(.int .i64 d.start), (.int .i64 ((c : Nat) : Int)), (.slice a35 d.accept.length c35), (.slice (some ⟨q35, 0, none⟩) d.next.length d.next.length), (.slice none 0 0), (.slice none 0 0)])), (5, (.pointer (some ⟨b5, 0, none⟩)))]) ⟨U 1 rfl, U 2 rfl, U 4 rfl, e35, e5, trivial⟩
      clear U H
      replace Bd := Chg.keep X2 (fun f => f) (X0.keep Bd)
      replace Br := Chg.keep X2 (fun f => f) (X0.keep Br)
      replace E := (E.ext X0).step X2 (fun _ _ f => f.elim)
      obtain ⟨ga, gr, hga, hg1, hgcap, hgml, _, hGa⟩ := own_blkP O35 (by omega)
      subst hga
      have n35 : ga ≠ q35 := n35 ga rfl
      have n5a := blk_ne B5 hGa (by decide)
      have n5q := blk_ne B5 Q35 (by decide)
      replace Q35 : Blk w2 q35 ((natV (List.replicate d.next.length 0)).map (Value.int .i64) ++ []).toArray TI := by simpa [natV] using Q35
      refine s_storeAgg (b := b5) (o := 0) (c' := #[(.int .i64 d.start), (.int .i64 ((c : Nat) : Int)), (.slice (some ⟨ga, 0, none⟩) d.accept.length c35), (.slice (some ⟨q35, 0, none⟩) d.next.length d.next.length), (.slice none 0 0), (.slice none 0 0)]) rfl rfl (by simp [Value.oneCell']) siz46 rfl B5 (by first | (simp; done) | exact Nat.le_of_ble_eq_true rfl) rfl ?_
      intro w3 S3
      replace Bd := S3.keep (by omega) Bd
      replace Br := S3.keep (by omega) Br
      replace hGa := S3.keep (by omega) hGa
      replace Q35 := S3.keep (by omega) Q35
      replace E := S3.step E (by first | exact Or.inl (by omega) | exact Or.inr rfl | exact Or.inr (by assumption) | exact Or.inr (by simp) | exact Or.inr (by omega) | exact Or.inr (by dsimp only; omega))
      replace B5 := S3.blk
      refine WpL_nil ?_
      refine thn_normal ?_
      refine Wp_seq_region ?_
      refine WpL_val rfl rfl (by decide) (r_assign (v := (.slice none 0 0)) rfl) ?_
      refine WpL_nil ?_
      refine Wp_seq ?_
      refine Wp_seq_region ?_
      refine WpL_val rfl rfl (by decide) (r_move (v := (.int .i64 ((c : Nat) : Int))) rfl) ?_
      refine WpL_val rfl rfl (by decide) (r_assign (v := (.int .i64 ((c : Nat) : Int))) rfl) ?_
      refine WpL_nil ?_
      refine Wp_block ?_
      obtain ⟨n1, hn1⟩ : ∃ n1, n1 = (w3).heap.size := ⟨_, rfl⟩
      have l1 : bd < n1 ∧ br < n1 ∧ b5 < n1 ∧ ga < n1 ∧ q35 < n1 := by rw [hn1]; exact ⟨Bd.lt, Br.lt, B5.lt, hGa.lt, Q35.lt⟩
      refine Wp_loop (fun nn_ σ W4 => ∃ (mny : Nat) (dn : List Nat) (sl : List (Int × Int)) (bs : List Nat) (ga2 : Option Addr) (gc2 L2 : Nat), (∃ jj_, σ = upds jj_ [(1, (.pointer (some ⟨bd, 0, none⟩))), (2, (.pointer (some ⟨br, 0, none⟩))), (4, (.int .i64 ((c : Nat) : Int))), (5, (.pointer (some ⟨b5, 0, none⟩))), (7, (.int .i64 ((mny : Nat) : Int))), (6, (.slice ga2 L2 gc2))]) ∧ Chg none1 w0 W4 ∧ Blk W4 bd #[(.int .i64 d.start), (.slice (some ⟨ab, ao, none⟩) d.accept.length ac), (.slice (some ⟨nb, no, none⟩) d.next.length nc)] 44 ∧ Blk W4 br #[(.int .i64 0), (.int .i64 0), (.slice none 0 0), (.slice none 0 0), (.slice none 0 0), (.slice none 0 0)] 46 ∧ Blk W4 b5 #[(.int .i64 d.start), (.int .i64 ((c : Nat) : Int)), (.slice (some ⟨ga, 0, none⟩) d.accept.length c35), (.slice (some ⟨q35, 0, none⟩) d.next.length d.next.length), (.slice none 0 0), (.slice none 0 0)] TT ∧ Blk W4 ga ((d.accept.map (Value.int .i64) ++ gr).toArray) TI ∧ Blk W4 q35 (((natV bs).map (Value.int .i64) ++ []).toArray) TI ∧ (mny ≤ c) ∧ (RefO d.next dn mny 0) ∧ (RSt d.next dn sl bs) ∧ (bs.length = n) ∧ (sl.length = L2) ∧ (L2 ≤ dn.length * c) ∧ (W4.ownsRow n1 TP2 2 (.slice ga2 L2 gc2) L2 ((sl.map spanV).flatten)) ∧ (n1 ≤ W4.heap.size) ∧ nn_ = mny + 1) (n := c + 1) ?_ ?_
      · exact ⟨c, [], [], List.replicate d.next.length 0, none, 0, 0, Fits.out ⟨rfl, rfl, rfl, rfl, rfl, rfl, trivial⟩, E, Bd, Br, B5, hGa, Q35, Nat.le_refl _, RefO.start (fun r hr => (ok.row r hr).1), RSt.start _, (by simp; omega), rfl, Nat.zero_le _, World.ownsRow_nil _ _ _ _, (by omega), rfl⟩
      · clear E Bd Br B5 hGa Q35
        rintro _ _ W4 ⟨mny, dn, sl, bs, ga2, gc2, L2, ⟨j4, rfl⟩, E, Bd, Br, B5, hGa, Q35, hmy, hR, hT, hbl, hL2, hL, hS, hbs, rfl⟩
        refine Wp_seq ?_
        refine Wp_seq_region ?_
        refine WpL_val rfl rfl (by decide) (r_move (v := (.int .i64 ((mny : Nat) : Int))) rfl) ?_
        refine WpL_val rfl rfl (by decide) (r_geq (k := .i64) (a := ((mny : Nat) : Int)) (b := 1) rfl rfl) ?_
        refine WpL_nil ?_
        refine Wp_cond (b := decide ((1 : Int) ≤ ((mny : Nat) : Int))) rfl (fun hge => ?_) (fun hge => ?_)
        · have khge := hge
          replace hge := of_decide_eq_true hge
          refine Wp_skip ?_
          refine thn_normal ?_
          refine Wp_seq ?_
          refine Wp_block ?_
          refine Wp_seq_region ?_
          refine WpL_val rfl rfl (by decide) (r_fieldAddr (b := bd) (o := 0) (o' := 2) rfl Try.underlying44 rfl siz42 rfl) ?_
          refine WpL_val rfl rfl (by decide) (r_load (v := (.slice (some ⟨nb, no, none⟩) d.next.length nc)) rfl flat42 (Bd.cell rfl)) ?_
          refine WpL_val rfl rfl (by decide) (r_lenSlice (ad := some ⟨nb, no, none⟩) (n := d.next.length) (cap := nc) Try.underlying42 rfl) ?_
          refine WpL_val rfl rfl (by decide) (r_move (v := (.int .i64 0)) rfl) ?_
          refine WpL_nil ?_
          refine Wp_block ?_
          refine Wp_loop (fun nn_ σ W6 => ∃ (s : Nat) (dn : List Nat) (sl : List (Int × Int)) (bs : List Nat) (ga2 : Option Addr) (gc2 L2 : Nat), (∃ jj_, σ = upds jj_ [(1, (.pointer (some ⟨bd, 0, none⟩))), (2, (.pointer (some ⟨br, 0, none⟩))), (4, (.int .i64 ((c : Nat) : Int))), (5, (.pointer (some ⟨b5, 0, none⟩))), (7, (.int .i64 ((mny : Nat) : Int))), (42, (.slice (some ⟨nb, no, none⟩) d.next.length nc)), (43, (.int .i64 ((d.next.length : Nat) : Int))), (44, (.int .i64 ((s : Nat) : Int))), (6, (.slice ga2 L2 gc2))]) ∧ Chg none1 w0 W6 ∧ Blk W6 bd #[(.int .i64 d.start), (.slice (some ⟨ab, ao, none⟩) d.accept.length ac), (.slice (some ⟨nb, no, none⟩) d.next.length nc)] 44 ∧ Blk W6 br #[(.int .i64 0), (.int .i64 0), (.slice none 0 0), (.slice none 0 0), (.slice none 0 0), (.slice none 0 0)] 46 ∧ Blk W6 b5 #[(.int .i64 d.start), (.int .i64 ((c : Nat) : Int)), (.slice (some ⟨ga, 0, none⟩) d.accept.length c35), (.slice (some ⟨q35, 0, none⟩) d.next.length d.next.length), (.slice none 0 0), (.slice none 0 0)] TT ∧ Blk W6 ga ((d.accept.map (Value.int .i64) ++ gr).toArray) TI ∧ Blk W6 q35 (((natV bs).map (Value.int .i64) ++ []).toArray) TI ∧ (s ≤ n) ∧ (RefO d.next dn mny s) ∧ (RSt d.next dn sl bs) ∧ (bs.length = n) ∧ (sl.length = L2) ∧ (L2 ≤ dn.length * c) ∧ (W6.ownsRow n1 TP2 2 (.slice ga2 L2 gc2) L2 ((sl.map spanV).flatten)) ∧ (n1 ≤ W6.heap.size) ∧ nn_ = n - s) (n := n - 0) ?_ ?_
          · exact ⟨0, dn, sl, bs, ga2, gc2, L2, Fits.out ⟨rfl, rfl, rfl, rfl, rfl, rfl, rfl, rfl, rfl, trivial⟩, E, Bd, Br, B5, hGa, Q35, Nat.zero_le _, hR, hT, hbl, hL2, hL, hS, hbs, rfl⟩
          · clear E Bd Br B5 hGa Q35
            rintro _ _ W6 ⟨s, dn, sl, bs, ga2, gc2, L2, ⟨j6, rfl⟩, E, Bd, Br, B5, hGa, Q35, hs, hR, hT, hbl, hL2, hL, hS, hbs, rfl⟩
            refine Wp_seq_region ?_
            refine WpL_val rfl rfl (by decide) (r_lss (k := .i64) (a := ((s : Nat) : Int)) (b := ((d.next.length : Nat) : Int)) rfl rfl) ?_
            refine WpL_nil ?_
            refine Wp_seq ?_
            refine Wp_cond (b := decide ((((s : Nat) : Int) : Int) < ((d.next.length : Nat) : Int))) rfl (fun hlt => ?_) (fun hlt => ?_)
            · have khlt := hlt
              replace hlt := of_decide_eq_true hlt
              obtain ⟨row, hrow⟩ := get_of_lt (l := d.next) (i := s) (by omega)
              have hrl := (ok.row row (List.mem_of_getElem? hrow)).1
              obtain ⟨ra, rc, hcell, hints⟩ := hncl s row hrow
              rw [hrl] at hcell hints
              refine Wp_skip ?_
              refine thn_normal ?_
              refine Wp_seq ?_
              refine Wp_block ?_
              refine Wp_seq_region ?_
              refine WpL_val rfl rfl (by decide) (r_move (v := (.int .i64 ((s : Nat) : Int))) rfl) ?_
              refine WpL_val rfl rfl (by decide) (r_indexSlice (b := nb) (o := no) (len := d.next.length) (cap := nc) (i := s) (o' := no + s) rfl rfl rfl Try.underlying42 siz26 (by omega) (by omega)) ?_
              refine WpL_val rfl rfl (by decide) (r_load (v := (.slice ra c rc)) rfl flat26 (E.cell (fun f => f) hcell)) ?_
              refine WpL_val rfl rfl (by decide) (r_assign (v := (.int .i64 ((s : Nat) : Int))) rfl) ?_
              refine WpL_val rfl rfl (by decide) (r_assign (v := (.slice ra c rc)) rfl) ?_
              refine WpL_nil ?_
              refine Wp_seq_region ?_
              refine WpL_val rfl rfl (by decide) (r_assign (v := (.int .i64 0)) rfl) ?_
              refine WpL_nil ?_
              refine Wp_seq ?_
              refine Wp_seq_region ?_
              refine WpL_val rfl rfl (by decide) (r_move (v := (.slice ra c rc)) rfl) ?_
              refine WpL_val rfl rfl (by decide) (r_lenSlice (ad := ra) (n := c) (cap := rc) Try.underlying26 rfl) ?_
              refine WpL_val rfl rfl (by decide) (r_move (v := (.int .i64 0)) rfl) ?_
              refine WpL_nil ?_
              refine Wp_block ?_
              refine Wp_loop (fun nn_ σ W8 => ∃ (k q : Nat), (∃ jj_, σ = upds jj_ [(1, (.pointer (some ⟨bd, 0, none⟩))), (2, (.pointer (some ⟨br, 0, none⟩))), (4, (.int .i64 ((c : Nat) : Int))), (5, (.pointer (some ⟨b5, 0, none⟩))), (6, (.slice ga2 L2 gc2)), (7, (.int .i64 ((mny : Nat) : Int))), (8, (.int .i64 ((s : Nat) : Int))), (9, (.slice ra c rc)), (42, (.slice (some ⟨nb, no, none⟩) d.next.length nc)), (43, (.int .i64 ((d.next.length : Nat) : Int))), (44, (.int .i64 ((s : Nat) : Int))), (49, (.slice ra c rc)), (50, (.int .i64 ((c : Nat) : Int))), (51, (.int .i64 ((k : Nat) : Int))), (10, (.int .i64 ((q : Nat) : Int)))]) ∧ Chg none1 w0 W8 ∧ Blk W8 bd #[(.int .i64 d.start), (.slice (some ⟨ab, ao, none⟩) d.accept.length ac), (.slice (some ⟨nb, no, none⟩) d.next.length nc)] 44 ∧ Blk W8 br #[(.int .i64 0), (.int .i64 0), (.slice none 0 0), (.slice none 0 0), (.slice none 0 0), (.slice none 0 0)] 46 ∧ Blk W8 b5 #[(.int .i64 d.start), (.int .i64 ((c : Nat) : Int)), (.slice (some ⟨ga, 0, none⟩) d.accept.length c35), (.slice (some ⟨q35, 0, none⟩) d.next.length d.next.length), (.slice none 0 0), (.slice none 0 0)] TT ∧ Blk W8 ga ((d.accept.map (Value.int .i64) ++ gr).toArray) TI ∧ Blk W8 q35 (((natV bs).map (Value.int .i64) ++ []).toArray) TI ∧ (k ≤ c) ∧ (q = (idxsN row k).length) ∧ (W8.ownsRow n1 TP2 2 (.slice ga2 L2 gc2) L2 ((sl.map spanV).flatten)) ∧ (n1 ≤ W8.heap.size) ∧ nn_ = c - k) (n := c - 0) ?_ ?_
              · exact ⟨0, 0, Fits.out ⟨rfl, rfl, rfl, rfl, rfl, rfl, rfl, rfl, rfl, rfl, rfl, rfl, rfl, rfl, rfl, trivial⟩, E, Bd, Br, B5, hGa, Q35, Nat.zero_le _, rfl, hS, hbs, rfl⟩
              · clear E Bd Br B5 hGa Q35
                rintro _ _ W8 ⟨k, q, ⟨j8, rfl⟩, E, Bd, Br, B5, hGa, Q35, hk, hq, hS, hbs, rfl⟩
                refine Wp_seq_region ?_
                refine WpL_val rfl rfl (by decide) (r_lss (k := .i64) (a := ((k : Nat) : Int)) (b := ((c : Nat) : Int)) rfl rfl) ?_
                refine WpL_nil ?_
                refine Wp_seq ?_
                refine Wp_cond (b := decide ((((k : Nat) : Int) : Int) < ((c : Nat) : Int))) rfl (fun hltk => ?_) (fun hltk => ?_)
                · have khltk := hltk
                  replace hltk := of_decide_eq_true hltk
                  obtain ⟨x, hx⟩ := get_of_lt (l := row) (i := k) (by omega)
                  obtain ⟨rb, ro, rfl, hrc⟩ := ints_cells (n := c) hints (by omega)
                  have hidx := idxsN_succ hx
                  have hql := idxsN_le row k
                  refine Wp_skip ?_
                  refine thn_normal ?_
                  refine Wp_seq ?_
                  refine Wp_block ?_
                  refine Wp_seq_region ?_
                  refine WpL_val rfl rfl (by decide) (r_indexSlice (b := rb) (o := ro) (len := c) (cap := rc) (i := k) (o' := ro + k) rfl rfl rfl Try.underlying26 siz3 (by omega) (by omega)) ?_
                  refine WpL_val rfl rfl (by decide) (r_load (v := (.int .i64 x)) rfl flat3 (E.cell (fun f => f) (hrc k x hx))) ?_
                  refine WpL_val rfl rfl (by decide) (r_assign (v := (.int .i64 x)) rfl) ?_
                  refine WpL_nil ?_
                  refine Wp_seq_region ?_
                  refine WpL_val rfl rfl (by decide) (r_move (v := (.int .i64 x)) rfl) ?_
                  refine WpL_val rfl rfl (by decide) (r_geq (k := .i64) (a := x) (b := 0) rfl rfl) ?_
                  refine WpL_nil ?_
                  refine Wp_cond (b := decide ((0 : Int) ≤ x)) rfl (fun h0 => ?_) (fun h0 => ?_)
                  · have kh0 := h0
                    replace h0 := of_decide_eq_true h0
                    refine Wp_region ?_
                    refine WpL_val rfl rfl (by decide) (r_move (v := (.int .i64 ((q : Nat) : Int))) rfl) ?_
                    refine WpL_val rfl rfl (by decide) (r_add (k := .i64) (a := ((q : Nat) : Int)) (b := 1) (c := ((q : Nat) : Int) + 1) rfl rfl (wI64 (by omega))) ?_
                    refine WpL_val rfl rfl (by decide) (r_assign (v := (.int .i64 (((q : Nat) : Int) + 1))) rfl) ?_
                    refine WpL_nil ?_
                    refine inB_normal ?_
                    refine thn_normal ?_
                    refine Wp_region ?_
                    refine WpL_val rfl rfl (by decide) (r_add (k := .i64) (a := ((k : Nat) : Int)) (b := 1) (c := ((k : Nat) : Int) + 1) rfl rfl (wI64 (by omega))) ?_
                    refine WpL_val rfl rfl (by decide) (r_move (v := (.int .i64 (((k : Nat) : Int) + 1))) rfl) ?_
                    refine WpL_nil ?_
                    refine thn_normal ?_
                    exact ⟨c - (k + 1), by omega, k + 1, q + 1, Fits.out ⟨rfl, rfl, rfl, rfl, rfl, rfl, rfl, rfl, rfl, rfl, rfl, rfl, rfl, rfl, rfl, trivial⟩, E, Bd, Br, B5, hGa, Q35, (by omega), (by rw [hidx, if_pos h0, List.length_append, ← hq]; rfl), hS, hbs, rfl⟩
                  · have kh0 := h0
                    replace h0 := of_decide_eq_false h0
                    refine Wp_skip ?_
                    refine inB_normal ?_
                    refine thn_normal ?_
                    refine Wp_region ?_
                    refine WpL_val rfl rfl (by decide) (r_add (k := .i64) (a := ((k : Nat) : Int)) (b := 1) (c := ((k : Nat) : Int) + 1) rfl rfl (wI64 (by omega))) ?_
                    refine WpL_val rfl rfl (by decide) (r_move (v := (.int .i64 (((k : Nat) : Int) + 1))) rfl) ?_
                    refine WpL_nil ?_
                    refine thn_normal ?_
                    exact ⟨c - (k + 1), by omega, k + 1, q, Fits.out ⟨rfl, rfl, rfl, rfl, rfl, rfl, rfl, rfl, rfl, rfl, rfl, rfl, rfl, rfl, rfl, trivial⟩, E, Bd, Br, B5, hGa, Q35, (by omega), (by rw [hidx, if_neg h0, List.append_nil, hq]), hS, hbs, rfl⟩
                · have khltk := hltk
                  replace hltk := of_decide_eq_false hltk
                  have hkc : k = row.length := by omega
                  have hqe : q = cntR d.next s := by rw [hq, hkc]; unfold cntR; rw [List.getD_eq_getElem?_getD, hrow]; rfl
                  refine Wp_exit ?_
                  refine thn_exit ?_
                  refine thn_exit ?_
                  refine inB_here ?_
                  refine thn_normal ?_
                  refine Wp_seq ?_
                  refine Wp_seq_region ?_
                  refine WpL_val rfl rfl (by decide) (r_move (v := (.int .i64 ((q : Nat) : Int))) rfl) ?_
                  refine WpL_val rfl rfl (by decide) (r_move (v := (.int .i64 ((mny : Nat) : Int))) rfl) ?_
                  refine WpL_val rfl rfl (by decide) (r_neq (k := .i64) (a := ((q : Nat) : Int)) (b := ((mny : Nat) : Int)) rfl rfl) ?_
                  refine WpL_nil ?_
                  refine Wp_cond (b := decide ((((q : Nat) : Int) : Int) ≠ ((mny : Nat) : Int))) rfl (fun hne => ?_) (fun hne => ?_)
                  · have khne := hne
                    replace hne := of_decide_eq_true hne
                    refine Wp_exit ?_
                    refine thn_exit ?_
                    refine inB_here ?_
                    refine thn_normal ?_
                    refine Wp_region ?_
                    refine WpL_val rfl rfl (by decide) (r_add (k := .i64) (a := ((s : Nat) : Int)) (b := 1) (c := ((s : Nat) : Int) + 1) rfl rfl (wI64 (by omega))) ?_
                    refine WpL_val rfl rfl (by decide) (r_move (v := (.int .i64 (((s : Nat) : Int) + 1))) rfl) ?_
                    refine WpL_nil ?_
                    refine thn_normal ?_
                    exact ⟨n - (s + 1), by omega, s + 1, dn, sl, bs, ga2, gc2, L2, Fits.out ⟨rfl, rfl, rfl, rfl, rfl, rfl, rfl, rfl, rfl, trivial⟩, E, Bd, Br, B5, hGa, Q35, (by omega), hR.skip (by omega), hT, hbl, hL2, hL, hS, hbs, rfl⟩
                  · have khne := hne
                    replace hne := of_decide_eq_false hne
                    have hcm : cntR d.next s = mny := by omega
                    have hdl := hR.len
                    have hdc : dn.length * c ≤ 200 * 16 := Nat.mul_le_mul (by omega) hc.2
                    obtain ⟨L0, hL0⟩ : ∃ L0, L0 = L2 := ⟨_, rfl⟩
                    refine Wp_skip ?_
                    refine thn_normal ?_
                    refine Wp_seq ?_
                    refine Wp_seq_region ?_
                    refine WpL_val rfl rfl (by decide) (r_assign (v := (.int .i64 0)) rfl) ?_
                    refine WpL_nil ?_
                    refine Wp_block ?_
                    refine Wp_loop (fun nn_ σ W12 => ∃ (m : Nat) (sl : List (Int × Int)) (ga2 : Option Addr) (gc2 L2 : Nat), (∃ jj_, σ = upds jj_ [(1, (.pointer (some ⟨bd, 0, none⟩))), (2, (.pointer (some ⟨br, 0, none⟩))), (4, (.int .i64 ((c : Nat) : Int))), (5, (.pointer (some ⟨b5, 0, none⟩))), (7, (.int .i64 ((mny : Nat) : Int))), (8, (.int .i64 ((s : Nat) : Int))), (9, (.slice ra c rc)), (42, (.slice (some ⟨nb, no, none⟩) d.next.length nc)), (43, (.int .i64 ((d.next.length : Nat) : Int))), (44, (.int .i64 ((s : Nat) : Int))), (13, (.int .i64 ((m : Nat) : Int))), (6, (.slice ga2 L2 gc2))]) ∧ Chg none1 w0 W12 ∧ Blk W12 bd #[(.int .i64 d.start), (.slice (some ⟨ab, ao, none⟩) d.accept.length ac), (.slice (some ⟨nb, no, none⟩) d.next.length nc)] 44 ∧ Blk W12 br #[(.int .i64 0), (.int .i64 0), (.slice none 0 0), (.slice none 0 0), (.slice none 0 0), (.slice none 0 0)] 46 ∧ Blk W12 b5 #[(.int .i64 d.start), (.int .i64 ((c : Nat) : Int)), (.slice (some ⟨ga, 0, none⟩) d.accept.length c35), (.slice (some ⟨q35, 0, none⟩) d.next.length d.next.length), (.slice none 0 0), (.slice none 0 0)] TT ∧ Blk W12 ga ((d.accept.map (Value.int .i64) ++ gr).toArray) TI ∧ Blk W12 q35 (((natV bs).map (Value.int .i64) ++ []).toArray) TI ∧ (m ≤ L0) ∧ (RSt d.next dn sl bs) ∧ (∀ b', b' < m → fitB (sl.drop b') row = false) ∧ (∀ i, L0 ≤ i → sl.getD i sl0 = sl0) ∧ (sl.length = L2) ∧ (L2 ≤ L0 + c) ∧ (W12.ownsRow n1 TP2 2 (.slice ga2 L2 gc2) L2 ((sl.map spanV).flatten)) ∧ (n1 ≤ W12.heap.size) ∧ nn_ = L0 + 1 - m) (n := L0 + 1 - 0) ?_ ?_
                    · exact ⟨0, sl, ga2, gc2, L2, Fits.out ⟨rfl, rfl, rfl, rfl, rfl, rfl, rfl, rfl, rfl, rfl, rfl, rfl, trivial⟩, E, Bd, Br, B5, hGa, Q35, Nat.zero_le _, hT, (fun b' h => absurd h (Nat.not_lt_zero _)), (fun i hi => slD_end (by omega)), hL2, (by omega), hS, hbs, rfl⟩
                    · clear E Bd Br B5 hGa Q35
                      rintro _ _ W12 ⟨m, sl, ga2, gc2, L2, ⟨j12, rfl⟩, E, Bd, Br, B5, hGa, Q35, hm, hT, hmin, hp0, hL2, hL, hS, hbs, rfl⟩
                      refine Wp_seq ?_
                      refine Wp_block ?_
                      refine Wp_seq ?_
                      refine Wp_block ?_
                      refine Wp_loop (fun nn_ σ W13 => ∃ (sl : List (Int × Int)) (ga2 : Option Addr) (gc2 L2 : Nat), (∃ jj_, σ = upds jj_ [(1, (.pointer (some ⟨bd, 0, none⟩))), (2, (.pointer (some ⟨br, 0, none⟩))), (4, (.int .i64 ((c : Nat) : Int))), (5, (.pointer (some ⟨b5, 0, none⟩))), (7, (.int .i64 ((mny : Nat) : Int))), (8, (.int .i64 ((s : Nat) : Int))), (9, (.slice ra c rc)), (13, (.int .i64 ((m : Nat) : Int))), (42, (.slice (some ⟨nb, no, none⟩) d.next.length nc)), (43, (.int .i64 ((d.next.length : Nat) : Int))), (44, (.int .i64 ((s : Nat) : Int))), (6, (.slice ga2 L2 gc2))]) ∧ Chg none1 w0 W13 ∧ Blk W13 bd #[(.int .i64 d.start), (.slice (some ⟨ab, ao, none⟩) d.accept.length ac), (.slice (some ⟨nb, no, none⟩) d.next.length nc)] 44 ∧ Blk W13 br #[(.int .i64 0), (.int .i64 0), (.slice none 0 0), (.slice none 0 0), (.slice none 0 0), (.slice none 0 0)] 46 ∧ Blk W13 b5 #[(.int .i64 d.start), (.int .i64 ((c : Nat) : Int)), (.slice (some ⟨ga, 0, none⟩) d.accept.length c35), (.slice (some ⟨q35, 0, none⟩) d.next.length d.next.length), (.slice none 0 0), (.slice none 0 0)] TT ∧ Blk W13 ga ((d.accept.map (Value.int .i64) ++ gr).toArray) TI ∧ Blk W13 q35 (((natV bs).map (Value.int .i64) ++ []).toArray) TI ∧ (RSt d.next dn sl bs) ∧ (∀ b', b' < m → fitB (sl.drop b') row = false) ∧ (∀ i, L0 ≤ i → sl.getD i sl0 = sl0) ∧ (sl.length = L2) ∧ (L2 ≤ L0 + c) ∧ (W13.ownsRow n1 TP2 2 (.slice ga2 L2 gc2) L2 ((sl.map spanV).flatten)) ∧ (n1 ≤ W13.heap.size) ∧ nn_ = m + c - L2) (n := m + c - L2) ?_ ?_
                      · exact ⟨sl, ga2, gc2, L2, Fits.out ⟨rfl, rfl, rfl, rfl, rfl, rfl, rfl, rfl, rfl, rfl, rfl, rfl, trivial⟩, E, Bd, Br, B5, hGa, Q35, hT, hmin, hp0, hL2, hL, hS, hbs, rfl⟩
                      · clear E Bd Br B5 hGa Q35
                        rintro _ _ W13 ⟨sl, ga2, gc2, L2, ⟨j13, rfl⟩, E, Bd, Br, B5, hGa, Q35, hT, hmin, hp0, hL2, hL, hS, hbs, rfl⟩
                        refine Wp_seq ?_
                        refine Wp_seq_region ?_
                        refine WpL_val rfl rfl (by decide) (r_move (v := (.slice ga2 L2 gc2)) rfl) ?_
                        refine WpL_val rfl rfl (by decide) (r_lenSlice (ad := ga2) (n := L2) (cap := gc2) Try.underlying27 rfl) ?_
                        refine WpL_val rfl rfl (by decide) (r_move (v := (.int .i64 ((m : Nat) : Int))) rfl) ?_
                        refine WpL_val rfl rfl (by decide) (r_move (v := (.int .i64 ((c : Nat) : Int))) rfl) ?_
                        refine WpL_val rfl rfl (by decide) (r_add (k := .i64) (a := ((m : Nat) : Int)) (b := ((c : Nat) : Int)) (c := (((m + c : Nat) : Nat) : Int)) rfl rfl ((wI64 (by omega)).trans (by omega))) ?_
                        refine WpL_val rfl rfl (by decide) (r_lss (k := .i64) (a := ((L2 : Nat) : Int)) (b := (((m + c : Nat) : Nat) : Int)) rfl rfl) ?_
                        refine WpL_nil ?_
                        refine Wp_cond (b := decide ((((L2 : Nat) : Int) : Int) < (((m + c : Nat) : Nat) : Int))) rfl (fun hpad => ?_) (fun hpad => ?_)
                        · have khpad := hpad
                          replace hpad := of_decide_eq_true hpad
                          refine Wp_skip ?_
                          refine thn_normal ?_
                          refine Wp_block ?_
                          refine Wp_region ?_
                          refine WpL_val rfl rfl (by decide) (r_move (v := (.slice ga2 L2 gc2)) rfl) ?_
                          refine WpL_val rfl rfl (by decide) (r_build (ps := [(0, (.int .i64 (-1))), (1, (.int .i64 (-1)))]) (v := (.agg #[(.int .i64 (-1)), (.int .i64 (-1))])) rfl (by kernel_rfl)) ?_
                          refine s_buildSlice (ps := [(0, (.agg #[(.int .i64 (-1)), (.int .i64 (-1))]))]) (c := #[(.int .i64 (-1)), (.int .i64 (-1))]) (by decide) rfl Try.underlying27 siz88 zer88 (by decide) (by decide) (by kernel_rfl) ?_
                          intro bp wp Np
                          have Fp := Np.ge E
                          have Op_bd := Np.lt Bd
                          have Op_br := Np.lt Br
                          have Op_b5 := Np.lt B5
                          have Op_ga := Np.lt hGa
                          have Op_q35 := Np.lt Q35
                          replace Bd := Np.keep Bd
                          replace Br := Np.keep Br
                          replace B5 := Np.keep B5
                          replace hGa := Np.keep hGa
                          replace Q35 := Np.keep Q35
                          replace hS := own_ext hS Np.ext
                          replace hbs := Nat.le_trans hbs Np.ext.size
                          replace E := E.ext Np.ext
                          have Bp := Np.blk
                          refine s_append (base := n1) (n := L2) (m := 1) (xs := (sl.map spanV).flatten) (news := [(.int .i64 (-1)), (.int .i64 (-1))]) (size := 2) (bytes := 16) (v := (.slice ga2 L2 gc2)) (by decide) Try.underlying27 siz88 byt88 zer88 rfl (by decide) rfl hS rfl (rfl) (Bp.cells rfl) (by simp [Value.oneCell']) (by unfold maxLen; omega) (by omega) (hbs) ?_
                          intro v9 w29 Ov9 Cv9 Dv9
                          replace Bd := Cv9.keep (fun h => by have := (hS.lt _ h).1; omega) Bd
                          replace Br := Cv9.keep (fun h => by have := (hS.lt _ h).1; omega) Br
                          replace B5 := Cv9.keep (fun h => by have := (hS.lt _ h).1; omega) B5
                          replace hGa := Cv9.keep (fun h => by have := (hS.lt _ h).1; omega) hGa
                          replace Q35 := Cv9.keep (fun h => by have := (hS.lt _ h).1; omega) Q35
                          replace E := E.step Cv9 (fun x hx h => absurd (hS.lt x h).1 (by omega))
                          obtain ⟨ga3, gc3, rfl⟩ := own_form Ov9
                          refine WpL_val rfl rfl (by decide) (r_assign (v := (.slice ga3 (L2 + 1) gc3)) rfl) ?_
                          refine WpL_nil ?_
                          refine inB_normal ?_
                          refine thn_normal ?_
                          exact ⟨m + c - (L2 + 1), by omega, sl ++ [sl0], ga3, gc3, L2 + 1, Fits.out ⟨rfl, rfl, rfl, rfl, rfl, rfl, rfl, rfl, rfl, rfl, rfl, rfl, trivial⟩, E, Bd, Br, B5, hGa, Q35, hT.pad, (fun b' hb => by rw [fitB_pad]; exact hmin b' hb), (fun i hi => by rw [slD_snoc]; exact hp0 i hi), (by simp [hL2]), (by omega), (by rw [List.map_append, List.flatten_append]; exact Ov9), Nat.le_trans hbs Cv9.size, rfl⟩
                        · have khpad := hpad
                          replace hpad := of_decide_eq_false hpad
                          refine Wp_exit ?_
                          refine thn_exit ?_
                          refine thn_exit ?_
                          refine inB_here ?_
                          refine thn_normal ?_
                          refine Wp_seq_region ?_
                          refine WpL_val rfl rfl (by decide) (r_move (v := (.slice ga2 L2 gc2)) rfl) ?_
                          refine WpL_val rfl rfl (by decide) (r_move (v := (.int .i64 ((m : Nat) : Int))) rfl) ?_
                          obtain ⟨sa9, hsa9⟩ : ∃ a' : Option Addr, (if gc2 = m then ga2 else Option.map (fun q : Addr => q.add (m * 2)) ga2) = a' := ⟨_, rfl⟩
                          refine WpL_val rfl rfl (by decide) (r_sliceLo (a := ga2) (len := L2) (cap := gc2) (lo := m) (l := ((m : Nat) : Int)) (n' := (L2 - m)) (c' := (gc2 - m)) Try.underlying27 siz88 rfl rfl (by omega) (by omega) hsa9 (by omega) (by omega)) ?_
                          have hcut := SlAt.cut (lo := m) (hi := L2) (sp_slat hS hL2) (by omega) (Nat.le_refl _) hsa9 rfl rfl
                          have hdl9 : ((sl.map spanV).drop m).take (L2 - m) = (sl.drop m).map spanV := by rw [List.take_of_length_le (by simp; omega), List.map_drop]
                          rw [hdl9] at hcut
                          refine WpL_val rfl rfl (by decide) (r_move (v := (.slice ra c rc)) rfl) ?_
                          refine WpL_enter rfl rfl (by decide) (r_callF (vs := [(.slice sa9 (L2 - m) (gc2 - m)), (.slice ra c rc)]) Try.func59 nm59 bd59 rfl) (rfits_c _ sa9 (gc2 - m) (sl.drop m) (L2 - m) ra rc c row hrl (by simp [hL2]) hcut (hints.ext E) (by omega) (by omega)) ?_
                          rintro _ w39 ⟨rfl, X39⟩
                          replace Bd := X39.keep Bd
                          replace Br := X39.keep Br
                          replace B5 := X39.keep B5
                          replace hGa := X39.keep hGa
                          replace Q35 := X39.keep Q35
                          replace hS := own_ext hS X39
                          replace hbs := Nat.le_trans hbs X39.size
                          replace E := E.ext X39
                          refine WpL_nil ?_
                          refine Wp_cond (b := fitB (sl.drop m) row) rfl (fun hfit => ?_) (fun hfit => ?_)
                          · have khfit := hfit
                            refine Wp_seq_region ?_
                            refine WpL_val rfl rfl (by decide) (r_fieldAddr (b := b5) (o := 0) (o' := 3) rfl Try.underlying46 rfl siz26 rfl) ?_
                            refine WpL_val rfl rfl (by decide) (r_load (v := (.slice (some ⟨q35, 0, none⟩) d.next.length d.next.length)) rfl flat26 (B5.cell rfl)) ?_
                            refine WpL_val rfl rfl (by decide) (r_move (v := (.int .i64 ((s : Nat) : Int))) rfl) ?_
                            refine WpL_val rfl rfl (by decide) (r_move (v := (.int .i64 ((m : Nat) : Int))) rfl) ?_
                            refine WpL_val rfl rfl (by decide) (r_indexSlice (b := q35) (o := 0) (len := d.next.length) (cap := d.next.length) (i := s) (o' := 0 + s) rfl rfl (by omega) Try.underlying26 siz3 (by omega) (by omega)) ?_
                            refine s_store (b := q35) (o := 0 + s) (c' := ((natV (bs.set s m)).map (Value.int .i64) ++ []).toArray) (v := (.int .i64 ((m : Nat) : Int))) rfl rfl rfl siz3 Q35 (by simp [natV, hbl]; omega) (by rw [Nat.zero_add, ints_set (by simp [natV, hbl]; omega), natV_set]) ?_
                            intro w16 S16
                            replace hS := own_chg hS S16.chg fun y hy h => by have := (hS.lt y hy).1; have h' : y = q35 := h; omega
                            replace hbs := Nat.le_trans hbs S16.chg.size
                            replace Bd := S16.keep (by omega) Bd
                            replace Br := S16.keep (by omega) Br
                            replace B5 := S16.keep (by omega) B5
                            replace hGa := S16.keep (by omega) hGa
                            replace E := S16.step E (by first | exact Or.inl (by omega) | exact Or.inr rfl | exact Or.inr (by assumption) | exact Or.inr (by simp) | exact Or.inr (by omega) | exact Or.inr (by dsimp only; omega))
                            replace Q35 := S16.blk
                            have hQ0 := RQt.start hT (show s < d.next.length by omega) (by omega) (show m + row.length ≤ sl.length by omega) hfit hmin
                            obtain ⟨g, gr2, rfl, hg2, hLc, hcm2, hgl, hG⟩ := own_blkP hS (by omega)
                            refine WpL_nil ?_
                            refine Wp_exit ?_
                            refine inB_there (by decide) ?_
                            refine thn_exit ?_
                            refine thn_exit ?_
                            refine inB_here ?_
                            refine thn_normal ?_
                            refine Wp_seq_region ?_
                            refine WpL_val rfl rfl (by decide) (r_move (v := (.slice ra c rc)) rfl) ?_
                            refine WpL_val rfl rfl (by decide) (r_lenSlice (ad := ra) (n := c) (cap := rc) Try.underlying26 rfl) ?_
                            refine WpL_val rfl rfl (by decide) (r_move (v := (.int .i64 0)) rfl) ?_
                            refine WpL_nil ?_
                            refine Wp_block ?_
                            refine Wp_loop (fun nn_ σ W17 => ∃ (q : Nat) (sl : List (Int × Int)), (∃ jj_, σ = upds jj_ [(1, (.pointer (some ⟨bd, 0, none⟩))), (2, (.pointer (some ⟨br, 0, none⟩))), (4, (.int .i64 ((c : Nat) : Int))), (5, (.pointer (some ⟨b5, 0, none⟩))), (6, (.slice (some ⟨g, 0, none⟩) L2 gc2)), (7, (.int .i64 ((mny : Nat) : Int))), (8, (.int .i64 ((s : Nat) : Int))), (42, (.slice (some ⟨nb, no, none⟩) d.next.length nc)), (43, (.int .i64 ((d.next.length : Nat) : Int))), (44, (.int .i64 ((s : Nat) : Int))), (85, (.slice ra c rc)), (86, (.int .i64 ((c : Nat) : Int))), (87, (.int .i64 ((q : Nat) : Int)))]) ∧ Chg none1 w0 W17 ∧ Blk W17 bd #[(.int .i64 d.start), (.slice (some ⟨ab, ao, none⟩) d.accept.length ac), (.slice (some ⟨nb, no, none⟩) d.next.length nc)] 44 ∧ Blk W17 br #[(.int .i64 0), (.int .i64 0), (.slice none 0 0), (.slice none 0 0), (.slice none 0 0), (.slice none 0 0)] 46 ∧ Blk W17 b5 #[(.int .i64 d.start), (.int .i64 ((c : Nat) : Int)), (.slice (some ⟨ga, 0, none⟩) d.accept.length c35), (.slice (some ⟨q35, 0, none⟩) d.next.length d.next.length), (.slice none 0 0), (.slice none 0 0)] TT ∧ Blk W17 ga ((d.accept.map (Value.int .i64) ++ gr).toArray) TI ∧ Blk W17 q35 (((natV (bs.set s m)).map (Value.int .i64) ++ []).toArray) TI ∧ Blk W17 g (((sl.map spanV).flatten ++ gr2).toArray) TP2 ∧ (q ≤ c) ∧ (RQt d.next dn s m row q sl (bs.set s m)) ∧ (sl.length = L2) ∧ (n1 ≤ W17.heap.size) ∧ nn_ = c - q) (n := c - 0) ?_ ?_
                            · exact ⟨0, sl, Fits.out ⟨rfl, rfl, rfl, rfl, rfl, rfl, rfl, rfl, rfl, rfl, rfl, rfl, rfl, trivial⟩, E, Bd, Br, B5, hGa, Q35, hG, Nat.zero_le _, hQ0, hL2, hbs, rfl⟩
                            · clear E Bd Br B5 hGa Q35 hG
                              rintro _ _ W17 ⟨q, sl, ⟨j17, rfl⟩, E, Bd, Br, B5, hGa, Q35, hG, hq9, hQ, hL2, hbs, rfl⟩
                              refine Wp_seq_region ?_
                              refine WpL_val rfl rfl (by decide) (r_lss (k := .i64) (a := ((q : Nat) : Int)) (b := ((c : Nat) : Int)) rfl rfl) ?_
                              refine WpL_nil ?_
                              refine Wp_seq ?_
                              refine Wp_cond (b := decide ((((q : Nat) : Int) : Int) < ((c : Nat) : Int))) rfl (fun hltq => ?_) (fun hltq => ?_)
                              · have khltq := hltq
                                replace hltq := of_decide_eq_true hltq
                                obtain ⟨x, hx⟩ := get_of_lt (l := row) (i := q) (by omega)
                                obtain ⟨rb, ro, rfl, hrc⟩ := ints_cells (n := c) hints (by omega)
                                refine Wp_skip ?_
                                refine thn_normal ?_
                                refine Wp_seq ?_
                                refine Wp_block ?_
                                refine Wp_seq_region ?_
                                refine WpL_val rfl rfl (by decide) (r_move (v := (.int .i64 ((q : Nat) : Int))) rfl) ?_
                                refine WpL_val rfl rfl (by decide) (r_indexSlice (b := rb) (o := ro) (len := c) (cap := rc) (i := q) (o' := ro + q) rfl rfl rfl Try.underlying26 siz3 (by omega) (by omega)) ?_
                                refine WpL_val rfl rfl (by decide) (r_load (v := (.int .i64 x)) rfl flat3 (E.cell (fun f => f) (hrc q x hx))) ?_
                                refine WpL_val rfl rfl (by decide) (r_assign (v := (.int .i64 ((q : Nat) : Int))) rfl) ?_
                                refine WpL_val rfl rfl (by decide) (r_assign (v := (.int .i64 x)) rfl) ?_
                                refine WpL_nil ?_
                                refine Wp_seq_region ?_
                                refine WpL_val rfl rfl (by decide) (r_move (v := (.int .i64 x)) rfl) ?_
                                refine WpL_val rfl rfl (by decide) (r_geq (k := .i64) (a := x) (b := 0) rfl rfl) ?_
                                refine WpL_nil ?_
                                refine Wp_cond (b := decide ((0 : Int) ≤ x)) rfl (fun h0 => ?_) (fun h0 => ?_)
                                · have kh0 := h0
                                  replace h0 := of_decide_eq_true h0
                                  have hqlen := hQ.len
                                  have hbase := hQ.base (show s < d.next.length by omega)
                                  refine Wp_region ?_
                                  refine WpL_val rfl rfl (by decide) (r_move (v := (.slice (some ⟨g, 0, none⟩) L2 gc2)) rfl) ?_
                                  refine WpL_val rfl rfl (by decide) (r_fieldAddr (b := b5) (o := 0) (o' := 3) rfl Try.underlying46 rfl siz26 rfl) ?_
                                  refine WpL_val rfl rfl (by decide) (r_load (v := (.slice (some ⟨q35, 0, none⟩) d.next.length d.next.length)) rfl flat26 (B5.cell rfl)) ?_
                                  refine WpL_val rfl rfl (by decide) (r_move (v := (.int .i64 ((s : Nat) : Int))) rfl) ?_
                                  refine WpL_val rfl rfl (by decide) (r_indexSlice (b := q35) (o := 0) (len := d.next.length) (cap := d.next.length) (i := s) (o' := 0 + s) rfl rfl (by omega) Try.underlying26 siz3 (by omega) (by omega)) ?_
                                  refine WpL_val rfl rfl (by decide) (r_load (v := (.int .i64 ((m : Nat) : Int))) rfl flat3 ((by rw [Nat.zero_add]; exact ints_get Q35 (natV_get hbase)))) ?_
                                  refine WpL_val rfl rfl (by decide) (r_move (v := (.int .i64 ((q : Nat) : Int))) rfl) ?_
                                  refine WpL_val rfl rfl (by decide) (r_add (k := .i64) (a := ((m : Nat) : Int)) (b := ((q : Nat) : Int)) (c := (((m + q : Nat) : Nat) : Int)) rfl rfl ((wI64 (by omega)).trans (by omega))) ?_
                                  refine WpL_val rfl rfl (by decide) (r_move (v := (.int .i64 ((s : Nat) : Int))) rfl) ?_
                                  refine WpL_val rfl rfl (by decide) (r_move (v := (.int .i64 x)) rfl) ?_
                                  refine WpL_val rfl rfl (by decide) (r_build (ps := [(0, (.int .i64 ((s : Nat) : Int))), (1, (.int .i64 x))]) (v := (.agg #[(.int .i64 ((s : Nat) : Int)), (.int .i64 x)])) rfl (by kernel_rfl)) ?_
                                  refine WpL_val rfl rfl (by decide) (r_indexSlice (b := g) (o := 0) (len := L2) (cap := gc2) (i := m + q) (o' := 0 + (m + q) * 2) rfl rfl (by omega) Try.underlying27 siz88 (by omega) (by omega)) ?_
                                  refine s_storeAgg (b := g) (o := 0 + (m + q) * 2) (n := 2) (c' := (((sl.set (m + q) (((s : Nat) : Int), x)).map spanV).flatten ++ gr2).toArray) (vs := #[(.int .i64 ((s : Nat) : Int)), (.int .i64 x)]) rfl rfl (by simp [Value.oneCell']) siz88 (rfl) hG (by rw [List.size_toArray, List.length_append, sp_flat_len]; omega) (by rw [Nat.zero_add]; exact congrArg List.toArray (sp_flat_set (((s : Nat) : Int), x) gr2 (by omega))) ?_
                                  intro w20 S20
                                  replace hbs := Nat.le_trans hbs S20.chg.size
                                  replace Bd := S20.keep (by omega) Bd
                                  replace Br := S20.keep (by omega) Br
                                  replace B5 := S20.keep (by omega) B5
                                  replace hGa := S20.keep (by omega) hGa
                                  replace Q35 := S20.keep (by omega) Q35
                                  replace E := S20.step E (by first | exact Or.inl (by omega) | exact Or.inr rfl | exact Or.inr (by assumption) | exact Or.inr (by simp) | exact Or.inr (by omega) | exact Or.inr (by dsimp only; omega))
                                  replace hG := S20.blk
                                  refine WpL_nil ?_
                                  refine inB_normal ?_
                                  refine thn_normal ?_
                                  refine Wp_region ?_
                                  refine WpL_val rfl rfl (by decide) (r_add (k := .i64) (a := ((q : Nat) : Int)) (b := 1) (c := ((q : Nat) : Int) + 1) rfl rfl (wI64 (by omega))) ?_
                                  refine WpL_val rfl rfl (by decide) (r_move (v := (.int .i64 (((q : Nat) : Int) + 1))) rfl) ?_
                                  refine WpL_nil ?_
                                  refine thn_normal ?_
                                  exact ⟨c - (q + 1), by omega, q + 1, sl.set (m + q) (((s : Nat) : Int), x), Fits.out ⟨rfl, rfl, rfl, rfl, rfl, rfl, rfl, rfl, rfl, rfl, rfl, rfl, rfl, trivial⟩, E, Bd, Br, B5, hGa, Q35, hG, (by omega), hQ.put hx h0, (by simp [hL2]), hbs, rfl⟩
                                · have kh0 := h0
                                  replace h0 := of_decide_eq_false h0
                                  refine Wp_skip ?_
                                  refine inB_normal ?_
                                  refine thn_normal ?_
                                  refine Wp_region ?_
                                  refine WpL_val rfl rfl (by decide) (r_add (k := .i64) (a := ((q : Nat) : Int)) (b := 1) (c := ((q : Nat) : Int) + 1) rfl rfl (wI64 (by omega))) ?_
                                  refine WpL_val rfl rfl (by decide) (r_move (v := (.int .i64 (((q : Nat) : Int) + 1))) rfl) ?_
                                  refine WpL_nil ?_
                                  refine thn_normal ?_
                                  exact ⟨c - (q + 1), by omega, q + 1, sl, Fits.out ⟨rfl, rfl, rfl, rfl, rfl, rfl, rfl, rfl, rfl, rfl, rfl, rfl, rfl, trivial⟩, E, Bd, Br, B5, hGa, Q35, hG, (by omega), hQ.skip hx h0, hL2, hbs, rfl⟩
                              · have khltq := hltq
                                replace hltq := of_decide_eq_false hltq
                                have hS2 := blk_ownP (n := L2) (c := gc2) (size := 2) hG hg2 (by rw [sp_flat_len, hL2]) hLc hcm2 (by rw [List.length_append, sp_flat_len, hL2]; rw [List.length_append, sp_flat_len] at hgl; omega)
                                refine Wp_exit ?_
                                refine thn_exit ?_
                                refine thn_exit ?_
                                refine inB_here ?_
                                refine inB_normal ?_
                                refine thn_normal ?_
                                refine Wp_region ?_
                                refine WpL_val rfl rfl (by decide) (r_add (k := .i64) (a := ((s : Nat) : Int)) (b := 1) (c := ((s : Nat) : Int) + 1) rfl rfl (wI64 (by omega))) ?_
                                refine WpL_val rfl rfl (by decide) (r_move (v := (.int .i64 (((s : Nat) : Int) + 1))) rfl) ?_
                                refine WpL_nil ?_
                                refine thn_normal ?_
                                exact ⟨n - (s + 1), by omega, s + 1, dn ++ [s], sl, bs.set s m, some ⟨g, 0, none⟩, gc2, L2, Fits.out ⟨rfl, rfl, rfl, rfl, rfl, rfl, rfl, rfl, rfl, trivial⟩, E, Bd, Br, B5, hGa, Q35, (by omega), hR.put (by omega) hcm, hQ.done hrow (by omega), (by simp [hbl]), hL2, (by rw [List.length_append, List.length_singleton, Nat.succ_mul]; omega), hS2, hbs, rfl⟩
                          · have khfit := hfit
                            have hml : m < L0 := by rcases Nat.lt_or_ge m L0 with h | h; exact h; rw [fitB_end hT hp0 h] at hfit; cases hfit
                            refine Wp_skip ?_
                            refine inB_normal ?_
                            refine thn_normal ?_
                            refine Wp_region ?_
                            refine WpL_val rfl rfl (by decide) (r_move (v := (.int .i64 ((m : Nat) : Int))) rfl) ?_
                            refine WpL_val rfl rfl (by decide) (r_add (k := .i64) (a := ((m : Nat) : Int)) (b := 1) (c := (((m + 1 : Nat) : Nat) : Int)) rfl rfl ((wI64 (by omega)).trans (by omega))) ?_
                            refine WpL_val rfl rfl (by decide) (r_assign (v := (.int .i64 (((m + 1 : Nat) : Nat) : Int))) rfl) ?_
                            refine WpL_nil ?_
                            refine thn_normal ?_
                            exact ⟨L0 + 1 - (m + 1), by omega, m + 1, sl, ga2, gc2, L2, Fits.out ⟨rfl, rfl, rfl, rfl, rfl, rfl, rfl, rfl, rfl, rfl, rfl, rfl, trivial⟩, E, Bd, Br, B5, hGa, Q35, (by omega), hT, (fun b' hb' => by rcases Nat.lt_or_ge b' m with h9 | h9; exact hmin b' h9; obtain rfl : b' = m := (by omega); exact hfit), hp0, hL2, hL, hS, hbs, rfl⟩
            · have khlt := hlt
              replace hlt := of_decide_eq_false hlt
              have hsn : s = d.next.length := by omega
              rw [hsn] at hR
              obtain ⟨my, rfl⟩ : ∃ my, mny = my + 1 := ⟨mny - 1, by omega⟩
              refine Wp_exit ?_
              refine thn_exit ?_
              refine thn_exit ?_
              refine inB_here ?_
              refine inB_normal ?_
              refine thn_normal ?_
              refine Wp_region ?_
              refine WpL_val rfl rfl (by decide) (r_move (v := (.int .i64 ((my + 1 : Nat) : Int))) rfl) ?_
              refine WpL_val rfl rfl (by decide) (r_sub (k := .i64) (a := ((my + 1 : Nat) : Int)) (b := 1) (c := (((my : Nat) : Nat) : Int)) rfl rfl ((wI64 (by omega)).trans (by omega))) ?_
              refine WpL_val rfl rfl (by decide) (r_assign (v := (.int .i64 (((my : Nat) : Nat) : Int))) rfl) ?_
              refine WpL_nil ?_
              refine thn_normal ?_
              exact ⟨my + 1, by omega, my, dn, sl, bs, ga2, gc2, L2, Fits.out ⟨rfl, rfl, rfl, rfl, rfl, rfl, trivial⟩, E, Bd, Br, B5, hGa, Q35, (by omega), hR.next, hT, hbl, hL2, hL, hS, hbs, rfl⟩
        · have khge := hge
          replace hge := of_decide_eq_false hge
          have hm0 : mny = 0 := by omega
          subst hm0
          have hdl := hR.len
          have hdc : dn.length * c ≤ 200 * 16 := Nat.mul_le_mul (by omega) hc.2
          have hfree := hT.free (fun r hr x hx => ((ok.row r hr).2 x hx).1)
          have hsllen := sp_flat_len sl
          obtain ⟨F9, hF9⟩ : ∃ F9, F9 = (sl.map spanV).flatten := ⟨_, rfl⟩
          rw [← hF9] at hS hsllen
          refine Wp_exit ?_
          refine thn_exit ?_
          refine thn_exit ?_
          refine inB_here ?_
          refine thn_normal ?_
          refine Wp_seq ?_
          refine Wp_block ?_
          refine Wp_loop (fun nn_ σ W21 => ∃ (L9 : Nat), (∃ jj_, σ = upds jj_ [(2, (.pointer (some ⟨br, 0, none⟩))), (5, (.pointer (some ⟨b5, 0, none⟩))), (6, (.slice ga2 L9 gc2))]) ∧ Chg none1 w0 W21 ∧ Blk W21 bd #[(.int .i64 d.start), (.slice (some ⟨ab, ao, none⟩) d.accept.length ac), (.slice (some ⟨nb, no, none⟩) d.next.length nc)] 44 ∧ Blk W21 br #[(.int .i64 0), (.int .i64 0), (.slice none 0 0), (.slice none 0 0), (.slice none 0 0), (.slice none 0 0)] 46 ∧ Blk W21 b5 #[(.int .i64 d.start), (.int .i64 ((c : Nat) : Int)), (.slice (some ⟨ga, 0, none⟩) d.accept.length c35), (.slice (some ⟨q35, 0, none⟩) d.next.length d.next.length), (.slice none 0 0), (.slice none 0 0)] TT ∧ Blk W21 ga ((d.accept.map (Value.int .i64) ++ gr).toArray) TI ∧ Blk W21 q35 (((natV bs).map (Value.int .i64) ++ []).toArray) TI ∧ (L9 ≤ L2) ∧ (∀ i, L9 ≤ i → (sl.getD i sl0).1 < 0) ∧ (W21.ownsRow n1 TP2 2 (.slice ga2 L9 gc2) L9 (F9.take (L9 * 2))) ∧ (n1 ≤ W21.heap.size) ∧ nn_ = L9 + 1) (n := L2 + 1) ?_ ?_
          · exact ⟨L2, Fits.out ⟨rfl, rfl, rfl, trivial⟩, E, Bd, Br, B5, hGa, Q35, Nat.le_refl _, (fun i hi => by rw [slD_end (by omega)]; decide), (by rw [List.take_of_length_le (by omega)]; exact hS), hbs, rfl⟩
          · clear E Bd Br B5 hGa Q35
            rintro _ _ W21 ⟨L9, ⟨j21, rfl⟩, E, Bd, Br, B5, hGa, Q35, hL9, ht, hS, hbs, rfl⟩
            refine Wp_seq ?_
            refine Wp_cut (fun σ W22 => ∃ (u : Bool), (∃ jj_, σ = upds jj_ [(2, (.pointer (some ⟨br, 0, none⟩))), (5, (.pointer (some ⟨b5, 0, none⟩))), (6, (.slice ga2 L9 gc2)), (120, (.bool u))]) ∧ Chg none1 w0 W22 ∧ Blk W22 bd #[(.int .i64 d.start), (.slice (some ⟨ab, ao, none⟩) d.accept.length ac), (.slice (some ⟨nb, no, none⟩) d.next.length nc)] 44 ∧ Blk W22 br #[(.int .i64 0), (.int .i64 0), (.slice none 0 0), (.slice none 0 0), (.slice none 0 0), (.slice none 0 0)] 46 ∧ Blk W22 b5 #[(.int .i64 d.start), (.int .i64 ((c : Nat) : Int)), (.slice (some ⟨ga, 0, none⟩) d.accept.length c35), (.slice (some ⟨q35, 0, none⟩) d.next.length d.next.length), (.slice none 0 0), (.slice none 0 0)] TT ∧ Blk W22 ga ((d.accept.map (Value.int .i64) ++ gr).toArray) TI ∧ Blk W22 q35 (((natV bs).map (Value.int .i64) ++ []).toArray) TI ∧ (u = (decide (0 < L9) && decide ((sl.getD (L9 - 1) sl0).1 < 0))) ∧ (W22.ownsRow n1 TP2 2 (.slice ga2 L9 gc2) L9 (F9.take (L9 * 2))) ∧ (n1 ≤ W22.heap.size)) ?_ ?_
            · skip
              refine Wp_region ?_
              refine WpL_val rfl rfl (by decide) (r_move (v := (.slice ga2 L9 gc2)) rfl) ?_
              refine WpL_val rfl rfl (by decide) (r_lenSlice (ad := ga2) (n := L9) (cap := gc2) Try.underlying27 rfl) ?_
              refine WpL_val rfl rfl (by decide) (r_gtr (k := .i64) (a := ((L9 : Nat) : Int)) (b := 0) rfl rfl) ?_
              refine WpL_val rfl rfl (by decide) (r_move (v := (.bool (decide ((0 : Int) < ((L9 : Nat) : Int))))) rfl) ?_
              rcases Bool.eq_false_or_eq_true (decide ((0 : Int) < ((L9 : Nat) : Int))) with hpos | hpos
              · have khpos := hpos
                replace khpos := of_decide_eq_true khpos
                obtain ⟨p, hp⟩ := get_of_lt (l := sl) (i := L9 - 1) (by omega)
                obtain ⟨g, rfl, _, hgc⟩ := own_cells hS (by omega)
                have hpc : (W21).cell? ⟨g, 0 + (L9 - 1) * 2, none⟩ = some (.int .i64 p.1) := by have h9 := hgc ((L9 - 1) * 2) (.int .i64 p.1) (by rw [List.getElem?_take_of_lt (by omega), hF9]; exact sp_flat_get hp); rw [Nat.zero_add]; simpa using h9
                refine WpL_guard_yes (oj := _) rfl rfl (by decide) (congrArg Value.bool hpos) ?_
                refine WpL_val rfl rfl (by decide) (r_move (v := (.slice (some ⟨g, 0, none⟩) L9 gc2)) rfl) ?_
                refine WpL_guard_yes (oj := _) rfl rfl (by decide) (congrArg Value.bool hpos) ?_
                refine WpL_val rfl rfl (by decide) (r_move (v := (.slice (some ⟨g, 0, none⟩) L9 gc2)) rfl) ?_
                refine WpL_guard_yes (oj := _) rfl rfl (by decide) (congrArg Value.bool hpos) ?_
                refine WpL_val rfl rfl (by decide) (r_lenSlice (ad := some ⟨g, 0, none⟩) (n := L9) (cap := gc2) Try.underlying27 rfl) ?_
                refine WpL_guard_yes (oj := _) rfl rfl (by decide) (congrArg Value.bool hpos) ?_
                refine WpL_val rfl rfl (by decide) (r_sub (k := .i64) (a := ((L9 : Nat) : Int)) (b := 1) (c := (((L9 - 1 : Nat) : Nat) : Int)) rfl rfl ((wI64 (by omega)).trans (by omega))) ?_
                refine WpL_guard_yes (oj := _) rfl rfl (by decide) (congrArg Value.bool hpos) ?_
                refine WpL_val rfl rfl (by decide) (r_indexSlice (b := g) (o := 0) (len := L9) (cap := gc2) (i := L9 - 1) (o' := 0 + (L9 - 1) * 2) rfl rfl (by omega) Try.underlying27 siz88 (by omega) (by omega)) ?_
                refine WpL_guard_yes (oj := _) rfl rfl (by decide) (congrArg Value.bool hpos) ?_
                refine WpL_val rfl rfl (by decide) (r_indexArr (b := g) (o := 0 + (L9 - 1) * 2) (i := 0) (o' := 0 + (L9 - 1) * 2 + 0) rfl rfl rfl Try.underlying88 siz3 (by omega) (by omega)) ?_
                refine WpL_guard_yes (oj := _) rfl rfl (by decide) (congrArg Value.bool hpos) ?_
                refine WpL_val rfl rfl (by decide) (r_load (v := (.int .i64 p.1)) rfl flat3 (hpc)) ?_
                refine WpL_guard_yes (oj := _) rfl rfl (by decide) (congrArg Value.bool hpos) ?_
                refine WpL_val rfl rfl (by decide) (r_lss (k := .i64) (a := p.1) (b := 0) rfl rfl) ?_
                refine WpL_val rfl rfl (by decide) (r_pick (b := decide ((0 : Int) < ((L9 : Nat) : Int))) (v := (.bool (decide ((p.1 : Int) < 0)))) rfl (by rw [hpos]; rfl)) ?_
                refine WpL_nil ?_
                refine thn_normal ?_
                exact ⟨(decide ((p.1 : Int) < 0)), Fits.out ⟨rfl, rfl, rfl, rfl, trivial⟩, E, Bd, Br, B5, hGa, Q35, (by rw [slD_get hp, decide_eq_true (show 0 < L9 by omega), Bool.true_and]), hS, hbs⟩
              · have khpos := hpos
                replace khpos := of_decide_eq_false khpos
                refine WpL_guard_no (oj := _) rfl rfl (by decide) (v := .bool false) (congrArg Value.bool hpos) (Or.inl rfl) ?_
                refine WpL_guard_no (oj := _) rfl rfl (by decide) (v := .bool false) (congrArg Value.bool hpos) (Or.inl rfl) ?_
                refine WpL_guard_no (oj := _) rfl rfl (by decide) (v := .bool false) (congrArg Value.bool hpos) (Or.inl rfl) ?_
                refine WpL_guard_no (oj := _) rfl rfl (by decide) (v := .bool false) (congrArg Value.bool hpos) (Or.inl rfl) ?_
                refine WpL_guard_no (oj := _) rfl rfl (by decide) (v := .bool false) (congrArg Value.bool hpos) (Or.inl rfl) ?_
                refine WpL_guard_no (oj := _) rfl rfl (by decide) (v := .bool false) (congrArg Value.bool hpos) (Or.inl rfl) ?_
                refine WpL_guard_no (oj := _) rfl rfl (by decide) (v := .bool false) (congrArg Value.bool hpos) (Or.inl rfl) ?_
                refine WpL_guard_no (oj := _) rfl rfl (by decide) (v := .bool false) (congrArg Value.bool hpos) (Or.inl rfl) ?_
                refine WpL_val rfl rfl (by decide) (r_pick (b := decide ((0 : Int) < ((L9 : Nat) : Int))) (v := (.bool false)) rfl (by rw [hpos]; rfl)) ?_
                refine WpL_nil ?_
                refine thn_normal ?_
                exact ⟨false, Fits.out ⟨rfl, rfl, rfl, rfl, trivial⟩, E, Bd, Br, B5, hGa, Q35, (by rw [decide_eq_false (show ¬ 0 < L9 by omega), Bool.false_and]), hS, hbs⟩
            · clear E Bd Br B5 hGa Q35
              rintro _ W22 ⟨u, ⟨j22, rfl⟩, E, Bd, Br, B5, hGa, Q35, hu, hS, hbs⟩
              refine Wp_cond (b := u) rfl (fun hgo => ?_) (fun hgo => ?_)
              · have khgo := hgo
                have hu2 := hu.symm.trans hgo
                rw [Bool.and_eq_true, decide_eq_true_eq, decide_eq_true_eq] at hu2
                obtain ⟨g, rfl, _, hgc⟩ := own_cells hS (by omega)
                obtain ⟨_, _, _, _, hle9, _, _, _⟩ := own_blkP hS (by omega)
                refine Wp_skip ?_
                refine thn_normal ?_
                refine Wp_block ?_
                refine Wp_region ?_
                refine WpL_val rfl rfl (by decide) (r_move (v := (.slice (some ⟨g, 0, none⟩) L9 gc2)) rfl) ?_
                refine WpL_val rfl rfl (by decide) (r_move (v := (.slice (some ⟨g, 0, none⟩) L9 gc2)) rfl) ?_
                refine WpL_val rfl rfl (by decide) (r_lenSlice (ad := some ⟨g, 0, none⟩) (n := L9) (cap := gc2) Try.underlying27 rfl) ?_
                refine WpL_val rfl rfl (by decide) (r_sub (k := .i64) (a := ((L9 : Nat) : Int)) (b := 1) (c := (((L9 - 1 : Nat) : Nat) : Int)) rfl rfl ((wI64 (by omega)).trans (by omega))) ?_
                obtain ⟨sb9, hsb9⟩ : ∃ a' : Option Addr, (if gc2 = 0 then (some ⟨g, 0, none⟩) else Option.map (fun q : Addr => q.add (0 * 2)) (some ⟨g, 0, none⟩)) = a' := ⟨_, rfl⟩
                refine WpL_val rfl rfl (by decide) (r_sliceHi (a := (some ⟨g, 0, none⟩)) (len := L9) (cap := gc2) (hi := L9 - 1) (l := (((L9 - 1 : Nat) : Nat) : Int)) Try.underlying27 siz88 rfl rfl (by omega) (by omega) hsb9) ?_
                refine WpL_val rfl rfl (by decide) (r_assign (v := (.slice sb9 (L9 - 1) gc2)) rfl) ?_
                refine WpL_nil ?_
                refine inB_normal ?_
                refine thn_normal ?_
                have hsb : sb9 = some ⟨g, 0, none⟩ := by rw [← hsb9, if_neg (by omega)]; simp [Addr.add_lit]
                subst hsb
                have hw2 := own_cut hS (m := L9 - 1) (by omega) (by omega)
                rw [List.take_take, Nat.min_eq_left (by omega)] at hw2
                exact ⟨(L9 - 1) + 1, by omega, L9 - 1, Fits.out ⟨rfl, rfl, rfl, trivial⟩, E, Bd, Br, B5, hGa, Q35, (by omega), (fun i hi => by rcases Nat.lt_or_ge i L9 with h | h; rw [show i = L9 - 1 by omega]; exact hu2.2; exact ht i h), hw2, hbs, rfl⟩
              · have khgo := hgo
                have hl9 : L9 = 0 ∨ 0 ≤ (sl.getD (L9 - 1) sl0).1 := by rw [hgo] at hu; rcases Nat.eq_zero_or_pos L9 with h | h; exact .inl h; rw [decide_eq_true h, Bool.true_and] at hu; exact .inr (Int.not_lt.1 (of_decide_eq_false hu.symm))
                refine Wp_exit ?_
                refine thn_exit ?_
                refine thn_exit ?_
                refine inB_here ?_
                refine thn_normal ?_
                refine Wp_seq ?_
                refine Wp_seq_region ?_
                refine WpL_val rfl rfl (by decide) (r_move (v := (.slice ga2 L9 gc2)) rfl) ?_
                refine WpL_val rfl rfl (by decide) (r_lenSlice (ad := ga2) (n := L9) (cap := gc2) Try.underlying27 rfl) ?_
                refine WpL_val rfl rfl (by decide) (r_move (v := (.int .i64 0)) rfl) ?_
                refine WpL_nil ?_
                refine Wp_block ?_
                obtain ⟨n3, hn3⟩ : ∃ n3, n3 = (W22).heap.size := ⟨_, rfl⟩
                have l3 : bd < n3 ∧ br < n3 ∧ b5 < n3 ∧ ga < n3 ∧ q35 < n3 := by rw [hn3]; exact ⟨Bd.lt, Br.lt, B5.lt, hGa.lt, Q35.lt⟩
                have hS3 : ∀ y, (Value.slice ga2 L9 gc2).ownBlock = some y → y < n3 := fun y hy => by rw [hn3]; exact (hS.lt y hy).2
                refine Wp_loop (fun nn_ σ W25 => ∃ (i oc nc2 : Nat) (oa na2 : Option Addr), (∃ jj_, σ = upds jj_ [(2, (.pointer (some ⟨br, 0, none⟩))), (5, (.pointer (some ⟨b5, 0, none⟩))), (126, (.slice ga2 L9 gc2)), (127, (.int .i64 ((L9 : Nat) : Int))), (128, (.int .i64 ((i : Nat) : Int)))]) ∧ Chg none1 w0 W25 ∧ Blk W25 bd #[(.int .i64 d.start), (.slice (some ⟨ab, ao, none⟩) d.accept.length ac), (.slice (some ⟨nb, no, none⟩) d.next.length nc)] 44 ∧ Blk W25 br #[(.int .i64 0), (.int .i64 0), (.slice none 0 0), (.slice none 0 0), (.slice none 0 0), (.slice none 0 0)] 46 ∧ Blk W25 b5 (#[(.int .i64 d.start), (.int .i64 ((c : Nat) : Int)), (.slice (some ⟨ga, 0, none⟩) d.accept.length c35), (.slice (some ⟨q35, 0, none⟩) d.next.length d.next.length), (.slice oa i oc), (.slice na2 i nc2)]) TT ∧ Blk W25 ga ((d.accept.map (Value.int .i64) ++ gr).toArray) TI ∧ Blk W25 q35 (((natV bs).map (Value.int .i64) ++ []).toArray) TI ∧ (i ≤ L9) ∧ (OSt n3 (fun _ => False) W25 (.slice oa i oc) (.slice na2 i nc2) i ((sl.take i).map (·.1)) ((sl.take i).map (·.2))) ∧ (W25.ownsRow n1 TP2 2 (.slice ga2 L9 gc2) L9 (F9.take (L9 * 2))) ∧ (n3 ≤ W25.heap.size) ∧ nn_ = L9 - i) (n := L9 - 0) ?_ ?_
                · exact ⟨0, 0, 0, none, none, Fits.out ⟨rfl, rfl, rfl, rfl, rfl, trivial⟩, E, Bd, Br, B5, hGa, Q35, Nat.zero_le _, OSt.start _ _ _, hS, (by omega), rfl⟩
                · clear E Bd Br B5 hGa Q35
                  rintro _ _ W25 ⟨i, oc, nc2, oa, na2, ⟨j25, rfl⟩, E, Bd, Br, B5, hGa, Q35, hi, hO, hS, hbs, rfl⟩
                  refine Wp_seq_region ?_
                  refine WpL_val rfl rfl (by decide) (r_lss (k := .i64) (a := ((i : Nat) : Int)) (b := ((L9 : Nat) : Int)) rfl rfl) ?_
                  refine WpL_nil ?_
                  refine Wp_seq ?_
                  refine Wp_cond (b := decide ((((i : Nat) : Int) : Int) < ((L9 : Nat) : Int))) rfl (fun hlti => ?_) (fun hlti => ?_)
                  · have khlti := hlti
                    replace hlti := of_decide_eq_true hlti
                    obtain ⟨p, hp⟩ := get_of_lt (l := sl) (i := i) (by omega)
                    obtain ⟨g, rfl, _, hgc⟩ := own_cells hS (by omega)
                    have hpc : CellsAt (W25) g (0 + i * 2) [.int .i64 p.1, .int .i64 p.2] := fun j u hu => by have h1 := hgc (i * 2 + j) u (by rw [List.getElem?_take_of_lt (by have := lt_of_get hu; simp at this; omega), hF9]; rcases j with _ | _ | j; simp at hu; subst hu; exact sp_flat_get hp; simp at hu; subst hu; exact sp_flat_get2 hp; simp at hu); rw [show 0 + i * 2 + j = 0 + (i * 2 + j) by omega]; simpa using h1
                    obtain ⟨z0, hz0⟩ : ∃ z0, z0 = (W25).heap.size := ⟨_, rfl⟩
                    have hOz : (∀ y, (Value.slice oa i oc).ownBlock = some y → y < z0) ∧ (∀ y, (Value.slice na2 i nc2).ownBlock = some y → y < z0) := ⟨fun y hy => by rw [hz0]; exact (hO.o.lt y hy).2, fun y hy => by rw [hz0]; exact (hO.n.lt y hy).2⟩
                    refine Wp_skip ?_
                    refine thn_normal ?_
                    refine Wp_seq ?_
                    refine Wp_block ?_
                    refine Wp_seq_region ?_
                    refine WpL_val rfl rfl (by decide) (r_indexSlice (b := g) (o := 0) (len := L9) (cap := gc2) (i := i) (o' := 0 + i * 2) rfl rfl rfl Try.underlying27 siz88 (by omega) (by omega)) ?_
                    refine WpL_val rfl rfl (by decide) (r_loadAgg (vs := [(.int .i64 p.1), (.int .i64 p.2)]) rfl agg88 siz88 rfl (hpc)) ?_
                    refine s_allocStore (v := (.agg #[(.int .i64 p.1), (.int .i64 p.2)])) (c := #[(.int .i64 p.1), (.int .i64 p.2)]) (n := 2) (by decide) zer88 rfl siz88 rfl rfl rfl (by simp [Value.oneCell']) ?_
                    intro bx wx Nx
                    have Fx := Nx.ge E
                    have Ox_bd := Nx.lt Bd
                    have Ox_br := Nx.lt Br
                    have Ox_b5 := Nx.lt B5
                    have Ox_ga := Nx.lt hGa
                    have Ox_q35 := Nx.lt Q35
                    replace Bd := Nx.keep Bd
                    replace Br := Nx.keep Br
                    replace B5 := Nx.keep B5
                    replace hGa := Nx.keep hGa
                    replace Q35 := Nx.keep Q35
                    replace hO := hO.ext Nx.ext
                    replace hS := own_ext hS Nx.ext
                    replace hbs := Nat.le_trans hbs Nx.ext.size
                    replace E := E.ext Nx.ext
                    have Bx := Nx.blk
                    refine WpL_nil ?_
                    obtain ⟨n4, hn4⟩ : ∃ n4, n4 = (wx).heap.size := ⟨_, rfl⟩
                    have l4 : bx < n4 := by rw [hn4]; exact Bx.lt
                    have hxO := hO
                    have hOx : (Value.slice oa i oc).ownBlock ≠ some bx ∧ (Value.slice na2 i nc2).ownBlock ≠ some bx := ⟨fun h => by have := hOz.1 bx h; have := Nx.eq; omega, fun h => by have := hOz.2 bx h; have := Nx.eq; omega⟩
                    obtain ⟨Fs27, hFs27⟩ : ∃ Fs : List FctE, Fs = [(fun _ v _ => v = (.pointer (some ⟨b5, 4, none⟩))), (fun _ v _ => v = (.slice oa i oc)), (fun _ v _ => v = (.pointer (some ⟨bx, 0, none⟩))), (fun _ v _ => v = (.int .i64 p.1)), (fun _ => oneF n4 p.1), (fun _ => appW n3 n4 (i + 1) (((sl.take i).map (·.1)).map (Value.int .i64) ++ [.int .i64 p.1]) (.slice oa i oc)), (fun _ v _ => v = (.pointer (some ⟨b5, 5, none⟩))), (fun _ v _ => v = (.slice na2 i nc2)), (fun _ v _ => v = (.pointer (some ⟨bx, 1, none⟩))), (fun _ v _ => v = (.int .i64 p.2)), (fun _ => oneF n4 p.2), (fun s v w => appW n3 n4 (i + 1) (((sl.take i).map (·.2)).map (Value.int .i64) ++ [.int .i64 p.2]) (.slice na2 i nc2) v w ∧ ApartV (s 137) v), (fun _ v _ => v = (.pointer (some ⟨b5, 4, none⟩)))] := ⟨_, rfl⟩
                    refine Wp_dagX (two 5 11 (fun y => (Value.slice oa i oc).ownBlock = some y) (fun y => (Value.slice na2 i nc2).ownBlock = some y)) 13 [132, 133, 134, 135, 136, 137, 138, 139, 140, 141, 142, 143, 144] [[], [0], [], [2], [3], [1, 4], [], [6], [], [8], [9], [5, 7, 10], [0, 1, 2, 3, 4, 5, 6, 7]] [[], [0], [], [2], [3, 2], [1, 0, 4, 3, 2], [], [6], [], [8], [9, 8], [5, 1, 0, 4, 3, 2, 7, 6, 10, 9, 8], [0, 1, 2, 3, 4, 5, 6, 7]] Fs27 hFs27 (by kernel_rfl) mixed (by kernel_rfl) (by kernel_rfl) (by kernel_rfl) ?_ ?_
                    · intro wd X0
                      refine DagStepsX.cons (StabX.eq) (fun _ _ _ _ _ h => h) (fun s' w' X U H => ?_) ?_
                      · exact DoesT_val (r_fieldAddr (b := b5) (o := 0) (o' := 4) (U 5 rfl) Try.underlying46 rfl siz26 rfl) (Chg.refl _ _) rfl
                      refine DagStepsX.cons (StabX.eq) (fun _ _ _ _ _ h => h) (fun s' w' X U H => ?_) ?_
                      · have e132 : s' 132 = (.pointer (some ⟨b5, 4, none⟩)) := H 0 rfl 132 ((fun _ v _ => v = (.pointer (some ⟨b5, 4, none⟩)))) rfl (by rw [hFs27]; rfl)
                        exact DoesT_val (r_load (v := (.slice oa i oc)) e132 flat26 ((Chg.keep X (fun h => (fun h => h.elim (fun h => by have := (hxO.o.lt _ h).1; omega) (fun h => by have := (hxO.n.lt _ h).1; omega)) (Past.or h)) (X0.keep B5)).cell rfl)) (Chg.refl _ _) rfl
                      refine DagStepsX.cons (StabX.eq) (fun _ _ _ _ _ h => h) (fun s' w' X U H => ?_) ?_
                      · exact DoesT_val (r_indexArr (b := bx) (o := 0) (i := 0) (o' := 0) (U 17 rfl) rfl rfl Try.underlying88 siz3 (by omega) (by omega)) (Chg.refl _ _) rfl
                      refine DagStepsX.cons (StabX.eq) (fun _ _ _ _ _ h => h) (fun s' w' X U H => ?_) ?_
                      · have e134 : s' 134 = (.pointer (some ⟨bx, 0, none⟩)) := H 2 rfl 134 ((fun _ v _ => v = (.pointer (some ⟨bx, 0, none⟩)))) rfl (by rw [hFs27]; rfl)
                        exact DoesT_val (r_load (v := (.int .i64 p.1)) e134 flat3 ((Chg.keep X (fun h => (fun h => h.elim (fun h => hOx.1 h) (fun h => hOx.2 h)) (Past.or h)) (X0.keep Bx)).cell rfl)) (Chg.refl _ _) rfl
                      refine DagStepsX.cons (fun p _ _ _ => oneF_chg _ _ (fun y hy => (two_or hy).elim (fun h => by have := (hxO.o.lt y h.2).2; omega) (fun h => by have := (hxO.n.lt y h.2).2; omega))) (LocX.const) (fun s' w' X U H => ?_) ?_
                      · have e135 : s' 135 = (.int .i64 p.1) := H 3 rfl 135 ((fun _ v _ => v = (.int .i64 p.1))) rfl (by rw [hFs27]; rfl)
                        exact DoesT_b1 e135 (by have := X0.size; have := X.size; omega)
                      refine DagStepsX.cons (appF_one (fun k hk hm => hk.elim (fun h => hxO.ap k h hm) (fun h => by have := (hxO.n.lt k hm).2; omega))) (LocX.const) (fun s' w' X U H => ?_) ?_
                      · have e133 : s' 133 = (.slice oa i oc) := H 1 rfl 133 ((fun _ v _ => v = (.slice oa i oc))) rfl (by rw [hFs27]; rfl)
                        obtain ⟨b136, e136, g136, B136⟩ := (show ((fun _ => oneF n4 p.1) : FctE) s' (s' 136) w' from H 4 rfl 136 ((fun _ => oneF n4 p.1)) rfl (by rw [hFs27]; rfl))
                        exact DoesT_app e133 (own_ext (own_ext hxO.o X0) (X.mono (fun y _ h => Past.none rfl rfl h))) e136 B136 (by omega) (by have := X0.size; have := X.size; omega) (by have := X0.size; have := X.size; omega) (fun y h => h)
                      refine DagStepsX.cons (StabX.eq) (fun _ _ _ _ _ h => h) (fun s' w' X U H => ?_) ?_
                      · exact DoesT_val (r_fieldAddr (b := b5) (o := 0) (o' := 5) (U 5 rfl) Try.underlying46 rfl siz26 rfl) (Chg.refl _ _) rfl
                      refine DagStepsX.cons (StabX.eq) (fun _ _ _ _ _ h => h) (fun s' w' X U H => ?_) ?_
                      · have e138 : s' 138 = (.pointer (some ⟨b5, 5, none⟩)) := H 6 rfl 138 ((fun _ v _ => v = (.pointer (some ⟨b5, 5, none⟩)))) rfl (by rw [hFs27]; rfl)
                        exact DoesT_val (r_load (v := (.slice na2 i nc2)) e138 flat26 ((Chg.keep X (fun h => (fun h => h.elim (fun h => by have := (hxO.o.lt _ h).1; omega) (fun h => by have := (hxO.n.lt _ h).1; omega)) (Past.or h)) (X0.keep B5)).cell rfl)) (Chg.refl _ _) rfl
                      refine DagStepsX.cons (StabX.eq) (fun _ _ _ _ _ h => h) (fun s' w' X U H => ?_) ?_
                      · exact DoesT_val (r_indexArr (b := bx) (o := 0) (i := 1) (o' := 1) (U 17 rfl) rfl rfl Try.underlying88 siz3 (by omega) (by omega)) (Chg.refl _ _) rfl
                      refine DagStepsX.cons (StabX.eq) (fun _ _ _ _ _ h => h) (fun s' w' X U H => ?_) ?_
                      · have e140 : s' 140 = (.pointer (some ⟨bx, 1, none⟩)) := H 8 rfl 140 ((fun _ v _ => v = (.pointer (some ⟨bx, 1, none⟩)))) rfl (by rw [hFs27]; rfl)
                        exact DoesT_val (r_load (v := (.int .i64 p.2)) e140 flat3 ((Chg.keep X (fun h => (fun h => h.elim (fun h => hOx.1 h) (fun h => hOx.2 h)) (Past.or h)) (X0.keep Bx)).cell rfl)) (Chg.refl _ _) rfl
                      refine DagStepsX.cons (fun p _ _ _ => oneF_chg _ _ (fun y hy => (two_or hy).elim (fun h => by have := (hxO.o.lt y h.2).2; omega) (fun h => by have := (hxO.n.lt y h.2).2; omega))) (LocX.const) (fun s' w' X U H => ?_) ?_
                      · have e141 : s' 141 = (.int .i64 p.2) := H 9 rfl 141 ((fun _ v _ => v = (.int .i64 p.2))) rfl (by rw [hFs27]; rfl)
                        exact DoesT_b1 e141 (by have := X0.size; have := X.size; omega)
                      refine DagStepsX.cons (appF_two rfl) (fun s1 s2 h v w h2 => ⟨h2.1, by have := h 5 137 rfl rfl; rw [this]; exact h2.2⟩) (fun s' w' X U H => ?_) ?_
                      · have e139 : s' 139 = (.slice na2 i nc2) := H 7 rfl 139 ((fun _ v _ => v = (.slice na2 i nc2))) rfl (by rw [hFs27]; rfl)
                        obtain ⟨b142, e142, g142, B142⟩ := (show ((fun _ => oneF n4 p.2) : FctE) s' (s' 142) w' from H 10 rfl 142 ((fun _ => oneF n4 p.2)) rfl (by rw [hFs27]; rfl))
                        exact app2 (H 5 rfl 137 _ rfl (by rw [hFs27]; rfl)) (DoesT_app (n0 := w'.heap.size) e139 (own_chg (own_ext hxO.n X0) (X.mono (fun y _ h => Past.fst rfl h)) (fun k hk hm => hxO.ap k hm hk)) e142 B142 (by omega) (by have := X0.size; have := X.size; omega) (Nat.le_refl _) (fun y h => h)) (by have := X0.size; have := X.size; omega) (fun k h1 h2 => h1.elim (fun h => hxO.ap k h h2) (fun h => by have := (hxO.n.lt k h2).2; omega))
                      refine DagStepsX.cons (StabX.eq) (fun _ _ _ _ _ h => h) (fun s' w' X U H => ?_) ?_
                      · exact DoesT_val (r_fieldAddr (b := b5) (o := 0) (o' := 4) (U 5 rfl) Try.underlying46 rfl siz26 rfl) (Chg.refl _ _) rfl
                      exact DagStepsX.nil
                    · intro s' wd27 w27 X0 X27 U H
                      replace X27 := X27.mono (M' := fun y => (fun y => (Value.slice oa i oc).ownBlock = some y) y ∨ (fun y => (Value.slice na2 i nc2).ownBlock = some y) y) (fun y _ h => by obtain ⟨j, h⟩ := h; rcases two_or h with h | h; exact .inl h.2; exact .inr h.2)
                      obtain ⟨a137, c137, e137, O137, D137⟩ := (show ((fun _ => appW n3 n4 (i + 1) (((sl.take i).map (·.1)).map (Value.int .i64) ++ [.int .i64 p.1]) (.slice oa i oc)) : FctE) s' (s' 137) w27 from H 5 137 ((fun _ => appW n3 n4 (i + 1) (((sl.take i).map (·.1)).map (Value.int .i64) ++ [.int .i64 p.1]) (.slice oa i oc))) rfl (by rw [hFs27]; rfl))
                      obtain ⟨⟨a143, c143, e143, O143, D143⟩, A143⟩ := (show ((fun s v w => appW n3 n4 (i + 1) (((sl.take i).map (·.2)).map (Value.int .i64) ++ [.int .i64 p.2]) (.slice na2 i nc2) v w ∧ ApartV (s 137) v) : FctE) s' (s' 143) w27 from H 11 143 ((fun s v w => appW n3 n4 (i + 1) (((sl.take i).map (·.2)).map (Value.int .i64) ++ [.int .i64 p.2]) (.slice na2 i nc2) v w ∧ ApartV (s 137) v)) rfl (by rw [hFs27]; rfl))
                      have e144 : s' 144 = (.pointer (some ⟨b5, 4, none⟩)) := H 12 144 ((fun _ v _ => v = (.pointer (some ⟨b5, 4, none⟩)))) rfl (by rw [hFs27]; rfl)
                      obtain ⟨j27, rfl⟩ := Fits.out (σ := s') (l := [(2, (.pointer (some ⟨br, 0, none⟩))), (5, (.pointer (some ⟨b5, 0, none⟩))), (126, (.slice (some ⟨g, 0, none⟩) L9 gc2)), (127, (.int .i64 ((L9 : Nat) : Int))), (128, (.int .i64 ((i : Nat) : Int))), (137, (.slice a137 (i + 1) c137)), (143, (.slice a143 (i + 1) c143)), (144, (.pointer (some ⟨b5, 4, none⟩)))]) ⟨U 2 rfl, U 5 rfl, U 126 rfl, U 127 rfl, U 128 rfl, e137, e143, e144, trivial⟩
                      clear U H
                      replace Bd := Chg.keep X27 (fun h => h.elim (fun h => by have := (hxO.o.lt _ h).1; omega) (fun h => by have := (hxO.n.lt _ h).1; omega)) (X0.keep Bd)
                      replace Br := Chg.keep X27 (fun h => h.elim (fun h => by have := (hxO.o.lt _ h).1; omega) (fun h => by have := (hxO.n.lt _ h).1; omega)) (X0.keep Br)
                      replace B5 := Chg.keep X27 (fun h => h.elim (fun h => by have := (hxO.o.lt _ h).1; omega) (fun h => by have := (hxO.n.lt _ h).1; omega)) (X0.keep B5)
                      replace hGa := Chg.keep X27 (fun h => h.elim (fun h => by have := (hxO.o.lt _ h).1; omega) (fun h => by have := (hxO.n.lt _ h).1; omega)) (X0.keep hGa)
                      replace Q35 := Chg.keep X27 (fun h => h.elim (fun h => by have := (hxO.o.lt _ h).1; omega) (fun h => by have := (hxO.n.lt _ h).1; omega)) (X0.keep Q35)
                      replace Bx := Chg.keep X27 (fun h => h.elim (fun h => hOx.1 h) (fun h => hOx.2 h)) (X0.keep Bx)
                      have hXm := Chg.trans (Ext.chg X0) X27
                      replace E := (E.ext X0).step X27 (fun y hy h => h.elim (fun h => by have := (hxO.o.lt y h).1; omega) (fun h => by have := (hxO.n.lt y h).1; omega))
                      have htk : sl.take (i + 1) = sl.take i ++ [p] := by rw [List.take_add_one, hp]; rfl
                      rw [e137] at O137 D137 A143
                      rw [e143] at O143 D143 A143
                      have hS9 := own_chg hS hXm (fun b hb h => h.elim (fun h => by have := (hxO.o.lt b h).1; have := hS3 b hb; omega) (fun h => by have := (hxO.n.lt b h).1; have := hS3 b hb; omega))
                      have hbs9 := Nat.le_trans hbs hXm.size
                      have hO9 := hxO.add O137 (fun k hk => by rw [← hn4]; exact D137 k hk) O143 (fun k hk => by rw [← hn4]; exact D143 k hk) A143 (fun y hy => hy.elim)
                      refine s_store (b := b5) (o := 4) (c' := #[(.int .i64 d.start), (.int .i64 ((c : Nat) : Int)), (.slice (some ⟨ga, 0, none⟩) d.accept.length c35), (.slice (some ⟨q35, 0, none⟩) d.next.length d.next.length), (.slice a137 (i + 1) c137), (.slice na2 i nc2)]) (v := (.slice a137 (i + 1) c137)) rfl rfl rfl siz26 B5 (by simp) rfl ?_
                      intro w28 S28
                      replace hO9 := hO9.chg S28.chg fun y h => .inl (by have h' : y = b5 := h; omega)
                      replace hS9 := own_chg hS9 S28.chg fun y hy h => by have h' : y = b5 := h; have := (hS9.lt y hy).1; omega
                      replace hbs9 := Nat.le_trans hbs9 S28.chg.size
                      replace Bd := S28.keep (by omega) Bd
                      replace Br := S28.keep (by omega) Br
                      replace hGa := S28.keep (by omega) hGa
                      replace Q35 := S28.keep (by omega) Q35
                      replace Bx := S28.keep (by omega) Bx
                      replace E := S28.step E (by first | exact Or.inl (by omega) | exact Or.inr rfl | exact Or.inr (by assumption) | exact Or.inr (by simp) | exact Or.inr (by omega) | exact Or.inr (by dsimp only; omega))
                      replace B5 := S28.blk
                      refine WpL_val rfl rfl (by decide) (r_fieldAddr (b := b5) (o := 0) (o' := 5) rfl Try.underlying46 rfl siz26 rfl) ?_
                      refine s_store (b := b5) (o := 5) (c' := #[(.int .i64 d.start), (.int .i64 ((c : Nat) : Int)), (.slice (some ⟨ga, 0, none⟩) d.accept.length c35), (.slice (some ⟨q35, 0, none⟩) d.next.length d.next.length), (.slice a137 (i + 1) c137), (.slice a143 (i + 1) c143)]) (v := (.slice a143 (i + 1) c143)) rfl rfl rfl siz26 B5 (by simp) rfl ?_
                      intro w29 S29
                      replace hO9 := hO9.chg S29.chg fun y h => .inl (by have h' : y = b5 := h; omega)
                      replace hS9 := own_chg hS9 S29.chg fun y hy h => by have h' : y = b5 := h; have := (hS9.lt y hy).1; omega
                      replace hbs9 := Nat.le_trans hbs9 S29.chg.size
                      replace Bd := S29.keep (by omega) Bd
                      replace Br := S29.keep (by omega) Br
                      replace hGa := S29.keep (by omega) hGa
                      replace Q35 := S29.keep (by omega) Q35
                      replace Bx := S29.keep (by omega) Bx
                      replace E := S29.step E (by first | exact Or.inl (by omega) | exact Or.inr rfl | exact Or.inr (by assumption) | exact Or.inr (by simp) | exact Or.inr (by omega) | exact Or.inr (by dsimp only; omega))
                      replace B5 := S29.blk
                      refine WpL_nil ?_
                      refine inB_normal ?_
                      refine thn_normal ?_
                      refine Wp_region ?_
                      refine WpL_val rfl rfl (by decide) (r_add (k := .i64) (a := ((i : Nat) : Int)) (b := 1) (c := ((i : Nat) : Int) + 1) rfl rfl (wI64 (by omega))) ?_
                      refine WpL_val rfl rfl (by decide) (r_move (v := (.int .i64 (((i : Nat) : Int) + 1))) rfl) ?_
                      refine WpL_nil ?_
                      refine thn_normal ?_
                      exact ⟨L9 - (i + 1), by omega, i + 1, c137, c143, a137, a143, Fits.out ⟨rfl, rfl, rfl, rfl, rfl, trivial⟩, E, Bd, Br, B5, hGa, Q35, (by omega), (by rw [htk, List.map_append, List.map_append]; exact hO9), hS9, hbs9, rfl⟩
                  · have khlti := hlti
                    replace hlti := of_decide_eq_false hlti
                    have hiL : i = L9 := by omega
                    subst hiL
                    refine Wp_exit ?_
                    refine thn_exit ?_
                    refine thn_exit ?_
                    refine inB_here ?_
                    refine thn_normal ?_
                    refine Wp_seq_region ?_
                    refine WpL_val rfl rfl (by decide) (r_loadAgg (vs := [(.int .i64 d.start), (.int .i64 ((c : Nat) : Int)), (.slice (some ⟨ga, 0, none⟩) d.accept.length c35), (.slice (some ⟨q35, 0, none⟩) d.next.length d.next.length), (.slice oa i oc), (.slice na2 i nc2)]) rfl agg46 siz46 rfl (B5.cells rfl)) ?_
                    refine s_storeAgg (b := br) (o := 0) (c' := #[(.int .i64 d.start), (.int .i64 ((c : Nat) : Int)), (.slice (some ⟨ga, 0, none⟩) d.accept.length c35), (.slice (some ⟨q35, 0, none⟩) d.next.length d.next.length), (.slice oa i oc), (.slice na2 i nc2)]) rfl rfl (by simp [Value.oneCell']) siz46 rfl Br (by first | (simp; done) | exact Nat.le_of_ble_eq_true rfl) rfl ?_
                    intro w30 S30
                    replace hO := hO.chg S30.chg fun y h => .inl (by have h' : y = br := h; omega)
                    replace Bd := S30.keep (by omega) Bd
                    replace B5 := S30.keep (by omega) B5
                    replace hGa := S30.keep (by omega) hGa
                    replace Q35 := S30.keep (by omega) Q35
                    replace E := S30.step E (by first | exact Or.inl (by omega) | exact Or.inr rfl | exact Or.inr (by assumption) | exact Or.inr (by simp) | exact Or.inr (by omega) | exact Or.inr (by dsimp only; omega))
                    replace Br := S30.blk
                    refine WpL_nil ?_
                    refine Wp_ret ?_
                    refine fin_agg Try.results19 (vs := [(.int .i64 d.start), (.int .i64 ((c : Nat) : Int)), (.slice (some ⟨ga, 0, none⟩) d.accept.length c35), (.slice (some ⟨q35, 0, none⟩) d.next.length d.next.length), (.slice oa i oc), (.slice na2 i nc2)]) (b := br) rfl agg46 siz46 rfl (Br.cells rfl) ?_
                    exact ⟨⟨_, _, _, _, bs, _, _, dn, rfl, ints_own hGa hgcap (by omega), (by have h9 := ints_own (c := d.next.length) Q35 (by simp [natV]; omega) (by simp [natV]; omega); simpa [natV, hbl, hnl] using h9), own_ints hO.o hO.ol, own_ints hO.n hO.nl, hbl, hR, RFin.of hT (by omega) ht hfree hl9⟩, E⟩
end Go.Proofs
namespace Go.Proofs
open Go Go.Eng
set_option maxRecDepth 100000
structure Tab where
  start : Int
  cols : Nat
  acc : List Int
  bs : List Nat
  ow : List Int
  nx : List Int
def TabAt (w : World) (t : Tab) (vs : List Value) : Prop := ∃ aa ac ba bc oa oc na nc, vs = [.int .i64 t.start, .int .i64 ((t.cols : Nat) : Int), .slice aa t.acc.length ac, .slice ba t.bs.length bc, .slice oa t.ow.length oc, .slice na t.nx.length nc] ∧
  IntsAt w (.slice aa t.acc.length ac) t.acc ∧ IntsAt w (.slice ba t.bs.length bc) (natV t.bs) ∧ IntsAt w (.slice oa t.ow.length oc) t.ow ∧ IntsAt w (.slice na t.nx.length nc) t.nx
theorem TabAt.ext {w w' : World} {t : Tab} {vs : List Value} (h : TabAt w t vs) (e : Ext w w') : TabAt w' t vs := by
  obtain ⟨aa, ac, ba, bc, oa, oc, na, nc, h1, h2, h3, h4, h5⟩ := h
  exact ⟨aa, ac, ba, bc, oa, oc, na, nc, h1, h2.ext e, h3.ext e, h4.ext e, h5.ext e⟩
structure GoodT (t : Tab) : Prop where
  n1 : 1 ≤ t.bs.length
  n2 : t.bs.length ≤ 200
  c1 : 1 ≤ t.cols
  c2 : t.cols ≤ 16
  ol : t.ow.length ≤ 3200
  nl : t.nx.length = t.ow.length
  al : t.acc.length = t.bs.length
  st : 0 ≤ t.start ∧ t.start < t.bs.length
  am : ∀ x ∈ t.acc, -1 ≤ x
  bm : ∀ b ∈ t.bs, b < 3200
  sl : ∀ (i : Nat) (o x : Int), t.ow[i]? = some o → t.nx[i]? = some x → (-1 ≤ o ∧ o < t.bs.length) ∧ (-1 ≤ x ∧ x < t.bs.length) ∧ (o < 0 ↔ x < 0) ∧ (0 ≤ o → ∀ b, t.bs[o.toNat]? = some b → b ≤ i ∧ i < b + t.cols)
theorem natV_len (l : List Nat) : (natV l).length = l.length := by simp [natV]
set_option maxHeartbeats 4000000 in
theorem tcheck_c (w0 : World) (t : Tab) (vs : List Value) (h : TabAt w0 t vs) (hg : GoodT t) : Ret Try.prog 60 #[.agg vs.toArray] w0 fun r w => r = .int .i64 0 ∧ Ext w0 w := by
  obtain ⟨aa, ac, ba, bc, oa, oc, na, nc, rfl, ha, hb, ho, hn⟩ := h
  have g1 := hg.n1; have g2 := hg.n2; have g3 := hg.c1; have g4 := hg.c2; have g5 := hg.ol; have g6 := hg.nl; have g7 := hg.al; have g8 := hg.st
  have hane : t.acc ≠ [] := fun he => by rw [he] at g7; simp at g7; omega
  have hbne : natV t.bs ≠ [] := fun he => by have h9 := congrArg List.length he; rw [natV_len] at h9; rw [List.length_nil] at h9; omega
  have hmin := (minL_lt hane (z := -1)).2 hg.am
  have hbmin := (minL_lt hbne (z := 0)).2 (fun x hx => by obtain ⟨b, _, rfl⟩ := natV_mem hx; omega)
  have hbmax := (maxL_lt hbne (z := 3200)).2 (fun x hx => by obtain ⟨b, hb, rfl⟩ := natV_mem hx; have := hg.bm b hb; omega)
  obtain ⟨bb, bo, rfl, hbcl⟩ := ints_cells hb (by omega)
  refine Ret_of Try.func60 rfl Try.ntmps60 (Nat.le_of_ble_eq_true rfl) ?_
  have E : Chg none1 w0 w0 := Chg.refl _ _
  refine Wp_seq_region ?_
  refine s_box (v := (.agg #[(.int .i64 t.start), (.int .i64 ((t.cols : Nat) : Int)), (.slice aa t.acc.length ac), (.slice (some ⟨bb, bo, none⟩) t.bs.length bc), (.slice oa t.ow.length oc), (.slice na t.nx.length nc)])) (c := #[(.int .i64 t.start), (.int .i64 ((t.cols : Nat) : Int)), (.slice aa t.acc.length ac), (.slice (some ⟨bb, bo, none⟩) t.bs.length bc), (.slice oa t.ow.length oc), (.slice na t.nx.length nc)]) (by decide) rfl rfl ?_
  intro bt wt Nt
  have Ft := Nt.ge E
  replace E := E.ext Nt.ext
  have Bt := Nt.blk
  refine WpL_val rfl rfl (by decide) (r_assign (v := (.int .i64 0)) rfl) ?_
  refine WpL_nil ?_
  refine Wp_seq_region ?_
  refine WpL_val rfl rfl (by decide) (r_fieldAddr (b := bt) (o := 0) (o' := 3) rfl Try.underlying46 rfl siz26 rfl) ?_
  refine WpL_val rfl rfl (by decide) (r_load (v := (.slice (some ⟨bb, bo, none⟩) t.bs.length bc)) rfl flat26 (Bt.cell rfl)) ?_
  refine WpL_val rfl rfl (by decide) (r_lenSlice (ad := some ⟨bb, bo, none⟩) (n := t.bs.length) (cap := bc) Try.underlying26 rfl) ?_
  refine WpL_val rfl rfl (by decide) (r_assign (v := (.int .i64 ((t.bs.length : Nat) : Int))) rfl) ?_
  refine WpL_nil ?_
  refine Wp_seq ?_
  refine Wp_block ?_
  refine Wp_seq_region ?_
  refine WpL_val rfl rfl (by decide) (r_move (v := (.int .i64 ((t.bs.length : Nat) : Int))) rfl) ?_
  refine WpL_val rfl rfl (by decide) (r_gtr (k := .i64) (a := ((t.bs.length : Nat) : Int)) (b := 200) rfl rfl) ?_
  refine WpL_val rfl rfl (by decide) (r_move (v := (.bool (decide ((200 : Int) < ((t.bs.length : Nat) : Int))))) rfl) ?_
  have hg1 : (decide ((200 : Int) < ((t.bs.length : Nat) : Int))) = false := decide_eq_false (by omega)
  refine WpL_guard_yes (oj := _) rfl rfl (by decide) (congrArg Value.bool hg1) ?_
  refine WpL_val rfl rfl (by decide) (r_fieldAddr (b := bt) (o := 0) (o' := 1) rfl Try.underlying46 rfl siz3 rfl) ?_
  refine WpL_guard_yes (oj := _) rfl rfl (by decide) (congrArg Value.bool hg1) ?_
  refine WpL_val rfl rfl (by decide) (r_load (v := (.int .i64 ((t.cols : Nat) : Int))) rfl flat3 (Bt.cell rfl)) ?_
  refine WpL_guard_yes (oj := _) rfl rfl (by decide) (congrArg Value.bool hg1) ?_
  refine WpL_val rfl rfl (by decide) (r_gtr (k := .i64) (a := ((t.cols : Nat) : Int)) (b := 16) rfl rfl) ?_
  refine WpL_val rfl rfl (by decide) (r_pick (b := decide ((200 : Int) < ((t.bs.length : Nat) : Int))) (v := (.bool (decide ((16 : Int) < ((t.cols : Nat) : Int))))) rfl (by rw [hg1]; rfl)) ?_
  refine WpL_val rfl rfl (by decide) (r_move (v := (.bool (decide ((16 : Int) < ((t.cols : Nat) : Int))))) rfl) ?_
  have hg2 : (decide ((16 : Int) < ((t.cols : Nat) : Int))) = false := decide_eq_false (by omega)
  refine WpL_guard_yes (oj := _) rfl rfl (by decide) (congrArg Value.bool hg2) ?_
  refine WpL_val rfl rfl (by decide) (r_fieldAddr (b := bt) (o := 0) (o' := 4) rfl Try.underlying46 rfl siz26 rfl) ?_
  refine WpL_guard_yes (oj := _) rfl rfl (by decide) (congrArg Value.bool hg2) ?_
  refine WpL_val rfl rfl (by decide) (r_load (v := (.slice oa t.ow.length oc)) rfl flat26 (Bt.cell rfl)) ?_
  refine WpL_guard_yes (oj := _) rfl rfl (by decide) (congrArg Value.bool hg2) ?_
  refine WpL_val rfl rfl (by decide) (r_lenSlice (ad := oa) (n := t.ow.length) (cap := oc) Try.underlying26 rfl) ?_
  refine WpL_guard_yes (oj := _) rfl rfl (by decide) (congrArg Value.bool hg2) ?_
  refine WpL_val rfl rfl (by decide) (r_fieldAddr (b := bt) (o := 0) (o' := 5) rfl Try.underlying46 rfl siz26 rfl) ?_
  refine WpL_guard_yes (oj := _) rfl rfl (by decide) (congrArg Value.bool hg2) ?_
  refine WpL_val rfl rfl (by decide) (r_load (v := (.slice na t.nx.length nc)) rfl flat26 (Bt.cell rfl)) ?_
  refine WpL_guard_yes (oj := _) rfl rfl (by decide) (congrArg Value.bool hg2) ?_
  refine WpL_val rfl rfl (by decide) (r_lenSlice (ad := na) (n := t.nx.length) (cap := nc) Try.underlying26 rfl) ?_
  refine WpL_guard_yes (oj := _) rfl rfl (by decide) (congrArg Value.bool hg2) ?_
  refine WpL_val rfl rfl (by decide) (r_maxI rfl rfl rfl) ?_
  refine WpL_guard_yes (oj := _) rfl rfl (by decide) (congrArg Value.bool hg2) ?_
  refine WpL_val rfl rfl (by decide) (r_gtr (k := .i64) (a := max ((t.ow.length : Nat) : Int) ((t.nx.length : Nat) : Int)) (b := 3200) rfl rfl) ?_
  refine WpL_val rfl rfl (by decide) (r_pick (b := decide ((16 : Int) < ((t.cols : Nat) : Int))) (v := (.bool (decide ((3200 : Int) < max ((t.ow.length : Nat) : Int) ((t.nx.length : Nat) : Int))))) rfl (by rw [hg2]; rfl)) ?_
  refine WpL_val rfl rfl (by decide) (r_assign (v := (.bool (decide ((3200 : Int) < max ((t.ow.length : Nat) : Int) ((t.nx.length : Nat) : Int))))) rfl) ?_
  refine WpL_nil ?_
  have hc3 : (decide ((3200 : Int) < max ((t.ow.length : Nat) : Int) ((t.nx.length : Nat) : Int))) = false := decide_eq_false (by omega)
  refine Wp_cond_false (congrArg Value.bool hc3) ?_
  refine Wp_seq_region ?_
  refine WpL_val rfl rfl (by decide) (r_move (v := (.int .i64 ((t.bs.length : Nat) : Int))) rfl) ?_
  obtain ⟨e4, he4⟩ : ∃ e, (decide ((((t.bs.length : Nat) : Int) : Int) = 0)) = e := ⟨_, rfl⟩
  refine WpL_val rfl rfl (by decide) ((r_eql (k := .i64) (a := ((t.bs.length : Nat) : Int)) (b := 0) rfl rfl).trans (by rw [he4]; try rfl)) ?_
  refine WpL_val rfl rfl (by decide) (r_move (v := (.bool e4)) rfl) ?_
  refine WpL_guard_any (oj := _) (gv := (.bool e4)) (u := (bif e4 then undef else (.pointer (some ⟨bt, 1, none⟩)))) rfl rfl (by decide) (by decide) rfl (by cases e4 <;> first | exact Or.inr ⟨Or.inl rfl, rfl⟩ | exact Or.inr ⟨Or.inr rfl, rfl⟩ | exact Or.inl ⟨rfl, r_fieldAddr (b := bt) (o := 0) (o' := 1) rfl Try.underlying46 rfl siz3 rfl⟩) ?_
  refine WpL_guard_any (oj := _) (gv := (.bool e4)) (u := (bif e4 then undef else (.int .i64 ((t.cols : Nat) : Int)))) rfl rfl (by decide) (by decide) rfl (by cases e4 <;> first | exact Or.inr ⟨Or.inl rfl, rfl⟩ | exact Or.inr ⟨Or.inr rfl, rfl⟩ | exact Or.inl ⟨rfl, r_load (v := (.int .i64 ((t.cols : Nat) : Int))) rfl flat3 (Bt.cell rfl)⟩) ?_
  obtain ⟨e5, he5⟩ : ∃ e, (decide ((((t.cols : Nat) : Int) : Int) < 1)) = e := ⟨_, rfl⟩
  refine WpL_guard_any (oj := _) (gv := (.bool e4)) (u := (bif e4 then undef else (.bool e5))) rfl rfl (by decide) (by decide) rfl (by cases e4 <;> first | exact Or.inr ⟨Or.inl rfl, rfl⟩ | exact Or.inr ⟨Or.inr rfl, rfl⟩ | exact Or.inl ⟨rfl, (r_lss (k := .i64) (a := ((t.cols : Nat) : Int)) (b := 1) rfl rfl).trans (by rw [he5]; try rfl)⟩) ?_
  obtain ⟨e6, he6⟩ : ∃ e, (e4 || e5) = e := ⟨_, rfl⟩
  refine WpL_val rfl rfl (by decide) (r_pick (b := e4) (v := .bool e6) rfl (by rw [← he6]; cases e4 <;> rfl)) ?_
  refine WpL_val rfl rfl (by decide) (r_move (v := (.bool e6)) rfl) ?_
  refine WpL_guard_any (oj := _) (gv := (.bool e6)) (u := (bif e6 then undef else (.pointer (some ⟨bt, 2, none⟩)))) rfl rfl (by decide) (by decide) rfl (by cases e6 <;> first | exact Or.inr ⟨Or.inl rfl, rfl⟩ | exact Or.inr ⟨Or.inr rfl, rfl⟩ | exact Or.inl ⟨rfl, r_fieldAddr (b := bt) (o := 0) (o' := 2) rfl Try.underlying46 rfl siz26 rfl⟩) ?_
  refine WpL_guard_any (oj := _) (gv := (.bool e6)) (u := (bif e6 then undef else (.slice aa t.acc.length ac))) rfl rfl (by decide) (by decide) rfl (by cases e6 <;> first | exact Or.inr ⟨Or.inl rfl, rfl⟩ | exact Or.inr ⟨Or.inr rfl, rfl⟩ | exact Or.inl ⟨rfl, r_load (v := (.slice aa t.acc.length ac)) rfl flat26 (Bt.cell rfl)⟩) ?_
  refine WpL_guard_any (oj := _) (gv := (.bool e6)) (u := (bif e6 then undef else (.int .i64 ((t.acc.length : Nat) : Int)))) rfl rfl (by decide) (by decide) rfl (by cases e6 <;> first | exact Or.inr ⟨Or.inl rfl, rfl⟩ | exact Or.inr ⟨Or.inr rfl, rfl⟩ | exact Or.inl ⟨rfl, r_lenSlice (ad := aa) (n := t.acc.length) (cap := ac) Try.underlying26 rfl⟩) ?_
  refine WpL_guard_any (oj := _) (gv := (.bool e6)) (u := (bif e6 then undef else (.int .i64 ((t.bs.length : Nat) : Int)))) rfl rfl (by decide) (by decide) rfl (by cases e6 <;> first | exact Or.inr ⟨Or.inl rfl, rfl⟩ | exact Or.inr ⟨Or.inr rfl, rfl⟩ | exact Or.inl ⟨rfl, r_move (v := (.int .i64 ((t.bs.length : Nat) : Int))) rfl⟩) ?_
  obtain ⟨e7, he7⟩ : ∃ e, (decide ((((t.acc.length : Nat) : Int) : Int) ≠ ((t.bs.length : Nat) : Int))) = e := ⟨_, rfl⟩
  refine WpL_guard_any (oj := _) (gv := (.bool e6)) (u := (bif e6 then undef else (.bool e7))) rfl rfl (by decide) (by decide) rfl (by cases e6 <;> first | exact Or.inr ⟨Or.inl rfl, rfl⟩ | exact Or.inr ⟨Or.inr rfl, rfl⟩ | exact Or.inl ⟨rfl, (r_neq (k := .i64) (a := ((t.acc.length : Nat) : Int)) (b := ((t.bs.length : Nat) : Int)) rfl rfl).trans (by rw [he7]; try rfl)⟩) ?_
  obtain ⟨e8, he8⟩ : ∃ e, (e6 || e7) = e := ⟨_, rfl⟩
  refine WpL_val rfl rfl (by decide) (r_pick (b := e6) (v := .bool e8) rfl (by rw [← he8]; cases e6 <;> rfl)) ?_
  refine WpL_val rfl rfl (by decide) (r_move (v := (.bool e8)) rfl) ?_
  refine WpL_guard_any (oj := _) (gv := (.bool e8)) (u := (bif e8 then undef else (.pointer (some ⟨bt, 4, none⟩)))) rfl rfl (by decide) (by decide) rfl (by cases e8 <;> first | exact Or.inr ⟨Or.inl rfl, rfl⟩ | exact Or.inr ⟨Or.inr rfl, rfl⟩ | exact Or.inl ⟨rfl, r_fieldAddr (b := bt) (o := 0) (o' := 4) rfl Try.underlying46 rfl siz26 rfl⟩) ?_
  refine WpL_guard_any (oj := _) (gv := (.bool e8)) (u := (bif e8 then undef else (.slice oa t.ow.length oc))) rfl rfl (by decide) (by decide) rfl (by cases e8 <;> first | exact Or.inr ⟨Or.inl rfl, rfl⟩ | exact Or.inr ⟨Or.inr rfl, rfl⟩ | exact Or.inl ⟨rfl, r_load (v := (.slice oa t.ow.length oc)) rfl flat26 (Bt.cell rfl)⟩) ?_
  refine WpL_guard_any (oj := _) (gv := (.bool e8)) (u := (bif e8 then undef else (.int .i64 ((t.ow.length : Nat) : Int)))) rfl rfl (by decide) (by decide) rfl (by cases e8 <;> first | exact Or.inr ⟨Or.inl rfl, rfl⟩ | exact Or.inr ⟨Or.inr rfl, rfl⟩ | exact Or.inl ⟨rfl, r_lenSlice (ad := oa) (n := t.ow.length) (cap := oc) Try.underlying26 rfl⟩) ?_
  refine WpL_guard_any (oj := _) (gv := (.bool e8)) (u := (bif e8 then undef else (.pointer (some ⟨bt, 5, none⟩)))) rfl rfl (by decide) (by decide) rfl (by cases e8 <;> first | exact Or.inr ⟨Or.inl rfl, rfl⟩ | exact Or.inr ⟨Or.inr rfl, rfl⟩ | exact Or.inl ⟨rfl, r_fieldAddr (b := bt) (o := 0) (o' := 5) rfl Try.underlying46 rfl siz26 rfl⟩) ?_
  refine WpL_guard_any (oj := _) (gv := (.bool e8)) (u := (bif e8 then undef else (.slice na t.nx.length nc))) rfl rfl (by decide) (by decide) rfl (by cases e8 <;> first | exact Or.inr ⟨Or.inl rfl, rfl⟩ | exact Or.inr ⟨Or.inr rfl, rfl⟩ | exact Or.inl ⟨rfl, r_load (v := (.slice na t.nx.length nc)) rfl flat26 (Bt.cell rfl)⟩) ?_
  refine WpL_guard_any (oj := _) (gv := (.bool e8)) (u := (bif e8 then undef else (.int .i64 ((t.nx.length : Nat) : Int)))) rfl rfl (by decide) (by decide) rfl (by cases e8 <;> first | exact Or.inr ⟨Or.inl rfl, rfl⟩ | exact Or.inr ⟨Or.inr rfl, rfl⟩ | exact Or.inl ⟨rfl, r_lenSlice (ad := na) (n := t.nx.length) (cap := nc) Try.underlying26 rfl⟩) ?_
  obtain ⟨e9, he9⟩ : ∃ e, (decide ((((t.ow.length : Nat) : Int) : Int) ≠ ((t.nx.length : Nat) : Int))) = e := ⟨_, rfl⟩
  refine WpL_guard_any (oj := _) (gv := (.bool e8)) (u := (bif e8 then undef else (.bool e9))) rfl rfl (by decide) (by decide) rfl (by cases e8 <;> first | exact Or.inr ⟨Or.inl rfl, rfl⟩ | exact Or.inr ⟨Or.inr rfl, rfl⟩ | exact Or.inl ⟨rfl, (r_neq (k := .i64) (a := ((t.ow.length : Nat) : Int)) (b := ((t.nx.length : Nat) : Int)) rfl rfl).trans (by rw [he9]; try rfl)⟩) ?_
  obtain ⟨e10, he10⟩ : ∃ e, (e8 || e9) = e := ⟨_, rfl⟩
  refine WpL_val rfl rfl (by decide) (r_pick (b := e8) (v := .bool e10) rfl (by rw [← he10]; cases e8 <;> rfl)) ?_
  refine WpL_val rfl rfl (by decide) (r_assign (v := (.bool e10)) rfl) ?_
  refine WpL_nil ?_
  subst he10
  subst he9
  subst he8
  subst he7
  subst he6
  subst he5
  subst he4
  have hc11 : (((((decide ((((t.bs.length : Nat) : Int) : Int) = 0)) || (decide ((((t.cols : Nat) : Int) : Int) < 1))) || (decide ((((t.acc.length : Nat) : Int) : Int) ≠ ((t.bs.length : Nat) : Int)))) || (decide ((((t.ow.length : Nat) : Int) : Int) ≠ ((t.nx.length : Nat) : Int))))) = false := by simp only [Bool.or_eq_false_iff, decide_eq_false_iff_not]; omega
  refine Wp_cond_false (congrArg Value.bool hc11) ?_
  refine Wp_seq_region ?_
  refine WpL_val rfl rfl (by decide) (r_fieldAddr (b := bt) (o := 0) (o' := 0) rfl Try.underlying46 rfl siz3 rfl) ?_
  refine WpL_val rfl rfl (by decide) (r_load (v := (.int .i64 t.start)) rfl flat3 (Bt.cell rfl)) ?_
  refine WpL_val rfl rfl (by decide) (r_lss (k := .i64) (a := t.start) (b := 0) rfl rfl) ?_
  refine WpL_val rfl rfl (by decide) (r_move (v := (.bool (decide ((t.start : Int) < 0)))) rfl) ?_
  have hg12 : (decide ((t.start : Int) < 0)) = false := decide_eq_false (by omega)
  refine WpL_guard_yes (oj := _) rfl rfl (by decide) (congrArg Value.bool hg12) ?_
  refine WpL_val rfl rfl (by decide) (r_fieldAddr (b := bt) (o := 0) (o' := 0) rfl Try.underlying46 rfl siz3 rfl) ?_
  refine WpL_guard_yes (oj := _) rfl rfl (by decide) (congrArg Value.bool hg12) ?_
  refine WpL_val rfl rfl (by decide) (r_load (v := (.int .i64 t.start)) rfl flat3 (Bt.cell rfl)) ?_
  refine WpL_guard_yes (oj := _) rfl rfl (by decide) (congrArg Value.bool hg12) ?_
  refine WpL_val rfl rfl (by decide) (r_move (v := (.int .i64 ((t.bs.length : Nat) : Int))) rfl) ?_
  refine WpL_guard_yes (oj := _) rfl rfl (by decide) (congrArg Value.bool hg12) ?_
  refine WpL_val rfl rfl (by decide) (r_geq (k := .i64) (a := t.start) (b := ((t.bs.length : Nat) : Int)) rfl rfl) ?_
  refine WpL_val rfl rfl (by decide) (r_pick (b := decide ((t.start : Int) < 0)) (v := (.bool (decide ((((t.bs.length : Nat) : Int) : Int) ≤ t.start)))) rfl (by rw [hg12]; rfl)) ?_
  refine WpL_val rfl rfl (by decide) (r_move (v := (.bool (decide ((((t.bs.length : Nat) : Int) : Int) ≤ t.start)))) rfl) ?_
  have hg13 : (decide ((((t.bs.length : Nat) : Int) : Int) ≤ t.start)) = false := decide_eq_false (by omega)
  refine WpL_guard_yes (oj := _) rfl rfl (by decide) (congrArg Value.bool hg13) ?_
  refine WpL_val rfl rfl (by decide) (r_fieldAddr (b := bt) (o := 0) (o' := 2) rfl Try.underlying46 rfl siz26 rfl) ?_
  refine WpL_guard_yes (oj := _) rfl rfl (by decide) (congrArg Value.bool hg13) ?_
  refine WpL_val rfl rfl (by decide) (r_load (v := (.slice aa t.acc.length ac)) rfl flat26 (Bt.cell rfl)) ?_
  refine WpL_guard_yes (oj := _) rfl rfl (by decide) (congrArg Value.bool hg13) ?_
  refine WpL_enter rfl rfl (by decide) (r_callF (vs := [(.slice aa t.acc.length ac)]) Try.func89 nm89 bd89 rfl) (min_c _ _ t.acc (ha.ext E) hane) ?_
  rintro _ w9 ⟨rfl, X9⟩
  replace Bt := X9.keep Bt
  replace E := E.ext X9
  refine WpL_guard_yes (oj := _) rfl rfl (by decide) (congrArg Value.bool hg13) ?_
  refine WpL_val rfl rfl (by decide) (r_lss (k := .i64) (a := minL t.acc) (b := (-1)) rfl rfl) ?_
  refine WpL_val rfl rfl (by decide) (r_pick (b := decide ((((t.bs.length : Nat) : Int) : Int) ≤ t.start)) (v := (.bool (decide ((minL t.acc : Int) < (-1))))) rfl (by rw [hg13]; rfl)) ?_
  refine WpL_val rfl rfl (by decide) (r_move (v := (.bool (decide ((minL t.acc : Int) < (-1))))) rfl) ?_
  have hg14 : (decide ((minL t.acc : Int) < (-1))) = false := decide_eq_false (by omega)
  refine WpL_guard_yes (oj := _) rfl rfl (by decide) (congrArg Value.bool hg14) ?_
  refine WpL_val rfl rfl (by decide) (r_fieldAddr (b := bt) (o := 0) (o' := 3) rfl Try.underlying46 rfl siz26 rfl) ?_
  refine WpL_guard_yes (oj := _) rfl rfl (by decide) (congrArg Value.bool hg14) ?_
  refine WpL_val rfl rfl (by decide) (r_load (v := (.slice (some ⟨bb, bo, none⟩) t.bs.length bc)) rfl flat26 (Bt.cell rfl)) ?_
  refine WpL_guard_yes (oj := _) rfl rfl (by decide) (congrArg Value.bool hg14) ?_
  refine WpL_enter rfl rfl (by decide) (r_callF (vs := [(.slice (some ⟨bb, bo, none⟩) t.bs.length bc)]) Try.func89 nm89 bd89 rfl) (min_c _ _ (natV t.bs) (hb.ext E) hbne) ?_
  rintro _ w19 ⟨rfl, X19⟩
  replace Bt := X19.keep Bt
  replace E := E.ext X19
  refine WpL_guard_yes (oj := _) rfl rfl (by decide) (congrArg Value.bool hg14) ?_
  refine WpL_val rfl rfl (by decide) (r_lss (k := .i64) (a := minL (natV t.bs)) (b := 0) rfl rfl) ?_
  refine WpL_val rfl rfl (by decide) (r_pick (b := decide ((minL t.acc : Int) < (-1))) (v := (.bool (decide ((minL (natV t.bs) : Int) < 0)))) rfl (by rw [hg14]; rfl)) ?_
  refine WpL_val rfl rfl (by decide) (r_move (v := (.bool (decide ((minL (natV t.bs) : Int) < 0)))) rfl) ?_
  have hg15 : (decide ((minL (natV t.bs) : Int) < 0)) = false := decide_eq_false (by omega)
  refine WpL_guard_yes (oj := _) rfl rfl (by decide) (congrArg Value.bool hg15) ?_
  refine WpL_val rfl rfl (by decide) (r_fieldAddr (b := bt) (o := 0) (o' := 3) rfl Try.underlying46 rfl siz26 rfl) ?_
  refine WpL_guard_yes (oj := _) rfl rfl (by decide) (congrArg Value.bool hg15) ?_
  refine WpL_val rfl rfl (by decide) (r_load (v := (.slice (some ⟨bb, bo, none⟩) t.bs.length bc)) rfl flat26 (Bt.cell rfl)) ?_
  refine WpL_guard_yes (oj := _) rfl rfl (by decide) (congrArg Value.bool hg15) ?_
  refine WpL_enter rfl rfl (by decide) (r_callF (vs := [(.slice (some ⟨bb, bo, none⟩) t.bs.length bc)]) Try.func90 nm90 bd90 rfl) (max_c _ _ (natV t.bs) (hb.ext E) hbne) ?_
  rintro _ w29 ⟨rfl, X29⟩
  replace Bt := X29.keep Bt
  replace E := E.ext X29
  refine WpL_guard_yes (oj := _) rfl rfl (by decide) (congrArg Value.bool hg15) ?_
  refine WpL_val rfl rfl (by decide) (r_geq (k := .i64) (a := maxL (natV t.bs)) (b := 3200) rfl rfl) ?_
  refine WpL_val rfl rfl (by decide) (r_pick (b := decide ((minL (natV t.bs) : Int) < 0)) (v := (.bool (decide ((3200 : Int) ≤ maxL (natV t.bs))))) rfl (by rw [hg15]; rfl)) ?_
  refine WpL_val rfl rfl (by decide) (r_assign (v := (.bool (decide ((3200 : Int) ≤ maxL (natV t.bs))))) rfl) ?_
  refine WpL_nil ?_
  have hc16 : (decide ((3200 : Int) ≤ maxL (natV t.bs))) = false := decide_eq_false (by omega)
  refine Wp_cond_false (congrArg Value.bool hc16) ?_
  refine Wp_skip ?_
  refine inB_normal ?_
  refine thn_normal ?_
  refine Wp_seq ?_
  refine Wp_seq_region ?_
  refine WpL_val rfl rfl (by decide) (r_fieldAddr (b := bt) (o := 0) (o' := 4) rfl Try.underlying46 rfl siz26 rfl) ?_
  refine WpL_val rfl rfl (by decide) (r_load (v := (.slice oa t.ow.length oc)) rfl flat26 (Bt.cell rfl)) ?_
  refine WpL_val rfl rfl (by decide) (r_lenSlice (ad := oa) (n := t.ow.length) (cap := oc) Try.underlying26 rfl) ?_
  refine WpL_val rfl rfl (by decide) (r_move (v := (.int .i64 0)) rfl) ?_
  refine WpL_nil ?_
  refine Wp_block ?_
  refine Wp_loop (fun nn_ σ W17 => ∃ (i : Nat), (∃ jj_, σ = upds jj_ [(1, (.pointer (some ⟨bt, 0, none⟩))), (3, (.int .i64 ((t.bs.length : Nat) : Int))), (81, (.slice oa t.ow.length oc)), (82, (.int .i64 ((t.ow.length : Nat) : Int))), (83, (.int .i64 ((i : Nat) : Int)))]) ∧ Chg none1 w0 W17 ∧ Blk W17 bt #[(.int .i64 t.start), (.int .i64 ((t.cols : Nat) : Int)), (.slice aa t.acc.length ac), (.slice (some ⟨bb, bo, none⟩) t.bs.length bc), (.slice oa t.ow.length oc), (.slice na t.nx.length nc)] 46 ∧ (i ≤ t.ow.length) ∧ nn_ = t.ow.length - i) (n := t.ow.length - 0) ?_ ?_
  · exact ⟨0, Fits.out ⟨rfl, rfl, rfl, rfl, rfl, trivial⟩, E, Bt, Nat.zero_le _, rfl⟩
  · clear E Bt
    rintro _ _ W17 ⟨i, ⟨j17, rfl⟩, E, Bt, hi, rfl⟩
    refine Wp_seq_region ?_
    refine WpL_val rfl rfl (by decide) (r_lss (k := .i64) (a := ((i : Nat) : Int)) (b := ((t.ow.length : Nat) : Int)) rfl rfl) ?_
    refine WpL_nil ?_
    refine Wp_seq ?_
    refine Wp_cond (b := decide ((((i : Nat) : Int) : Int) < ((t.ow.length : Nat) : Int))) rfl (fun hlt => ?_) (fun hlt => ?_)
    · have khlt := hlt
      replace hlt := of_decide_eq_true hlt
      obtain ⟨o, hoo⟩ := get_of_lt (l := t.ow) (i := i) (by omega)
      obtain ⟨x, hxx⟩ := get_of_lt (l := t.nx) (i := i) (by omega)
      obtain ⟨ob, oo, hoa, hocl⟩ := ints_cells ho (by omega)
      subst hoa
      obtain ⟨nb, no, hna, hncl⟩ := ints_cells hn (by omega)
      subst hna
      obtain ⟨⟨q1, q2⟩, ⟨q3, q4⟩, q5, q6⟩ := hg.sl i o x hoo hxx
      refine Wp_skip ?_
      refine thn_normal ?_
      refine Wp_seq ?_
      refine Wp_block ?_
      refine Wp_seq_region ?_
      refine WpL_val rfl rfl (by decide) (r_move (v := (.int .i64 ((i : Nat) : Int))) rfl) ?_
      refine WpL_val rfl rfl (by decide) (r_indexSlice (b := ob) (o := oo) (len := t.ow.length) (cap := oc) (i := i) (o' := oo + i) rfl rfl rfl Try.underlying26 siz3 (by omega) (by omega)) ?_
      refine WpL_val rfl rfl (by decide) (r_load (v := (.int .i64 o)) rfl flat3 (E.cell (fun f => f) (hocl i o hoo))) ?_
      refine WpL_val rfl rfl (by decide) (r_assign (v := (.int .i64 ((i : Nat) : Int))) rfl) ?_
      refine WpL_val rfl rfl (by decide) (r_assign (v := (.int .i64 o)) rfl) ?_
      refine WpL_nil ?_
      refine Wp_seq_region ?_
      refine WpL_val rfl rfl (by decide) (r_fieldAddr (b := bt) (o := 0) (o' := 5) rfl Try.underlying46 rfl siz26 rfl) ?_
      refine WpL_val rfl rfl (by decide) (r_load (v := (.slice (some ⟨nb, no, none⟩) t.nx.length nc)) rfl flat26 (Bt.cell rfl)) ?_
      refine WpL_val rfl rfl (by decide) (r_move (v := (.int .i64 ((i : Nat) : Int))) rfl) ?_
      refine WpL_val rfl rfl (by decide) (r_indexSlice (b := nb) (o := no) (len := t.nx.length) (cap := nc) (i := i) (o' := no + i) rfl rfl rfl Try.underlying26 siz3 (by omega) (by omega)) ?_
      refine WpL_val rfl rfl (by decide) (r_load (v := (.int .i64 x)) rfl flat3 (E.cell (fun f => f) (hncl i x hxx))) ?_
      refine WpL_val rfl rfl (by decide) (r_assign (v := (.int .i64 x)) rfl) ?_
      refine WpL_nil ?_
      refine Wp_seq ?_
      refine Wp_seq_region ?_
      refine WpL_val rfl rfl (by decide) (r_move (v := (.int .i64 o)) rfl) ?_
      obtain ⟨e19, he19⟩ : ∃ e, (decide ((o : Int) < (-1))) = e := ⟨_, rfl⟩
      refine WpL_val rfl rfl (by decide) ((r_lss (k := .i64) (a := o) (b := (-1)) rfl rfl).trans (by rw [he19]; try rfl)) ?_
      refine WpL_val rfl rfl (by decide) (r_move (v := (.bool e19)) rfl) ?_
      refine WpL_guard_any (oj := _) (gv := (.bool e19)) (u := (bif e19 then undef else (.int .i64 o))) rfl rfl (by decide) (by decide) rfl (by cases e19 <;> first | exact Or.inr ⟨Or.inl rfl, rfl⟩ | exact Or.inr ⟨Or.inr rfl, rfl⟩ | exact Or.inl ⟨rfl, r_move (v := (.int .i64 o)) rfl⟩) ?_
      refine WpL_guard_any (oj := _) (gv := (.bool e19)) (u := (bif e19 then undef else (.int .i64 ((t.bs.length : Nat) : Int)))) rfl rfl (by decide) (by decide) rfl (by cases e19 <;> first | exact Or.inr ⟨Or.inl rfl, rfl⟩ | exact Or.inr ⟨Or.inr rfl, rfl⟩ | exact Or.inl ⟨rfl, r_move (v := (.int .i64 ((t.bs.length : Nat) : Int))) rfl⟩) ?_
      obtain ⟨e20, he20⟩ : ∃ e, (decide ((((t.bs.length : Nat) : Int) : Int) ≤ o)) = e := ⟨_, rfl⟩
      refine WpL_guard_any (oj := _) (gv := (.bool e19)) (u := (bif e19 then undef else (.bool e20))) rfl rfl (by decide) (by decide) rfl (by cases e19 <;> first | exact Or.inr ⟨Or.inl rfl, rfl⟩ | exact Or.inr ⟨Or.inr rfl, rfl⟩ | exact Or.inl ⟨rfl, (r_geq (k := .i64) (a := o) (b := ((t.bs.length : Nat) : Int)) rfl rfl).trans (by rw [he20]; try rfl)⟩) ?_
      obtain ⟨e21, he21⟩ : ∃ e, (e19 || e20) = e := ⟨_, rfl⟩
      refine WpL_val rfl rfl (by decide) (r_pick (b := e19) (v := .bool e21) rfl (by rw [← he21]; cases e19 <;> rfl)) ?_
      refine WpL_val rfl rfl (by decide) (r_move (v := (.bool e21)) rfl) ?_
      refine WpL_guard_any (oj := _) (gv := (.bool e21)) (u := (bif e21 then undef else (.int .i64 x))) rfl rfl (by decide) (by decide) rfl (by cases e21 <;> first | exact Or.inr ⟨Or.inl rfl, rfl⟩ | exact Or.inr ⟨Or.inr rfl, rfl⟩ | exact Or.inl ⟨rfl, r_move (v := (.int .i64 x)) rfl⟩) ?_
      obtain ⟨e22, he22⟩ : ∃ e, (decide ((x : Int) < (-1))) = e := ⟨_, rfl⟩
      refine WpL_guard_any (oj := _) (gv := (.bool e21)) (u := (bif e21 then undef else (.bool e22))) rfl rfl (by decide) (by decide) rfl (by cases e21 <;> first | exact Or.inr ⟨Or.inl rfl, rfl⟩ | exact Or.inr ⟨Or.inr rfl, rfl⟩ | exact Or.inl ⟨rfl, (r_lss (k := .i64) (a := x) (b := (-1)) rfl rfl).trans (by rw [he22]; try rfl)⟩) ?_
      obtain ⟨e23, he23⟩ : ∃ e, (e21 || e22) = e := ⟨_, rfl⟩
      refine WpL_val rfl rfl (by decide) (r_pick (b := e21) (v := .bool e23) rfl (by rw [← he23]; cases e21 <;> rfl)) ?_
      refine WpL_val rfl rfl (by decide) (r_move (v := (.bool e23)) rfl) ?_
      refine WpL_guard_any (oj := _) (gv := (.bool e23)) (u := (bif e23 then undef else (.int .i64 x))) rfl rfl (by decide) (by decide) rfl (by cases e23 <;> first | exact Or.inr ⟨Or.inl rfl, rfl⟩ | exact Or.inr ⟨Or.inr rfl, rfl⟩ | exact Or.inl ⟨rfl, r_move (v := (.int .i64 x)) rfl⟩) ?_
      refine WpL_guard_any (oj := _) (gv := (.bool e23)) (u := (bif e23 then undef else (.int .i64 ((t.bs.length : Nat) : Int)))) rfl rfl (by decide) (by decide) rfl (by cases e23 <;> first | exact Or.inr ⟨Or.inl rfl, rfl⟩ | exact Or.inr ⟨Or.inr rfl, rfl⟩ | exact Or.inl ⟨rfl, r_move (v := (.int .i64 ((t.bs.length : Nat) : Int))) rfl⟩) ?_
      obtain ⟨e24, he24⟩ : ∃ e, (decide ((((t.bs.length : Nat) : Int) : Int) ≤ x)) = e := ⟨_, rfl⟩
      refine WpL_guard_any (oj := _) (gv := (.bool e23)) (u := (bif e23 then undef else (.bool e24))) rfl rfl (by decide) (by decide) rfl (by cases e23 <;> first | exact Or.inr ⟨Or.inl rfl, rfl⟩ | exact Or.inr ⟨Or.inr rfl, rfl⟩ | exact Or.inl ⟨rfl, (r_geq (k := .i64) (a := x) (b := ((t.bs.length : Nat) : Int)) rfl rfl).trans (by rw [he24]; try rfl)⟩) ?_
      obtain ⟨e25, he25⟩ : ∃ e, (e23 || e24) = e := ⟨_, rfl⟩
      refine WpL_val rfl rfl (by decide) (r_pick (b := e23) (v := .bool e25) rfl (by rw [← he25]; cases e23 <;> rfl)) ?_
      refine WpL_nil ?_
      subst he25
      subst he24
      subst he23
      subst he22
      subst he21
      subst he20
      subst he19
      have hc26 : (((((decide ((o : Int) < (-1))) || (decide ((((t.bs.length : Nat) : Int) : Int) ≤ o))) || (decide ((x : Int) < (-1)))) || (decide ((((t.bs.length : Nat) : Int) : Int) ≤ x)))) = false := by simp only [Bool.or_eq_false_iff, decide_eq_false_iff_not]; omega
      refine Wp_cond_false (congrArg Value.bool hc26) ?_
      rcases Bool.eq_false_or_eq_true (decide (o < 0)) with hs0 | hs0
      · have khs0 := hs0
        replace khs0 := of_decide_eq_true khs0
        have hx1 : decide (x < 0) = true := decide_eq_true (q5.1 khs0)
        have hx2 : decide (0 ≤ o) = false := decide_eq_false (by omega)
        refine Wp_skip ?_
        refine thn_normal ?_
        refine Wp_seq ?_
        obtain ⟨Fs27, hFs27⟩ : ∃ Fs : List Fact, Fs = [.eq (.int .i64 o), .eq (.bool true), .eq (.int .i64 x), .eq (.bool true), .eq (.bool false), .eq (.bool false), .eq (.int .i64 o), .eq (.bool false), .eq (.bool false), .eq undef, .eq undef, .eq undef, .eq undef, .eq undef, .eq undef, .eq undef, .eq undef, .eq undef, .eq undef, .eq undef, .eq undef, .eq undef, .eq undef, .eq undef, .eq undef, .eq undef, .eq undef, .eq undef, .eq (.bool false), .eq (.bool false)] := ⟨_, rfl⟩
        refine Wp_dag [109, 110, 111, 112, 113, 114, 115, 116, 117, 118, 119, 120, 121, 122, 123, 124, 125, 126, 127, 128, 129, 130, 131, 132, 133, 134, 135, 136, 137, 138] [[], [0], [], [2], [1, 3], [4], [5], [5, 6], [5, 7], [8], [8], [8, 10], [8], [8, 11, 12], [8, 13], [8, 9, 14], [8, 15], [16], [16], [16, 18], [16], [16, 19, 20], [16, 21], [16], [16, 23], [16, 22, 24], [16, 17, 25], [8, 16, 26], [5, 8, 27], [5, 28]] Fs27 hFs27 mixed (by kernel_rfl) (by kernel_rfl) ?_ ?_
        · intro wd X0
          refine DagSteps.cons (fun s' w' X U H => Or.inl ⟨?_, ?_⟩) ?_
          · exact Guarded_none rfl
          · exact Does_val (r_move (v := (.int .i64 o)) (U 5 rfl)) (Ext.refl _) rfl
          refine DagSteps.cons (fun s' w' X U H => Or.inl ⟨?_, ?_⟩) ?_
          · exact Guarded_none rfl
          · have e109 : s' 109 = (.int .i64 o) := H 0 rfl 109 (.eq (.int .i64 o)) rfl (by rw [hFs27]; rfl)
            exact Does_val (Eq.trans (r_lss (k := .i64) (a := o) (b := 0) e109 rfl) (by rw [hs0])) (Ext.refl _) rfl
          refine DagSteps.cons (fun s' w' X U H => Or.inl ⟨?_, ?_⟩) ?_
          · exact Guarded_none rfl
          · exact Does_val (r_move (v := (.int .i64 x)) (U 6 rfl)) (Ext.refl _) rfl
          refine DagSteps.cons (fun s' w' X U H => Or.inl ⟨?_, ?_⟩) ?_
          · exact Guarded_none rfl
          · have e111 : s' 111 = (.int .i64 x) := H 2 rfl 111 (.eq (.int .i64 x)) rfl (by rw [hFs27]; rfl)
            exact Does_val (Eq.trans (r_lss (k := .i64) (a := x) (b := 0) e111 rfl) (by rw [hx1])) (Ext.refl _) rfl
          refine DagSteps.cons (fun s' w' X U H => Or.inl ⟨?_, ?_⟩) ?_
          · exact Guarded_none rfl
          · have e110 : s' 110 = (.bool true) := H 1 rfl 110 (.eq (.bool true)) rfl (by rw [hFs27]; rfl)
            have e112 : s' 112 = (.bool true) := H 3 rfl 112 (.eq (.bool true)) rfl (by rw [hFs27]; rfl)
            exact Does_val (r_neqB (p := true) (q := true) Try.underlying4 e110 e112) (Ext.refl _) rfl
          refine DagSteps.cons (fun s' w' X U H => Or.inl ⟨?_, ?_⟩) ?_
          · exact Guarded_none rfl
          · have e113 : s' 113 = (.bool false) := H 4 rfl 113 (.eq (.bool false)) rfl (by rw [hFs27]; rfl)
            exact Does_val (r_move (v := (.bool false)) e113) (Ext.refl _) rfl
          refine DagSteps.cons (fun s' w' X U H => Or.inl ⟨?_, ?_⟩) ?_
          · exact Guarded_some rfl rfl (d := 114) (H 5 rfl 114 (.eq (.bool false)) rfl (by rw [hFs27]; rfl))
          · exact Does_val (r_move (v := (.int .i64 o)) (U 5 rfl)) (Ext.refl _) rfl
          refine DagSteps.cons (fun s' w' X U H => Or.inl ⟨?_, ?_⟩) ?_
          · exact Guarded_some rfl rfl (d := 114) (H 5 rfl 114 (.eq (.bool false)) rfl (by rw [hFs27]; rfl))
          · have e115 : s' 115 = (.int .i64 o) := H 6 rfl 115 (.eq (.int .i64 o)) rfl (by rw [hFs27]; rfl)
            exact Does_val (Eq.trans (r_geq (k := .i64) (a := o) (b := 0) e115 rfl) (by rw [hx2])) (Ext.refl _) rfl
          refine DagSteps.cons (fun s' w' X U H => Or.inl ⟨?_, ?_⟩) ?_
          · exact Guarded_some rfl rfl (d := 114) (H 5 rfl 114 (.eq (.bool false)) rfl (by rw [hFs27]; rfl))
          · have e116 : s' 116 = (.bool false) := H 7 rfl 116 (.eq (.bool false)) rfl (by rw [hFs27]; rfl)
            exact Does_val (r_move (v := (.bool false)) e116) (Ext.refl _) rfl
          refine DagSteps.cons (fun s' w' X U H => Or.inr ⟨?_, rfl⟩) ?_
          · exact Unmet_mk rfl rfl (d := 117) (Or.inl (H 8 rfl 117 (.eq (.bool false)) rfl (by rw [hFs27]; rfl)))
          refine DagSteps.cons (fun s' w' X U H => Or.inr ⟨?_, rfl⟩) ?_
          · exact Unmet_mk rfl rfl (d := 117) (Or.inl (H 8 rfl 117 (.eq (.bool false)) rfl (by rw [hFs27]; rfl)))
          refine DagSteps.cons (fun s' w' X U H => Or.inr ⟨?_, rfl⟩) ?_
          · exact Unmet_mk rfl rfl (d := 117) (Or.inl (H 8 rfl 117 (.eq (.bool false)) rfl (by rw [hFs27]; rfl)))
          refine DagSteps.cons (fun s' w' X U H => Or.inr ⟨?_, rfl⟩) ?_
          · exact Unmet_mk rfl rfl (d := 117) (Or.inl (H 8 rfl 117 (.eq (.bool false)) rfl (by rw [hFs27]; rfl)))
          refine DagSteps.cons (fun s' w' X U H => Or.inr ⟨?_, rfl⟩) ?_
          · exact Unmet_mk rfl rfl (d := 117) (Or.inl (H 8 rfl 117 (.eq (.bool false)) rfl (by rw [hFs27]; rfl)))
          refine DagSteps.cons (fun s' w' X U H => Or.inr ⟨?_, rfl⟩) ?_
          · exact Unmet_mk rfl rfl (d := 117) (Or.inl (H 8 rfl 117 (.eq (.bool false)) rfl (by rw [hFs27]; rfl)))
          refine DagSteps.cons (fun s' w' X U H => Or.inr ⟨?_, rfl⟩) ?_
          · exact Unmet_mk rfl rfl (d := 117) (Or.inl (H 8 rfl 117 (.eq (.bool false)) rfl (by rw [hFs27]; rfl)))
          refine DagSteps.cons (fun s' w' X U H => Or.inr ⟨?_, rfl⟩) ?_
          · exact Unmet_mk rfl rfl (d := 117) (Or.inl (H 8 rfl 117 (.eq (.bool false)) rfl (by rw [hFs27]; rfl)))
          refine DagSteps.cons (fun s' w' X U H => Or.inr ⟨?_, rfl⟩) ?_
          · exact Unmet_mk rfl rfl (d := 125) (Or.inr (H 16 rfl 125 (.eq undef) rfl (by rw [hFs27]; rfl)))
          refine DagSteps.cons (fun s' w' X U H => Or.inr ⟨?_, rfl⟩) ?_
          · exact Unmet_mk rfl rfl (d := 125) (Or.inr (H 16 rfl 125 (.eq undef) rfl (by rw [hFs27]; rfl)))
          refine DagSteps.cons (fun s' w' X U H => Or.inr ⟨?_, rfl⟩) ?_
          · exact Unmet_mk rfl rfl (d := 125) (Or.inr (H 16 rfl 125 (.eq undef) rfl (by rw [hFs27]; rfl)))
          refine DagSteps.cons (fun s' w' X U H => Or.inr ⟨?_, rfl⟩) ?_
          · exact Unmet_mk rfl rfl (d := 125) (Or.inr (H 16 rfl 125 (.eq undef) rfl (by rw [hFs27]; rfl)))
          refine DagSteps.cons (fun s' w' X U H => Or.inr ⟨?_, rfl⟩) ?_
          · exact Unmet_mk rfl rfl (d := 125) (Or.inr (H 16 rfl 125 (.eq undef) rfl (by rw [hFs27]; rfl)))
          refine DagSteps.cons (fun s' w' X U H => Or.inr ⟨?_, rfl⟩) ?_
          · exact Unmet_mk rfl rfl (d := 125) (Or.inr (H 16 rfl 125 (.eq undef) rfl (by rw [hFs27]; rfl)))
          refine DagSteps.cons (fun s' w' X U H => Or.inr ⟨?_, rfl⟩) ?_
          · exact Unmet_mk rfl rfl (d := 125) (Or.inr (H 16 rfl 125 (.eq undef) rfl (by rw [hFs27]; rfl)))
          refine DagSteps.cons (fun s' w' X U H => Or.inr ⟨?_, rfl⟩) ?_
          · exact Unmet_mk rfl rfl (d := 125) (Or.inr (H 16 rfl 125 (.eq undef) rfl (by rw [hFs27]; rfl)))
          refine DagSteps.cons (fun s' w' X U H => Or.inr ⟨?_, rfl⟩) ?_
          · exact Unmet_mk rfl rfl (d := 125) (Or.inr (H 16 rfl 125 (.eq undef) rfl (by rw [hFs27]; rfl)))
          refine DagSteps.cons (fun s' w' X U H => Or.inr ⟨?_, rfl⟩) ?_
          · exact Unmet_mk rfl rfl (d := 125) (Or.inr (H 16 rfl 125 (.eq undef) rfl (by rw [hFs27]; rfl)))
          refine DagSteps.cons (fun s' w' X U H => Or.inr ⟨?_, rfl⟩) ?_
          · exact Unmet_mk rfl rfl (d := 117) (Or.inl (H 8 rfl 117 (.eq (.bool false)) rfl (by rw [hFs27]; rfl)))
          refine DagSteps.cons (fun s' w' X U H => Or.inl ⟨?_, ?_⟩) ?_
          · exact Guarded_some rfl rfl (d := 114) (H 5 rfl 114 (.eq (.bool false)) rfl (by rw [hFs27]; rfl))
          · have e117 : s' 117 = (.bool false) := H 8 rfl 117 (.eq (.bool false)) rfl (by rw [hFs27]; rfl)
            exact Does_val (r_pick (b := false) (v := (.bool false)) e117 rfl) (Ext.refl _) rfl
          refine DagSteps.cons (fun s' w' X U H => Or.inl ⟨?_, ?_⟩) ?_
          · exact Guarded_none rfl
          · have e114 : s' 114 = (.bool false) := H 5 rfl 114 (.eq (.bool false)) rfl (by rw [hFs27]; rfl)
            have e137 : s' 137 = (.bool false) := H 28 rfl 137 (.eq (.bool false)) rfl (by rw [hFs27]; rfl)
            exact Does_val (r_pick (b := false) (v := (.bool false)) e114 e137) (Ext.refl _) rfl
          exact DagSteps.nil
        · intro s' w27 X27 U H
          obtain ⟨j27, rfl⟩ := Fits.out (σ := s') (l := [(1, (.pointer (some ⟨bt, 0, none⟩))), (3, (.int .i64 ((t.bs.length : Nat) : Int))), (81, (.slice (some ⟨ob, oo, none⟩) t.ow.length oc)), (82, (.int .i64 ((t.ow.length : Nat) : Int))), (83, (.int .i64 ((i : Nat) : Int))), (138, (.bool false))]) ⟨U 1 rfl, U 3 rfl, U 81 rfl, U 82 rfl, U 83 rfl, (show s' 138 = (.bool false) from H 29 138 (.eq (.bool false)) rfl (by rw [hFs27]; rfl)), trivial⟩
          clear U H
          replace Bt := X27.keep Bt
          replace E := E.ext X27
          refine thn_normal ?_
          refine Wp_cond_false rfl ?_
          refine Wp_skip ?_
          refine inB_normal ?_
          refine thn_normal ?_
          refine Wp_region ?_
          refine WpL_val rfl rfl (by decide) (r_add (k := .i64) (a := ((i : Nat) : Int)) (b := 1) (c := ((i : Nat) : Int) + 1) rfl rfl (wI64 (by omega))) ?_
          refine WpL_val rfl rfl (by decide) (r_move (v := (.int .i64 (((i : Nat) : Int) + 1))) rfl) ?_
          refine WpL_nil ?_
          refine thn_normal ?_
          exact ⟨t.ow.length - (i + 1), by omega, i + 1, Fits.out ⟨rfl, rfl, rfl, rfl, rfl, trivial⟩, E, Bt, (by omega), rfl⟩
      · have khs0 := hs0
        replace khs0 := of_decide_eq_false khs0
        have hx1 : decide (x < 0) = false := decide_eq_false (fun h => khs0 (q5.2 h))
        have hx2 : decide (0 ≤ o) = true := decide_eq_true (by omega)
        obtain ⟨b, hbb⟩ := get_of_lt (l := t.bs) (i := o.toNat) (by omega)
        obtain ⟨q7, q8⟩ := q6 (by omega) b hbb
        have hbs := hg.bm b (List.mem_of_getElem? hbb)
        have k15 : decide (((i : Nat) : Int) < ((b : Nat) : Int)) = false := decide_eq_false (by omega)
        have k16 : decide (((b : Nat) : Int) + ((t.cols : Nat) : Int) ≤ ((i : Nat) : Int)) = false := decide_eq_false (by omega)
        refine Wp_skip ?_
        refine thn_normal ?_
        refine Wp_seq ?_
        obtain ⟨Fs28, hFs28⟩ : ∃ Fs : List Fact, Fs = [.eq (.int .i64 o), .eq (.bool false), .eq (.int .i64 x), .eq (.bool false), .eq (.bool false), .eq (.bool false), .eq (.int .i64 o), .eq (.bool true), .eq (.bool true), .eq (.int .i64 ((i : Nat) : Int)), .eq (.pointer (some ⟨bt, 3, none⟩)), .eq (.slice (some ⟨bb, bo, none⟩) t.bs.length bc), .eq (.int .i64 o), .eq (.pointer (some ⟨bb, bo + o.toNat, none⟩)), .eq (.int .i64 ((b : Nat) : Int)), .eq (.bool false), .eq (.bool false), .eq (.int .i64 ((i : Nat) : Int)), .eq (.pointer (some ⟨bt, 3, none⟩)), .eq (.slice (some ⟨bb, bo, none⟩) t.bs.length bc), .eq (.int .i64 o), .eq (.pointer (some ⟨bb, bo + o.toNat, none⟩)), .eq (.int .i64 ((b : Nat) : Int)), .eq (.pointer (some ⟨bt, 1, none⟩)), .eq (.int .i64 ((t.cols : Nat) : Int)), .eq (.int .i64 (((b : Nat) : Int) + ((t.cols : Nat) : Int))), .eq (.bool false), .eq (.bool false), .eq (.bool false), .eq (.bool false)] := ⟨_, rfl⟩
        refine Wp_dag [109, 110, 111, 112, 113, 114, 115, 116, 117, 118, 119, 120, 121, 122, 123, 124, 125, 126, 127, 128, 129, 130, 131, 132, 133, 134, 135, 136, 137, 138] [[], [0], [], [2], [1, 3], [4], [5], [5, 6], [5, 7], [8], [8], [8, 10], [8], [8, 11, 12], [8, 13], [8, 9, 14], [8, 15], [16], [16], [16, 18], [16], [16, 19, 20], [16, 21], [16], [16, 23], [16, 22, 24], [16, 17, 25], [8, 16, 26], [5, 8, 27], [5, 28]] Fs28 hFs28 mixed (by kernel_rfl) (by kernel_rfl) ?_ ?_
        · intro wd X0
          refine DagSteps.cons (fun s' w' X U H => Or.inl ⟨?_, ?_⟩) ?_
          · exact Guarded_none rfl
          · exact Does_val (r_move (v := (.int .i64 o)) (U 5 rfl)) (Ext.refl _) rfl
          refine DagSteps.cons (fun s' w' X U H => Or.inl ⟨?_, ?_⟩) ?_
          · exact Guarded_none rfl
          · have e109 : s' 109 = (.int .i64 o) := H 0 rfl 109 (.eq (.int .i64 o)) rfl (by rw [hFs28]; rfl)
            exact Does_val (Eq.trans (r_lss (k := .i64) (a := o) (b := 0) e109 rfl) (by rw [hs0])) (Ext.refl _) rfl
          refine DagSteps.cons (fun s' w' X U H => Or.inl ⟨?_, ?_⟩) ?_
          · exact Guarded_none rfl
          · exact Does_val (r_move (v := (.int .i64 x)) (U 6 rfl)) (Ext.refl _) rfl
          refine DagSteps.cons (fun s' w' X U H => Or.inl ⟨?_, ?_⟩) ?_
          · exact Guarded_none rfl
          · have e111 : s' 111 = (.int .i64 x) := H 2 rfl 111 (.eq (.int .i64 x)) rfl (by rw [hFs28]; rfl)
            exact Does_val (Eq.trans (r_lss (k := .i64) (a := x) (b := 0) e111 rfl) (by rw [hx1])) (Ext.refl _) rfl
          refine DagSteps.cons (fun s' w' X U H => Or.inl ⟨?_, ?_⟩) ?_
          · exact Guarded_none rfl
          · have e110 : s' 110 = (.bool false) := H 1 rfl 110 (.eq (.bool false)) rfl (by rw [hFs28]; rfl)
            have e112 : s' 112 = (.bool false) := H 3 rfl 112 (.eq (.bool false)) rfl (by rw [hFs28]; rfl)
            exact Does_val (r_neqB (p := false) (q := false) Try.underlying4 e110 e112) (Ext.refl _) rfl
          refine DagSteps.cons (fun s' w' X U H => Or.inl ⟨?_, ?_⟩) ?_
          · exact Guarded_none rfl
          · have e113 : s' 113 = (.bool false) := H 4 rfl 113 (.eq (.bool false)) rfl (by rw [hFs28]; rfl)
            exact Does_val (r_move (v := (.bool false)) e113) (Ext.refl _) rfl
          refine DagSteps.cons (fun s' w' X U H => Or.inl ⟨?_, ?_⟩) ?_
          · exact Guarded_some rfl rfl (d := 114) (H 5 rfl 114 (.eq (.bool false)) rfl (by rw [hFs28]; rfl))
          · exact Does_val (r_move (v := (.int .i64 o)) (U 5 rfl)) (Ext.refl _) rfl
          refine DagSteps.cons (fun s' w' X U H => Or.inl ⟨?_, ?_⟩) ?_
          · exact Guarded_some rfl rfl (d := 114) (H 5 rfl 114 (.eq (.bool false)) rfl (by rw [hFs28]; rfl))
          · have e115 : s' 115 = (.int .i64 o) := H 6 rfl 115 (.eq (.int .i64 o)) rfl (by rw [hFs28]; rfl)
            exact Does_val (Eq.trans (r_geq (k := .i64) (a := o) (b := 0) e115 rfl) (by rw [hx2])) (Ext.refl _) rfl
          refine DagSteps.cons (fun s' w' X U H => Or.inl ⟨?_, ?_⟩) ?_
          · exact Guarded_some rfl rfl (d := 114) (H 5 rfl 114 (.eq (.bool false)) rfl (by rw [hFs28]; rfl))
          · have e116 : s' 116 = (.bool true) := H 7 rfl 116 (.eq (.bool true)) rfl (by rw [hFs28]; rfl)
            exact Does_val (r_move (v := (.bool true)) e116) (Ext.refl _) rfl
          refine DagSteps.cons (fun s' w' X U H => Or.inl ⟨?_, ?_⟩) ?_
          · exact Guarded_some rfl rfl (d := 117) (H 8 rfl 117 (.eq (.bool true)) rfl (by rw [hFs28]; rfl))
          · exact Does_val (r_move (v := (.int .i64 ((i : Nat) : Int))) (U 4 rfl)) (Ext.refl _) rfl
          refine DagSteps.cons (fun s' w' X U H => Or.inl ⟨?_, ?_⟩) ?_
          · exact Guarded_some rfl rfl (d := 117) (H 8 rfl 117 (.eq (.bool true)) rfl (by rw [hFs28]; rfl))
          · exact Does_val (r_fieldAddr (b := bt) (o := 0) (o' := 3) (U 1 rfl) Try.underlying46 rfl siz26 rfl) (Ext.refl _) rfl
          refine DagSteps.cons (fun s' w' X U H => Or.inl ⟨?_, ?_⟩) ?_
          · exact Guarded_some rfl rfl (d := 117) (H 8 rfl 117 (.eq (.bool true)) rfl (by rw [hFs28]; rfl))
          · have e119 : s' 119 = (.pointer (some ⟨bt, 3, none⟩)) := H 10 rfl 119 (.eq (.pointer (some ⟨bt, 3, none⟩))) rfl (by rw [hFs28]; rfl)
            exact Does_val (r_load (v := (.slice (some ⟨bb, bo, none⟩) t.bs.length bc)) e119 flat26 (((X0.trans X).keep Bt).cell rfl)) (Ext.refl _) rfl
          refine DagSteps.cons (fun s' w' X U H => Or.inl ⟨?_, ?_⟩) ?_
          · exact Guarded_some rfl rfl (d := 117) (H 8 rfl 117 (.eq (.bool true)) rfl (by rw [hFs28]; rfl))
          · exact Does_val (r_move (v := (.int .i64 o)) (U 5 rfl)) (Ext.refl _) rfl
          refine DagSteps.cons (fun s' w' X U H => Or.inl ⟨?_, ?_⟩) ?_
          · exact Guarded_some rfl rfl (d := 117) (H 8 rfl 117 (.eq (.bool true)) rfl (by rw [hFs28]; rfl))
          · have e120 : s' 120 = (.slice (some ⟨bb, bo, none⟩) t.bs.length bc) := H 11 rfl 120 (.eq (.slice (some ⟨bb, bo, none⟩) t.bs.length bc)) rfl (by rw [hFs28]; rfl)
            have e121 : s' 121 = (.int .i64 o) := H 12 rfl 121 (.eq (.int .i64 o)) rfl (by rw [hFs28]; rfl)
            exact Does_val (r_indexSlice (b := bb) (o := bo) (len := t.bs.length) (cap := bc) (i := o.toNat) (o' := bo + o.toNat) e120 e121 (by omega) Try.underlying26 siz3 (by omega) (by omega)) (Ext.refl _) rfl
          refine DagSteps.cons (fun s' w' X U H => Or.inl ⟨?_, ?_⟩) ?_
          · exact Guarded_some rfl rfl (d := 117) (H 8 rfl 117 (.eq (.bool true)) rfl (by rw [hFs28]; rfl))
          · have e122 : s' 122 = (.pointer (some ⟨bb, bo + o.toNat, none⟩)) := H 13 rfl 122 (.eq (.pointer (some ⟨bb, bo + o.toNat, none⟩))) rfl (by rw [hFs28]; rfl)
            exact Does_val (r_load (v := (.int .i64 ((b : Nat) : Int))) e122 flat3 (Chg.cell (Ext.trans E (X0.trans X)) (fun f => f) (hbcl o.toNat _ (natV_get hbb)))) (Ext.refl _) rfl
          refine DagSteps.cons (fun s' w' X U H => Or.inl ⟨?_, ?_⟩) ?_
          · exact Guarded_some rfl rfl (d := 117) (H 8 rfl 117 (.eq (.bool true)) rfl (by rw [hFs28]; rfl))
          · have e118 : s' 118 = (.int .i64 ((i : Nat) : Int)) := H 9 rfl 118 (.eq (.int .i64 ((i : Nat) : Int))) rfl (by rw [hFs28]; rfl)
            have e123 : s' 123 = (.int .i64 ((b : Nat) : Int)) := H 14 rfl 123 (.eq (.int .i64 ((b : Nat) : Int))) rfl (by rw [hFs28]; rfl)
            exact Does_val (Eq.trans (r_lss (k := .i64) (a := ((i : Nat) : Int)) (b := ((b : Nat) : Int)) e118 e123) (by rw [k15])) (Ext.refl _) rfl
          refine DagSteps.cons (fun s' w' X U H => Or.inl ⟨?_, ?_⟩) ?_
          · exact Guarded_some rfl rfl (d := 117) (H 8 rfl 117 (.eq (.bool true)) rfl (by rw [hFs28]; rfl))
          · have e124 : s' 124 = (.bool false) := H 15 rfl 124 (.eq (.bool false)) rfl (by rw [hFs28]; rfl)
            exact Does_val (r_move (v := (.bool false)) e124) (Ext.refl _) rfl
          refine DagSteps.cons (fun s' w' X U H => Or.inl ⟨?_, ?_⟩) ?_
          · exact Guarded_some rfl rfl (d := 125) (H 16 rfl 125 (.eq (.bool false)) rfl (by rw [hFs28]; rfl))
          · exact Does_val (r_move (v := (.int .i64 ((i : Nat) : Int))) (U 4 rfl)) (Ext.refl _) rfl
          refine DagSteps.cons (fun s' w' X U H => Or.inl ⟨?_, ?_⟩) ?_
          · exact Guarded_some rfl rfl (d := 125) (H 16 rfl 125 (.eq (.bool false)) rfl (by rw [hFs28]; rfl))
          · exact Does_val (r_fieldAddr (b := bt) (o := 0) (o' := 3) (U 1 rfl) Try.underlying46 rfl siz26 rfl) (Ext.refl _) rfl
          refine DagSteps.cons (fun s' w' X U H => Or.inl ⟨?_, ?_⟩) ?_
          · exact Guarded_some rfl rfl (d := 125) (H 16 rfl 125 (.eq (.bool false)) rfl (by rw [hFs28]; rfl))
          · have e127 : s' 127 = (.pointer (some ⟨bt, 3, none⟩)) := H 18 rfl 127 (.eq (.pointer (some ⟨bt, 3, none⟩))) rfl (by rw [hFs28]; rfl)
            exact Does_val (r_load (v := (.slice (some ⟨bb, bo, none⟩) t.bs.length bc)) e127 flat26 (((X0.trans X).keep Bt).cell rfl)) (Ext.refl _) rfl
          refine DagSteps.cons (fun s' w' X U H => Or.inl ⟨?_, ?_⟩) ?_
          · exact Guarded_some rfl rfl (d := 125) (H 16 rfl 125 (.eq (.bool false)) rfl (by rw [hFs28]; rfl))
          · exact Does_val (r_move (v := (.int .i64 o)) (U 5 rfl)) (Ext.refl _) rfl
          refine DagSteps.cons (fun s' w' X U H => Or.inl ⟨?_, ?_⟩) ?_
          · exact Guarded_some rfl rfl (d := 125) (H 16 rfl 125 (.eq (.bool false)) rfl (by rw [hFs28]; rfl))
          · have e128 : s' 128 = (.slice (some ⟨bb, bo, none⟩) t.bs.length bc) := H 19 rfl 128 (.eq (.slice (some ⟨bb, bo, none⟩) t.bs.length bc)) rfl (by rw [hFs28]; rfl)
            have e129 : s' 129 = (.int .i64 o) := H 20 rfl 129 (.eq (.int .i64 o)) rfl (by rw [hFs28]; rfl)
            exact Does_val (r_indexSlice (b := bb) (o := bo) (len := t.bs.length) (cap := bc) (i := o.toNat) (o' := bo + o.toNat) e128 e129 (by omega) Try.underlying26 siz3 (by omega) (by omega)) (Ext.refl _) rfl
          refine DagSteps.cons (fun s' w' X U H => Or.inl ⟨?_, ?_⟩) ?_
          · exact Guarded_some rfl rfl (d := 125) (H 16 rfl 125 (.eq (.bool false)) rfl (by rw [hFs28]; rfl))
          · have e130 : s' 130 = (.pointer (some ⟨bb, bo + o.toNat, none⟩)) := H 21 rfl 130 (.eq (.pointer (some ⟨bb, bo + o.toNat, none⟩))) rfl (by rw [hFs28]; rfl)
            exact Does_val (r_load (v := (.int .i64 ((b : Nat) : Int))) e130 flat3 (Chg.cell (Ext.trans E (X0.trans X)) (fun f => f) (hbcl o.toNat _ (natV_get hbb)))) (Ext.refl _) rfl
          refine DagSteps.cons (fun s' w' X U H => Or.inl ⟨?_, ?_⟩) ?_
          · exact Guarded_some rfl rfl (d := 125) (H 16 rfl 125 (.eq (.bool false)) rfl (by rw [hFs28]; rfl))
          · exact Does_val (r_fieldAddr (b := bt) (o := 0) (o' := 1) (U 1 rfl) Try.underlying46 rfl siz3 rfl) (Ext.refl _) rfl
          refine DagSteps.cons (fun s' w' X U H => Or.inl ⟨?_, ?_⟩) ?_
          · exact Guarded_some rfl rfl (d := 125) (H 16 rfl 125 (.eq (.bool false)) rfl (by rw [hFs28]; rfl))
          · have e132 : s' 132 = (.pointer (some ⟨bt, 1, none⟩)) := H 23 rfl 132 (.eq (.pointer (some ⟨bt, 1, none⟩))) rfl (by rw [hFs28]; rfl)
            exact Does_val (r_load (v := (.int .i64 ((t.cols : Nat) : Int))) e132 flat3 (((X0.trans X).keep Bt).cell rfl)) (Ext.refl _) rfl
          refine DagSteps.cons (fun s' w' X U H => Or.inl ⟨?_, ?_⟩) ?_
          · exact Guarded_some rfl rfl (d := 125) (H 16 rfl 125 (.eq (.bool false)) rfl (by rw [hFs28]; rfl))
          · have e131 : s' 131 = (.int .i64 ((b : Nat) : Int)) := H 22 rfl 131 (.eq (.int .i64 ((b : Nat) : Int))) rfl (by rw [hFs28]; rfl)
            have e133 : s' 133 = (.int .i64 ((t.cols : Nat) : Int)) := H 24 rfl 133 (.eq (.int .i64 ((t.cols : Nat) : Int))) rfl (by rw [hFs28]; rfl)
            exact Does_val (r_add (k := .i64) (a := ((b : Nat) : Int)) (b := ((t.cols : Nat) : Int)) (c := ((b : Nat) : Int) + ((t.cols : Nat) : Int)) e131 e133 (wI64 (by omega))) (Ext.refl _) rfl
          refine DagSteps.cons (fun s' w' X U H => Or.inl ⟨?_, ?_⟩) ?_
          · exact Guarded_some rfl rfl (d := 125) (H 16 rfl 125 (.eq (.bool false)) rfl (by rw [hFs28]; rfl))
          · have e126 : s' 126 = (.int .i64 ((i : Nat) : Int)) := H 17 rfl 126 (.eq (.int .i64 ((i : Nat) : Int))) rfl (by rw [hFs28]; rfl)
            have e134 : s' 134 = (.int .i64 (((b : Nat) : Int) + ((t.cols : Nat) : Int))) := H 25 rfl 134 (.eq (.int .i64 (((b : Nat) : Int) + ((t.cols : Nat) : Int)))) rfl (by rw [hFs28]; rfl)
            exact Does_val (Eq.trans (r_geq (k := .i64) (a := ((i : Nat) : Int)) (b := ((b : Nat) : Int) + ((t.cols : Nat) : Int)) e126 e134) (by rw [k16])) (Ext.refl _) rfl
          refine DagSteps.cons (fun s' w' X U H => Or.inl ⟨?_, ?_⟩) ?_
          · exact Guarded_some rfl rfl (d := 117) (H 8 rfl 117 (.eq (.bool true)) rfl (by rw [hFs28]; rfl))
          · have e125 : s' 125 = (.bool false) := H 16 rfl 125 (.eq (.bool false)) rfl (by rw [hFs28]; rfl)
            have e135 : s' 135 = (.bool false) := H 26 rfl 135 (.eq (.bool false)) rfl (by rw [hFs28]; rfl)
            exact Does_val (r_pick (b := false) (v := (.bool false)) e125 e135) (Ext.refl _) rfl
          refine DagSteps.cons (fun s' w' X U H => Or.inl ⟨?_, ?_⟩) ?_
          · exact Guarded_some rfl rfl (d := 114) (H 5 rfl 114 (.eq (.bool false)) rfl (by rw [hFs28]; rfl))
          · have e117 : s' 117 = (.bool true) := H 8 rfl 117 (.eq (.bool true)) rfl (by rw [hFs28]; rfl)
            have e136 : s' 136 = (.bool false) := H 27 rfl 136 (.eq (.bool false)) rfl (by rw [hFs28]; rfl)
            exact Does_val (r_pick (b := true) (v := (.bool false)) e117 e136) (Ext.refl _) rfl
          refine DagSteps.cons (fun s' w' X U H => Or.inl ⟨?_, ?_⟩) ?_
          · exact Guarded_none rfl
          · have e114 : s' 114 = (.bool false) := H 5 rfl 114 (.eq (.bool false)) rfl (by rw [hFs28]; rfl)
            have e137 : s' 137 = (.bool false) := H 28 rfl 137 (.eq (.bool false)) rfl (by rw [hFs28]; rfl)
            exact Does_val (r_pick (b := false) (v := (.bool false)) e114 e137) (Ext.refl _) rfl
          exact DagSteps.nil
        · intro s' w28 X28 U H
          obtain ⟨j28, rfl⟩ := Fits.out (σ := s') (l := [(1, (.pointer (some ⟨bt, 0, none⟩))), (3, (.int .i64 ((t.bs.length : Nat) : Int))), (81, (.slice (some ⟨ob, oo, none⟩) t.ow.length oc)), (82, (.int .i64 ((t.ow.length : Nat) : Int))), (83, (.int .i64 ((i : Nat) : Int))), (138, (.bool false))]) ⟨U 1 rfl, U 3 rfl, U 81 rfl, U 82 rfl, U 83 rfl, (show s' 138 = (.bool false) from H 29 138 (.eq (.bool false)) rfl (by rw [hFs28]; rfl)), trivial⟩
          clear U H
          replace Bt := X28.keep Bt
          replace E := E.ext X28
          refine thn_normal ?_
          refine Wp_cond_false rfl ?_
          refine Wp_skip ?_
          refine inB_normal ?_
          refine thn_normal ?_
          refine Wp_region ?_
          refine WpL_val rfl rfl (by decide) (r_add (k := .i64) (a := ((i : Nat) : Int)) (b := 1) (c := ((i : Nat) : Int) + 1) rfl rfl (wI64 (by omega))) ?_
          refine WpL_val rfl rfl (by decide) (r_move (v := (.int .i64 (((i : Nat) : Int) + 1))) rfl) ?_
          refine WpL_nil ?_
          refine thn_normal ?_
          exact ⟨t.ow.length - (i + 1), by omega, i + 1, Fits.out ⟨rfl, rfl, rfl, rfl, rfl, trivial⟩, E, Bt, (by omega), rfl⟩
    · have khlt := hlt
      replace hlt := of_decide_eq_false hlt
      refine Wp_exit ?_
      refine thn_exit ?_
      refine thn_exit ?_
      refine inB_here ?_
      refine thn_normal ?_
      refine Wp_seq_region ?_
      refine WpL_val rfl rfl (by decide) (r_assign (v := (.int .i64 0)) rfl) ?_
      refine WpL_nil ?_
      refine Wp_ret ?_
      refine fin_tmp Try.results60 (v := (.int .i64 0)) rfl ?_
      exact ⟨rfl, E⟩
theorem tat_c (w0 : World) (t : Tab) (vs : List Value) (s c b : Nat) (h : TabAt w0 t vs) (hb : t.bs[s]? = some b) (hlen : t.nx.length = t.ow.length) (hsm : b + c ≤ 1000000) :
    Ret Try.prog 62 #[.agg vs.toArray, .int .i64 ((s : Nat) : Int), .int .i64 ((c : Nat) : Int)] w0 fun r w => r = .int .i64 (atT t.ow t.nx t.bs s c) ∧ Ext w0 w := by
  obtain ⟨aa, ac, ba, bc, oa, oc, na, nc, rfl, ha, hbs, ho, hn⟩ := h
  have hsl := lt_of_get hb
  have hol : t.ow.length ≤ 9223372036854775807 := by simpa using SlAt.le ho
  have hbl : t.bs.length ≤ 9223372036854775807 := by simpa [natV] using SlAt.le hbs
  obtain ⟨bb, bo, rfl, hbcl⟩ := ints_cells hbs (by omega)
  have hat : atT t.ow t.nx t.bs s c = if t.ow[b + c]? = some ((s : Nat) : Int) then t.nx.getD (b + c) (-1) else -1 := by unfold atT; rw [hb]
  rcases Nat.lt_or_ge (b + c) t.ow.length with hlt | hge
  · obtain ⟨o, hoo⟩ := get_of_lt hlt
    obtain ⟨x, hxx⟩ := get_of_lt (l := t.nx) (i := b + c) (by omega)
    obtain ⟨ob, oo, rfl, hocl⟩ := ints_cells ho (by omega)
    obtain ⟨nb, no, rfl, hncl⟩ := ints_cells hn (by omega)
    refine Ret_of Try.func62 rfl Try.ntmps62 (Nat.le_of_ble_eq_true rfl) ?_
    have E : Chg none1 w0 w0 := Chg.refl _ _
    refine Wp_seq_region ?_
    refine s_box (v := (.agg #[(.int .i64 t.start), (.int .i64 ((t.cols : Nat) : Int)), (.slice aa t.acc.length ac), (.slice (some ⟨bb, bo, none⟩) t.bs.length bc), (.slice (some ⟨ob, oo, none⟩) t.ow.length oc), (.slice (some ⟨nb, no, none⟩) t.nx.length nc)])) (c := #[(.int .i64 t.start), (.int .i64 ((t.cols : Nat) : Int)), (.slice aa t.acc.length ac), (.slice (some ⟨bb, bo, none⟩) t.bs.length bc), (.slice (some ⟨ob, oo, none⟩) t.ow.length oc), (.slice (some ⟨nb, no, none⟩) t.nx.length nc)]) (by decide) rfl rfl ?_
    intro bt wt Nt
    have Ft := Nt.ge E
    replace E := E.ext Nt.ext
    have Bt := Nt.blk
    refine WpL_val rfl rfl (by decide) (r_assign (v := (.int .i64 0)) rfl) ?_
    refine WpL_nil ?_
    refine Wp_seq ?_
    refine Wp_seq_region ?_
    refine WpL_val rfl rfl (by decide) (r_fieldAddr (b := bt) (o := 0) (o' := 3) rfl Try.underlying46 rfl siz26 rfl) ?_
    refine WpL_val rfl rfl (by decide) (r_load (v := (.slice (some ⟨bb, bo, none⟩) t.bs.length bc)) rfl flat26 (Bt.cell rfl)) ?_
    refine WpL_val rfl rfl (by decide) (r_move (v := (.int .i64 ((s : Nat) : Int))) rfl) ?_
    refine WpL_val rfl rfl (by decide) (r_indexSlice (b := bb) (o := bo) (len := t.bs.length) (cap := bc) (i := s) (o' := bo + s) rfl rfl rfl Try.underlying26 siz3 (by omega) (by omega)) ?_
    refine WpL_val rfl rfl (by decide) (r_load (v := (.int .i64 ((b : Nat) : Int))) rfl flat3 (E.cell (fun f => f) (hbcl s _ (natV_get hb)))) ?_
    refine WpL_val rfl rfl (by decide) (r_move (v := (.int .i64 ((c : Nat) : Int))) rfl) ?_
    refine WpL_val rfl rfl (by decide) (r_add (k := .i64) (a := ((b : Nat) : Int)) (b := ((c : Nat) : Int)) (c := (((b + c : Nat) : Nat) : Int)) rfl rfl ((wI64 (by omega)).trans (by omega))) ?_
    refine WpL_val rfl rfl (by decide) (r_assign (v := (.int .i64 (((b + c : Nat) : Nat) : Int))) rfl) ?_
    refine WpL_nil ?_
    refine Wp_seq_region ?_
    refine WpL_val rfl rfl (by decide) (r_move (v := (.int .i64 (((b + c : Nat) : Nat) : Int))) rfl) ?_
    refine WpL_val rfl rfl (by decide) (r_fieldAddr (b := bt) (o := 0) (o' := 4) rfl Try.underlying46 rfl siz26 rfl) ?_
    refine WpL_val rfl rfl (by decide) (r_load (v := (.slice (some ⟨ob, oo, none⟩) t.ow.length oc)) rfl flat26 (Bt.cell rfl)) ?_
    refine WpL_val rfl rfl (by decide) (r_lenSlice (ad := some ⟨ob, oo, none⟩) (n := t.ow.length) (cap := oc) Try.underlying26 rfl) ?_
    refine WpL_val rfl rfl (by decide) (r_lss (k := .i64) (a := (((b + c : Nat) : Nat) : Int)) (b := ((t.ow.length : Nat) : Int)) rfl rfl) ?_
    refine WpL_val rfl rfl (by decide) (r_move (v := (.bool (decide (((((b + c : Nat) : Nat) : Int) : Int) < ((t.ow.length : Nat) : Int))))) rfl) ?_
    have hg1 : (decide (((((b + c : Nat) : Nat) : Int) : Int) < ((t.ow.length : Nat) : Int))) = true := decide_eq_true (by omega)
    refine WpL_guard_yes (oj := _) rfl rfl (by decide) (congrArg Value.bool hg1) ?_
    refine WpL_val rfl rfl (by decide) (r_fieldAddr (b := bt) (o := 0) (o' := 4) rfl Try.underlying46 rfl siz26 rfl) ?_
    refine WpL_guard_yes (oj := _) rfl rfl (by decide) (congrArg Value.bool hg1) ?_
    refine WpL_val rfl rfl (by decide) (r_load (v := (.slice (some ⟨ob, oo, none⟩) t.ow.length oc)) rfl flat26 (Bt.cell rfl)) ?_
    refine WpL_guard_yes (oj := _) rfl rfl (by decide) (congrArg Value.bool hg1) ?_
    refine WpL_val rfl rfl (by decide) (r_move (v := (.int .i64 (((b + c : Nat) : Nat) : Int))) rfl) ?_
    refine WpL_guard_yes (oj := _) rfl rfl (by decide) (congrArg Value.bool hg1) ?_
    refine WpL_val rfl rfl (by decide) (r_indexSlice (b := ob) (o := oo) (len := t.ow.length) (cap := oc) (i := (b + c : Nat)) (o' := oo + (b + c : Nat)) rfl rfl rfl Try.underlying26 siz3 (by omega) (by omega)) ?_
    refine WpL_guard_yes (oj := _) rfl rfl (by decide) (congrArg Value.bool hg1) ?_
    refine WpL_val rfl rfl (by decide) (r_load (v := (.int .i64 o)) rfl flat3 (E.cell (fun f => f) (hocl (b + c) o hoo))) ?_
    refine WpL_guard_yes (oj := _) rfl rfl (by decide) (congrArg Value.bool hg1) ?_
    refine WpL_val rfl rfl (by decide) (r_move (v := (.int .i64 ((s : Nat) : Int))) rfl) ?_
    refine WpL_guard_yes (oj := _) rfl rfl (by decide) (congrArg Value.bool hg1) ?_
    refine WpL_val rfl rfl (by decide) (r_eql (k := .i64) (a := o) (b := ((s : Nat) : Int)) rfl rfl) ?_
    refine WpL_val rfl rfl (by decide) (r_pick (b := decide (((((b + c : Nat) : Nat) : Int) : Int) < ((t.ow.length : Nat) : Int))) (v := (.bool (decide ((o : Int) = ((s : Nat) : Int))))) rfl (by rw [hg1]; rfl)) ?_
    refine WpL_nil ?_
    refine Wp_cond (b := decide ((o : Int) = ((s : Nat) : Int))) rfl (fun he => ?_) (fun he => ?_)
    · have khe := he
      replace he := of_decide_eq_true he
      refine Wp_seq_region ?_
      refine WpL_val rfl rfl (by decide) (r_fieldAddr (b := bt) (o := 0) (o' := 5) rfl Try.underlying46 rfl siz26 rfl) ?_
      refine WpL_val rfl rfl (by decide) (r_load (v := (.slice (some ⟨nb, no, none⟩) t.nx.length nc)) rfl flat26 (Bt.cell rfl)) ?_
      refine WpL_val rfl rfl (by decide) (r_move (v := (.int .i64 (((b + c : Nat) : Nat) : Int))) rfl) ?_
      refine WpL_val rfl rfl (by decide) (r_indexSlice (b := nb) (o := no) (len := t.nx.length) (cap := nc) (i := (b + c : Nat)) (o' := no + (b + c : Nat)) rfl rfl rfl Try.underlying26 siz3 (by omega) (by omega)) ?_
      refine WpL_val rfl rfl (by decide) (r_load (v := (.int .i64 x)) rfl flat3 (E.cell (fun f => f) (hncl (b + c) x hxx))) ?_
      refine WpL_val rfl rfl (by decide) (r_assign (v := (.int .i64 x)) rfl) ?_
      refine WpL_nil ?_
      refine Wp_ret ?_
      refine thn_ret ?_
      refine fin_tmp Try.results62 (v := (.int .i64 x)) rfl ?_
      exact ⟨int_eq (by rw [hat, if_pos (by rw [hoo, he]), List.getD_eq_getElem?_getD, hxx]; rfl), E⟩
    · have khe := he
      replace he := of_decide_eq_false he
      refine Wp_skip ?_
      refine thn_normal ?_
      refine Wp_seq_region ?_
      refine WpL_val rfl rfl (by decide) (r_assign (v := (.int .i64 (-1))) rfl) ?_
      refine WpL_nil ?_
      refine Wp_ret ?_
      refine fin_tmp Try.results62 (v := (.int .i64 (-1))) rfl ?_
      exact ⟨int_eq (by rw [hat, if_neg (by rw [hoo]; simpa using he)]), E⟩
  · skip
    refine Ret_of Try.func62 rfl Try.ntmps62 (Nat.le_of_ble_eq_true rfl) ?_
    have E : Chg none1 w0 w0 := Chg.refl _ _
    refine Wp_seq_region ?_
    refine s_box (v := (.agg #[(.int .i64 t.start), (.int .i64 ((t.cols : Nat) : Int)), (.slice aa t.acc.length ac), (.slice (some ⟨bb, bo, none⟩) t.bs.length bc), (.slice oa t.ow.length oc), (.slice na t.nx.length nc)])) (c := #[(.int .i64 t.start), (.int .i64 ((t.cols : Nat) : Int)), (.slice aa t.acc.length ac), (.slice (some ⟨bb, bo, none⟩) t.bs.length bc), (.slice oa t.ow.length oc), (.slice na t.nx.length nc)]) (by decide) rfl rfl ?_
    intro bt wt Nt
    have Ft := Nt.ge E
    replace E := E.ext Nt.ext
    have Bt := Nt.blk
    refine WpL_val rfl rfl (by decide) (r_assign (v := (.int .i64 0)) rfl) ?_
    refine WpL_nil ?_
    refine Wp_seq ?_
    refine Wp_seq_region ?_
    refine WpL_val rfl rfl (by decide) (r_fieldAddr (b := bt) (o := 0) (o' := 3) rfl Try.underlying46 rfl siz26 rfl) ?_
    refine WpL_val rfl rfl (by decide) (r_load (v := (.slice (some ⟨bb, bo, none⟩) t.bs.length bc)) rfl flat26 (Bt.cell rfl)) ?_
    refine WpL_val rfl rfl (by decide) (r_move (v := (.int .i64 ((s : Nat) : Int))) rfl) ?_
    refine WpL_val rfl rfl (by decide) (r_indexSlice (b := bb) (o := bo) (len := t.bs.length) (cap := bc) (i := s) (o' := bo + s) rfl rfl rfl Try.underlying26 siz3 (by omega) (by omega)) ?_
    refine WpL_val rfl rfl (by decide) (r_load (v := (.int .i64 ((b : Nat) : Int))) rfl flat3 (E.cell (fun f => f) (hbcl s _ (natV_get hb)))) ?_
    refine WpL_val rfl rfl (by decide) (r_move (v := (.int .i64 ((c : Nat) : Int))) rfl) ?_
    refine WpL_val rfl rfl (by decide) (r_add (k := .i64) (a := ((b : Nat) : Int)) (b := ((c : Nat) : Int)) (c := (((b + c : Nat) : Nat) : Int)) rfl rfl ((wI64 (by omega)).trans (by omega))) ?_
    refine WpL_val rfl rfl (by decide) (r_assign (v := (.int .i64 (((b + c : Nat) : Nat) : Int))) rfl) ?_
    refine WpL_nil ?_
    refine Wp_seq_region ?_
    refine WpL_val rfl rfl (by decide) (r_move (v := (.int .i64 (((b + c : Nat) : Nat) : Int))) rfl) ?_
    refine WpL_val rfl rfl (by decide) (r_fieldAddr (b := bt) (o := 0) (o' := 4) rfl Try.underlying46 rfl siz26 rfl) ?_
    refine WpL_val rfl rfl (by decide) (r_load (v := (.slice oa t.ow.length oc)) rfl flat26 (Bt.cell rfl)) ?_
    refine WpL_val rfl rfl (by decide) (r_lenSlice (ad := oa) (n := t.ow.length) (cap := oc) Try.underlying26 rfl) ?_
    refine WpL_val rfl rfl (by decide) (r_lss (k := .i64) (a := (((b + c : Nat) : Nat) : Int)) (b := ((t.ow.length : Nat) : Int)) rfl rfl) ?_
    refine WpL_val rfl rfl (by decide) (r_move (v := (.bool (decide (((((b + c : Nat) : Nat) : Int) : Int) < ((t.ow.length : Nat) : Int))))) rfl) ?_
    have hg1 : (decide (((((b + c : Nat) : Nat) : Int) : Int) < ((t.ow.length : Nat) : Int))) = false := decide_eq_false (by omega)
    refine WpL_guard_no (oj := _) rfl rfl (by decide) (v := .bool false) (congrArg Value.bool hg1) (Or.inl rfl) ?_
    refine WpL_guard_no (oj := _) rfl rfl (by decide) (v := .bool false) (congrArg Value.bool hg1) (Or.inl rfl) ?_
    refine WpL_guard_no (oj := _) rfl rfl (by decide) (v := .bool false) (congrArg Value.bool hg1) (Or.inl rfl) ?_
    refine WpL_guard_no (oj := _) rfl rfl (by decide) (v := .bool false) (congrArg Value.bool hg1) (Or.inl rfl) ?_
    refine WpL_guard_no (oj := _) rfl rfl (by decide) (v := .bool false) (congrArg Value.bool hg1) (Or.inl rfl) ?_
    refine WpL_guard_no (oj := _) rfl rfl (by decide) (v := .bool false) (congrArg Value.bool hg1) (Or.inl rfl) ?_
    refine WpL_guard_no (oj := _) rfl rfl (by decide) (v := .bool false) (congrArg Value.bool hg1) (Or.inl rfl) ?_
    refine WpL_val rfl rfl (by decide) (r_pick (b := decide (((((b + c : Nat) : Nat) : Int) : Int) < ((t.ow.length : Nat) : Int))) (v := (.bool false)) rfl (by rw [hg1]; rfl)) ?_
    refine WpL_nil ?_
    refine Wp_cond_false rfl ?_
    refine Wp_skip ?_
    refine thn_normal ?_
    refine Wp_seq_region ?_
    refine WpL_val rfl rfl (by decide) (r_assign (v := (.int .i64 (-1))) rfl) ?_
    refine WpL_nil ?_
    refine Wp_ret ?_
    refine fin_tmp Try.results62 (v := (.int .i64 (-1))) rfl ?_
    exact ⟨int_eq (by rw [hat, if_neg (by rw [List.getElem?_eq_none hge]; simp)]), E⟩
theorem At_c (w0 : World) (t : Tab) (vs : List Value) (s c : Nat) (h : TabAt w0 t vs) (hg : GoodT t) (hs : s < t.bs.length) (hc : c < t.cols) :
    Ret Try.prog 58 #[.agg vs.toArray, .int .i64 ((s : Nat) : Int), .int .i64 ((c : Nat) : Int)] w0 fun r w => r = .tuple #[.int .i64 (atT t.ow t.nx t.bs s c), .int .i64 0] ∧ Ext w0 w := by
  have h0 := h
  obtain ⟨b, hb⟩ := get_of_lt hs
  have hbm := hg.bm b (List.mem_of_getElem? hb)
  have hc2 := hg.c2
  have hn2 := hg.n2
  obtain ⟨aa, ac, ba, bc, oa, oc, na, nc, rfl, ha, hbs, ho, hn⟩ := h
  refine Ret_of Try.func58 rfl Try.ntmps58 (Nat.le_of_ble_eq_true rfl) ?_
  have E : Chg none1 w0 w0 := Chg.refl _ _
  refine Wp_seq_region ?_
  refine s_box (v := (.agg #[(.int .i64 t.start), (.int .i64 ((t.cols : Nat) : Int)), (.slice aa t.acc.length ac), (.slice ba t.bs.length bc), (.slice oa t.ow.length oc), (.slice na t.nx.length nc)])) (c := #[(.int .i64 t.start), (.int .i64 ((t.cols : Nat) : Int)), (.slice aa t.acc.length ac), (.slice ba t.bs.length bc), (.slice oa t.ow.length oc), (.slice na t.nx.length nc)]) (by decide) rfl rfl ?_
  intro bt wt Nt
  have Ft := Nt.ge E
  replace E := E.ext Nt.ext
  have Bt := Nt.blk
  refine WpL_val rfl rfl (by decide) (r_assign (v := (.int .i64 0)) rfl) ?_
  refine WpL_val rfl rfl (by decide) (r_assign (v := (.int .i64 0)) rfl) ?_
  refine WpL_nil ?_
  refine Wp_seq ?_
  refine Wp_seq_region ?_
  refine WpL_val rfl rfl (by decide) (r_loadAgg (vs := [(.int .i64 t.start), (.int .i64 ((t.cols : Nat) : Int)), (.slice aa t.acc.length ac), (.slice ba t.bs.length bc), (.slice oa t.ow.length oc), (.slice na t.nx.length nc)]) rfl agg46 siz46 rfl (Bt.cells rfl)) ?_
  refine WpL_enter rfl rfl (by decide) (r_callF (vs := [(.agg #[(.int .i64 t.start), (.int .i64 ((t.cols : Nat) : Int)), (.slice aa t.acc.length ac), (.slice ba t.bs.length bc), (.slice oa t.ow.length oc), (.slice na t.nx.length nc)])]) Try.func60 nm60 bd60 rfl) (tcheck_c _ t _ (h0.ext E) hg) ?_
  rintro _ w9 ⟨rfl, X9⟩
  replace Bt := X9.keep Bt
  replace E := E.ext X9
  refine WpL_val rfl rfl (by decide) (r_assign (v := (.int .i64 0)) rfl) ?_
  refine WpL_nil ?_
  refine Wp_seq_region ?_
  refine WpL_val rfl rfl (by decide) (r_move (v := (.int .i64 0)) rfl) ?_
  refine WpL_val rfl rfl (by decide) (r_neq (k := .i64) (a := 0) (b := 0) rfl rfl) ?_
  refine WpL_nil ?_
  refine Wp_cond_false rfl ?_
  refine Wp_skip ?_
  refine thn_normal ?_
  refine Wp_seq ?_
  refine Wp_seq_region ?_
  refine WpL_val rfl rfl (by decide) (r_move (v := (.int .i64 ((s : Nat) : Int))) rfl) ?_
  obtain ⟨e1, he1⟩ : ∃ e, (decide ((((s : Nat) : Int) : Int) < 0)) = e := ⟨_, rfl⟩
  refine WpL_val rfl rfl (by decide) ((r_lss (k := .i64) (a := ((s : Nat) : Int)) (b := 0) rfl rfl).trans (by rw [he1]; try rfl)) ?_
  refine WpL_val rfl rfl (by decide) (r_move (v := (.bool e1)) rfl) ?_
  refine WpL_guard_any (oj := _) (gv := (.bool e1)) (u := (bif e1 then undef else (.int .i64 ((s : Nat) : Int)))) rfl rfl (by decide) (by decide) rfl (by cases e1 <;> first | exact Or.inr ⟨Or.inl rfl, rfl⟩ | exact Or.inr ⟨Or.inr rfl, rfl⟩ | exact Or.inl ⟨rfl, r_move (v := (.int .i64 ((s : Nat) : Int))) rfl⟩) ?_
  refine WpL_guard_any (oj := _) (gv := (.bool e1)) (u := (bif e1 then undef else (.pointer (some ⟨bt, 3, none⟩)))) rfl rfl (by decide) (by decide) rfl (by cases e1 <;> first | exact Or.inr ⟨Or.inl rfl, rfl⟩ | exact Or.inr ⟨Or.inr rfl, rfl⟩ | exact Or.inl ⟨rfl, r_fieldAddr (b := bt) (o := 0) (o' := 3) rfl Try.underlying46 rfl siz26 rfl⟩) ?_
  refine WpL_guard_any (oj := _) (gv := (.bool e1)) (u := (bif e1 then undef else (.slice ba t.bs.length bc))) rfl rfl (by decide) (by decide) rfl (by cases e1 <;> first | exact Or.inr ⟨Or.inl rfl, rfl⟩ | exact Or.inr ⟨Or.inr rfl, rfl⟩ | exact Or.inl ⟨rfl, r_load (v := (.slice ba t.bs.length bc)) rfl flat26 (Bt.cell rfl)⟩) ?_
  refine WpL_guard_any (oj := _) (gv := (.bool e1)) (u := (bif e1 then undef else (.int .i64 ((t.bs.length : Nat) : Int)))) rfl rfl (by decide) (by decide) rfl (by cases e1 <;> first | exact Or.inr ⟨Or.inl rfl, rfl⟩ | exact Or.inr ⟨Or.inr rfl, rfl⟩ | exact Or.inl ⟨rfl, r_lenSlice (ad := ba) (n := t.bs.length) (cap := bc) Try.underlying26 rfl⟩) ?_
  obtain ⟨e2, he2⟩ : ∃ e, (decide ((((t.bs.length : Nat) : Int) : Int) ≤ ((s : Nat) : Int))) = e := ⟨_, rfl⟩
  refine WpL_guard_any (oj := _) (gv := (.bool e1)) (u := (bif e1 then undef else (.bool e2))) rfl rfl (by decide) (by decide) rfl (by cases e1 <;> first | exact Or.inr ⟨Or.inl rfl, rfl⟩ | exact Or.inr ⟨Or.inr rfl, rfl⟩ | exact Or.inl ⟨rfl, (r_geq (k := .i64) (a := ((s : Nat) : Int)) (b := ((t.bs.length : Nat) : Int)) rfl rfl).trans (by rw [he2]; try rfl)⟩) ?_
  obtain ⟨e3, he3⟩ : ∃ e, (e1 || e2) = e := ⟨_, rfl⟩
  refine WpL_val rfl rfl (by decide) (r_pick (b := e1) (v := .bool e3) rfl (by rw [← he3]; cases e1 <;> rfl)) ?_
  refine WpL_val rfl rfl (by decide) (r_move (v := (.bool e3)) rfl) ?_
  refine WpL_guard_any (oj := _) (gv := (.bool e3)) (u := (bif e3 then undef else (.int .i64 ((c : Nat) : Int)))) rfl rfl (by decide) (by decide) rfl (by cases e3 <;> first | exact Or.inr ⟨Or.inl rfl, rfl⟩ | exact Or.inr ⟨Or.inr rfl, rfl⟩ | exact Or.inl ⟨rfl, r_move (v := (.int .i64 ((c : Nat) : Int))) rfl⟩) ?_
  obtain ⟨e4, he4⟩ : ∃ e, (decide ((((c : Nat) : Int) : Int) < 0)) = e := ⟨_, rfl⟩
  refine WpL_guard_any (oj := _) (gv := (.bool e3)) (u := (bif e3 then undef else (.bool e4))) rfl rfl (by decide) (by decide) rfl (by cases e3 <;> first | exact Or.inr ⟨Or.inl rfl, rfl⟩ | exact Or.inr ⟨Or.inr rfl, rfl⟩ | exact Or.inl ⟨rfl, (r_lss (k := .i64) (a := ((c : Nat) : Int)) (b := 0) rfl rfl).trans (by rw [he4]; try rfl)⟩) ?_
  obtain ⟨e5, he5⟩ : ∃ e, (e3 || e4) = e := ⟨_, rfl⟩
  refine WpL_val rfl rfl (by decide) (r_pick (b := e3) (v := .bool e5) rfl (by rw [← he5]; cases e3 <;> rfl)) ?_
  refine WpL_val rfl rfl (by decide) (r_move (v := (.bool e5)) rfl) ?_
  refine WpL_guard_any (oj := _) (gv := (.bool e5)) (u := (bif e5 then undef else (.int .i64 ((c : Nat) : Int)))) rfl rfl (by decide) (by decide) rfl (by cases e5 <;> first | exact Or.inr ⟨Or.inl rfl, rfl⟩ | exact Or.inr ⟨Or.inr rfl, rfl⟩ | exact Or.inl ⟨rfl, r_move (v := (.int .i64 ((c : Nat) : Int))) rfl⟩) ?_
  refine WpL_guard_any (oj := _) (gv := (.bool e5)) (u := (bif e5 then undef else (.pointer (some ⟨bt, 1, none⟩)))) rfl rfl (by decide) (by decide) rfl (by cases e5 <;> first | exact Or.inr ⟨Or.inl rfl, rfl⟩ | exact Or.inr ⟨Or.inr rfl, rfl⟩ | exact Or.inl ⟨rfl, r_fieldAddr (b := bt) (o := 0) (o' := 1) rfl Try.underlying46 rfl siz3 rfl⟩) ?_
  refine WpL_guard_any (oj := _) (gv := (.bool e5)) (u := (bif e5 then undef else (.int .i64 ((t.cols : Nat) : Int)))) rfl rfl (by decide) (by decide) rfl (by cases e5 <;> first | exact Or.inr ⟨Or.inl rfl, rfl⟩ | exact Or.inr ⟨Or.inr rfl, rfl⟩ | exact Or.inl ⟨rfl, r_load (v := (.int .i64 ((t.cols : Nat) : Int))) rfl flat3 (Bt.cell rfl)⟩) ?_
  obtain ⟨e6, he6⟩ : ∃ e, (decide ((((t.cols : Nat) : Int) : Int) ≤ ((c : Nat) : Int))) = e := ⟨_, rfl⟩
  refine WpL_guard_any (oj := _) (gv := (.bool e5)) (u := (bif e5 then undef else (.bool e6))) rfl rfl (by decide) (by decide) rfl (by cases e5 <;> first | exact Or.inr ⟨Or.inl rfl, rfl⟩ | exact Or.inr ⟨Or.inr rfl, rfl⟩ | exact Or.inl ⟨rfl, (r_geq (k := .i64) (a := ((c : Nat) : Int)) (b := ((t.cols : Nat) : Int)) rfl rfl).trans (by rw [he6]; try rfl)⟩) ?_
  obtain ⟨e7, he7⟩ : ∃ e, (e5 || e6) = e := ⟨_, rfl⟩
  refine WpL_val rfl rfl (by decide) (r_pick (b := e5) (v := .bool e7) rfl (by rw [← he7]; cases e5 <;> rfl)) ?_
  refine WpL_nil ?_
  subst he7
  subst he6
  subst he5
  subst he4
  subst he3
  subst he2
  subst he1
  have hc8 : (((((decide ((((s : Nat) : Int) : Int) < 0)) || (decide ((((t.bs.length : Nat) : Int) : Int) ≤ ((s : Nat) : Int)))) || (decide ((((c : Nat) : Int) : Int) < 0))) || (decide ((((t.cols : Nat) : Int) : Int) ≤ ((c : Nat) : Int))))) = false := by simp only [Bool.or_eq_false_iff, decide_eq_false_iff_not]; omega
  refine Wp_cond_false (congrArg Value.bool hc8) ?_
  refine Wp_skip ?_
  refine thn_normal ?_
  refine Wp_seq_region ?_
  refine WpL_val rfl rfl (by decide) (r_loadAgg (vs := [(.int .i64 t.start), (.int .i64 ((t.cols : Nat) : Int)), (.slice aa t.acc.length ac), (.slice ba t.bs.length bc), (.slice oa t.ow.length oc), (.slice na t.nx.length nc)]) rfl agg46 siz46 rfl (Bt.cells rfl)) ?_
  refine WpL_val rfl rfl (by decide) (r_move (v := (.int .i64 ((s : Nat) : Int))) rfl) ?_
  refine WpL_val rfl rfl (by decide) (r_move (v := (.int .i64 ((c : Nat) : Int))) rfl) ?_
  refine WpL_enter rfl rfl (by decide) (r_callF (vs := [(.agg #[(.int .i64 t.start), (.int .i64 ((t.cols : Nat) : Int)), (.slice aa t.acc.length ac), (.slice ba t.bs.length bc), (.slice oa t.ow.length oc), (.slice na t.nx.length nc)]), (.int .i64 ((s : Nat) : Int)), (.int .i64 ((c : Nat) : Int))]) Try.func62 nm62 bd62 rfl) (tat_c _ t _ s c b (h0.ext E) hb hg.nl (by omega)) ?_
  rintro _ w19 ⟨rfl, X19⟩
  replace Bt := X19.keep Bt
  replace E := E.ext X19
  refine WpL_val rfl rfl (by decide) (r_assign (v := (.int .i64 (atT t.ow t.nx t.bs s c))) rfl) ?_
  refine WpL_val rfl rfl (by decide) (r_assign (v := (.int .i64 0)) rfl) ?_
  refine WpL_nil ?_
  refine Wp_ret ?_
  refine fin_tmp2 Try.results58 (v := (.int .i64 (atT t.ow t.nx t.bs s c))) (v' := (.int .i64 0)) rfl rfl ?_
  exact ⟨rfl, E⟩
end Go.Proofs
namespace Go.Proofs
open Go Go.Eng
theorem sortOk_any {n : Nat} (h : n ≤ 100000) : SortOk n := fun w0 g c T l rest fv cf κ hk hB hn hf => stableX_c w0 g c n T l rest fv cf κ hk hB hn h hf
end Go.Proofs
namespace Go.Proofs
open Go Go.Eng
set_option maxRecDepth 100000
theorem own_low {w : World} {base base' e size n : Nat} {v : Value} {xs : List Value} (h : w.ownsRow base e size v n xs) (hb : base' ≤ base) : w.ownsRow base' e size v n xs := by
  obtain ⟨h1, h2⟩ := h
  refine ⟨h1, h2.imp id ?_⟩
  rintro ⟨g, cap, cur, a, b, r⟩
  exact ⟨g, cap, cur, a, Nat.le_trans hb b, r⟩
theorem own_le {w : World} {base e size n c : Nat} {a : Option Addr} {xs : List Value} (h : w.ownsRow base e size (.slice a n c) n xs) : n ≤ c := by
  rcases h.2 with ⟨h1, h2⟩ | ⟨g, cap, cur, hv, _, _, hnc, _⟩
  · omega
  · simp only [Value.slice.injEq] at hv
    obtain ⟨_, _, rfl⟩ := hv
    exact hnc
/-- One append of whatever slice, an empty one too. -/
theorem s_appendAny {P : Program} {N : Nat} {Q : Post} {σ : Env} {w : World} {K : Env → World → Prop} {ops : Array Oper} {rest : List Oper} {d : Nat} {ty : TypeId} {pos : String} {af : Array Edge} {t : TypeId} {s x : Operand}
    {base e size bytes n m c : Nat} {ax : Option Addr} {z v : Value} {xs news : List Value} (hN : d < N) (hu : P.underlying t = some (.slice e)) (hsz : Siz P e size) (hby : Byt P e bytes) (hz : Zer P e z) (hzs : z.cells.size = size) (h0 : 0 < size)
    (hs : ev σ s = v) (hown : w.ownsRow base e size v n xs) (hx : ev σ x = .slice ax m c) (hl : news.length = m * size) (hany : (m = 0 ∧ news = []) ∨ ∃ bx ox, ax = some ⟨bx, ox, none⟩ ∧ CellsAt w bx ox news) (h1 : ∀ u ∈ news, u.oneCell' = true)
    (h63 : n + m ≤ maxLen) (hbytes : (n + m) * bytes ≤ 140737488355328) (hbase : base ≤ w.heap.size)
    (k : ∀ v' w', w'.ownsRow base e size v' (n + m) (xs ++ news) → Chg (fun x => v.ownBlock = some x) w w' → (∀ k, v'.ownBlock = some k → v.ownBlock = some k ∨ w.heap.size ≤ k) → WpL P N ops K Q rest (upd σ d v') w') :
    WpL P N ops K Q (⟨some d, .call ⟨.builtin .append, #[s, x], #[t, t]⟩, ty, pos, af, none⟩ :: rest) σ w := by
  rcases hany with ⟨rfl, rfl⟩ | ⟨bx, ox, rfl, hc⟩
  · obtain ⟨a, c', rfl⟩ := own_form hown
    refine WpL_val rfl rfl hN (r_append0 hu hsz hs (own_le hown) hx) (k _ w (by simpa using hown) (Chg.refl _ _) fun _ h => .inl h)
  · exact s_append hN hu hsz hby hz hzs h0 hs hown hx hl hc h1 h63 hbytes hbase k
theorem s_appendZ {P : Program} {N : Nat} {Q : Post} {σ : Env} {w : World} {K : Env → World → Prop} {ops : Array Oper} {rest : List Oper} {d : Nat} {ty : TypeId} {pos : String} {af : Array Edge} {t ti : TypeId} {s x : Operand} {ik : IntKind}
    {base e size bytes n : Nat} {z : Value} (hN : d < N) (hu : P.underlying t = some (.slice e)) (hti : P.underlying ti = some (.int ik)) (hsz : Siz P e size) (hby : Byt P e bytes) (hz : Zer P e z) (hzs : z.cells.size = size) (h0 : 0 < size)
    (hs : ev σ s = .slice none 0 0) (hx : ev σ x = .int .i64 ((n : Nat) : Int)) (hn : 0 < n) (hbytes : n * bytes ≤ 140737488355328 ∧ n ≤ 8796093022208) (hbase : base ≤ w.heap.size)
    (k : ∀ cc w', Ext w w' → w'.ownsRow base e size (.slice (some ⟨w.heap.size, 0, none⟩) 0 cc) 0 [] → n ≤ cc → WpL P N ops K Q rest (upd σ d (.slice (some ⟨w.heap.size, 0, none⟩) n cc)) w') :
    WpL P N ops K Q (⟨some d, .call ⟨.builtin .append, #[s, x], #[t, ti]⟩, ty, pos, af, none⟩ :: rest) σ w := by
  unfold Siz at hsz; unfold Byt at hby; unfold Zer at hz
  cases hi : P.info? e with
  | none => rw [hi] at hsz; simp at hsz
  | some i =>
  rw [hi] at hsz hby hz
  simp at hsz hby hz
  subst hsz; subst hby
  have hge := grownCap_ge w n 0 e
  have hcm := grownCap_le_maxLen w n 0 e (by simp only [maxLen]; omega)
  refine WpL_val (v := .slice (some ⟨w.heap.size, 0, none⟩) n (grownCap w n 0 e)) (w' := w.drew.alloc (.cells (Builtin.zeroCells z.cells n ++ Builtin.zeroCells z.cells (grownCap w n 0 e - n)) e)) rfl rfl hN ?_ (k _ _ ?_ ?_ hge)
  · have hn0 : n ≠ 0 := by omega
    have h1 : IntKind.i64.wrap ((n : Nat) : Int) = n := wI64 (by omega)
    have h2 : ¬ ((n : Int) < 0) := by omega
    have h3 : ¬ ((281474976710656 : Int) < (n : Int) * (i.bytes : Int)) := by
      have : ((n * i.bytes : Nat) : Int) = (n : Int) * (i.bytes : Int) := by simp
      omega
    have h4 : ¬ (9223372036854775807 < (n : Int)) := by omega
    have h5 : ¬ (281474976710656 < Builtin.nextslicecap n 0 * i.bytes) := by rw [nextslicecap_zero hn]; omega
    have h6 : ¬ (n * i.size = 0) := fun h => by rcases Nat.mul_eq_zero.1 h with h | h <;> omega
    have h7 : i.size ≠ 0 := by omega
    simp [execOp, resolve, invoke, builtin, hs, hx, Builtin.append_, run_underlying hu, run_underlying hti, sizeOf, typeInfo, zeroValue, hi, hz, hn0, h1, h2, h3, h4, h5, h7, asInt, asIntOf, Question.forced, run_firstCells_none, newRow, grownCap]
    exact fun h => absurd h h6
  · exact ⟨rfl, rfl, rfl, Nat.le_succ _, by simp, fun b hb _ => by first | exact heap_alloc_old w.drew _ b hb | exact heap_alloc_old w.drew _ hb⟩
  · refine ⟨by simp, .inr ⟨w.heap.size, _, _, rfl, hbase, heap_alloc_new w.drew _, Nat.zero_le _, hcm, ?_, by simp⟩⟩
    simp only [Array.size_append, size_zeroCells, hzs, ← Nat.add_mul]
    congr 1
    omega
theorem r_capSlice {P : Program} {σ : Env} {w : World} {dst : Option Tmp} {ty : TypeId} {pos : String} {af : Array Edge} {g : Option (Nat × Bool)} {t e : TypeId} {x : Operand} {ad : Option Addr} {n cap : Nat} (hu : P.underlying t = some (.slice e)) (hx : ev σ x = .slice ad n cap) :
    (execOp (ev σ) ⟨dst, .call ⟨.builtin .cap, #[x], #[t]⟩, ty, pos, af, g⟩).run P w = .ok (.value (.int .i64 cap)) w := by
  simp only [execOp, resolve, List.map_toArray, List.map_cons, List.map_nil, hx]
  simp [invoke, builtin, Builtin.cap_, run_underlying hu, goInt]
end Go.Proofs
namespace Go.Eng
open Go
def IterAt (w : World) (it b n : Nat) (seen : List Nat) : Prop := w.heap[it]? = some (.mapIter (some b) n seen.toArray n)
end Go.Eng
namespace Go.Proofs
open Go Go.Eng Go.Sort
section
variable {P : Program} {N : Nat} {Q : Post} {σ : Env} {w : World} {K : Env → World → Prop} {ops : Array Oper} {rest : List Oper} {d : Nat} {ty : TypeId} {pos : String} {af : Array Edge} {t : TypeId} {x y : Operand}
theorem s_make {e bytes n : Nat} {z : Value} (hN : d < N) (hu : P.underlying t = some (.slice e)) (hsz : Siz P e 1) (hby : Byt P e bytes) (hz : Zer P e z) (hz1 : z.cells = #[z]) (hx : ev σ x = .int .i64 ((n : Nat) : Int)) (hy : ev σ y = .int .i64 ((n : Nat) : Int)) (hb : n * bytes ≤ 140737488355328) (hn : n ≤ 140737488355328)
    (k : ∀ b w', New w w' b (List.replicate n z).toArray e → WpL P N ops K Q rest (upd σ d (.slice (some ⟨b, 0, none⟩) n n)) w') : WpL P N ops K Q (⟨some d, .makeSlice t x y, ty, pos, af, none⟩ :: rest) σ w := by
  refine WpL_val (v := .slice (some ⟨w.heap.size, 0, none⟩) n n) (w' := { w with heap := w.heap.push (.cells (List.replicate n z).toArray e (0, 0)) }) rfl rfl hN ?_ (k _ _ (New.mk' w _ e))
  unfold Siz at hsz; unfold Byt at hby; unfold Zer at hz
  cases hi : P.info? e with
  | none => rw [hi] at hsz; simp at hsz
  | some i =>
  rw [hi] at hsz hby hz
  simp at hsz hby hz
  have h := run_make (P := P) w t e i _ hu hi hz .i64 .i64 ((n : Nat) : Int) ((n : Nat) : Int) (by omega) (Int.le_refl _) (by rw [hby]; have : ((bytes : Nat) : Int) * ((n : Nat) : Int) = (((n * bytes : Nat) : Nat) : Int) := (by rw [Int.natCast_mul, Int.mul_comm]); rw [this]; omega) (by omega)
  have hc : madeCells z.cells (n * i.size) = (List.replicate n z).toArray := by
    rw [hsz, Nat.mul_one, hz1]
    apply Array.ext'
    simp only [madeCells]
    apply List.ext_getElem?
    intro j
    simp only [Array.toList_map, List.getElem?_map, List.getElem?_replicate]
    rcases Nat.lt_or_ge j n with hj | hj
    · have h1 : (Array.range n).toList[j]? = some j := by simp [hj]
      rw [h1, if_pos hj]
      simp [Nat.mod_one]
    · have h1 : (Array.range n).toList[j]? = none := by simp; omega
      rw [h1, if_neg (by omega)]; rfl
  simp only [Int.toNat_natCast, hc] at h
  simp only [execOp, hx, hy, Sem.run_bind, h, Result.andThen_ok]
  rfl
end
theorem own_lit1 {w : World} {b e base : Nat} {v : Value} (h : Blk w b #[v] e) (hb : base ≤ b) : w.ownsRow base e 1 (.slice (some ⟨b, 0, none⟩) 1 1) 1 [v] :=
  ⟨rfl, .inr ⟨b, 1, #[v], rfl, hb, h, Nat.le_refl _, by decide, rfl, rfl⟩⟩
structure LSt (To e sz : Nat) (w : World) (base : Nat) (vo : Value) (vs : List Value) (ns : List (Nat × List Value)) : Prop where
  o : w.ownsRow base To 1 vo ns.length vs
  len : vs.length = ns.length
  inn : ∀ (i : Nat) v p, vs[i]? = some v → ns[i]? = some p → w.ownsRow base e sz v p.1 p.2
  apo : ∀ (i : Nat) v b, vs[i]? = some v → v.ownBlock = some b → vo.ownBlock ≠ some b
theorem LSt.start (To e sz : Nat) (w : World) (base : Nat) : LSt To e sz w base (.slice none 0 0) [] [] :=
  ⟨World.ownsRow_nil _ _ _ _, rfl, fun i v p h => by simp at h, fun i v b h => by simp at h⟩
theorem LSt.chg {M : Nat → Prop} {To e sz base : Nat} {w w' : World} {vo : Value} {vs : List Value} {ns : List (Nat × List Value)} (h : LSt To e sz w base vo vs ns) (c : Chg M w w') (hM : ∀ b, base ≤ b → b < w.heap.size → ¬ M b) : LSt To e sz w' base vo vs ns :=
  ⟨own_chg h.o c fun k hk => hM k (h.o.lt k hk).1 (h.o.lt k hk).2, h.len, fun i v l hv hl => own_chg (h.inn i v l hv hl) c fun k hk => hM k ((h.inn i v l hv hl).lt k hk).1 ((h.inn i v l hv hl).lt k hk).2, h.apo⟩
theorem LSt.ext {To e sz base : Nat} {w w' : World} {vo : Value} {vs : List Value} {ns : List (Nat × List Value)} (h : LSt To e sz w base vo vs ns) (c : Ext w w') : LSt To e sz w' base vo vs ns := h.chg c fun _ _ _ f => f
theorem LSt.on {To e sz base n : Nat} {w : World} {vo : Value} {vs : List Value} {ns : List (Nat × List Value)} (h : LSt To e sz w base vo vs ns) (hn : n = ns.length) : w.ownsRow base To 1 vo n vs := by subst hn; exact h.o
/-- A slice that was made later is appended. -/
theorem LSt.push {To e sz base bu n m : Nat} {w w' : World} {vo v' u : Value} {vs us : List Value} {ns : List (Nat × List Value)} (h : LSt To e sz w base vo vs ns) (hn : n = ns.length) (hu : w.ownsRow bu e sz u m us) (hb : base ≤ bu) (hbu : ∀ k, vo.ownBlock = some k → k < bu)
    (Ov : w'.ownsRow base To 1 v' (n + 1) (vs ++ [u])) (Cv : Chg (fun x => vo.ownBlock = some x) w w') (Wv : ∀ k, v'.ownBlock = some k → vo.ownBlock = some k ∨ w.heap.size ≤ k) : LSt To e sz w' base v' (vs ++ [u]) (ns ++ [(m, us)]) := by
  have hold : ∀ (i : Nat) v, (vs ++ [u])[i]? = some v → vs[i]? = some v ∨ (i = vs.length ∧ v = u) := by
    intro i v hv
    rcases Nat.lt_or_ge i vs.length with h1 | h1
    · left; rwa [List.getElem?_append_left h1] at hv
    · right
      rw [List.getElem?_append_right h1] at hv
      have h2 := lt_of_get hv
      simp at h2
      obtain rfl : i = vs.length := by omega
      simp at hv
      exact ⟨rfl, hv.symm⟩
  have hun : ∀ b, u.ownBlock = some b → vo.ownBlock ≠ some b := fun b hb' e' => by
    have h1 := hbu b e'
    have h2 := (hu.lt b hb').1
    omega
  refine ⟨by rw [List.length_append, ← hn]; exact Ov, by simp [h.len], ?_, ?_⟩
  · intro i v p hv hp
    rcases hold i v hv with h1 | ⟨h1, rfl⟩
    · rw [List.getElem?_append_left (by have := lt_of_get h1; have := h.len; omega)] at hp
      exact own_chg (h.inn i v p h1 hp) Cv fun k hk => h.apo i v k h1 hk
    · rw [h1, h.len] at hp
      simp at hp
      subst hp
      exact own_low (own_chg hu Cv fun k hk => hun k hk) hb
  · intro i v b hv hb1 hb2
    rcases hold i v hv with h1 | ⟨_, rfl⟩
    · rcases Wv b hb2 with h2 | h2
      · exact h.apo i v b h1 hb1 h2
      · obtain ⟨p, hp⟩ := get_of_lt (l := ns) (i := i) (by have := lt_of_get h1; have := h.len; omega)
        have := ((h.inn i v p h1 hp).lt b hb1).2
        omega
    · rcases Wv b hb2 with h2 | h2
      · exact hun b hb1 h2
      · have := (hu.lt b hb1).2; omega
end Go.Proofs
namespace Go.Proofs
open Go Go.Eng Go.Sort
set_option maxRecDepth 100000
abbrev TDI : Nat := 3
abbrev TDIs : Nat := 26
def iRow (l : List Int) : Nat × List Value := (l.length, l.map (Value.int .i64))
theorem ints_flatD (l : List Int) : (l.map intV).flatten = l.map (Value.int .i64) := by
  induction l with
  | nil => rfl
  | cons x l ih => simp [intV]; simpa [intV] using ih
theorem own_intsD {w : World} {base n : Nat} {v : Value} {l : List Int} (h : w.ownsRow base TDI 1 v n (l.map (Value.int .i64))) (hn : n = l.length) : IntsAt w v l := by
  rw [← ints_flatD] at h
  exact own_slat h (by intro x hx; simp only [List.mem_map] at hx; obtain ⟨p, _, rfl⟩ := hx; rfl) (by simp [hn]) (by decide)
end Go.Proofs
namespace Go.Proofs
open Go Go.Eng Go.Sort
abbrev TU8 : Nat := 5
theorem wU8m (n : Int) : IntKind.u8.wrap n = n % 256 := by
  simp only [IntKind.wrap, IntKind.bits, IntKind.signed, Bool.true_and, Bool.false_and, decide_eq_true_eq, ge_iff_le, Int.reducePow, Nat.reduceSub, Bool.false_eq_true, if_false]
end Go.Proofs
namespace Go.Proofs
open Go Go.Eng Go.Sort
set_option maxRecDepth 100000
theorem ints_setD {L : List Int} {k : Nat} (x : Int) : ((L.map (Value.int .i64)).toArray).setIfInBounds (0 + k) (.int .i64 x) = ((L.set k x).map (Value.int .i64)).toArray := by
  apply Array.ext'
  rw [Array.toList_setIfInBounds, Nat.zero_add, ← List.map_set]
theorem take_set_succ {L : List Int} {s : Nat} {x : Int} (hs : s < L.length) : (L.set s x).take (s + 1) = L.take s ++ [x] := by
  rw [List.take_add_one, List.getElem?_set, if_pos rfl, if_pos hs, List.take_set_of_le (Nat.le_refl s)]; rfl
end Go.Proofs
namespace Go.Proofs
open Go Go.Eng Go.Sort
set_option maxRecDepth 100000
theorem own_exact {w : World} {b base n : Nat} {row : List Int} (h : Blk w b (row.map (Value.int .i64)).toArray TDI) (hb : base ≤ b) (hn : row.length = n) (hl : n ≤ 9223372036854775807 := by omega) : w.ownsRow base TDI 1 (.slice (some ⟨b, 0, none⟩) n n) n (row.map (Value.int .i64)) :=
  ⟨by simp [hn], .inr ⟨b, n, _, rfl, hb, h, Nat.le_refl _, hl, by simp [hn], by simp only [Nat.mul_one]; exact List.take_of_length_le (by simp [hn])⟩⟩
end Go.Proofs
namespace Go.Proofs
open Go Go.Eng Go.Sort
set_option maxRecDepth 100000
theorem take_snoc' {α : Type} {l : List α} {k : Nat} {x : α} (h : l[k]? = some x) : l.take (k + 1) = l.take k ++ [x] := by rw [List.take_add_one, h]; rfl
end Go.Proofs
namespace Go.Proofs
open Go Go.Eng Go.Sort
set_option maxRecDepth 100000
theorem okD_check {n c : Nat} {d : Dfa} (h : OkD n c d) (hn : 1 ≤ n ∧ n ≤ 200) (hc : 1 ≤ c ∧ c ≤ 16) : checkD d = 0 := by
  obtain ⟨h1, h2, h3, h4, h5⟩ := h
  have hne : d.next ≠ [] := fun he => by rw [he] at h1; simp at h1; omega
  have hcol : colsD d = c := by
    unfold colsD
    cases hq : d.next with
    | nil => exact absurd hq hne
    | cons y l => exact (h5 y (by rw [hq]; simp)).1
  unfold checkD
  rw [if_neg (by omega), if_neg (by omega), if_neg (by omega), if_neg, if_neg]
  · rw [Bool.or_eq_true]
    rintro (hb | hb)
    · unfold bad0 at hb
      have hane : d.accept ≠ [] := fun he => by rw [he] at h2; simp at h2; omega
      have := (minL_lt hane (z := -1)).2 (fun x hx => h4 x hx)
      simp only [Bool.or_eq_true, decide_eq_true_eq] at hb
      omega
    · obtain ⟨row, hr, hb⟩ := List.any_eq_true.1 hb
      obtain ⟨hl, hx⟩ := h5 row hr
      have hrne : row ≠ [] := fun he => by rw [he] at hl; simp at hl; omega
      have h6 := (minL_lt hrne (z := -1)).2 (fun x hx' => (hx x hx').1)
      have h7 := (maxL_lt hrne (z := ((n : Nat) : Int))).2 (fun x hx' => (hx x hx').2)
      simp only [badRow, Bool.or_eq_true, decide_eq_true_eq] at hb
      omega
  · intro hb
    obtain ⟨row, hr, hb⟩ := List.any_eq_true.1 hb
    obtain ⟨hl, _⟩ := h5 row hr
    simp only [formRow, Bool.or_eq_true, decide_eq_true_eq] at hb
    omega
end Go.Proofs
namespace Go.Proofs
open Go Go.Eng
set_option maxRecDepth 100000
theorem pst_goodO {n c : Nat} {d : Dfa} {order : List Nat} {owner nxt : List Int} {bs : List Nat} (h : OkD n c d) (hn : 1 ≤ n ∧ n ≤ 200) (hc : 1 ≤ c ∧ c ≤ 16) (hP : PSt d.next order c n owner nxt bs) : GoodT ⟨d.start, c, d.accept, bs, owner, nxt⟩ := by
  obtain ⟨h1, h2, h3, h4, h5⟩ := h
  have hnc : n * c ≤ 200 * 16 := Nat.mul_le_mul hn.2 hc.2
  have hol := hP.ol
  have hbl := hP.bl
  have hlen := hP.pk.len
  refine ⟨by show 1 ≤ bs.length; omega, by show bs.length ≤ 200; omega, hc.1, hc.2, by show owner.length ≤ 3200; omega, hlen.symm, by show d.accept.length = bs.length; omega, by show 0 ≤ d.start ∧ d.start < (bs.length : Int); rw [hbl, h1]; exact h3, h4, fun b hb => by have := hP.bm b hb; rw [h1] at this; show b < 3200; omega, ?_⟩
  intro i o x ho hx
  show (-1 ≤ o ∧ o < (bs.length : Int)) ∧ (-1 ≤ x ∧ x < (bs.length : Int)) ∧ _ ∧ _
  replace ho : owner[i]? = some o := ho
  replace hx : nxt[i]? = some x := hx
  rcases hP.pk.slot i (lt_of_get ho) with ⟨e1, e2⟩ | ⟨s, c', b, y, row, e1, e2, e3, e4, e5, e6, e7, e8⟩
  · rw [ho] at e1; rw [hx] at e2
    simp at e1 e2
    subst e1; subst e2
    exact ⟨⟨by omega, by omega⟩, ⟨by omega, by omega⟩, Iff.rfl, fun h => absurd h (by decide)⟩
  · rw [ho] at e4; rw [hx] at e8
    simp at e4 e8
    subst e4; subst e8
    have hs := lt_of_get e5
    obtain ⟨hl, hxx⟩ := h5 row (List.mem_of_getElem? e5)
    have hx2 := hxx x (List.mem_of_getElem? e6)
    have hc' := lt_of_get e6
    refine ⟨⟨by omega, by omega⟩, ⟨by omega, by omega⟩, ⟨by omega, by omega⟩, fun _ b' hb' => ?_⟩
    replace hb' : bs[((s : Nat) : Int).toNat]? = some b' := hb'
    rw [Int.toNat_natCast, e2] at hb'
    cases hb'
    show b ≤ i ∧ i < b + c
    omega
theorem pack_e (w0 : World) (n c : Nat) (d : Dfa) (vs : List Value) (hd : DfaAt w0 d vs) (h : OkD n c d) (hn : 1 ≤ n ∧ n ≤ 200) (hc : 1 ≤ c ∧ c ≤ 16) :
    Ret Try.prog 15 #[.agg vs.toArray] w0 fun r w => (∃ (owner nxt : List Int) (bs : List Nat) (aa ba oa na : Option Addr) (ac bc oc nc : Nat), r = .tuple #[.agg #[.int .i64 d.start, .int .i64 ((c : Nat) : Int), .slice aa d.accept.length ac, .slice ba bs.length bc, .slice oa owner.length oc, .slice na nxt.length nc], .int .i64 0] ∧
      TabAt w ⟨d.start, c, d.accept, bs, owner, nxt⟩ [.int .i64 d.start, .int .i64 ((c : Nat) : Int), .slice aa d.accept.length ac, .slice ba bs.length bc, .slice oa owner.length oc, .slice na nxt.length nc] ∧ GoodT ⟨d.start, c, d.accept, bs, owner, nxt⟩ ∧ bs.length = n ∧ owner.length ≤ n * c ∧
      owner.countP (fun o => decide (0 ≤ o)) = (allFp d.next (List.range n)).length ∧ (∀ s c' row x, d.next[s]? = some row → row[c']? = some x → atT owner nxt bs s c' = x) ∧ (NewV w0.heap.size (.slice aa d.accept.length ac) ∧ NewV w0.heap.size (.slice ba bs.length bc) ∧ NewV w0.heap.size (.slice oa owner.length oc) ∧ NewV w0.heap.size (.slice na nxt.length nc)) ∧ PkX d.next owner nxt bs) ∧ Ext w0 w := by
  obtain ⟨h1, h2, h3, h4, h5⟩ := h
  obtain ⟨row0, hrow0⟩ := get_of_lt (l := d.next) (i := 0) (by omega)
  have hr0 := (h5 row0 (List.mem_of_getElem? hrow0)).1
  refine (pack_c w0 d vs hd (okD_check ⟨h1, h2, h3, h4, h5⟩ (by omega) hc) (by rw [h1]; exact sortOk_any (by omega)) (by omega) row0 hrow0 (fun row hr => by rw [hr0]; exact (h5 row hr).1) (by omega)).mono fun r w hr => ?_
  obtain ⟨va, vb, vo, vn, order, owner, nxt, bs, rfl, hA, hB, hO, hN, hperm, hpw, hP, hNew, hE⟩ := hr
  have hX := pkX_of hperm hpw hP.tr
  rw [hr0, h1] at hP
  rw [h1] at hperm
  obtain ⟨aa, ac, rfl⟩ := SlAt.form hA
  obtain ⟨ba, bc, rfl⟩ := SlAt.form hB
  obtain ⟨oa, oc, rfl⟩ := SlAt.form hO
  obtain ⟨na, nc, rfl⟩ := SlAt.form hN
  simp only [List.length_map, natV_len] at hA hB hO hN hNew ⊢
  have hpk := hP.pk
  have hl : order.length = n := by rw [hperm.length_eq]; simp
  rw [← hl, List.take_length] at hpk
  refine ⟨⟨owner, nxt, bs, aa, ba, oa, na, ac, bc, oc, nc, by rw [hr0], ⟨aa, ac, ba, bc, oa, oc, na, nc, rfl, hA, hB, hO, hN⟩, pst_goodO ⟨h1, h2, h3, h4, h5⟩ hn hc hP, by rw [hP.bl, h1], hP.ol, by rw [hpk.count]; exact allF_perm hperm, ?_, hNew, hX⟩, hE⟩
  intro s c' row x hs hx
  have hsl := lt_of_get hs
  exact hpk.at hs hx ((h5 row (List.mem_of_getElem? hs)).2 x (List.mem_of_getElem? hx)).1 (hperm.mem_iff.2 (by simp; omega)) (by rw [hP.bl]; exact hsl)
end Go.Proofs
namespace Go.Proofs
open Go Go.Eng Go.Sort
set_option maxRecDepth 100000
--BEGIN
def cloF (l : List Int) (hs : Nat) (r : Value) (w : World) : Prop := ∃ b rest k, r = .slice (some ⟨b, 0, none⟩) l.length k ∧ hs ≤ b ∧ Blk w b (l.map (Value.int .i64) ++ rest).toArray TDI ∧ l.length + rest.length = k ∧ k ≤ 9223372036854775807
set_option maxHeartbeats 400000 in
theorem cloneo_c (w0 : World) (v : Value) (l : List Int) (h : IntsAt w0 v l) (hl : l.length ≤ 2000000) (h1 : 0 < l.length) :
    Ret Try.prog 28 #[v] w0 fun r w => cloF l w0.heap.size r w ∧ Ext w0 w := by
  obtain ⟨a, c, rfl⟩ := SlAt.form h
  simp only [List.length_map] at h ⊢
  obtain ⟨base, hbase⟩ : ∃ base, base = w0.heap.size := ⟨_, rfl⟩
  obtain ⟨b, o, rfl, hcl⟩ := ints_cells h h1
  refine Ret_of Try.func28 rfl Try.ntmps28 (Nat.le_of_ble_eq_true rfl) ?_
  have E : Chg none1 w0 w0 := Chg.refl _ _
  refine Wp_seq_region ?_
  refine WpL_val rfl rfl (by decide) (r_assign (v := (.slice none 0 0)) rfl) ?_
  refine WpL_nil ?_
  refine Wp_seq ?_
  refine Wp_seq_region ?_
  refine WpL_val rfl rfl (by decide) (r_move (v := (.slice (some ⟨b, o, none⟩) l.length c)) rfl) ?_
  refine WpL_val (v := (.bool ((some (⟨b, o, none⟩ : Addr)).isNone))) rfl rfl (by decide) (r_eqlNil Try.underlying26 rfl rfl) ?_
  refine WpL_nil ?_
  have hc1 : ((some (⟨b, o, none⟩ : Addr)).isNone) = false := rfl
  refine Wp_cond_false (congrArg Value.bool hc1) ?_
  refine Wp_skip ?_
  refine thn_normal ?_
  refine Wp_seq_region ?_
  refine s_build0 (by decide) Try.underlying26 siz3 ?_
  intro bq wq Nq
  have Fq := Nq.ge E
  replace E := E.ext Nq.ext
  have Bq := Nq.blk
  refine WpL_val rfl rfl (by decide) (r_move (v := (.slice (some ⟨b, o, none⟩) l.length c)) rfl) ?_
  have hown := own_empty (base := base) (size := 1) Bq (by omega)
  have hbs : base ≤ wq.heap.size := by have := Nq.ext.size; omega
  refine s_append (base := base) (n := 0) (m := l.length) (xs := []) (news := l.map (Value.int .i64)) (size := 1) (bytes := 8) (v := (.slice (some ⟨bq, 0, none⟩) 0 0)) (by decide) Try.underlying26 siz3 byt3 zer3 rfl (by decide) rfl hown rfl (by simp) (fun i u hu => by rw [List.getElem?_map, Option.map_eq_some_iff] at hu; obtain ⟨x, hx, rfl⟩ := hu; exact Nq.ext.cell (hcl i x hx)) (by simp [Value.oneCell']) (by unfold maxLen; omega) (by omega) (hbs) ?_
  intro v9 w29 Ov9 Cv9 Dv9
  replace E := E.step Cv9 (fun x hx h => absurd (hown.lt x h).1 (by omega))
  obtain ⟨la, lc, rfl⟩ := own_form Ov9
  refine WpL_val rfl rfl (by decide) (r_assign (v := (.slice la (0 + l.length) lc)) rfl) ?_
  refine WpL_nil ?_
  refine Wp_ret ?_
  refine fin_tmp Try.results28 (v := (.slice la (0 + l.length) lc)) rfl ?_
  simp only [Nat.zero_add, List.nil_append] at Ov9
  simp only [Nat.zero_add]
  rcases Ov9.2 with ⟨_, h2⟩ | ⟨g, cap, cur, h1, h2, h3, h4, h5, h6, h7⟩
  · omega
  · simp only [Value.slice.injEq] at h1
    obtain ⟨rfl, _, rfl⟩ := h1
    have e9 : (l.map (Value.int .i64) ++ cur.toList.drop (l.length * 1)).toArray = cur := by rw [← h7, List.take_append_drop]
    refine ⟨⟨g, cur.toList.drop (l.length * 1), lc, rfl, by omega, by rw [e9]; exact h3, ?_, h5⟩, E⟩
    have e8 := congrArg Array.size e9
    simp only [List.size_toArray, List.length_append, List.length_map] at e8
    omega
end Go.Proofs
namespace Go.Proofs
open Go Go.Eng Go.Sort
set_option maxRecDepth 100000
theorem LSt.intss {w : World} {base : Nat} {N : Value} {vs : List Value} {rows : List (List Int)} (h : LSt TDIs TDI 1 w base N vs (rows.map iRow)) : IntssAt w N rows := by
  have hl : vs.length = rows.length := by simpa using h.len
  refine ⟨vs, ?_, hl, fun i u l hu hl => ?_⟩
  · have ho := h.o
    rw [show vs = (vs.map fun x => [x]).flatten by simp [List.flatten_eq_flatMap, List.flatMap_map]] at ho
    exact own_slat ho (by intro r hr; simp only [List.mem_map] at hr; obtain ⟨x, _, rfl⟩ := hr; rfl) (by simp [hl]) (by decide)
  · exact own_intsD (h.inn i u (iRow l) hu (by rw [List.getElem?_map, hl]; rfl)) rfl
end Go.Proofs
namespace Go.Proofs
open Go Go.Eng
--BEGIN
def cntA (c : Nat) : Nat → (List Nat → Int) → Int
  | 0, f => if 0 ≤ f [] then 1 else 0
  | k + 1, f => ((List.range c).map fun x => cntA c k fun w => f (x :: w)).sum
end Go.Proofs
namespace Go.Proofs
open Go Go.Eng Go.Sort
set_option maxRecDepth 100000
def wt (c : Nat) (d : Dfa) (j : Nat) (i : Nat) : Int := cntA c j (beh d ((i : Nat) : Int))
end Go.Proofs
namespace Go.Proofs
open Go Go.Eng Go.Sort
set_option maxRecDepth 100000
theorem growi_c (w0 : World) (n : Nat) (hn : n ≤ 8796093022208) :
    Ret Try.prog 94 #[.slice none 0 0, .int .i64 ((n : Nat) : Int)] w0 fun r w => (∃ a c, r = .slice a 0 c) ∧ w.ownsRow w0.heap.size TDI 1 r 0 [] ∧ Ext w0 w := by
  refine Ret_of Try.func94 rfl Try.ntmps94 (Nat.le_of_ble_eq_true rfl) ?_
  have E : Chg none1 w0 w0 := Chg.refl _ _
  refine Wp_seq_region ?_
  refine WpL_val rfl rfl (by decide) (r_assign (v := (.slice none 0 0)) rfl) ?_
  refine WpL_nil ?_
  refine Wp_seq ?_
  refine Wp_seq_region ?_
  refine WpL_val rfl rfl (by decide) (r_move (v := (.int .i64 ((n : Nat) : Int))) rfl) ?_
  refine WpL_val rfl rfl (by decide) (r_lss (k := .i64) (a := ((n : Nat) : Int)) (b := 0) rfl rfl) ?_
  refine WpL_nil ?_
  have hc1 : (decide ((((n : Nat) : Int) : Int) < 0)) = false := decide_eq_false (by omega)
  refine Wp_cond_false (congrArg Value.bool hc1) ?_
  refine Wp_skip ?_
  refine thn_normal ?_
  refine Wp_seq ?_
  refine Wp_seq_region ?_
  refine WpL_val rfl rfl (by decide) (r_move (v := (.int .i64 ((n : Nat) : Int))) rfl) ?_
  refine WpL_val rfl rfl (by decide) (r_move (v := (.slice none 0 0)) rfl) ?_
  refine WpL_val rfl rfl (by decide) (r_capSlice (n := 0) (cap := 0) Try.underlying26 rfl) ?_
  refine WpL_val rfl rfl (by decide) (r_move (v := (.slice none 0 0)) rfl) ?_
  refine WpL_val rfl rfl (by decide) (r_lenSlice (ad := none) (n := 0) (cap := 0) Try.underlying26 rfl) ?_
  refine WpL_val rfl rfl (by decide) (r_sub (k := .i64) (a := 0) (b := 0) (c := 0) rfl rfl (by decide)) ?_
  refine WpL_val rfl rfl (by decide) (r_sub (k := .i64) (a := ((n : Nat) : Int)) (b := 0) (c := ((n : Nat) : Int)) rfl rfl ((wI64 (by omega)).trans (by omega))) ?_
  refine WpL_val rfl rfl (by decide) (r_assign (v := (.int .i64 ((n : Nat) : Int))) rfl) ?_
  refine WpL_nil ?_
  refine Wp_seq_region ?_
  refine WpL_val rfl rfl (by decide) (r_move (v := (.int .i64 ((n : Nat) : Int))) rfl) ?_
  refine WpL_val rfl rfl (by decide) (r_gtr (k := .i64) (a := ((n : Nat) : Int)) (b := 0) rfl rfl) ?_
  refine WpL_nil ?_
  refine Wp_cond (b := decide ((0 : Int) < ((n : Nat) : Int))) rfl (fun hp => ?_) (fun hp => ?_)
  · have khp := hp
    replace hp := of_decide_eq_true hp
    refine Wp_region ?_
    refine WpL_val rfl rfl (by decide) (r_move (v := (.slice none 0 0)) rfl) ?_
    refine WpL_val rfl rfl (by decide) (r_move (v := (.slice none 0 0)) rfl) ?_
    refine WpL_val rfl rfl (by decide) (r_capSlice (n := 0) (cap := 0) Try.underlying26 rfl) ?_
    obtain ⟨a1, ha1⟩ : ∃ a' : Option Addr, (if 0 = 0 then none else Option.map (fun q : Addr => q.add (0 * 1)) none) = a' := ⟨_, rfl⟩
    refine WpL_val rfl rfl (by decide) (r_sliceHi (a := none) (len := 0) (cap := 0) (hi := 0) (l := 0) Try.underlying26 siz3 rfl rfl (by omega) (by omega) ha1) ?_
    refine WpL_val rfl rfl (by decide) (r_move (v := (.int .i64 ((n : Nat) : Int))) rfl) ?_
    simp at ha1
    subst ha1
    refine s_appendZ (base := w0.heap.size) (n := n) (size := 1) (bytes := 8) (by decide) Try.underlying26 Try.underlying3 siz3 byt3 zer3 rfl (by decide) rfl rfl (by omega) (by omega) (by omega) ?_
    intro cc w9 X9 O9 H9
    replace E := E.ext X9
    refine WpL_val rfl rfl (by decide) (r_move (v := (.slice none 0 0)) rfl) ?_
    refine WpL_val rfl rfl (by decide) (r_lenSlice (ad := none) (n := 0) (cap := 0) Try.underlying26 rfl) ?_
    obtain ⟨a2, ha2⟩ : ∃ a' : Option Addr, (if cc = 0 then (some ⟨w0.heap.size, 0, none⟩) else Option.map (fun q : Addr => q.add (0 * 1)) (some ⟨w0.heap.size, 0, none⟩)) = a' := ⟨_, rfl⟩
    refine WpL_val rfl rfl (by decide) (r_sliceHi (a := (some ⟨w0.heap.size, 0, none⟩)) (len := n) (cap := cc) (hi := 0) (l := 0) Try.underlying26 siz3 rfl rfl (by omega) (by omega) ha2) ?_
    have ha3 : a2 = some ⟨w0.heap.size, 0, none⟩ := by rw [← ha2, if_neg (by omega)]; simp [Addr.add_lit]
    subst ha3
    refine WpL_val rfl rfl (by decide) (r_assign (v := (.slice (some ⟨w0.heap.size, 0, none⟩) 0 cc)) rfl) ?_
    refine WpL_nil ?_
    refine thn_normal ?_
    refine Wp_seq_region ?_
    refine WpL_val rfl rfl (by decide) (r_move (v := (.slice (some ⟨w0.heap.size, 0, none⟩) 0 cc)) rfl) ?_
    refine WpL_val rfl rfl (by decide) (r_assign (v := (.slice (some ⟨w0.heap.size, 0, none⟩) 0 cc)) rfl) ?_
    refine WpL_nil ?_
    refine Wp_ret ?_
    refine fin_tmp Try.results94 (v := (.slice (some ⟨w0.heap.size, 0, none⟩) 0 cc)) rfl ?_
    exact ⟨⟨_, _, rfl⟩, O9, E⟩
  · have khp := hp
    replace hp := of_decide_eq_false hp
    refine Wp_skip ?_
    refine thn_normal ?_
    refine Wp_seq_region ?_
    refine WpL_val rfl rfl (by decide) (r_move (v := (.slice none 0 0)) rfl) ?_
    refine WpL_val rfl rfl (by decide) (r_assign (v := (.slice none 0 0)) rfl) ?_
    refine WpL_nil ?_
    refine Wp_ret ?_
    refine fin_tmp Try.results94 (v := (.slice none 0 0)) rfl ?_
    exact ⟨⟨none, 0, rfl⟩, World.ownsRow_nil _ _ _ _, E⟩
theorem ilens_take {ll : List (List Int)} {k : Nat} {l : List Int} (h : ll[k]? = some l) : (ll.take (k + 1)).flatten = (ll.take k).flatten ++ l := by
  rw [List.take_add_one, h]; simp
theorem ilens_le (ll : List (List Int)) (k : Nat) : (ll.take k).flatten.length ≤ ll.flatten.length := by
  have h : ll.flatten = (ll.take k).flatten ++ (ll.drop k).flatten := by rw [← List.flatten_append, List.take_append_drop]
  rw [h, List.length_append]; omega
theorem ints_one (l : List Int) : ∀ x ∈ l.map (Value.int .i64), x.oneCell' = true := by
  intro x hx
  obtain ⟨y, _, rfl⟩ := List.mem_map.1 hx
  rfl
set_option maxHeartbeats 1000000 in
theorem concati_c (w0 : World) (v : Value) (ll : List (List Int)) (h : IntssAt w0 v ll) (hl : ll.flatten.length ≤ 8796093022208) :
    Ret Try.prog 61 #[v] w0 fun r w => (∃ a c, r = .slice a ll.flatten.length c) ∧ w.ownsRow w0.heap.size TDI 1 r ll.flatten.length (ll.flatten.map (Value.int .i64)) ∧ Ext w0 w := by
  obtain ⟨a, c, rfl, _, hle⟩ := h.form
  obtain ⟨base, hbase⟩ : ∃ base, base = w0.heap.size := ⟨_, rfl⟩
  rw [← hbase]
  refine Ret_of Try.func61 rfl Try.ntmps61 (Nat.le_of_ble_eq_true rfl) ?_
  have E : Chg none1 w0 w0 := Chg.refl _ _
  refine Wp_seq_region ?_
  refine WpL_val rfl rfl (by decide) (r_assign (v := (.slice none 0 0)) rfl) ?_
  refine WpL_nil ?_
  refine Wp_seq_region ?_
  refine WpL_val rfl rfl (by decide) (r_assign (v := (.int .i64 0)) rfl) ?_
  refine WpL_nil ?_
  refine Wp_seq ?_
  refine Wp_seq_region ?_
  refine WpL_val rfl rfl (by decide) (r_move (v := (.slice a ll.length c)) rfl) ?_
  refine WpL_val rfl rfl (by decide) (r_lenSlice (ad := a) (n := ll.length) (cap := c) Try.underlying42 rfl) ?_
  refine WpL_val rfl rfl (by decide) (r_move (v := (.int .i64 0)) rfl) ?_
  refine WpL_nil ?_
  refine Wp_block ?_
  refine Wp_loop (fun nn_ σ W1 => ∃ (k : Nat) (n : Nat), (∃ jj_, σ = upds jj_ [(0, (.slice a ll.length c)), (9, (.slice a ll.length c)), (10, (.int .i64 ((ll.length : Nat) : Int))), (11, (.int .i64 ((k : Nat) : Int))), (3, (.int .i64 ((n : Nat) : Int)))]) ∧ Chg none1 w0 W1 ∧ (k ≤ ll.length) ∧ (n = (ll.take k).flatten.length) ∧ nn_ = ll.length - k) (n := ll.length - 0) ?_ ?_
  · exact ⟨0, 0, Fits.out ⟨rfl, rfl, rfl, rfl, rfl, trivial⟩, E, Nat.zero_le _, rfl, rfl⟩
  · clear E
    rintro _ _ W1 ⟨k, n, ⟨j1, rfl⟩, E, hk, hn, rfl⟩
    refine Wp_seq_region ?_
    refine WpL_val rfl rfl (by decide) (r_lss (k := .i64) (a := ((k : Nat) : Int)) (b := ((ll.length : Nat) : Int)) rfl rfl) ?_
    refine WpL_nil ?_
    refine Wp_seq ?_
    refine Wp_cond (b := decide ((((k : Nat) : Int) : Int) < ((ll.length : Nat) : Int))) rfl (fun hlt => ?_) (fun hlt => ?_)
    · have khlt := hlt
      replace hlt := of_decide_eq_true hlt
      obtain ⟨l, hx⟩ := get_of_lt (l := ll) (i := k) (by omega)
      obtain ⟨b, o, rfl, hcl⟩ := intss_cells h (by omega)
      obtain ⟨ra, rc, hcell, hsp⟩ := hcl k l hx
      have hn1 := ilens_le ll (k + 1)
      rw [ilens_take hx, List.length_append] at hn1
      refine Wp_skip ?_
      refine thn_normal ?_
      refine Wp_seq ?_
      refine Wp_block ?_
      refine Wp_seq_region ?_
      refine WpL_val rfl rfl (by decide) (r_indexSlice (b := b) (o := o) (len := ll.length) (cap := c) (i := k) (o' := o + k) rfl rfl rfl Try.underlying42 siz26 (by omega) (by omega)) ?_
      refine WpL_val rfl rfl (by decide) (r_load (v := (.slice ra l.length rc)) rfl flat26 (E.cell (fun f => f) hcell)) ?_
      refine WpL_val rfl rfl (by decide) (r_assign (v := (.slice ra l.length rc)) rfl) ?_
      refine WpL_nil ?_
      refine Wp_seq_region ?_
      refine WpL_val rfl rfl (by decide) (r_move (v := (.int .i64 ((n : Nat) : Int))) rfl) ?_
      refine WpL_val rfl rfl (by decide) (r_move (v := (.slice ra l.length rc)) rfl) ?_
      refine WpL_val rfl rfl (by decide) (r_lenSlice (ad := ra) (n := l.length) (cap := rc) Try.underlying26 rfl) ?_
      refine WpL_val rfl rfl (by decide) (r_add (k := .i64) (a := ((n : Nat) : Int)) (b := ((l.length : Nat) : Int)) (c := ((n + l.length : Nat) : Int)) rfl rfl ((wI64 (by omega)).trans (by omega))) ?_
      refine WpL_val rfl rfl (by decide) (r_assign (v := (.int .i64 ((n + l.length : Nat) : Int))) rfl) ?_
      refine WpL_nil ?_
      refine Wp_seq_region ?_
      refine WpL_val rfl rfl (by decide) (r_move (v := (.int .i64 ((n + l.length : Nat) : Int))) rfl) ?_
      refine WpL_val rfl rfl (by decide) (r_lss (k := .i64) (a := ((n + l.length : Nat) : Int)) (b := 0) rfl rfl) ?_
      refine WpL_nil ?_
      have hc3 : (decide ((((n + l.length : Nat) : Int) : Int) < 0)) = false := decide_eq_false (by omega)
      refine Wp_cond_false (congrArg Value.bool hc3) ?_
      refine Wp_skip ?_
      refine inB_normal ?_
      refine thn_normal ?_
      refine Wp_region ?_
      refine WpL_val rfl rfl (by decide) (r_add (k := .i64) (a := ((k : Nat) : Int)) (b := 1) (c := ((k : Nat) : Int) + 1) rfl rfl (wI64 (by omega))) ?_
      refine WpL_val rfl rfl (by decide) (r_move (v := (.int .i64 (((k : Nat) : Int) + 1))) rfl) ?_
      refine WpL_nil ?_
      refine thn_normal ?_
      exact ⟨ll.length - (k + 1), by omega, k + 1, n + l.length, Fits.out ⟨rfl, rfl, rfl, rfl, rfl, trivial⟩, E, (by omega), (by rw [ilens_take hx, List.length_append, hn]), rfl⟩
    · have khlt := hlt
      replace hlt := of_decide_eq_false hlt
      have hkk : k = ll.length := by omega
      have hn2 := ilens_le ll k
      have hs0 := E.size
      refine Wp_exit ?_
      refine thn_exit ?_
      refine thn_exit ?_
      refine inB_here ?_
      refine thn_normal ?_
      refine Wp_seq_region ?_
      refine WpL_val rfl rfl (by decide) (r_move (v := (.int .i64 ((n : Nat) : Int))) rfl) ?_
      refine WpL_enter rfl rfl (by decide) (r_callF (vs := [(.slice none 0 0), (.int .i64 ((n : Nat) : Int))]) Try.func94 nm94 bd94 rfl) (growi_c _ n (by omega)) ?_
      rintro _ w9 ⟨⟨ga, gc, rfl⟩, O9, X9⟩
      replace E := E.ext X9
      have hO9 : w9.ownsRow base TDI 1 (.slice ga 0 gc) 0 [] := own_low O9 (by omega)
      refine WpL_val rfl rfl (by decide) (r_assign (v := (.slice ga 0 gc)) rfl) ?_
      refine WpL_nil ?_
      refine Wp_seq ?_
      refine Wp_seq_region ?_
      refine WpL_val rfl rfl (by decide) (r_move (v := (.slice a ll.length c)) rfl) ?_
      refine WpL_val rfl rfl (by decide) (r_lenSlice (ad := a) (n := ll.length) (cap := c) Try.underlying42 rfl) ?_
      refine WpL_val rfl rfl (by decide) (r_move (v := (.int .i64 0)) rfl) ?_
      refine WpL_nil ?_
      refine Wp_block ?_
      refine Wp_loop (fun nn_ σ W4 => ∃ (i : Nat) (la : Option Addr) (lc : Nat) (m : Nat), (∃ jj_, σ = upds jj_ [(25, (.slice a ll.length c)), (26, (.int .i64 ((ll.length : Nat) : Int))), (27, (.int .i64 ((i : Nat) : Int))), (6, (.slice la m lc))]) ∧ Chg none1 w0 W4 ∧ (i ≤ ll.length) ∧ (m = (ll.take i).flatten.length) ∧ (W4.ownsRow base TDI 1 (.slice la m lc) m (((ll.take i).flatten).map (Value.int .i64))) ∧ (base ≤ W4.heap.size) ∧ nn_ = ll.length - i) (n := ll.length - 0) ?_ ?_
      · exact ⟨0, ga, gc, 0, Fits.out ⟨rfl, rfl, rfl, rfl, trivial⟩, E, Nat.zero_le _, rfl, hO9, (by have := E.size; omega), rfl⟩
      · clear E
        rintro _ _ W4 ⟨i, la, lc, m, ⟨j4, rfl⟩, E, hi, hm, hown, hbs, rfl⟩
        refine Wp_seq_region ?_
        refine WpL_val rfl rfl (by decide) (r_lss (k := .i64) (a := ((i : Nat) : Int)) (b := ((ll.length : Nat) : Int)) rfl rfl) ?_
        refine WpL_nil ?_
        refine Wp_seq ?_
        refine Wp_cond (b := decide ((((i : Nat) : Int) : Int) < ((ll.length : Nat) : Int))) rfl (fun hlt2 => ?_) (fun hlt2 => ?_)
        · have khlt2 := hlt2
          replace hlt2 := of_decide_eq_true hlt2
          obtain ⟨l, hx⟩ := get_of_lt (l := ll) (i := i) (by omega)
          obtain ⟨b, o, rfl, hcl⟩ := intss_cells h (by omega)
          obtain ⟨ra, rc, hcell, hsp⟩ := hcl i l hx
          have hn1 := ilens_le ll (i + 1)
          rw [ilens_take hx, List.length_append] at hn1
          have hmc : m ≤ lc := own_le hown
          rcases Bool.eq_false_or_eq_true (decide (l.length = 0)) with hz | hz
          · have khz := hz
            replace khz := of_decide_eq_true khz
            refine Wp_skip ?_
            refine thn_normal ?_
            refine Wp_seq ?_
            refine Wp_block ?_
            refine Wp_seq_region ?_
            refine WpL_val rfl rfl (by decide) (r_indexSlice (b := b) (o := o) (len := ll.length) (cap := c) (i := i) (o' := o + i) rfl rfl rfl Try.underlying42 siz26 (by omega) (by omega)) ?_
            refine WpL_val rfl rfl (by decide) (r_load (v := (.slice ra l.length rc)) rfl flat26 (E.cell (fun f => f) hcell)) ?_
            refine WpL_val rfl rfl (by decide) (r_assign (v := (.slice ra l.length rc)) rfl) ?_
            refine WpL_nil ?_
            refine Wp_region ?_
            refine WpL_val rfl rfl (by decide) (r_move (v := (.slice la m lc)) rfl) ?_
            refine WpL_val rfl rfl (by decide) (r_move (v := (.slice ra l.length rc)) rfl) ?_
            refine WpL_val rfl rfl (by decide) (r_append0 Try.underlying26 siz3 (a' := ra) (c' := rc) rfl hmc (by show Value.slice ra l.length rc = _; rw [khz])) ?_
            refine WpL_val rfl rfl (by decide) (r_assign (v := (.slice la m lc)) rfl) ?_
            refine WpL_nil ?_
            refine inB_normal ?_
            refine thn_normal ?_
            refine Wp_region ?_
            refine WpL_val rfl rfl (by decide) (r_add (k := .i64) (a := ((i : Nat) : Int)) (b := 1) (c := ((i : Nat) : Int) + 1) rfl rfl (wI64 (by omega))) ?_
            refine WpL_val rfl rfl (by decide) (r_move (v := (.int .i64 (((i : Nat) : Int) + 1))) rfl) ?_
            refine WpL_nil ?_
            refine thn_normal ?_
            have hl0 : l = [] := List.eq_nil_of_length_eq_zero khz
            exact ⟨ll.length - (i + 1), by omega, i + 1, la, lc, m, Fits.out ⟨rfl, rfl, rfl, rfl, trivial⟩, E, (by omega), (by rw [ilens_take hx, hl0, List.append_nil, hm]), (by rw [ilens_take hx, hl0, List.append_nil]; exact hown), hbs, rfl⟩
          · have khz := hz
            replace khz := of_decide_eq_false khz
            obtain ⟨rb, ro, rfl, hrc⟩ := ints_cells hsp (by omega)
            have hrc2 : CellsAt w0 rb ro (l.map (Value.int .i64)) := fun j u hu => by rw [List.getElem?_map, Option.map_eq_some_iff] at hu; obtain ⟨y, hy, rfl⟩ := hu; exact hrc j y hy
            refine Wp_skip ?_
            refine thn_normal ?_
            refine Wp_seq ?_
            refine Wp_block ?_
            refine Wp_seq_region ?_
            refine WpL_val rfl rfl (by decide) (r_indexSlice (b := b) (o := o) (len := ll.length) (cap := c) (i := i) (o' := o + i) rfl rfl rfl Try.underlying42 siz26 (by omega) (by omega)) ?_
            refine WpL_val rfl rfl (by decide) (r_load (v := (.slice (some ⟨rb, ro, none⟩) l.length rc)) rfl flat26 (E.cell (fun f => f) hcell)) ?_
            refine WpL_val rfl rfl (by decide) (r_assign (v := (.slice (some ⟨rb, ro, none⟩) l.length rc)) rfl) ?_
            refine WpL_nil ?_
            refine Wp_region ?_
            refine WpL_val rfl rfl (by decide) (r_move (v := (.slice la m lc)) rfl) ?_
            refine WpL_val rfl rfl (by decide) (r_move (v := (.slice (some ⟨rb, ro, none⟩) l.length rc)) rfl) ?_
            refine s_append (base := base) (n := m) (m := l.length) (xs := (((ll.take i).flatten).map (Value.int .i64))) (news := l.map (Value.int .i64)) (size := 1) (bytes := 8) (v := (.slice la m lc)) (by decide) Try.underlying26 siz3 byt3 zer3 rfl (by decide) rfl hown rfl (by simp) (hrc2.ext E) (ints_one l) (by unfold maxLen; omega) (by omega) (hbs) ?_
            intro v9 w29 Ov9 Cv9 Dv9
            replace E := E.step Cv9 (fun x hx h => absurd (hown.lt x h).1 (by omega))
            obtain ⟨la2, lc2, rfl⟩ := own_form Ov9
            refine WpL_val rfl rfl (by decide) (r_assign (v := (.slice la2 (m + l.length) lc2)) rfl) ?_
            refine WpL_nil ?_
            refine inB_normal ?_
            refine thn_normal ?_
            refine Wp_region ?_
            refine WpL_val rfl rfl (by decide) (r_add (k := .i64) (a := ((i : Nat) : Int)) (b := 1) (c := ((i : Nat) : Int) + 1) rfl rfl (wI64 (by omega))) ?_
            refine WpL_val rfl rfl (by decide) (r_move (v := (.int .i64 (((i : Nat) : Int) + 1))) rfl) ?_
            refine WpL_nil ?_
            refine thn_normal ?_
            exact ⟨ll.length - (i + 1), by omega, i + 1, la2, lc2, m + l.length, Fits.out ⟨rfl, rfl, rfl, rfl, trivial⟩, E, (by omega), (by rw [ilens_take hx, List.length_append, hm]), (by rw [ilens_take hx, List.map_append]; exact Ov9), Nat.le_trans hbs Cv9.size, rfl⟩
        · have khlt2 := hlt2
          replace hlt2 := of_decide_eq_false hlt2
          have hii : i = ll.length := by omega
          refine Wp_exit ?_
          refine thn_exit ?_
          refine thn_exit ?_
          refine inB_here ?_
          refine thn_normal ?_
          refine Wp_seq_region ?_
          refine WpL_val rfl rfl (by decide) (r_move (v := (.slice la m lc)) rfl) ?_
          refine WpL_val rfl rfl (by decide) (r_assign (v := (.slice la m lc)) rfl) ?_
          refine WpL_nil ?_
          refine Wp_ret ?_
          refine fin_tmp Try.results61 (v := (.slice la m lc)) rfl ?_
          rw [hii, List.take_length] at hown hm
          subst hm
          exact ⟨⟨la, lc, rfl⟩, hown, E⟩
theorem intss_blk {w : World} {b T n : Nat} {vs : List Value} {ll : List (List Int)} (hB : Blk w b vs.toArray T) (hl : vs.length = ll.length) (hn : vs.length = n) (hm : n ≤ 1000000) (h : ∀ (i : Nat) u l, vs[i]? = some u → ll[i]? = some l → IntsAt w u l) : IntssAt w (.slice (some ⟨b, 0, none⟩) n n) ll := by
  refine ⟨vs, ?_, hl, h⟩
  subst hn
  have := slat_of_blk (w := w) (b := b) (t := T) (k := 1) (cap := vs.length) (rows := vs.map fun x => [x]) (by rw [show (vs.map fun x => [x]).flatten = vs by simp [List.flatten_eq_flatMap, List.flatMap_map]]; exact hB) (by intro r hr; simp only [List.mem_map] at hr; obtain ⟨x, _, rfl⟩ := hr; rfl) (by simp; omega) (by simp)
  simpa using this
end Go.Proofs
namespace Go.Proofs
open Go Go.Eng Go.Sort
set_option maxRecDepth 100000
def evnD : Dfa := ⟨0, [0, -1], [[1], [0]]⟩
theorem evn_ok : OkD 2 1 evnD := ⟨rfl, rfl, by decide, by decide, by decide⟩
end Go.Proofs
namespace Go.Proofs
open Go Go.Eng Go.Sort
set_option maxRecDepth 100000
theorem dfa_eq_iff (a b : Dfa) : a = b ↔ a.start = b.start ∧ a.accept = b.accept ∧ a.next = b.next := by
  cases a; cases b; simp
instance : DecidableEq Dfa := fun a b => decidable_of_iff _ (dfa_eq_iff a b).symm
end Go.Proofs
namespace Go.Proofs
open Go Go.Eng Go.Sort
set_option maxRecDepth 100000
def evnF : Fct := fun v w => ∃ aa ac na nc, v = .agg #[.int .i64 0, .slice aa 2 ac, .slice na 2 nc] ∧ DfaAt w evnD [.int .i64 0, .slice aa 2 ac, .slice na 2 nc]
end Go.Proofs
