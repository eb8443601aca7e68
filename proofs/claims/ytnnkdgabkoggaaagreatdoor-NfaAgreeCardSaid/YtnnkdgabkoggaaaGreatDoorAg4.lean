/- Contracts and plain lemmas, part 4. -/
import Derived.Tactics
import Derived.Deep.Quiet
import Derived.Laws.AppendOwn
import Derived.KernelRfl
import Derived.Laws.Entries
import Derived.Laws.Build
import Derived.Below
import Derived.RowKit3
import Derived.StillTail
import Derived.Sort.Grow
import Derived.Deep.Draws
import Derived.Test.YtnnkdgabkoggaaaGreatDoorChecked
import Derived.Laws.StructEq
import Derived.MapKept
import Derived.Laws.BytesArg
import Derived.Defers
import Derived.Recover
import Derived.Shelf.SlSortCmp.WholeK
import Derived.Shelf.Sort.Plain
import Derived.Shelf.Slices.CompactI
import Derived.Test.YtnnkdgabkoggaaaGreatDoorProg
import Derived.Shelf.Small.Bits
import Derived.DeepKeys3
import Derived.Test.YtnnkdgabkoggaaaGreatDoorAg3
set_option maxHeartbeats 16000000
set_option maxRecDepth 100000
namespace Go.Proofs
open Go Go.Eng
def DL (s s' : ThS) (k : Nat) : Prop := s'.eps.length + 3 * s.n + k ≤ s.eps.length + 3 * s'.n ∧ s'.edges.length + s.n ≤ s.edges.length + s'.n ∧ s.n ≤ s'.n ∧ (s.n ≤ 500 → s'.n ≤ 500)
def LimT (s : ThS) (k : Nat) : Prop := s.eps.length + k ≤ 3 * s.n ∧ s.edges.length ≤ s.n ∧ s.n ≤ 500
theorem LimT.step {s s' : ThS} {k : Nat} (h : LimT s 0) (d : DL s s' k) : LimT s' k := by
 obtain ⟨h1,h2,h3⟩ := h
 obtain ⟨d1,d2,d3,d4⟩ := d
 exact ⟨by omega,by omega,d4 h3⟩
theorem LimT.le {s : ThS} {k j : Nat} (h : LimT s k) (hj : j ≤ k) : LimT s j := ⟨by have := h.1; omega,h.2⟩
theorem LimT.eps {s : ThS} {k : Nat} (a b : Nat) (h : LimT s (k + 1)) : LimT (epsT s a b) k := by
 obtain ⟨h1,h2,h3⟩ := h
 exact ⟨by simp [epsT]; omega,h2,h3⟩
theorem LimT.new {s s' : ThS} {k a : Nat} (h : LimT s k) (e : newT s = some (s',a)) : LimT s' (k + 3) := by
 obtain ⟨rfl,rfl,hn⟩ := newT_some e
 obtain ⟨h1,h2,h3⟩ := h
 refine ⟨?_,?_,hn⟩
 ·show s.eps.length + (k + 3) ≤ 3 * (s.n + 1); omega
 ·show s.edges.length ≤ s.n + 1; omega
theorem dl_eps {s s' : ThS} {k : Nat} (a b : Nat) (h : DL s s' (k + 1)) : DL s (epsT s' a b) k := by
 obtain ⟨d1,d2,d3,d4⟩ := h
 refine ⟨?_,d2,d3,d4⟩
 simp only [epsT,List.length_append,List.length_singleton]
 omega
theorem dl_new {s s' s2 : ThS} {k a : Nat} (h : DL s s' k) (e : newT s' = some (s2,a)) : DL s s2 (k + 3) := by
 obtain ⟨rfl,rfl,hn⟩ := newT_some e
 obtain ⟨d1,d2,d3,d4⟩ := h
 refine ⟨?_,?_,?_,fun _ => hn⟩
 ·show s'.eps.length + 3 * s.n + (k + 3) ≤ s.eps.length + 3 * (s'.n + 1); omega
 ·show s'.edges.length + s.n ≤ s.edges.length + (s'.n + 1); omega
 ·show s.n ≤ s'.n + 1; omega
theorem dl_refl (s : ThS) : DL s s 0 := ⟨by omega,by omega,Nat.le_refl _,id⟩
theorem dl_trans {s s1 s2 : ThS} {k j : Nat} (h : DL s s1 k) (g : DL s1 s2 j) : DL s s2 (k + j) := by
 obtain ⟨d1,d2,d3,d4⟩ := h
 obtain ⟨e1,e2,e3,e4⟩ := g
 exact ⟨by omega,by omega,by omega,fun h => e4 (d4 h)⟩
theorem dl_le {s s1 : ThS} {k j : Nat} (h : DL s s1 k) (hj : j ≤ k) : DL s s1 j := ⟨by have := h.1; omega,h.2⟩
def FragLim (f : TF) : Prop := ∀ s s' a b,f s = some (s',a,b) → DL s s' 3
theorem cat_lim : ∀ (fs : List TF),(∀ f ∈ fs,FragLim f) → ∀ (s s' : ThS) (b b' : Nat),catT fs s b = some (s',b') → DL s s' 0
  | [],_,s,s',b,b',e => by
    simp only [catT,Option.some.injEq,Prod.mk.injEq] at e
    rw [← e.1]; exact dl_refl s
  | f :: fs,hf,s,s',b,b',e => by
    rw [catT] at e
    obtain ⟨⟨s1,x,y⟩,e1,e2⟩ := Option.bind_eq_some_iff.1 e
    exact dl_le (dl_trans (dl_eps b x (hf f List.mem_cons_self _ _ _ _ e1)) (cat_lim fs (fun g hg => hf g (List.mem_cons_of_mem _ hg)) _ _ _ _ e2)) (Nat.zero_le _)
theorem alt_lim (e : Nat) : ∀ (fs : List TF),(∀ f ∈ fs,FragLim f) → ∀ (s s' : ThS) (a : Nat),altT e fs s a = some s' → DL s s' 0
  | [],_,s,s',a,h => by
    simp only [altT,Option.some.injEq] at h
    rw [← h]; exact dl_refl s
  | f :: fs,hf,s,s',a,h => by
    rw [altT] at h
    obtain ⟨⟨s1,x,y⟩,e1,e2⟩ := Option.bind_eq_some_iff.1 h
    simp only at e2
    have h1 := dl_eps y e (dl_eps a x (hf f List.mem_cons_self _ _ _ _ e1))
    split at e2
    · obtain ⟨⟨s2,q⟩,e3,e4⟩ := Option.bind_eq_some_iff.1 e2
      exact dl_le (dl_trans (dl_eps a q (dl_new h1 e3)) (alt_lim e fs (fun g hg => hf g (List.mem_cons_of_mem _ hg)) _ _ _ e4)) (Nat.zero_le _)
    · exact dl_le (dl_trans h1 (alt_lim e fs (fun g hg => hf g (List.mem_cons_of_mem _ hg)) _ _ _ e2)) (Nat.zero_le _)
theorem copy_lim {f : TF} (hf : FragLim f) {s s' : ThS} {b b' : Nat} {out : Bool} (e : copyT f s b out = some (s',b')) : DL s s' 0 := by
 unfold copyT at e
 obtain ⟨⟨s1,x,y⟩,e1,e2⟩ := Option.bind_eq_some_iff.1 e
 simp only at e2
 have h1 := dl_eps b x (hf _ _ _ _ e1)
 split at e2
 ·obtain ⟨⟨s2,q⟩,e3,e4⟩ := Option.bind_eq_some_iff.1 e2
  simp only [Option.some.injEq,Prod.mk.injEq] at e4
  rw [← e4.1]
  exact dl_le (dl_eps y q (dl_eps b q (dl_new h1 e3))) (Nat.zero_le _)
 ·simp only [Option.some.injEq,Prod.mk.injEq] at e2
  rw [← e2.1]
  exact dl_le h1 (Nat.zero_le _)
theorem rep_lim {f : TF} (hf : FragLim f) {mn : Int} {s : ThS} {b : Nat} : ∀ (k : Nat) (s' : ThS) (b' : Nat),repT f mn s b k = some (s',b') → DL s s' 0
  | 0,s',b',e => by
    simp only [repT,Option.some.injEq,Prod.mk.injEq] at e
    rw [← e.1]; exact dl_refl s
  | k + 1,s',b',e => by
    rw [repT] at e
    obtain ⟨⟨s1,b1⟩,e1,e2⟩ := Option.bind_eq_some_iff.1 e
    exact dl_trans (rep_lim hf k s1 b1 e1) (copy_lim hf e2)
theorem repT_none {f : TF} {mn : Int} {s : ThS} {b k : Nat} (h : repT f mn s b k = none) : ∀ m,k ≤ m → repT f mn s b m = none
  | 0,hm => by obtain rfl : k = 0 := (by omega); exact h
  | m + 1,hm => by
    rcases Nat.lt_or_ge m k with h1 | h1
    · obtain rfl : k = m + 1 := (by omega); exact h
    · rw [repT,repT_none h m h1]; rfl
theorem node_lim {k : Int} {z : List Sp} {mn mx : Int} {fs : List TF} (hf : ∀ f ∈ fs,FragLim f) : FragLim (nodeT k z mn mx fs) := by
  intro s s' a b e
  unfold nodeT at e
  obtain ⟨⟨s1,a1⟩,e1,e2⟩ := Option.bind_eq_some_iff.1 e
  simp only at e2
  have h1 : DL s s1 3 := dl_new (dl_refl s) e1
  split at e2
  · obtain ⟨⟨s2,b2⟩,e3,e4⟩ := Option.bind_eq_some_iff.1 e2
    simp only [Option.some.injEq,Prod.mk.injEq] at e4
    rw [← e4.1]; exact dl_le (dl_new h1 e3) (by omega)
  split at e2
  · simp only [Option.some.injEq,Prod.mk.injEq] at e2
    rw [← e2.1]; exact h1
  split at e2
  · obtain ⟨⟨s2,b2⟩,e3,e4⟩ := Option.bind_eq_some_iff.1 e2
    simp only [Option.some.injEq,Prod.mk.injEq] at e4
    rw [← e4.1]
    obtain ⟨_,rfl,hn⟩ := newT_some e1
    obtain ⟨_,rfl,hn2⟩ := newT_some e3
    refine ⟨?_,?_,?_,fun _ => hn2⟩
    · show s.eps.length + 3 * s.n + 3 ≤ s.eps.length + 3 * (s.n + 1 + 1); omega
    · show (s.edges ++ _).length + s.n ≤ s.edges.length + (s.n + 1 + 1); simp; omega
    · show s.n ≤ s.n + 1 + 1; omega
  split at e2
  · obtain ⟨⟨s2,b2⟩,e3,e4⟩ := Option.bind_eq_some_iff.1 e2
    simp only [Option.some.injEq,Prod.mk.injEq] at e4
    rw [← e4.1]; exact dl_trans h1 (cat_lim fs hf _ _ _ _ e3)
  split at e2
  · obtain ⟨⟨s2,b2⟩,e3,e4⟩ := Option.bind_eq_some_iff.1 e2
    simp only at e4
    obtain ⟨s3,e5,e6⟩ := Option.bind_eq_some_iff.1 e4
    simp only [Option.some.injEq,Prod.mk.injEq] at e6
    rw [← e6.1]; exact dl_le (dl_trans (dl_new h1 e3) (alt_lim b2 fs hf _ _ _ e5)) (by omega)
  split at e2
  · cases fs with
    | nil => cases e2
    | cons f fs =>
      simp only at e2
      obtain ⟨⟨s2,x,y⟩,e3,e4⟩ := Option.bind_eq_some_iff.1 e2
      simp only [Option.some.injEq,Prod.mk.injEq] at e4
      rw [← e4.1]
      exact dl_le (dl_eps _ _ (show DL s s2 (5 + 1) from dl_trans (k := 3) (j := 3) h1 (hf f List.mem_cons_self _ _ _ _ e3))) (by omega)
  split at e2
  · cases fs with
    | nil => cases e2
    | cons f fs =>
      simp only at e2
      obtain ⟨⟨s2,x,y⟩,e3,e4⟩ := Option.bind_eq_some_iff.1 e2
      simp only at e4
      obtain ⟨⟨s3,q0⟩,e5,e6⟩ := Option.bind_eq_some_iff.1 e4
      simp only [Option.some.injEq,Prod.mk.injEq] at e6
      rw [← e6.1]
      have h3 : DL s s3 (6 + 1 + 1 + 1) := dl_new (dl_trans (k := 3) (j := 3) h1 (hf f List.mem_cons_self _ _ _ _ e3)) e5
      exact dl_le (dl_eps _ _ (dl_eps _ _ (dl_eps _ _ h3))) (by omega)
  · cases fs with
    | nil =>
      simp only at e2
      split at e2
      · simp only [Option.some.injEq,Prod.mk.injEq] at e2
        rw [← e2.1]; exact h1
      · cases e2
    | cons f fs =>
      simp only at e2
      obtain ⟨⟨s2,b2⟩,e3,e4⟩ := Option.bind_eq_some_iff.1 e2
      simp only [Option.some.injEq,Prod.mk.injEq] at e4
      rw [← e4.1]; exact dl_trans h1 (rep_lim (hf f List.mem_cons_self) _ _ _ e3)
mutual
theorem lim_all : ∀ t : Re,FragLim (tmO t)
  | .mk k z a mn mx g => by rw [tmO]; exact node_lim (lim_list a)
theorem lim_list : ∀ l : List Re,∀ f ∈ tmL l,FragLim f
  | [],f,hf => by cases hf
  | x :: l,f,hf => by
    rw [tmL] at hf
    rcases List.mem_cons.1 hf with rfl | h1
    · exact lim_all x
    · exact lim_list l f h1
end
end Go.Proofs
namespace Go.Proofs
open Go Go.Eng Go.Sort
/-- What is thrown where an automaton grows too large. -/
def lgN : List PanicEntry := [{ v := .iface 59 (.agg #[]),recovered := false }]
theorem newT_ok {s : ThS} (h : s.n + 1 ≤ 500) : newT s = some (⟨s.n + 1,s.eps,s.edges⟩,s.n) := by unfold newT; rw [if_neg (by omega)]
theorem newT_no {s : ThS} (h : 500 < s.n + 1) : newT s = none := by unfold newT; rw [if_pos h]
theorem tstate_c (F : Nat → Prop) (w0 : World) (base pb : Nat) (pv xv : Value) (s : ThS) (h : TSt F w0 base pb pv xv s) (hn : s.n ≤ 500) :
  RetX Tryz.prog lgN 68 #[.pointer (some ⟨pb,0,none⟩)] w0 (fun r w => ∃ s',newT s = some (s',s.n) ∧ r = nI s.n ∧ GrT F w0 base pb pv xv F pv xv s' w) fun w => newT s = none ∧ Chg (fun y => y = pb ∨ pv.ownBlock = some y ∨ xv.ownBlock = some y) w0 w := by
 have hG := GrT.start h
 obtain ⟨⟨pa,pc,rfl⟩,xa,xc,rfl⟩ := h.form
 have hblk := h.blk
 have hp := h.hp
 refine RetX_of Tryz.func68 rfl Tryz.ntmps68 (Nat.le_of_ble_eq_true rfl) ?_
 have E : Chg (fun q => q = pb) w0 w0 := Chg.refl _ _
 refine Wp_seq_region ?_
 refine qA (I6 0) rfl ?_
 refine WpL_nil (Wp_seq (Wp_seq_region ?_))
 refine qM (P6 pb 0) rfl ?_
 refine qV (r_nilCheck (a := ⟨pb,0,none⟩) rfl) ?_
 refine qF pb 0 0 rfl Tryz.underlying85 rfl siz37 rfl ?_
 refine qF pb 0 0 rfl Tryz.underlying37 rfl siz3 rfl ?_
 refine qV (r_load (v := (I6 (s.n : Int))) rfl flat3 (hblk.cell rfl)) ?_
 refine qV (r_add (k := .i64) (a := (s.n : Int)) (b := 1) (c := ((s.n + 1 : Nat) : Int)) rfl rfl ((wI64 (by omega)).trans (by omega))) ?_
 refine qV (r_nilCheck (a := ⟨pb,0,none⟩) rfl) ?_
 refine qF pb 0 0 rfl Tryz.underlying85 rfl siz37 rfl ?_
 refine qF pb 0 0 rfl Tryz.underlying37 rfl siz3 rfl ?_
 refine s_store (b := pb) (o := 0) (c' := #[(I6 ((s.n + 1 : Nat) : Int)),(I6 0),(.slice none 0 0),(.slice pa s.eps.length pc),(.slice xa s.edges.length xc)]) (v := (I6 ((s.n + 1 : Nat) : Int))) rfl rfl rfl siz3 hblk (by simp) rfl ?_
 intro w1 S1
 replace hG := hG.num S1
 replace E := S1.step E (by first | exact Or.inl (by omega) | exact Or.inr rfl | exact Or.inr (by assumption) | exact Or.inr (by simp) | exact Or.inr (by omega) | exact Or.inr (by dsimp only; omega))
 replace hblk := S1.blk
 refine WpL_nil (Wp_seq_region ?_)
 refine qM (P6 pb 0) rfl ?_
 refine qV (r_nilCheck (a := ⟨pb,0,none⟩) rfl) ?_
 refine qF pb 0 0 rfl Tryz.underlying85 rfl siz37 rfl ?_
 refine qF pb 0 0 rfl Tryz.underlying37 rfl siz3 rfl ?_
 refine qV (r_load (v := (I6 ((s.n + 1 : Nat) : Int))) rfl flat3 (hblk.cell rfl)) ?_
 refine qV (r_gtr (k := .i64) (a := ((s.n + 1 : Nat) : Int)) (b := 500) rfl rfl) ?_
 refine WpL_nil ?_
 refine Wp_cond (b := decide ((500 : Int) < ((s.n + 1 : Nat) : Int))) rfl (fun h0 => ?_) (fun h0 => ?_)
 ·have kh0 := h0
  replace h0 := of_decide_eq_true h0
  refine Wp_region ?_
  refine qV (r_build (ps := []) (v := (.agg #[])) rfl (by kernel_rfl)) ?_
  refine qV (r_makeIface (t := 59) (v := (.agg #[])) Tryz.underlying59 rfl) ?_
  refine WpL_panic rfl (r_panic (u := 59) (v := (.agg #[])) rfl) (And.intro rfl ⟨newT_no (by omega),E.mono fun y _ hy => .inl hy⟩)
 ·have kh0 := h0
  replace h0 := of_decide_eq_false h0
  refine Wp_skip (thn_normal (Wp_seq_region ?_))
  refine qM (P6 pb 0) rfl ?_
  refine qV (r_nilCheck (a := ⟨pb,0,none⟩) rfl) ?_
  refine qF pb 0 0 rfl Tryz.underlying85 rfl siz37 rfl ?_
  refine qF pb 0 0 rfl Tryz.underlying37 rfl siz3 rfl ?_
  refine qV (r_load (v := (I6 ((s.n + 1 : Nat) : Int))) rfl flat3 (hblk.cell rfl)) ?_
  refine qV (r_sub (k := .i64) (a := ((s.n + 1 : Nat) : Int)) (b := 1) (c := (s.n : Int)) rfl rfl ((wI64 (by omega)).trans (by omega))) ?_
  refine qA (I6 (s.n : Int)) rfl ?_
  refine WpL_nil (Wp_ret (finX_ret ?_))
  refine fin_tmp Tryz.results68 (v := (.int .i64 ((s.n : Nat) : Int))) rfl ?_
  exact ⟨_,newT_ok (by omega),rfl,hG⟩
theorem teps_c (F : Nat → Prop) (w0 : World) (base pb : Nat) (pv xv : Value) (s : ThS) (a b : Nat) (h : TSt F w0 base pb pv xv s) (hn : s.eps.length ≤ 100000) :
  Ret Tryz.prog 69 #[.pointer (some ⟨pb,0,none⟩),nI a,nI b] w0 fun _ w => ∃ pv',GrT F w0 base pb pv xv F pv' xv (epsT s a b) w := by
 obtain ⟨⟨pa,pc,rfl⟩,xa,xc,rfl⟩ := h.form
 have hblk := h.blk
 have hown := h.eps
 have hpb := h.pb
 have hbs := h.bs
 refine Ret_of Tryz.func69 rfl Tryz.ntmps69 (Nat.le_of_ble_eq_true rfl) ?_
 have E : Chg (fun q => q = pb ∨ (Value.slice pa s.eps.length pc).ownBlock = some q) w0 w0 := Chg.refl _ _
 have hG := GrT.start h
 refine Wp_region ?_
 refine qM (P6 pb 0) rfl ?_
 refine qM (P6 pb 0) rfl ?_
 refine qV (r_nilCheck (a := ⟨pb,0,none⟩) rfl) ?_
 refine qF pb 0 0 rfl Tryz.underlying85 rfl siz37 rfl ?_
 refine qF pb 0 3 rfl Tryz.underlying37 rfl siz34 rfl ?_
 refine qV (r_load (v := (.slice pa s.eps.length pc)) rfl flat34 (hblk.cell rfl)) ?_
 refine qM (I6 (a : Int)) rfl ?_
 refine qM (I6 (b : Int)) rfl ?_
 refine qV (r_build (ps := [(0,(I6 (a : Int))),(1,(I6 (b : Int)))]) (v := (.agg #[(I6 (a : Int)),(I6 (b : Int))])) rfl (by kernel_rfl)) ?_
 refine s_buildSlice (ps := [(0,(.agg #[(I6 (a : Int)),(I6 (b : Int))]))]) (c := #[(I6 (a : Int)),(I6 (b : Int))]) (by decide) rfl Tryz.underlying34 siz47 zer47 (by decide) (by decide) (by kernel_rfl) ?_
 intro b1 w1 N1
 have F1 := N1.ge E
 have O1_pb := N1.lt hblk
 replace hblk := N1.keep hblk
 replace hown := own_ext hown N1.ext
 replace hbs := Nat.le_trans hbs N1.ext.size
 replace hG := hG.ext N1.ext
 replace E := E.ext N1.ext
 have B1 := N1.blk
 refine s_append (base := base) (n := s.eps.length) (m := 1) (xs := (s.eps.map spanV).flatten) (news := [(I6 (a : Int)),(I6 (b : Int))]) (size := 2) (bytes := 16) (v := (.slice pa s.eps.length pc)) (by decide) Tryz.underlying34 siz47 byt47 zer47 rfl (by decide) rfl hown rfl (rfl) (B1.cells rfl) (by simp [Value.oneCell']) (by unfold maxLen; omega) (by omega) (hbs) ?_
 intro v7 w59 Ov7 Cv7 Dv7
 replace hblk := Cv7.keep (fun h => by have := (hown.lt _ h).1; omega) hblk
 replace E := E.step Cv7 (fun x hx h => .inr h)
 obtain ⟨pa2,pc2,rfl⟩ := own_form Ov7
 have hPx : True := trivial
 refine qV (r_nilCheck (a := ⟨pb,0,none⟩) rfl) ?_
 refine qF pb 0 0 rfl Tryz.underlying85 rfl siz37 rfl ?_
 refine qF pb 0 3 rfl Tryz.underlying37 rfl siz34 rfl ?_
 refine s_store (b := pb) (o := 3) (c' := #[(I6 (s.n : Int)),(I6 0),(.slice none 0 0),(.slice pa2 (s.eps.length + 1) pc2),(.slice xa s.edges.length xc)]) (v := (.slice pa2 (s.eps.length + 1) pc2)) rfl rfl rfl siz34 hblk (by simp) rfl ?_
 intro w2 S2
 replace hPx := hG.comp (GrT.epsPut (es := s.eps ++ [((a : Int),(b : Int))]) (pv' := .slice pa2 (s.eps.length + 1) pc2) hG.st Cv7 (by simpa [spanV,List.map_append,List.flatten_append] using Ov7) Dv7 S2)
 replace E := S2.step E (by first | exact Or.inl (by omega) | exact Or.inr rfl | exact Or.inr (by assumption) | exact Or.inr (by simp) | exact Or.inr (by omega) | exact Or.inr (by dsimp only; omega))
 replace hblk := S2.blk
 refine WpL_nil ?_
 refine fin_none Tryz.results69 ?_
 exact ⟨_,hPx⟩
theorem LimT.small {s : ThS} {k : Nat} (h : LimT s k) : s.eps.length ≤ 100000 ∧ s.edges.length ≤ 100000 := by
 obtain ⟨h1,h2,h3⟩ := h; omega
/-- What of does with x. -/
def ThOf (wb : World) (x : Re) : Prop := ∀ (base pb : Nat) (F : Nat → Prop) (w0 : World) (pv xv : Value) (s : ThS) (vs : List Value),ReAt wb x vs → Ext wb w0 → (∀ y,y < wb.heap.size → F y) → TSt F w0 base pb pv xv s → LimT s 0 →
 RetX Tryz.prog lgN 37 #[.pointer (some ⟨pb,0,none⟩),.agg vs.toArray] w0 (fun r w => ∃ s' a b F' pv' xv',tmO x s = some (s',a,b) ∧ r = .tuple #[nI a,nI b] ∧ GrT F w0 base pb pv xv F' pv' xv' s' w) fun w => tmO x s = none ∧ Chg (fun y => y = pb ∨ pv.ownBlock = some y ∨ xv.ownBlock = some y) w0 w
def starF (f : TF) (s : ThS) (a : Nat) : Option (ThS × Nat) := (f s).bind fun (s2,x,y) => (newT s2).bind fun (s3,e) => some (epsT (epsT (epsT s3 a x) a e) y a,e)
theorem tstar_c (wb : World) (x : Re) (hx : ThOf wb x) (base pb : Nat) (F : Nat → Prop) (w0 : World) (pv xv : Value) (s : ThS) (a : Nat) (vs : List Value) (hxt : ReAt wb x vs) (hE : Ext wb w0) (hF : ∀ y,y < wb.heap.size → F y) (hP : TSt F w0 base pb pv xv s) (hL : LimT s 0) :
  RetX Tryz.prog lgN 71 #[.pointer (some ⟨pb,0,none⟩),nI a,.agg vs.toArray] w0 (fun r w => ∃ s' e F' pv' xv',starF (tmO x) s a = some (s',e) ∧ r = nI e ∧ GrT F w0 base pb pv xv F' pv' xv' s' w) fun w => starF (tmO x) s a = none ∧ Chg (fun y => y = pb ∨ pv.ownBlock = some y ∨ xv.ownBlock = some y) w0 w := by
 have hxt0 := hxt
 obtain ⟨sa,sc,aa,ac,rfl,_,_,_⟩ := hxt.form
 refine RetX_of Tryz.func71 rfl Tryz.ntmps71 (Nat.le_of_ble_eq_true rfl) ?_
 have E : Chg (fun _ => True) w0 w0 := Chg.refl _ _
 refine Wp_seq_region ?_
 refine s_box (v := (.agg (R6 x sa sc aa ac))) (c := (R6 x sa sc aa ac)) (by decide) rfl rfl ?_
 intro bx wx Nx
 have Fx := Nx.ge E
 replace E := E.ext Nx.ext
 have Bx := Nx.blk
 refine qA (I6 0) rfl ?_
 refine WpL_nil (Wp_seq_region ?_)
 refine qM (P6 pb 0) rfl ?_
 refine qV (r_loadAgg (vs := [(I6 x.kind),(.slice sa x.set.length sc),(.slice aa x.args.length ac),(I6 x.mn),(I6 x.mx),(.bool x.neg)]) rfl agg27 siz27 rfl (Bx.cells rfl)) ?_
 have G1 := (GrT.start hP).ext Nx.ext
 refine WpL_enterX rfl rfl (by decide) (r_callF (vs := [(P6 pb 0),(.agg (R6 x sa sc aa ac))]) Tryz.func37 kQ kQ rfl) (hx base pb _ _ _ _ s _ hxt0 (G1.base' hP hF hE) (fun q hq => G1.sub q (hF q hq)) G1.st hL) (fun w' h => And.intro rfl ⟨by unfold starF; rw [h.1]; rfl,G1.pan h.2⟩) ?_
 rintro _ w19 ⟨s2,fx,fy,F2,p2,x2,h2,rfl,G2⟩
 replace E := E.step G2.chg (fun _ _ _ => trivial)
 have hL2 := hL.step (lim_all x _ _ _ _ h2)
 replace G2 := G1.comp G2
 refine qM (.tuple #[(I6 (fx : Int)),(I6 (fy : Int))]) rfl ?_
 refine qV (r_extract (vs := #[(I6 (fx : Int)),(I6 (fy : Int))]) (v := (I6 (fx : Int))) rfl rfl) ?_
 refine qV (r_extract (vs := #[(I6 (fx : Int)),(I6 (fy : Int))]) (v := (I6 (fy : Int))) rfl rfl) ?_
 refine qA (I6 (fx : Int)) rfl ?_
 refine qA (I6 (fy : Int)) rfl ?_
 refine WpL_nil (Wp_seq_region ?_)
 refine qM (P6 pb 0) rfl ?_
 refine WpL_enterX rfl rfl (by decide) (r_callF (vs := [(P6 pb 0)]) Tryz.func68 kQ kQ rfl) (tstate_c _ _ base pb _ _ s2 G2.st hL2.2.2) (fun w' h => And.intro rfl ⟨by unfold starF; rw [h2]; simp [h.1],G2.pan h.2⟩) ?_
 rintro _ w29 ⟨s3,h3,rfl,G3⟩
 replace E := E.step G3.chg (fun _ _ _ => trivial)
 have hL3 := hL2.new h3
 replace G3 := G2.comp G3
 refine qA (I6 (s2.n : Int)) rfl ?_
 refine WpL_nil (Wp_seq_region ?_)
 refine qM (P6 pb 0) rfl ?_
 refine qM (I6 (a : Int)) rfl ?_
 refine qM (I6 (fx : Int)) rfl ?_
 refine WpL_enter rfl rfl (by decide) (r_callF (vs := [(P6 pb 0),(I6 (a : Int)),(I6 (fx : Int))]) Tryz.func69 kQ kQ rfl) (teps_c _ _ base pb _ _ s3 a fx G3.st hL3.small.1) ?_
 rintro _ w39 ⟨p4,G4⟩
 replace E := E.step G4.chg (fun _ _ _ => trivial)
 have hL4 : LimT (epsT s3 a fx) 5 := hL3.eps a fx
 replace G4 := G3.comp G4
 refine WpL_nil (Wp_seq_region ?_)
 refine qM (P6 pb 0) rfl ?_
 refine qM (I6 (a : Int)) rfl ?_
 refine qM (I6 (s2.n : Int)) rfl ?_
 refine WpL_enter rfl rfl (by decide) (r_callF (vs := [(P6 pb 0),(I6 (a : Int)),(I6 (s2.n : Int))]) Tryz.func69 kQ kQ rfl) (teps_c _ _ base pb _ _ _ a s2.n G4.st hL4.small.1) ?_
 rintro _ w49 ⟨p5,G5⟩
 replace E := E.step G5.chg (fun _ _ _ => trivial)
 have hL5 : LimT (epsT (epsT s3 a fx) a s2.n) 4 := hL4.eps a s2.n
 replace G5 := G4.comp G5
 refine WpL_nil (Wp_seq_region ?_)
 refine qM (P6 pb 0) rfl ?_
 refine qM (I6 (fy : Int)) rfl ?_
 refine qM (I6 (a : Int)) rfl ?_
 refine WpL_enter rfl rfl (by decide) (r_callF (vs := [(P6 pb 0),(I6 (fy : Int)),(I6 (a : Int))]) Tryz.func69 kQ kQ rfl) (teps_c _ _ base pb _ _ _ fy a G5.st hL5.small.1) ?_
 rintro _ w59 ⟨p6,G6⟩
 replace E := E.step G6.chg (fun _ _ _ => trivial)
 replace G6 := G5.comp G6
 refine WpL_nil (Wp_seq_region ?_)
 refine qM (I6 (s2.n : Int)) rfl ?_
 refine qA (I6 (s2.n : Int)) rfl ?_
 refine WpL_nil (Wp_ret (finX_ret ?_))
 refine fin_tmp Tryz.results71 (v := (.int .i64 ((s2.n : Nat) : Int))) rfl ?_
 exact ⟨_,_,_,_,_,by unfold starF; rw [h2]; simp [h3],rfl,G6⟩
theorem tcopy_c (wb : World) (x : Re) (hx : ThOf wb x) (base pb : Nat) (F : Nat → Prop) (w0 : World) (pv xv : Value) (s : ThS) (b : Nat) (out : Bool) (vs : List Value) (hxt : ReAt wb x vs) (hE : Ext wb w0) (hF : ∀ y,y < wb.heap.size → F y) (hP : TSt F w0 base pb pv xv s) (hL : LimT s 0) :
  RetX Tryz.prog lgN 72 #[.pointer (some ⟨pb,0,none⟩),nI b,.agg vs.toArray,.bool out] w0 (fun r w => ∃ s' e F' pv' xv',copyT (tmO x) s b out = some (s',e) ∧ r = nI e ∧ GrT F w0 base pb pv xv F' pv' xv' s' w) fun w => copyT (tmO x) s b out = none ∧ Chg (fun y => y = pb ∨ pv.ownBlock = some y ∨ xv.ownBlock = some y) w0 w := by
 have hxt0 := hxt
 obtain ⟨sa,sc,aa,ac,rfl,_,_,_⟩ := hxt.form
 refine RetX_of Tryz.func72 rfl Tryz.ntmps72 (Nat.le_of_ble_eq_true rfl) ?_
 have E : Chg (fun _ => True) w0 w0 := Chg.refl _ _
 refine Wp_seq_region ?_
 refine s_box (v := (.agg (R6 x sa sc aa ac))) (c := (R6 x sa sc aa ac)) (by decide) rfl rfl ?_
 intro bx wx Nx
 have Fx := Nx.ge E
 replace E := E.ext Nx.ext
 have Bx := Nx.blk
 refine qA (I6 0) rfl ?_
 refine WpL_nil (Wp_seq_region ?_)
 refine qM (P6 pb 0) rfl ?_
 refine qV (r_loadAgg (vs := [(I6 x.kind),(.slice sa x.set.length sc),(.slice aa x.args.length ac),(I6 x.mn),(I6 x.mx),(.bool x.neg)]) rfl agg27 siz27 rfl (Bx.cells rfl)) ?_
 have G1 := (GrT.start hP).ext Nx.ext
 refine WpL_enterX rfl rfl (by decide) (r_callF (vs := [(P6 pb 0),(.agg (R6 x sa sc aa ac))]) Tryz.func37 kQ kQ rfl) (hx base pb _ _ _ _ s _ hxt0 (G1.base' hP hF hE) (fun q hq => G1.sub q (hF q hq)) G1.st hL) (fun w' h => And.intro rfl ⟨by unfold copyT; rw [h.1]; rfl,G1.pan h.2⟩) ?_
 rintro _ w19 ⟨s2,fx,fy,F2,p2,x2,h2,rfl,G2⟩
 replace E := E.step G2.chg (fun _ _ _ => trivial)
 have hL2 := hL.step (lim_all x _ _ _ _ h2)
 replace G2 := G1.comp G2
 refine qM (.tuple #[(I6 (fx : Int)),(I6 (fy : Int))]) rfl ?_
 refine qV (r_extract (vs := #[(I6 (fx : Int)),(I6 (fy : Int))]) (v := (I6 (fx : Int))) rfl rfl) ?_
 refine qV (r_extract (vs := #[(I6 (fx : Int)),(I6 (fy : Int))]) (v := (I6 (fy : Int))) rfl rfl) ?_
 refine qA (I6 (fx : Int)) rfl ?_
 refine qA (I6 (fy : Int)) rfl ?_
 refine WpL_nil (Wp_seq_region ?_)
 refine qM (P6 pb 0) rfl ?_
 refine qM (I6 (b : Int)) rfl ?_
 refine qM (I6 (fx : Int)) rfl ?_
 refine WpL_enter rfl rfl (by decide) (r_callF (vs := [(P6 pb 0),(I6 (b : Int)),(I6 (fx : Int))]) Tryz.func69 kQ kQ rfl) (teps_c _ _ base pb _ _ s2 b fx G2.st hL2.small.1) ?_
 rintro _ w29 ⟨p3,G3⟩
 replace E := E.step G3.chg (fun _ _ _ => trivial)
 have hL3 : LimT (epsT s2 b fx) 2 := hL2.eps b fx
 replace G3 := G2.comp G3
 refine WpL_nil (Wp_seq (Wp_seq_region ?_))
 refine qM (.bool out) rfl ?_
 refine qV (r_not (b := out) rfl) ?_
 refine WpL_nil ?_
 refine Wp_cond (b := !out) rfl (fun ho => ?_) (fun ho => ?_)
 ·have kho := ho
  replace ho := by simpa using ho
  refine Wp_seq_region ?_
  refine qM (I6 (fy : Int)) rfl ?_
  refine qA (I6 (fy : Int)) rfl ?_
  refine WpL_nil (Wp_ret (thn_ret (finX_ret ?_)))
  refine fin_tmp Tryz.results72 (v := (.int .i64 ((fy : Nat) : Int))) rfl ?_
  exact ⟨_,_,_,_,_,by unfold copyT; rw [h2]; simp [ho],rfl,G3⟩
 ·have kho := ho
  replace ho := by simpa using ho
  refine Wp_skip (thn_normal (Wp_seq_region ?_))
  refine qM (P6 pb 0) rfl ?_
  refine WpL_enterX rfl rfl (by decide) (r_callF (vs := [(P6 pb 0)]) Tryz.func68 kQ kQ rfl) (tstate_c _ _ base pb _ _ _ G3.st hL3.2.2) (fun w' h => And.intro rfl ⟨by unfold copyT; rw [h2]; simp [ho,h.1],G3.pan h.2⟩) ?_
  rintro _ w39 ⟨s4,h4,rfl,G4⟩
  replace E := E.step G4.chg (fun _ _ _ => trivial)
  have hL4 := hL3.new h4
  replace G4 := G3.comp G4
  refine qA (I6 (((epsT s2 b fx).n : Nat) : Int)) rfl ?_
  refine WpL_nil (Wp_seq_region ?_)
  refine qM (P6 pb 0) rfl ?_
  refine qM (I6 (b : Int)) rfl ?_
  refine qM (I6 (((epsT s2 b fx).n : Nat) : Int)) rfl ?_
  refine WpL_enter rfl rfl (by decide) (r_callF (vs := [(P6 pb 0),(I6 (b : Int)),(I6 (((epsT s2 b fx).n : Nat) : Int))]) Tryz.func69 kQ kQ rfl) (teps_c _ _ base pb _ _ s4 b (epsT s2 b fx).n G4.st hL4.small.1) ?_
  rintro _ w49 ⟨p5,G5⟩
  replace E := E.step G5.chg (fun _ _ _ => trivial)
  have hL5 : LimT (epsT s4 b (epsT s2 b fx).n) 4 := hL4.eps _ _
  replace G5 := G4.comp G5
  refine WpL_nil (Wp_seq_region ?_)
  refine qM (P6 pb 0) rfl ?_
  refine qM (I6 (fy : Int)) rfl ?_
  refine qM (I6 (((epsT s2 b fx).n : Nat) : Int)) rfl ?_
  refine WpL_enter rfl rfl (by decide) (r_callF (vs := [(P6 pb 0),(I6 (fy : Int)),(I6 (((epsT s2 b fx).n : Nat) : Int))]) Tryz.func69 kQ kQ rfl) (teps_c _ _ base pb _ _ _ fy (epsT s2 b fx).n G5.st hL5.small.1) ?_
  rintro _ w59 ⟨p6,G6⟩
  replace E := E.step G6.chg (fun _ _ _ => trivial)
  replace G6 := G5.comp G6
  refine WpL_nil (Wp_seq_region ?_)
  refine qM (I6 (((epsT s2 b fx).n : Nat) : Int)) rfl ?_
  refine qA (I6 (((epsT s2 b fx).n : Nat) : Int)) rfl ?_
  refine WpL_nil (Wp_ret (finX_ret ?_))
  refine fin_tmp Tryz.results72 (v := (.int .i64 (((epsT s2 b fx).n : Nat) : Int))) rfl ?_
  exact ⟨_,_,_,_,_,by unfold copyT; rw [h2]; simp [ho,h4],rfl,G6⟩
theorem drop_at {α : Type} {l : List α} {k : Nat} {y : α} (hy : l[k]? = some y) : l.drop k = y :: l.drop (k + 1) := by
 have := lt_of_get hy
 rw [List.drop_eq_getElem_cons this]
 rw [List.getElem?_eq_getElem this] at hy
 rw [Option.some.inj hy]
theorem altT_at {e : Nat} {l : List Re} {k : Nat} {y : Re} (hy : l[k]? = some y) (s : ThS) (a : Nat) : altT e (tmL (l.drop k)) s a = (tmO y s).bind fun (s1,x,z) =>
  if k + 2 < l.length then (newT (epsT (epsT s1 a x) z e)).bind fun (s2,q) => altT e (tmL (l.drop (k + 1))) (epsT s2 a q) q
  else altT e (tmL (l.drop (k + 1))) (epsT (epsT s1 a x) z e) a := by
 have hk := lt_of_get hy
 have hlen : (tmL (l.drop (k + 1))).length = l.length - (k + 1) := by rw [tmL_map,List.length_map,List.length_drop]
 rw [drop_at hy,tmL,altT,hlen]
 congr 1
 funext ⟨s1,x,z⟩
 dsimp only
 by_cases h : k + 2 < l.length
 ·rw [if_pos h,if_pos (by omega)]
 ·rw [if_neg h,if_neg (by omega)]
def altA (fs : List TF) (s : ThS) (a : Nat) : Option (ThS × Nat) := (newT s).bind fun (s2,e) => (altT e fs s2 a).bind fun s3 => some (s3,e)
theorem talt_c (wb : World) (l : List Re) (hx : ∀ y ∈ l,ThOf wb y) (base pb : Nat) (F : Nat → Prop) (w0 : World) (pv xv : Value) (s : ThS) (a : Nat) (aa : Option Addr) (ac : Nat) (hlen : l.length ≤ ac ∧ ac ≤ 9223372036854775807) (hargs : l = [] ∨ ∃ b o,aa = some ⟨b,o,none⟩ ∧ ResAt wb b o l) (hsz : l.length ≤ 1000000) (hE : Ext wb w0) (hF : ∀ y,y < wb.heap.size → F y) (hP : TSt F w0 base pb pv xv s) (hL : LimT s 0) :
  RetX Tryz.prog lgN 70 #[.pointer (some ⟨pb,0,none⟩),nI a,.slice aa l.length ac] w0 (fun r w => ∃ s' e F' pv' xv',altA (tmL l) s a = some (s',e) ∧ r = nI e ∧ GrT F w0 base pb pv xv F' pv' xv' s' w) fun w => altA (tmL l) s a = none ∧ Chg (fun y => y = pb ∨ pv.ownBlock = some y ∨ xv.ownBlock = some y) w0 w := by
 refine RetX_of Tryz.func70 rfl Tryz.ntmps70 (Nat.le_of_ble_eq_true rfl) ?_
 have E : Chg (fun _ => True) w0 w0 := Chg.refl _ _
 refine Wp_seq_region ?_
 refine qA (I6 0) rfl ?_
 refine WpL_nil (Wp_seq_region ?_)
 refine qM (P6 pb 0) rfl ?_
 refine WpL_enterX rfl rfl (by decide) (r_callF (vs := [(P6 pb 0)]) Tryz.func68 kQ kQ rfl) (tstate_c _ _ base pb _ _ s hP hL.2.2) (fun w' h => And.intro rfl ⟨by unfold altA; rw [h.1]; rfl,h.2⟩) ?_
 rintro _ w19 ⟨s1,h1,rfl,G1⟩
 replace E := E.step G1.chg (fun _ _ _ => trivial)
 have hL1 := hL.new h1
 refine qA (I6 (s.n : Int)) rfl ?_
 refine WpL_nil (Wp_seq (Wp_seq_region ?_))
 refine qM (.slice aa l.length ac) rfl ?_
 refine qV (r_lenSlice (ad := aa) (n := l.length) (cap := ac) Tryz.underlying25 rfl) ?_
 refine qM (I6 0) rfl ?_
 refine WpL_nil (Wp_block ?_)
 refine Wp_loop (fun nn_ σ W1 => ∃ (k : Nat) (sk : ThS) (ak : Nat) (Fk : Nat → Prop) (pk : Value) (xk : Value),(∃ jj_,σ = upds jj_ [(0,(P6 pb 0)),(2,(.slice aa l.length ac)),(7,(I6 (s.n : Int))),(15,(.slice aa l.length ac)),(16,(I6 (l.length : Int))),(17,(I6 (k : Int))),(1,(I6 (ak : Int)))]) ∧ Chg (fun _ => True) w0 W1 ∧ (k ≤ l.length) ∧ (altT s.n (tmL l) s1 a = altT s.n (tmL (l.drop k)) sk ak) ∧ (GrT F w0 base pb pv xv Fk pk xk sk W1) ∧ (LimT sk 0) ∧ nn_ = l.length - k) (n := l.length - 0) ?_ ?_
 ·exact ⟨0,s1,a,F,pv,xv,Fits.out ⟨rfl,rfl,rfl,rfl,rfl,rfl,rfl,trivial⟩,E,Nat.zero_le _,(by rw [List.drop_zero]),G1,hL1.le (Nat.zero_le _),rfl⟩
 ·clear E
  rintro _ _ W1 ⟨k,sk,ak,Fk,pk,xk,⟨j1,rfl⟩,E,hk,hQ,hG,hLk,rfl⟩
  refine Wp_seq_region ?_
  refine qV (r_lss (k := .i64) (a := (k : Int)) (b := (l.length : Int)) rfl rfl) ?_
  refine WpL_nil (Wp_seq ?_)
  refine Wp_cond (b := decide (((k : Int) : Int) < (l.length : Int))) rfl (fun hlt => ?_) (fun hlt => ?_)
  ·have khlt := hlt
   replace hlt := of_decide_eq_true hlt
   obtain ⟨y,hy⟩ := get_of_lt (l := l) (i := k) (by omega)
   obtain ⟨ab,ao,rfl,hres⟩ := args_at hargs (by omega)
   obtain ⟨us,hus,hyt⟩ := hres.get hy
   have hyt0 := hyt
   obtain ⟨ysa,ysc,yaa,yac,rfl,_,_,_⟩ := hyt.form
   rw [altT_at hy] at hQ
   refine Wp_skip (thn_normal (Wp_seq (Wp_block (Wp_seq_region ?_))))
   refine qM (I6 (k : Int)) rfl ?_
   refine qV (r_indexSlice (b := ab) (o := ao) (len := l.length) (cap := ac) (i := k) (o' := ao + k * 6) rfl rfl rfl Tryz.underlying25 siz27 (by omega) (by omega)) ?_
   refine qV (r_loadAgg (vs := [(I6 y.kind),(.slice ysa y.set.length ysc),(.slice yaa y.args.length yac),(I6 y.mn),(I6 y.mx),(.bool y.neg)]) rfl agg27 siz27 rfl (hus.ext (hG.base' hP hF hE))) ?_
   have E1 : Chg none1 W1 W1 := Chg.refl _ _
   refine s_alloc (c := #[(I6 0),(.slice none 0 0),(.slice none 0 0),(I6 0),(I6 0),(.bool false)]) (by decide) zer27 rfl ?_
   intro bu wu Nu
   have Fu := Nu.ge E
   have Fu_E1 := Nu.ge E1
   replace E := E.ext Nu.ext
   have Bu := Nu.blk
   replace E1 := E1.ext Nu.ext
   refine qA (I6 (k : Int)) rfl ?_
   refine s_storeAgg (b := bu) (o := 0) (c' := (R6 y ysa ysc yaa yac)) rfl rfl (by simp [Value.oneCell']) siz27 rfl Bu (by first | (simp; done) | exact Nat.le_of_ble_eq_true rfl) rfl ?_
   intro w3 S3
   replace E := S3.step E (by first | exact Or.inl (by omega) | exact Or.inr rfl | exact Or.inr (by assumption) | exact Or.inr (by simp) | exact Or.inr (by omega) | exact Or.inr (by dsimp only; omega))
   replace E1 := S3.step E1 (Or.inl (by omega))
   replace Bu := S3.blk
   refine WpL_nil (Wp_seq_region ?_)
   refine qM (P6 pb 0) rfl ?_
   refine qV (r_loadAgg (vs := [(I6 y.kind),(.slice ysa y.set.length ysc),(.slice yaa y.args.length yac),(I6 y.mn),(I6 y.mx),(.bool y.neg)]) rfl agg27 siz27 rfl (Bu.cells rfl)) ?_
   replace hG := hG.ext E1
   refine WpL_enterX rfl rfl (by decide) (r_callF (vs := [(P6 pb 0),(.agg (R6 y ysa ysc yaa yac))]) Tryz.func37 kQ kQ rfl) (hx y (List.mem_of_getElem? hy) base pb _ _ _ _ sk _ hyt0 (hG.base' hP hF hE) (fun q hq => hG.sub q (hF q hq)) hG.st hLk) (fun w' h => And.intro rfl ⟨by unfold altA; rw [h1]; simp [hQ,h.1],hG.pan h.2⟩) ?_
   rintro _ w29 ⟨s2,fx,fy,F2,p2,x2,h2,rfl,G2⟩
   replace E := E.step G2.chg (fun _ _ _ => trivial)
   have hL2 := hLk.step (lim_all y _ _ _ _ h2)
   rw [h2,Option.bind_some] at hQ
   dsimp only at hQ
   replace G2 := hG.comp G2
   refine qM (.tuple #[(I6 (fx : Int)),(I6 (fy : Int))]) rfl ?_
   refine qV (r_extract (vs := #[(I6 (fx : Int)),(I6 (fy : Int))]) (v := (I6 (fx : Int))) rfl rfl) ?_
   refine qV (r_extract (vs := #[(I6 (fx : Int)),(I6 (fy : Int))]) (v := (I6 (fy : Int))) rfl rfl) ?_
   refine qA (I6 (fx : Int)) rfl ?_
   refine qA (I6 (fy : Int)) rfl ?_
   refine WpL_nil (Wp_seq_region ?_)
   refine qM (P6 pb 0) rfl ?_
   refine qM (I6 (ak : Int)) rfl ?_
   refine qM (I6 (fx : Int)) rfl ?_
   refine WpL_enter rfl rfl (by decide) (r_callF (vs := [(P6 pb 0),(I6 (ak : Int)),(I6 (fx : Int))]) Tryz.func69 kQ kQ rfl) (teps_c _ _ base pb _ _ s2 ak fx G2.st hL2.small.1) ?_
   rintro _ w39 ⟨p3,G3⟩
   replace E := E.step G3.chg (fun _ _ _ => trivial)
   have hL3 : LimT (epsT s2 ak fx) 2 := hL2.eps _ _
   replace G3 := G2.comp G3
   refine WpL_nil (Wp_seq_region ?_)
   refine qM (P6 pb 0) rfl ?_
   refine qM (I6 (fy : Int)) rfl ?_
   refine qM (I6 (s.n : Int)) rfl ?_
   refine WpL_enter rfl rfl (by decide) (r_callF (vs := [(P6 pb 0),(I6 (fy : Int)),(I6 (s.n : Int))]) Tryz.func69 kQ kQ rfl) (teps_c _ _ base pb _ _ _ fy s.n G3.st hL3.small.1) ?_
   rintro _ w49 ⟨p4,G4⟩
   replace E := E.step G4.chg (fun _ _ _ => trivial)
   have hL4 : LimT (epsT (epsT s2 ak fx) fy s.n) 1 := hL3.eps _ _
   replace G4 := G3.comp G4
   refine WpL_nil (Wp_seq_region ?_)
   refine qM (I6 (k : Int)) rfl ?_
   refine qV (r_add (k := .i64) (a := (k : Int)) (b := 2) (c := ((k + 2 : Nat) : Int)) rfl rfl ((wI64 (by omega)).trans (by omega))) ?_
   refine qM (.slice (some ⟨ab,ao,none⟩) l.length ac) rfl ?_
   refine qV (r_lenSlice (ad := some ⟨ab,ao,none⟩) (n := l.length) (cap := ac) Tryz.underlying25 rfl) ?_
   refine qV (r_lss (k := .i64) (a := ((k + 2 : Nat) : Int)) (b := (l.length : Int)) rfl rfl) ?_
   refine WpL_nil ?_
   refine Wp_cond (b := decide ((((k + 2 : Nat) : Int) : Int) < (l.length : Int))) rfl (fun hmore => ?_) (fun hmore => ?_)
   ·have khmore := hmore
    replace hmore := of_decide_eq_true hmore
    rw [if_pos (by omega)] at hQ
    refine Wp_seq_region ?_
    refine qM (P6 pb 0) rfl ?_
    refine WpL_enterX rfl rfl (by decide) (r_callF (vs := [(P6 pb 0)]) Tryz.func68 kQ kQ rfl) (tstate_c _ _ base pb _ _ _ G4.st hL4.2.2) (fun w' h => And.intro rfl ⟨by unfold altA; rw [h1]; simp [hQ,h.1],G4.pan h.2⟩) ?_
    rintro _ w59 ⟨s5,h5,rfl,G5⟩
    replace E := E.step G5.chg (fun _ _ _ => trivial)
    have hL5 := hL4.new h5
    rw [h5,Option.bind_some] at hQ
    dsimp only at hQ
    replace G5 := G4.comp G5
    refine qA (I6 (((epsT (epsT s2 ak fx) fy s.n).n : Nat) : Int)) rfl ?_
    refine WpL_nil (Wp_seq_region ?_)
    refine qM (P6 pb 0) rfl ?_
    refine qM (I6 (ak : Int)) rfl ?_
    refine qM (I6 (((epsT (epsT s2 ak fx) fy s.n).n : Nat) : Int)) rfl ?_
    refine WpL_enter rfl rfl (by decide) (r_callF (vs := [(P6 pb 0),(I6 (ak : Int)),(I6 (((epsT (epsT s2 ak fx) fy s.n).n : Nat) : Int))]) Tryz.func69 kQ kQ rfl) (teps_c _ _ base pb _ _ s5 ak (epsT (epsT s2 ak fx) fy s.n).n G5.st hL5.small.1) ?_
    rintro _ w69 ⟨p6,G6⟩
    replace E := E.step G6.chg (fun _ _ _ => trivial)
    have hL6 : LimT (epsT s5 ak (epsT (epsT s2 ak fx) fy s.n).n) 3 := hL5.eps _ _
    replace G6 := G5.comp G6
    refine WpL_nil (Wp_region ?_)
    refine qM (I6 (((epsT (epsT s2 ak fx) fy s.n).n : Nat) : Int)) rfl ?_
    refine qA (I6 (((epsT (epsT s2 ak fx) fy s.n).n : Nat) : Int)) rfl ?_
    refine WpL_nil (inB_normal (thn_normal (Wp_region ?_)))
    refine qV (r_add (k := .i64) (a := (k : Int)) (b := 1) (c := (k : Int) + 1) rfl rfl (wI64 (by omega))) ?_
    refine qM (I6 ((k : Int) + 1)) rfl ?_
    refine WpL_nil (thn_normal ?_)
    exact ⟨l.length - (k + 1),by omega,k + 1,_,_,F2,p6,x2,Fits.out ⟨rfl,rfl,rfl,rfl,rfl,rfl,rfl,trivial⟩,E,(by omega),hQ,G6,hL6.le (Nat.zero_le _),rfl⟩
   ·have khmore := hmore
    replace hmore := of_decide_eq_false hmore
    rw [if_neg (by omega)] at hQ
    refine Wp_skip (inB_normal (thn_normal (Wp_region ?_)))
    refine qV (r_add (k := .i64) (a := (k : Int)) (b := 1) (c := (k : Int) + 1) rfl rfl (wI64 (by omega))) ?_
    refine qM (I6 ((k : Int) + 1)) rfl ?_
    refine WpL_nil (thn_normal ?_)
    exact ⟨l.length - (k + 1),by omega,k + 1,_,_,F2,p4,x2,Fits.out ⟨rfl,rfl,rfl,rfl,rfl,rfl,rfl,trivial⟩,E,(by omega),hQ,G4,hL4.le (Nat.zero_le _),rfl⟩
  ·have khlt := hlt
   replace hlt := of_decide_eq_false hlt
   have hkk : k = l.length := by omega
   rw [hkk,List.drop_length] at hQ
   refine Wp_exit (thn_exit (thn_exit (inB_here (thn_normal (Wp_seq_region ?_)))))
   refine qM (I6 (s.n : Int)) rfl ?_
   refine qA (I6 (s.n : Int)) rfl ?_
   refine WpL_nil (Wp_ret (finX_ret ?_))
   refine fin_tmp Tryz.results70 (v := (.int .i64 ((s.n : Nat) : Int))) rfl ?_
   exact ⟨_,_,_,_,_,by unfold altA; rw [h1]; simp [hQ,tmL,altT],rfl,hG⟩
theorem own_other {w : World} {base e sz n base' e' sz' n' : Nat} {v v' : Value} {xs xs' : List Value} (h : w.ownsRow base e sz v n xs) (h' : w.ownsRow base' e' sz' v' n' xs') (he : e ≠ e') {k : Nat} (hk : v.ownBlock = some k) : v'.ownBlock ≠ some k := by
 intro hk'
 rcases h.2 with ⟨rfl,_⟩ | ⟨g,cap,cur,rfl,_,hg,_⟩
 ·cases hk
 rcases h'.2 with ⟨rfl,_⟩ | ⟨g',cap',cur',rfl,_,hg',_⟩
 ·cases hk'
 ·cases hk; cases hk'
  rw [hg] at hg'
  simp only [Option.some.injEq] at hg'
  injection hg' with h1 h2
  exact he (by first | exact h1 | exact h2)
theorem own_some {w : World} {base e sz n : Nat} {v : Value} {xs : List Value} (h : w.ownsRow base e sz v n xs) : n = 0 ∨ ∃ b,v.ownBlock = some b := by
 rcases h.2 with ⟨rfl,_⟩ | ⟨g,cap,cur,rfl,_⟩
 ·left; have := h.1; simp_all
 ·exact .inr ⟨g,rfl⟩
def cloG (l : List Sp) (z : Nat) : Fct := fun v w => OwnS w z v l
theorem cloG_chg {U : Nat → Prop} {l : List Sp} {z : Nat} (h : ∀ y,U y → y < z) : ∀ v w w',Chg U w w' → cloG l z v w → cloG l z v w' := by
 rintro v w w' c ⟨h1,h2⟩
 exact ⟨h1,own_chg h2 c fun k hk hu => by have := (h2.lt k hk).1; have := h k hu; omega⟩
def edG (a b : Int) (l : List Sp) (z : Nat) : Fct := fun v w => ∃ ra rc,v = .agg #[.int .i64 a,.int .i64 b,.slice ra l.length rc] ∧ cloG l z (.slice ra l.length rc) w
theorem edG_chg {U : Nat → Prop} {a b : Int} {l : List Sp} {z : Nat} (h : ∀ y,U y → y < z) : ∀ v w w',Chg U w w' → edG a b l z v w → edG a b l z v w' := by
 rintro v w w' c ⟨ra,rc,h1,h2⟩
 exact ⟨ra,rc,h1,cloG_chg h _ _ _ c h2⟩
def elG (a b : Int) (l : List Sp) (z : Nat) : Fct := fun v w => ∃ q ra rc,v = .slice (some ⟨q,0,none⟩) 1 1 ∧ Blk w q #[.int .i64 a,.int .i64 b,.slice ra l.length rc] TEd ∧ z ≤ q ∧ cloG l z (.slice ra l.length rc) w
theorem elG_chg {U : Nat → Prop} {a b : Int} {l : List Sp} {z : Nat} (h : ∀ y,U y → y < z) : ∀ v w w',Chg U w w' → elG a b l z v w → elG a b l z v w' := by
 rintro v w w' c ⟨q,ra,rc,h1,h2,h3,h4⟩
 exact ⟨q,ra,rc,h1,c.keep (fun hu => by have := h q hu; omega) h2,h3,cloG_chg h _ _ _ c h4⟩
theorem DoesT_litE {M : Nat → Prop} {N : Nat} {σ : Env} {w : World} {dst : Option Tmp} {ty : TypeId} {pos : String} {af : Array Edge} {g : Option (Nat × Bool)} {x : Operand} {a b : Int} {ra : Option Addr} {rc z : Nat} {l : List Sp} (hx : ev σ x = .agg #[.int .i64 a,.int .i64 b,.slice ra l.length rc]) (hb : z ≤ w.heap.size) (hO : cloG l z (.slice ra l.length rc) w) :
  DoesT M Tryz.prog N ⟨dst,.buildSlice 35 1 #[(0,x)],ty,pos,af,g⟩ (elG a b l z) σ w := by
 have hn := New.mk' w #[.int .i64 a,.int .i64 b,.slice ra l.length rc] TEd
 exact DoesT_val (run_buildSlice (parts := [(0,x)]) (ps := [(0,.agg #[.int .i64 a,.int .i64 b,.slice ra l.length rc])]) (by simp only [List.map,hx]) Tryz.underlying35 siz74 zer74 (by decide) (by decide) (by kernel_rfl)) (Ext.chg hn.ext) ⟨_,_,_,rfl,hn.blk,hb,OwnS.ext hO hn.ext⟩
def apG (base m : Nat) (xs : List Value) (old : Value) (z : Nat) (a b : Int) (l : List Sp) : Fct := fun v w => ∃ ra rc,appF base TEd 3 (m + 1) (xs ++ [.int .i64 a,.int .i64 b,.slice ra l.length rc]) old z v w ∧ cloG l z (.slice ra l.length rc) w
theorem apG_ext (base m : Nat) (xs : List Value) (old : Value) (z : Nat) (a b : Int) (l : List Sp) : ∀ v w w',Ext w w' → apG base m xs old z a b l v w → apG base m xs old z a b l v w' := by
 rintro v w w' e ⟨ra,rc,h1,h2⟩
 exact ⟨ra,rc,appF_ext _ _ _ _ _ _ _ _ _ _ e h1,OwnS.ext h2 e⟩
theorem DoesT_appE {M : Nat → Prop} {N : Nat} {σ : Env} {w : World} {dst : Option Tmp} {ty : TypeId} {pos : String} {af : Array Edge} {g : Option (Nat × Bool)} {s x : Operand} {base n q z : Nat} {a b : Int} {ra : Option Addr} {rc : Nat} {l : List Sp} {v : Value} {xs : List Value}
  (he : ev σ s = v) (hown : w.ownsRow base TEd 3 v n xs) (hx : ev σ x = .slice (some ⟨q,0,none⟩) 1 1) (hB : Blk w q #[.int .i64 a,.int .i64 b,.slice ra l.length rc] TEd) (hO : cloG l z (.slice ra l.length rc) w) (hn : n ≤ 1000000) (hbase : base ≤ w.heap.size) (hM : ∀ y,v.ownBlock = some y → M y) (hMz : ∀ y,M y → y < z) (hz : z ≤ w.heap.size) :
  DoesT M Tryz.prog N ⟨dst,.call ⟨.builtin .append,#[s,x],#[35,35]⟩,ty,pos,af,g⟩ (apG base n xs v z a b l) σ w := by
 have h1 : DoesT M Tryz.prog N ⟨dst,.call ⟨.builtin .append,#[s,x],#[35,35]⟩,ty,pos,af,g⟩ (appF base TEd 3 (n + 1) (xs ++ [.int .i64 a,.int .i64 b,.slice ra l.length rc]) v z) σ w :=
  DoesT_append Tryz.underlying35 siz74 byt74 zer74 rfl (by decide) he hown hx rfl (hB.cells rfl) (by intro u hu; simp only [List.mem_cons,List.not_mem_nil,or_false] at hu; rcases hu with rfl | rfl | rfl <;> rfl) (by unfold maxLen; omega) (by omega) hbase hM hz
 exact fun dz a9 ha he9 Q K hK => h1 dz a9 ha he9 Q K fun v9 w9 hx9 hR => hK v9 w9 hx9 ⟨ra,rc,hR,cloG_chg hMz _ _ _ hx9 hO⟩
/-- The edge is the automaton's. -/
theorem TSt.addEdge {F : Nat → Prop} {w0 w w2 : World} {base pb z c1 c2 rc : Nat} {pv : Value} {xa ua ra : Option Addr} {s : ThS} {a b : Int} {l : List Sp} {rows : List (List Value)} (h : TSt F w0 base pb pv (.slice xa s.edges.length c1) s) (c : Chg (fun q => (Value.slice xa s.edges.length c1).ownBlock = some q) w0 w) (hz : z = w0.heap.size) (hrows : EdsF (fun y => F y ∧ base ≤ y) w0 s.edges rows)
  (ho : w.ownsRow base TEd 3 (.slice ua (s.edges.length + 1) c2) (s.edges.length + 1) (rows.flatten ++ [.int .i64 a,.int .i64 b,.slice ra l.length rc])) (hd : ∀ k,(Value.slice ua (s.edges.length + 1) c2).ownBlock = some k → (Value.slice xa s.edges.length c1).ownBlock = some k ∨ z ≤ k) (hK : cloG l z (.slice ra l.length rc) w) (p : Put w w2 pb #[nI s.n,.int .i64 0,.slice none 0 0,pv,.slice ua (s.edges.length + 1) c2] TTh) :
  GrT F w0 base pb pv (.slice xa s.edges.length c1) (fun y => F y ∨ (Value.slice ra l.length rc).ownBlock = some y) pv (.slice ua (s.edges.length + 1) c2) ⟨s.n,s.eps,s.edges ++ [(a,b,l)]⟩ w2 := by
 subst hz
 have hlk := hK.2.lt
 have hbs := h.bs
 refine GrT.edgPut (es := s.edges ++ [(a,b,l)]) (rows := rows ++ [edRow (a,b,l) (.slice ra l.length rc)]) h c (by simpa [edRow,List.flatten_append] using ho) ?_ (fun y hy => .inl hy) (fun y hy => ?_) hd p
 ·refine ((hrows.chg c fun y hy e => h.hxF y e hy.1).mono fun y hy => ⟨.inl hy.1,hy.2⟩).snoc ⟨_,rfl,OwnS.at hK,?_⟩
  rcases own_some hK.2 with h1 | ⟨k,hk⟩
  ·exact .inl (List.eq_nil_of_length_eq_zero h1)
  ·exact .inr ⟨k,hk,.inr hk,by have := (hlk k hk).1; omega⟩
 ·rcases hy with hy | hy
  ·exact .inl hy
  ·exact .inr ⟨(hlk y hy).1,(hlk y hy).2,own_other hK.2 ho (by decide) hy⟩
abbrev TGk : Nat := 65
abbrev TSl : Nat := 24
def nZ (l : List Nat) : List Int := l.map fun n => ((n : Nat) : Int)
theorem nZ_len (l : List Nat) : (nZ l).length = l.length := by unfold nZ; rw [List.length_map]
theorem nZ_app (a b : List Nat) : nZ (a ++ b) = nZ a ++ nZ b := by unfold nZ; rw [List.map_append]
def nRow (l : List Nat) : Nat × List Value := (l.length,(nZ l).map (Value.int .i64))
/-- The blocks of a list of lists. -/
def LsQ (vo : Value) (vs : List Value) (b : Nat) : Prop := vo.ownBlock = some b ∨ ∃ (i : Nat) (v : Value),vs[i]? = some v ∧ v.ownBlock = some b
theorem GSt.lt {To e sz base : Nat} {w : World} {vo : Value} {vs : List Value} {ns : List (Nat × List Value)} (h : GSt To e sz w base vo vs ns) {b : Nat} (hb : LsQ vo vs b) : base ≤ b ∧ b < w.heap.size := by
 rcases hb with h1 | ⟨i,v,h1,h2⟩
 ·exact h.l.o.lt b h1
 ·obtain ⟨p,hp⟩ := get_of_lt (l := ns) (i := i) (by have := lt_of_get h1; have := h.l.len; omega)
  exact (h.l.inn i v p h1 hp).lt b h2
theorem GSt.chgQ {M : Nat → Prop} {To e sz base : Nat} {w w' : World} {vo : Value} {vs : List Value} {ns : List (Nat × List Value)} (h : GSt To e sz w base vo vs ns) (c : Chg M w w') (hM : ∀ b,LsQ vo vs b → ¬ M b) : GSt To e sz w' base vo vs ns :=
 ⟨⟨own_chg h.l.o c fun b hb => hM b (.inl hb),h.l.len,fun i v p hv hp => own_chg (h.l.inn i v p hv hp) c fun b hb => hM b (.inr ⟨i,v,hv,hb⟩),h.l.apo⟩,h.ap⟩
/-- A list of numbers that is not written again. -/
def FrI (F : Nat → Prop) (w : World) (v : Value) (l : List Nat) : Prop := IntsAt w v (nZ l) ∧ (l = [] ∨ ∃ b,v.ownBlock = some b ∧ F b)
theorem FrI.chg {F M : Nat → Prop} {w w' : World} {v : Value} {l : List Nat} (h : FrI F w v l) (c : Chg M w w') (hM : ∀ y,F y → ¬ M y) : FrI F w' v l := by
 refine ⟨slAt_keep h.1 c ?_,h.2⟩
 rcases h.2 with h1 | ⟨b,h1,h2⟩
 ·exact .inl (by rw [h1]; rfl)
 ·exact .inr ⟨b,h1,hM b h2⟩
theorem FrI.ext {F : Nat → Prop} {w w' : World} {v : Value} {l : List Nat} (h : FrI F w v l) (e : Ext w w') : FrI F w' v l := h.chg e fun _ _ f => f
theorem FrI.mono {F F' : Nat → Prop} {w : World} {v : Value} {l : List Nat} (h : FrI F w v l) (hF : ∀ y,F y → F' y) : FrI F' w v l := ⟨h.1,h.2.imp id fun ⟨b,h1,h2⟩ => ⟨b,h1,hF b h2⟩⟩
theorem FrI.nil (F : Nat → Prop) (w : World) : FrI F w (.slice none 0 0) [] := ⟨SlAt.nil w 1 _ _,.inl rfl⟩
/-- What is known of a part of an expression, as a value. -/
def PtAt (F : Nat → Prop) (w : World) (p : Pt) (v : Value) : Prop := ∃ a c a2 c2,v = .agg #[.bool p.nul,.slice a p.fst.length c,.slice a2 p.lst.length c2] ∧ FrI F w (.slice a p.fst.length c) p.fst ∧ FrI F w (.slice a2 p.lst.length c2) p.lst
theorem PtAt.chg {F M : Nat → Prop} {w w' : World} {p : Pt} {v : Value} (h : PtAt F w p v) (c : Chg M w w') (hM : ∀ y,F y → ¬ M y) : PtAt F w' p v := by
 obtain ⟨a,d,a2,c2,h1,h2,h3⟩ := h
 exact ⟨a,d,a2,c2,h1,h2.chg c hM,h3.chg c hM⟩
theorem PtAt.ext {F : Nat → Prop} {w w' : World} {p : Pt} {v : Value} (h : PtAt F w p v) (e : Ext w w') : PtAt F w' p v := h.chg e fun _ _ f => f
def SetF (F : Nat → Prop) (w : World) (zs : List (List Sp)) (us : List Value) : Prop := us.length = zs.length ∧ ∀ (i : Nat) u z,us[i]? = some u → zs[i]? = some z → SpansAt w u z ∧ (z = [] ∨ ∃ b,u.ownBlock = some b ∧ F b)
theorem SetF.chg {F M : Nat → Prop} {w w' : World} {zs : List (List Sp)} {us : List Value} (h : SetF F w zs us) (c : Chg M w w') (hM : ∀ y,F y → ¬ M y) : SetF F w' zs us := by
 refine ⟨h.1,fun i u z hu hz => ?_⟩
 obtain ⟨h1,h2⟩ := h.2 i u z hu hz
 refine ⟨slAt_keep h1 c ?_,h2⟩
 rcases h2 with h2 | ⟨b,h2,h3⟩
 ·exact .inl (by rw [h2]; rfl)
 ·exact .inr ⟨b,h2,hM b h3⟩
theorem SetF.mono {F F' : Nat → Prop} {w : World} {zs : List (List Sp)} {us : List Value} (h : SetF F w zs us) (hF : ∀ y,F y → F' y) : SetF F' w zs us := ⟨h.1,fun i u z hu hz => by obtain ⟨h1,h2⟩ := h.2 i u z hu hz; exact ⟨h1,h2.imp id fun ⟨b,h3,h4⟩ => ⟨b,h3,hF b h4⟩⟩⟩
theorem SetF.snoc {F : Nat → Prop} {w : World} {zs : List (List Sp)} {us : List Value} {u : Value} {z : List Sp} (h : SetF F w zs us) (h1 : SpansAt w u z) (h2 : z = [] ∨ ∃ b,u.ownBlock = some b ∧ F b) : SetF F w (zs ++ [z]) (us ++ [u]) := by
 refine ⟨by simp [h.1],fun i x y hx hy => ?_⟩
 rcases Nat.lt_or_ge i us.length with hi | hi
 ·rw [List.getElem?_append_left hi] at hx
  rw [List.getElem?_append_left (by have := h.1; omega)] at hy
  exact h.2 i x y hx hy
 ·have := lt_of_get hx
  simp at this
  obtain rfl : i = us.length := by omega
  rw [List.getElem?_append_right (Nat.le_refl _),Nat.sub_self] at hx
  rw [h.1,List.getElem?_append_right (Nat.le_refl _),Nat.sub_self] at hy
  simp at hx hy
  subst hx; subst hy
  exact ⟨h1,h2⟩
structure GkSt (F : Nat → Prop) (w : World) (base pb : Nat) (sv fv : Value) (vs : List Value) (g : GS) : Prop where
 blk : Blk w pb #[sv,fv] TGk
 sets : ∃ us,w.ownsRow base TSl 1 sv g.sets.length us ∧ SetF F w g.sets us
 fol : GSt TDIs TDI 1 w base fv vs (g.fol.map nRow)
 hsF : ∀ b,sv.ownBlock = some b → ¬ F b
 hfF : ∀ b,LsQ fv vs b → ¬ F b
 apt : ∀ b,sv.ownBlock = some b → ¬ LsQ fv vs b
 hp : ¬ F pb
 aps : sv.ownBlock ≠ some pb ∧ ¬ LsQ fv vs pb
 bs : base ≤ w.heap.size
 fl : ∀ y,F y → y < w.heap.size
def GM (pb : Nat) (sv fv : Value) (vs : List Value) (y : Nat) : Prop := y = pb ∨ sv.ownBlock = some y ∨ LsQ fv vs y
section
variable {F F' F2 M : Nat → Prop} {w0 w w' w2 wb : World} {base pb : Nat} {sv fv sv' fv' sv2 fv2 : Value} {vs vs' vs2 : List Value} {g g' g2 : GS}
theorem GkSt.chg (h : GkSt F w base pb sv fv vs g) (c : Chg M w w') (hM : ∀ y,F y → ¬ M y) (h1 : ∀ y,GM pb sv fv vs y → ¬ M y) : GkSt F w' base pb sv fv vs g := by
 obtain ⟨us,h4,h5⟩ := h.sets
 exact ⟨c.keep (h1 pb (.inl rfl)) h.blk,⟨us,own_chg h4 c fun k hk => h1 k (.inr (.inl hk)),h5.chg c hM⟩,h.fol.chgQ c fun b hb => h1 b (.inr (.inr hb)),h.hsF,h.hfF,h.apt,h.hp,h.aps,Nat.le_trans h.bs c.size,fun y hy => Nat.lt_of_lt_of_le (h.fl y hy) c.size⟩
theorem GkSt.ext (h : GkSt F w base pb sv fv vs g) (c : Ext w w') : GkSt F w' base pb sv fv vs g := h.chg c (fun _ _ f => f) fun _ _ f => f
theorem GkSt.low (h : GkSt F w base pb sv fv vs g) : ∀ y,GM pb sv fv vs y → y < w.heap.size := fun y hy => by
 obtain ⟨us,h3,_⟩ := h.sets
 rcases hy with h1 | h1 | h1
 ·rw [h1]; exact h.blk.lt
 ·exact (h3.lt y h1).2
 ·exact (h.fol.lt h1).2
theorem GkSt.kept (h : GkSt F w base pb sv fv vs g) {b : Nat} (hb : F b) : ¬ GM pb sv fv vs b := fun hm => hm.elim (fun e => h.hp (e ▸ hb)) fun e => e.elim (fun e => h.hsF b e hb) fun e => h.hfF b e hb
structure GrG (F : Nat → Prop) (w0 : World) (base pb : Nat) (sv fv : Value) (vs : List Value) (F' : Nat → Prop) (sv' fv' : Value) (vs' : List Value) (g' : GS) (w : World) : Prop where
 sub : ∀ y,F y → F' y
 new : ∀ y,F' y → F y ∨ w0.heap.size ≤ y
 st : GkSt F' w base pb sv' fv' vs' g'
 chg : Chg (GM pb sv fv vs) w0 w
 os : ∀ k,sv'.ownBlock = some k → sv.ownBlock = some k ∨ w0.heap.size ≤ k
 of : ∀ k,LsQ fv' vs' k → LsQ fv vs k ∨ w0.heap.size ≤ k
theorem GrG.start (h : GkSt F w0 base pb sv fv vs g) : GrG F w0 base pb sv fv vs F sv fv vs g w0 := ⟨fun _ h => h,fun _ h => .inl h,h,Chg.refl _ _,fun _ h => .inl h,fun _ h => .inl h⟩
theorem GrG.ext (h : GrG F w0 base pb sv fv vs F' sv' fv' vs' g' w) (e : Ext w w2) : GrG F w0 base pb sv fv vs F' sv' fv' vs' g' w2 := ⟨h.sub,h.new,h.st.ext e,h.chg.ext e,h.os,h.of⟩
theorem GrG.olds (h : GrG F w0 base pb sv fv vs F' sv' fv' vs' g' w) : ∀ y,GM pb sv' fv' vs' y → GM pb sv fv vs y ∨ w0.heap.size ≤ y := fun y hy => by
 rcases hy with h1 | h1 | h1
 ·exact .inl (.inl h1)
 ·exact (h.os y h1).imp (fun h => .inr (.inl h)) id
 ·exact (h.of y h1).imp (fun h => .inr (.inr h)) id
theorem GrG.comp (h : GrG F w0 base pb sv fv vs F' sv' fv' vs' g' w) (b : GrG F' w base pb sv' fv' vs' F2 sv2 fv2 vs2 g2 w2) : GrG F w0 base pb sv fv vs F2 sv2 fv2 vs2 g2 w2 := by
 have hs := h.chg.size
 refine ⟨fun y hy => b.sub y (h.sub y hy),fun y hy => ?_,b.st,h.chg.step b.chg fun x hx hm => ?_,fun k hk => ?_,fun k hk => ?_⟩
 ·rcases b.new y hy with h1 | h1
  ·exact h.new y h1
  ·exact .inr (by omega)
 ·rcases h.olds x hm with h1 | h1
  ·exact h1
  ·omega
 ·rcases b.os k hk with h1 | h1
  ·exact h.os k h1
  ·exact .inr (by omega)
 ·rcases b.of k hk with h1 | h1
  ·exact h.of k h1
  ·exact .inr (by omega)
theorem GrG.base' (h : GrG F w0 base pb sv fv vs F' sv' fv' vs' g' w) (h0 : GkSt F w0 base pb sv fv vs g) (hF : ∀ y,y < wb.heap.size → F y) (hE : Ext wb w0) : Ext wb w :=
 hE.step h.chg fun x hx hm => h0.kept (hF x hx) hm
theorem GrG.pan (h : GrG F w0 base pb sv fv vs F' sv' fv' vs' g' w) (c : Chg (GM pb sv' fv' vs') w w2) : Chg (GM pb sv fv vs) w0 w2 :=
 h.chg.step c fun x hx hm => by
  rcases h.olds x hm with h1 | h1
  ·exact h1
  ·omega
/-- A row has grown. -/
theorem GrG.row {gb n cap m' p : Nat} {v v' : Value} {l to : List Nat} {cur : Array Value} (h : GkSt F w base pb sv (.slice (some ⟨gb,0,none⟩) n cap) vs g) (hn : n = g.fol.length) (hv : vs[p]? = some v) (hl : g.fol[p]? = some l)
  (Ov : w'.ownsRow base TDI 1 v' m' ((nZ (l ++ to)).map (Value.int .i64))) (hm : m' = (l ++ to).length) (Cv : Chg (fun x => v.ownBlock = some x) w w') (Wv : ∀ k,v'.ownBlock = some k → v.ownBlock = some k ∨ w.heap.size ≤ k) (hB : Blk w' gb cur TDIs) (P : Put w' w2 gb (cur.setIfInBounds p v') TDIs) :
  GrG F w base pb sv (.slice (some ⟨gb,0,none⟩) n cap) vs F sv (.slice (some ⟨gb,0,none⟩) n cap) (vs.set p v') ⟨g.sets,lnk1 g.fol to p⟩ w2 := by
 have hp1 : (g.fol.map nRow)[p]? = some (l.length,(nZ l).map (Value.int .i64)) := by rw [List.getElem?_map,hl]; rfl
 have hG := h.fol.grow (by rw [List.length_map]; exact hn) hv hp1 (m' := m') (xs' := (nZ (l ++ to)).map (Value.int .i64)) Ov Cv Wv hB P
 have he : (g.fol.map nRow).set p (m',(nZ (l ++ to)).map (Value.int .i64)) = (lnk1 g.fol to p).map nRow := by
  unfold lnk1
  rw [List.map_set,List.getD_eq_getElem?_getD,hl,hm]; rfl
 rw [he] at hG
 have hold : ∀ k,LsQ (.slice (some ⟨gb,0,none⟩) n cap) (vs.set p v') k → LsQ (.slice (some ⟨gb,0,none⟩) n cap) vs k ∨ w.heap.size ≤ k := fun k hk => by
  rcases hk with h1 | ⟨i,u,h1,h2⟩
  ·exact .inl (.inl h1)
  ·rw [List.getElem?_set] at h1
   split at h1
   ·rename_i e
    split at h1
    ·cases h1
     rcases Wv k h2 with h3 | h3
     ·exact .inl (.inr ⟨p,v,hv,h3⟩)
     ·exact .inr h3
    ·cases h1
   ·exact .inl (.inr ⟨i,u,h1,h2⟩)
 have hgb : LsQ (.slice (some ⟨gb,0,none⟩) n cap) vs gb := .inl rfl
 have hvb : ∀ y,v.ownBlock = some y → LsQ (.slice (some ⟨gb,0,none⟩) n cap) vs y := fun y hy => .inr ⟨p,v,hv,hy⟩
 obtain ⟨us,h3,h4⟩ := h.sets
 have hC : Chg (GM pb sv (.slice (some ⟨gb,0,none⟩) n cap) vs) w w2 := (Cv.mono fun y _ hy => .inr (.inr (hvb y hy))).step P.chg fun x hx e => .inr (.inr (by have e' : x = gb := e; rw [e']; exact hgb))
 have hlow := h.low
 refine ⟨fun _ h => h,fun _ h => .inl h,⟨?_,⟨us,own_chg (own_chg h3 Cv fun k hk e => h.apt k hk (hvb k e)) P.chg fun k hk e => h.apt k hk (by have e' : k = gb := e; rw [e']; exact hgb),(h4.chg Cv fun y hy e => h.hfF y (hvb y e) hy).chg P.chg fun y hy e => h.hfF y (by have e' : y = gb := e; rw [e']; exact hgb) hy⟩,hG,h.hsF,fun b hb hf => ?_,fun b hb hq => ?_,h.hp,⟨h.aps.1,fun hq => ?_⟩,Nat.le_trans h.bs hC.size,fun y hy => Nat.lt_of_lt_of_le (h.fl y hy) hC.size⟩,hC,fun _ h => .inl h,hold⟩
 ·exact P.chg.keep (fun e => h.aps.2 (by have e' : pb = gb := e; rw [e']; exact hgb)) (Cv.keep (fun e => h.aps.2 (hvb pb e)) h.blk)
 ·rcases hold b hb with h1 | h1
  ·exact h.hfF b h1 hf
  ·have := h.fl b hf; omega
 ·rcases hold b hq with h1 | h1
  ·exact h.apt b hb h1
  ·have := (h3.lt b hb).2; omega
 ·rcases hold pb hq with h1 | h1
  ·exact h.aps.2 h1
  ·have := hlow pb (.inl rfl); omega
end
theorem DoesT_appendAny {P : Program} {N : Nat} {σ : Env} {w : World} {dst : Option Tmp} {ty : TypeId} {pos : String} {af : Array Edge} {g : Option (Nat × Bool)} {M : Nat → Prop} {t : TypeId} {s x : Operand} {base e size bytes n m c hs : Nat} {ax : Option Addr} {z v : Value} {xs news : List Value} (hu : P.underlying t = some (.slice e)) (hsz : Siz P e size) (hby : Byt P e bytes) (hz : Zer P e z) (hzs : z.cells.size = size) (h0 : 0 < size)
  (he : ev σ s = v) (hown : w.ownsRow base e size v n xs) (hx : ev σ x = .slice ax m c) (hl : news.length = m * size) (hany : (m = 0 ∧ news = []) ∨ ∃ bx ox,ax = some ⟨bx,ox,none⟩ ∧ CellsAt w bx ox news) (h1 : ∀ u ∈ news,u.oneCell' = true)
  (h63 : n + m ≤ maxLen) (hbytes : (n + m) * bytes ≤ 140737488355328) (hbase : base ≤ w.heap.size) (hM : ∀ y,v.ownBlock = some y → M y) (hhs : hs ≤ w.heap.size) :
  DoesT M P N ⟨dst,.call ⟨.builtin .append,#[s,x],#[t,t]⟩,ty,pos,af,g⟩ (appF base e size (n + m) (xs ++ news) v hs) σ w := by
 rcases hany with ⟨rfl,rfl⟩ | ⟨bx,ox,rfl,hc⟩
 ·obtain ⟨a,c',rfl⟩ := own_form hown
  exact DoesT_val (r_append0 hu hsz he (own_le hown) hx) (Chg.refl _ _) ⟨⟨a,c',rfl⟩,by simpa using hown,fun _ h => .inl h⟩
 ·exact DoesT_append hu hsz hby hz hzs h0 he hown hx hl hc h1 h63 hbytes hbase hM hhs
theorem growi_c (w0 : World) (n : Nat) (hn : n ≤ 8796093022208) :
  Ret Tryz.prog 81 #[.slice none 0 0,.int .i64 ((n : Nat) : Int)] w0 fun r w => (∃ a c,r = .slice a 0 c) ∧ w.ownsRow w0.heap.size TDI 1 r 0 [] ∧ Ext w0 w := by
 refine Ret_of Tryz.func81 rfl Tryz.ntmps81 (Nat.le_of_ble_eq_true rfl) ?_
 have E : Chg none1 w0 w0 := Chg.refl _ _
 refine Wp_seq_region ?_
 refine qA (.slice none 0 0) rfl ?_
 refine WpL_nil (Wp_seq (Wp_seq_region ?_))
 refine qM (I6 (n : Int)) rfl ?_
 refine qV (r_lss (k := .i64) (a := (n : Int)) (b := 0) rfl rfl) ?_
 refine WpL_nil ?_
 have hc1 : (decide ((((n : Nat) : Int) : Int) < 0)) = false := decide_eq_false (by omega)
 refine Wp_cond_false (congrArg Value.bool hc1) ?_
 refine Wp_skip (thn_normal (Wp_seq (Wp_seq_region ?_)))
 refine qM (I6 (n : Int)) rfl ?_
 refine qM (.slice none 0 0) rfl ?_
 refine qV (r_capSlice (n := 0) (cap := 0) Tryz.underlying22 rfl) ?_
 refine qM (.slice none 0 0) rfl ?_
 refine qV (r_lenSlice (ad := none) (n := 0) (cap := 0) Tryz.underlying22 rfl) ?_
 refine qV (r_sub (k := .i64) (a := 0) (b := 0) (c := 0) rfl rfl (by decide)) ?_
 refine qV (r_sub (k := .i64) (a := (n : Int)) (b := 0) (c := (n : Int)) rfl rfl ((wI64 (by omega)).trans (by omega))) ?_
 refine qA (I6 (n : Int)) rfl ?_
 refine WpL_nil (Wp_seq_region ?_)
 refine qM (I6 (n : Int)) rfl ?_
 refine qV (r_gtr (k := .i64) (a := (n : Int)) (b := 0) rfl rfl) ?_
 refine WpL_nil ?_
 refine Wp_cond (b := decide ((0 : Int) < (n : Int))) rfl (fun hp => ?_) (fun hp => ?_)
 ·have khp := hp
  replace hp := of_decide_eq_true hp
  refine Wp_region ?_
  refine qM (.slice none 0 0) rfl ?_
  refine qM (.slice none 0 0) rfl ?_
  refine qV (r_capSlice (n := 0) (cap := 0) Tryz.underlying22 rfl) ?_
  obtain ⟨a1,ha1⟩ : ∃ a' : Option Addr,(if 0 = 0 then none else Option.map (fun q : Addr => q.add (0 * 1)) none) = a' := ⟨_,rfl⟩
  refine qV (r_sliceHi (a := none) (len := 0) (cap := 0) (hi := 0) (l := 0) Tryz.underlying22 siz3 rfl rfl (by omega) (by omega) ha1) ?_
  refine qM (I6 (n : Int)) rfl ?_
  simp at ha1
  subst ha1
  refine s_appendZ (base := w0.heap.size) (n := n) (size := 1) (bytes := 8) (by decide) Tryz.underlying22 Tryz.underlying3 siz3 byt3 zer3 rfl (by decide) rfl rfl (by omega) (by omega) (by omega) ?_
  intro cc w9 X9 O9 H9
  replace E := E.ext X9
  refine qM (.slice none 0 0) rfl ?_
  refine qV (r_lenSlice (ad := none) (n := 0) (cap := 0) Tryz.underlying22 rfl) ?_
  obtain ⟨a2,ha2⟩ : ∃ a' : Option Addr,(if cc = 0 then (some ⟨w0.heap.size,0,none⟩) else Option.map (fun q : Addr => q.add (0 * 1)) (some ⟨w0.heap.size,0,none⟩)) = a' := ⟨_,rfl⟩
  refine qV (r_sliceHi (a := (some ⟨w0.heap.size,0,none⟩)) (len := n) (cap := cc) (hi := 0) (l := 0) Tryz.underlying22 siz3 rfl rfl (by omega) (by omega) ha2) ?_
  have ha3 : a2 = some ⟨w0.heap.size,0,none⟩ := by rw [← ha2,if_neg (by omega)]; simp [Addr.add_lit]
  subst ha3
  refine qA (.slice (some ⟨w0.heap.size,0,none⟩) 0 cc) rfl ?_
  refine WpL_nil (thn_normal (Wp_seq_region ?_))
  refine qM (.slice (some ⟨w0.heap.size,0,none⟩) 0 cc) rfl ?_
  refine qA (.slice (some ⟨w0.heap.size,0,none⟩) 0 cc) rfl ?_
  refine WpL_nil (Wp_ret ?_)
  refine fin_tmp Tryz.results81 (v := (.slice (some ⟨w0.heap.size,0,none⟩) 0 cc)) rfl ?_
  exact ⟨⟨_,_,rfl⟩,O9,E⟩
 ·have khp := hp
  replace hp := of_decide_eq_false hp
  refine Wp_skip (thn_normal (Wp_seq_region ?_))
  refine qM (.slice none 0 0) rfl ?_
  refine qA (.slice none 0 0) rfl ?_
  refine WpL_nil (Wp_ret ?_)
  refine fin_tmp Tryz.results81 (v := (.slice none 0 0)) rfl ?_
  exact ⟨⟨none,0,rfl⟩,World.ownsRow_nil _ _ _ _,E⟩
theorem ilens_take {ll : List (List Int)} {k : Nat} {l : List Int} (h : ll[k]? = some l) : (ll.take (k + 1)).flatten = (ll.take k).flatten ++ l := by
 rw [List.take_add_one,h]; simp
theorem ilens_le (ll : List (List Int)) (k : Nat) : (ll.take k).flatten.length ≤ ll.flatten.length := by
 have h : ll.flatten = (ll.take k).flatten ++ (ll.drop k).flatten := by rw [← List.flatten_append,List.take_append_drop]
 rw [h,List.length_append]; omega
theorem ints_one (l : List Int) : ∀ x ∈ l.map (Value.int .i64),x.oneCell' = true := by
 intro x hx
 obtain ⟨y,_,rfl⟩ := List.mem_map.1 hx
 rfl
theorem concati_c (w0 : World) (v : Value) (ll : List (List Int)) (h : IntssAt w0 v ll) (hl : ll.flatten.length ≤ 8796093022208) :
  Ret Tryz.prog 57 #[v] w0 fun r w => (∃ a c,r = .slice a ll.flatten.length c) ∧ w.ownsRow w0.heap.size TDI 1 r ll.flatten.length (ll.flatten.map (Value.int .i64)) ∧ Ext w0 w := by
 obtain ⟨a,c,rfl,_,hle⟩ := h.form
 obtain ⟨base,hbase⟩ : ∃ base,base = w0.heap.size := ⟨_,rfl⟩
 rw [← hbase]
 refine Ret_of Tryz.func57 rfl Tryz.ntmps57 (Nat.le_of_ble_eq_true rfl) ?_
 have E : Chg none1 w0 w0 := Chg.refl _ _
 refine Wp_seq_region ?_
 refine qA (.slice none 0 0) rfl ?_
 refine WpL_nil (Wp_seq_region ?_)
 refine qA (I6 0) rfl ?_
 refine WpL_nil (Wp_seq (Wp_seq_region ?_))
 refine qM (.slice a ll.length c) rfl ?_
 refine qV (r_lenSlice (ad := a) (n := ll.length) (cap := c) Tryz.underlying62 rfl) ?_
 refine qM (I6 0) rfl ?_
 refine WpL_nil (Wp_block ?_)
 refine Wp_loop (fun nn_ σ W1 => ∃ (k : Nat) (n : Nat),(∃ jj_,σ = upds jj_ [(0,(.slice a ll.length c)),(9,(.slice a ll.length c)),(10,(I6 (ll.length : Int))),(11,(I6 (k : Int))),(3,(I6 (n : Int)))]) ∧ Chg none1 w0 W1 ∧ (k ≤ ll.length) ∧ (n = (ll.take k).flatten.length) ∧ nn_ = ll.length - k) (n := ll.length - 0) ?_ ?_
 ·exact ⟨0,0,Fits.out ⟨rfl,rfl,rfl,rfl,rfl,trivial⟩,E,Nat.zero_le _,rfl,rfl⟩
 ·clear E
  rintro _ _ W1 ⟨k,n,⟨j1,rfl⟩,E,hk,hn,rfl⟩
  refine Wp_seq_region ?_
  refine qV (r_lss (k := .i64) (a := (k : Int)) (b := (ll.length : Int)) rfl rfl) ?_
  refine WpL_nil (Wp_seq ?_)
  refine Wp_cond (b := decide (((k : Int) : Int) < (ll.length : Int))) rfl (fun hlt => ?_) (fun hlt => ?_)
  ·have khlt := hlt
   replace hlt := of_decide_eq_true hlt
   obtain ⟨l,hx⟩ := get_of_lt (l := ll) (i := k) (by omega)
   obtain ⟨b,o,rfl,hcl⟩ := intss_cells h (by omega)
   obtain ⟨ra,rc,hcell,hsp⟩ := hcl k l hx
   have hn1 := ilens_le ll (k + 1)
   rw [ilens_take hx,List.length_append] at hn1
   refine Wp_skip (thn_normal (Wp_seq (Wp_block (Wp_seq_region ?_))))
   refine qV (r_indexSlice (b := b) (o := o) (len := ll.length) (cap := c) (i := k) (o' := o + k) rfl rfl rfl Tryz.underlying62 siz22 (by omega) (by omega)) ?_
   refine qV (r_load (v := (.slice ra l.length rc)) rfl flat22 (E.cell (fun f => f) hcell)) ?_
   refine qA (.slice ra l.length rc) rfl ?_
   refine WpL_nil (Wp_seq_region ?_)
   refine qM (I6 (n : Int)) rfl ?_
   refine qM (.slice ra l.length rc) rfl ?_
   refine qV (r_lenSlice (ad := ra) (n := l.length) (cap := rc) Tryz.underlying22 rfl) ?_
   refine qV (r_add (k := .i64) (a := (n : Int)) (b := (l.length : Int)) (c := ((n + l.length : Nat) : Int)) rfl rfl ((wI64 (by omega)).trans (by omega))) ?_
   refine qA (I6 ((n + l.length : Nat) : Int)) rfl ?_
   refine WpL_nil (Wp_seq_region ?_)
   refine qM (I6 ((n + l.length : Nat) : Int)) rfl ?_
   refine qV (r_lss (k := .i64) (a := ((n + l.length : Nat) : Int)) (b := 0) rfl rfl) ?_
   refine WpL_nil ?_
   have hc3 : (decide ((((n + l.length : Nat) : Int) : Int) < 0)) = false := decide_eq_false (by omega)
   refine Wp_cond_false (congrArg Value.bool hc3) ?_
   refine Wp_skip (inB_normal (thn_normal (Wp_region ?_)))
   refine qV (r_add (k := .i64) (a := (k : Int)) (b := 1) (c := (k : Int) + 1) rfl rfl (wI64 (by omega))) ?_
   refine qM (I6 ((k : Int) + 1)) rfl ?_
   refine WpL_nil (thn_normal ?_)
   exact ⟨ll.length - (k + 1),by omega,k + 1,n + l.length,Fits.out ⟨rfl,rfl,rfl,rfl,rfl,trivial⟩,E,(by omega),(by rw [ilens_take hx,List.length_append,hn]),rfl⟩
  ·have khlt := hlt
   replace hlt := of_decide_eq_false hlt
   have hkk : k = ll.length := by omega
   have hn2 := ilens_le ll k
   have hs0 := E.size
   refine Wp_exit (thn_exit (thn_exit (inB_here (thn_normal (Wp_seq_region ?_)))))
   refine qM (I6 (n : Int)) rfl ?_
   refine WpL_enter rfl rfl (by decide) (r_callF (vs := [(.slice none 0 0),(I6 (n : Int))]) Tryz.func81 kQ kQ rfl) (growi_c _ n (by omega)) ?_
   rintro _ w9 ⟨⟨ga,gc,rfl⟩,O9,X9⟩
   replace E := E.ext X9
   have hO9 : w9.ownsRow base TDI 1 (.slice ga 0 gc) 0 [] := own_low O9 (by omega)
   refine qA (.slice ga 0 gc) rfl ?_
   refine WpL_nil (Wp_seq (Wp_seq_region ?_))
   refine qM (.slice a ll.length c) rfl ?_
   refine qV (r_lenSlice (ad := a) (n := ll.length) (cap := c) Tryz.underlying62 rfl) ?_
   refine qM (I6 0) rfl ?_
   refine WpL_nil (Wp_block ?_)
   refine Wp_loop (fun nn_ σ W4 => ∃ (i : Nat) (la : Option Addr) (lc : Nat) (m : Nat),(∃ jj_,σ = upds jj_ [(25,(.slice a ll.length c)),(26,(I6 (ll.length : Int))),(27,(I6 (i : Int))),(6,(.slice la m lc))]) ∧ Chg none1 w0 W4 ∧ (i ≤ ll.length) ∧ (m = (ll.take i).flatten.length) ∧ (W4.ownsRow base TDI 1 (.slice la m lc) m (((ll.take i).flatten).map (Value.int .i64))) ∧ (base ≤ W4.heap.size) ∧ nn_ = ll.length - i) (n := ll.length - 0) ?_ ?_
   ·exact ⟨0,ga,gc,0,Fits.out ⟨rfl,rfl,rfl,rfl,trivial⟩,E,Nat.zero_le _,rfl,hO9,(by have := E.size; omega),rfl⟩
   ·clear E
    rintro _ _ W4 ⟨i,la,lc,m,⟨j4,rfl⟩,E,hi,hm,hown,hbs,rfl⟩
    refine Wp_seq_region ?_
    refine qV (r_lss (k := .i64) (a := (i : Int)) (b := (ll.length : Int)) rfl rfl) ?_
    refine WpL_nil (Wp_seq ?_)
    refine Wp_cond (b := decide (((i : Int) : Int) < (ll.length : Int))) rfl (fun hlt2 => ?_) (fun hlt2 => ?_)
    ·have khlt2 := hlt2
     replace hlt2 := of_decide_eq_true hlt2
     obtain ⟨l,hx⟩ := get_of_lt (l := ll) (i := i) (by omega)
     obtain ⟨b,o,rfl,hcl⟩ := intss_cells h (by omega)
     obtain ⟨ra,rc,hcell,hsp⟩ := hcl i l hx
     have hn1 := ilens_le ll (i + 1)
     rw [ilens_take hx,List.length_append] at hn1
     have hmc : m ≤ lc := own_le hown
     rcases Bool.eq_false_or_eq_true (decide (l.length = 0)) with hz | hz
     ·have khz := hz
      replace khz := of_decide_eq_true khz
      refine Wp_skip (thn_normal (Wp_seq (Wp_block (Wp_seq_region ?_))))
      refine qV (r_indexSlice (b := b) (o := o) (len := ll.length) (cap := c) (i := i) (o' := o + i) rfl rfl rfl Tryz.underlying62 siz22 (by omega) (by omega)) ?_
      refine qV (r_load (v := (.slice ra l.length rc)) rfl flat22 (E.cell (fun f => f) hcell)) ?_
      refine qA (.slice ra l.length rc) rfl ?_
      refine WpL_nil (Wp_region ?_)
      refine qM (.slice la m lc) rfl ?_
      refine qM (.slice ra l.length rc) rfl ?_
      refine qV (r_append0 Tryz.underlying22 siz3 (a' := ra) (c' := rc) rfl hmc (by show Value.slice ra l.length rc = _; rw [khz])) ?_
      refine qA (.slice la m lc) rfl ?_
      refine WpL_nil (inB_normal (thn_normal (Wp_region ?_)))
      refine qV (r_add (k := .i64) (a := (i : Int)) (b := 1) (c := (i : Int) + 1) rfl rfl (wI64 (by omega))) ?_
      refine qM (I6 ((i : Int) + 1)) rfl ?_
      refine WpL_nil (thn_normal ?_)
      have hl0 : l = [] := List.eq_nil_of_length_eq_zero khz
      exact ⟨ll.length - (i + 1),by omega,i + 1,la,lc,m,Fits.out ⟨rfl,rfl,rfl,rfl,trivial⟩,E,(by omega),(by rw [ilens_take hx,hl0,List.append_nil,hm]),(by rw [ilens_take hx,hl0,List.append_nil]; exact hown),hbs,rfl⟩
     ·have khz := hz
      replace khz := of_decide_eq_false khz
      obtain ⟨rb,ro,rfl,hrc⟩ := ints_cells hsp (by omega)
      have hrc2 : CellsAt w0 rb ro (l.map (Value.int .i64)) := fun j u hu => by rw [List.getElem?_map,Option.map_eq_some_iff] at hu; obtain ⟨y,hy,rfl⟩ := hu; exact hrc j y hy
      refine Wp_skip (thn_normal (Wp_seq (Wp_block (Wp_seq_region ?_))))
      refine qV (r_indexSlice (b := b) (o := o) (len := ll.length) (cap := c) (i := i) (o' := o + i) rfl rfl rfl Tryz.underlying62 siz22 (by omega) (by omega)) ?_
      refine qV (r_load (v := (.slice (some ⟨rb,ro,none⟩) l.length rc)) rfl flat22 (E.cell (fun f => f) hcell)) ?_
      refine qA (.slice (some ⟨rb,ro,none⟩) l.length rc) rfl ?_
      refine WpL_nil (Wp_region ?_)
      refine qM (.slice la m lc) rfl ?_
      refine qM (.slice (some ⟨rb,ro,none⟩) l.length rc) rfl ?_
      refine s_append (base := base) (n := m) (m := l.length) (xs := (((ll.take i).flatten).map (Value.int .i64))) (news := l.map (Value.int .i64)) (size := 1) (bytes := 8) (v := (.slice la m lc)) (by decide) Tryz.underlying22 siz3 byt3 zer3 rfl (by decide) rfl hown rfl (by simp) (hrc2.ext E) (ints_one l) (by unfold maxLen; omega) (by omega) (hbs) ?_
      intro v9 w29 Ov9 Cv9 Dv9
      replace E := E.step Cv9 (fun x hx h => absurd (hown.lt x h).1 (by omega))
      obtain ⟨la2,lc2,rfl⟩ := own_form Ov9
      refine qA (.slice la2 (m + l.length) lc2) rfl ?_
      refine WpL_nil (inB_normal (thn_normal (Wp_region ?_)))
      refine qV (r_add (k := .i64) (a := (i : Int)) (b := 1) (c := (i : Int) + 1) rfl rfl (wI64 (by omega))) ?_
      refine qM (I6 ((i : Int) + 1)) rfl ?_
      refine WpL_nil (thn_normal ?_)
      exact ⟨ll.length - (i + 1),by omega,i + 1,la2,lc2,m + l.length,Fits.out ⟨rfl,rfl,rfl,rfl,trivial⟩,E,(by omega),(by rw [ilens_take hx,List.length_append,hm]),(by rw [ilens_take hx,List.map_append]; exact Ov9),Nat.le_trans hbs Cv9.size,rfl⟩
    ·have khlt2 := hlt2
     replace hlt2 := of_decide_eq_false hlt2
     have hii : i = ll.length := by omega
     refine Wp_exit (thn_exit (thn_exit (inB_here (thn_normal (Wp_seq_region ?_)))))
     refine qM (.slice la m lc) rfl ?_
     refine qA (.slice la m lc) rfl ?_
     refine WpL_nil (Wp_ret ?_)
     refine fin_tmp Tryz.results57 (v := (.slice la m lc)) rfl ?_
     rw [hii,List.take_length] at hown hm
     subst hm
     exact ⟨⟨la,lc,rfl⟩,hown,E⟩
theorem intss_blk {w : World} {b T n : Nat} {vs : List Value} {ll : List (List Int)} (hB : Blk w b vs.toArray T) (hl : vs.length = ll.length) (hn : vs.length = n) (hm : n ≤ 1000000) (h : ∀ (i : Nat) u l,vs[i]? = some u → ll[i]? = some l → IntsAt w u l) : IntssAt w (.slice (some ⟨b,0,none⟩) n n) ll := by
 refine ⟨vs,?_,hl,h⟩
 subst hn
 have := slat_of_blk (w := w) (b := b) (t := T) (k := 1) (cap := vs.length) (rows := vs.map fun x => [x]) (by rw [show (vs.map fun x => [x]).flatten = vs by simp [List.flatten_eq_flatMap,List.flatMap_map]]; exact hB) (by intro r hr; simp only [List.mem_map] at hr; obtain ⟨x,_,rfl⟩ := hr; rfl) (by simp; omega) (by simp)
 simpa using this
theorem nZ_get {l : List Nat} {i x : Nat} (h : l[i]? = some x) : (nZ l)[i]? = some ((x : Nat) : Int) := by unfold nZ; rw [List.getElem?_map,h]; rfl
theorem lnk_take {f : List (List Nat)} {src to : List Nat} {k p : Nat} (h : src[k]? = some p) : lnk f (src.take (k + 1)) to = lnk1 (lnk f (src.take k) to) to p := by rw [List.take_add_one,h]; exact lnk_snoc _ _ _ _
theorem glink_c (F : Nat → Prop) (w0 : World) (base pb : Nat) (sv fv : Value) (vs : List Value) (g : GS) (h : GkSt F w0 base pb sv fv vs g) (sa ta : Option Addr) (sc tc : Nat) (src to : List Nat) (hf : FrI F w0 (.slice sa src.length sc) src) (ht : FrI F w0 (.slice ta to.length tc) to) (hsrc : ∀ p ∈ src,p < g.fol.length) (hb : RowB 100000 g.fol) (hl1 : src.length ≤ 1000) (hl2 : to.length ≤ 1000) (hg0 : 0 < g.fol.length) :
  Ret Tryz.prog 58 #[.pointer (some ⟨pb,0,none⟩),.slice sa src.length sc,.slice ta to.length tc] w0 fun _ w => ∃ vs',GrG F w0 base pb sv fv vs F sv fv vs' ⟨g.sets,lnk g.fol src to⟩ w := by
 have hgl : (g.fol.map nRow).length = g.fol.length := List.length_map _
 obtain ⟨fa,fc,rfl⟩ := own_form h.fol.l.o
 rw [hgl] at h ⊢
 obtain ⟨gb,hgb,_,_⟩ := own_cells (h.fol.l.on hgl.symm) hg0
 subst hgb
 refine Ret_of Tryz.func58 rfl Tryz.ntmps58 (Nat.le_of_ble_eq_true rfl) ?_
 have E : Chg (GM pb sv (.slice (some ⟨gb,0,none⟩) g.fol.length fc) vs) w0 w0 := Chg.refl _ _
 refine Wp_seq_region ?_
 refine qM (.slice sa src.length sc) rfl ?_
 refine qV (r_lenSlice (ad := sa) (n := src.length) (cap := sc) Tryz.underlying22 rfl) ?_
 refine qM (I6 0) rfl ?_
 refine WpL_nil (Wp_block ?_)
 refine Wp_loop (fun nn_ σ W1 => ∃ (k : Nat) (vk : List Value),(∃ jj_,σ = upds jj_ [(0,(P6 pb 0)),(2,(.slice ta to.length tc)),(8,(.slice sa src.length sc)),(9,(I6 (src.length : Int))),(10,(I6 (k : Int)))]) ∧ Chg (GM pb sv (.slice (some ⟨gb,0,none⟩) g.fol.length fc) vs) w0 W1 ∧ (k ≤ src.length) ∧ (GrG F w0 base pb sv (.slice (some ⟨gb,0,none⟩) g.fol.length fc) vs F sv (.slice (some ⟨gb,0,none⟩) g.fol.length fc) vk ⟨g.sets,lnk g.fol (src.take k) to⟩ W1) ∧ (RowB (100000 + k * 1000) (lnk g.fol (src.take k) to)) ∧ nn_ = src.length - k) (n := src.length - 0) ?_ ?_
 ·exact ⟨0,vs,Fits.out ⟨rfl,rfl,rfl,rfl,rfl,trivial⟩,E,Nat.zero_le _,GrG.start h,hb,rfl⟩
 ·clear E
  rintro _ _ W1 ⟨k,vk,⟨j1,rfl⟩,E,hk,hG,hR,rfl⟩
  refine Wp_seq_region ?_
  refine qV (r_lss (k := .i64) (a := (k : Int)) (b := (src.length : Int)) rfl rfl) ?_
  refine WpL_nil (Wp_seq ?_)
  refine Wp_cond (b := decide (((k : Int) : Int) < (src.length : Int))) rfl (fun hlt => ?_) (fun hlt => ?_)
  ·have khlt := hlt
   replace hlt := of_decide_eq_true hlt
   obtain ⟨p,hp⟩ := get_of_lt (l := src) (i := k) (by omega)
   have hfW := hf.chg hG.chg fun y hy => h.kept hy
   have htW := ht.chg hG.chg fun y hy => h.kept hy
   obtain ⟨pb2,po,rfl,hpc⟩ := ints_cells hfW.1 (by omega)
   have hpn := hsrc p (List.mem_of_getElem? hp)
   have hln := lnk_len (src.take k) g.fol to
   obtain ⟨l0,hl0⟩ := get_of_lt (l := lnk g.fol (src.take k) to) (i := p) (by omega)
   have hst := hG.st
   have hvl : vk.length = g.fol.length := by have := hst.fol.l.len; rw [List.length_map] at this; exact this.trans hln
   obtain ⟨v1,hv1⟩ := get_of_lt (l := vk) (i := p) (by omega)
   have hp1 : ((lnk g.fol (src.take k) to).map nRow)[p]? = some (l0.length,(nZ l0).map (Value.int .i64)) := by rw [List.getElem?_map,hl0]; rfl
   have hinn := hst.fol.l.inn p v1 _ hv1 hp1
   have hinl := hinn.lt
   obtain ⟨va,vc,rfl⟩ := own_form hinn
   obtain ⟨gg,hgg,_,hg2⟩ := own_cells (hst.fol.l.on (n := g.fol.length) (by rw [List.length_map]; exact hln.symm)) (by omega)
   simp only [Option.some.injEq,Addr.mk.injEq,and_true] at hgg
   subst hgg
   have hblk := hst.blk
   have hbs := hst.bs
   have hr0 := hR p l0 hl0
   have hap : ∀ y,(Value.slice va l0.length vc).ownBlock = some y → y ≠ pb := fun y hy e => hst.aps.2 (.inr ⟨p,_,hv1,by rw [← e]; exact hy⟩)
   refine Wp_skip (thn_normal (Wp_seq (Wp_block (Wp_seq_region ?_))))
   refine qV (r_indexSlice (b := pb2) (o := po) (len := src.length) (cap := sc) (i := k) (o' := po + k) rfl rfl rfl Tryz.underlying22 siz3 (by omega) (by omega)) ?_
   refine qV (r_load (v := (I6 (p : Int))) rfl flat3 (hpc k _ (nZ_get hp))) ?_
   obtain ⟨h0,hh0⟩ : ∃ h0,h0 = (W1).heap.size := ⟨_,rfl⟩
   refine qA (I6 (p : Int)) rfl ?_
   refine WpL_nil ?_
   have hz_3 : w0.heap.size ≤ W1.heap.size := E.size
   have lz_3_pb : pb < W1.heap.size := hblk.lt
   obtain ⟨Fs3,hFs3⟩ : ∃ Fs : List FctS,Fs = [(eF (P6 pb 0)),(eF (P6 pb 0)),(eF (P6 pb 1)),(eF (.slice (some ⟨gb,0,none⟩) g.fol.length fc)),(eF (I6 (p : Int))),(eF (P6 pb 0)),(eF (P6 pb 0)),(eF (P6 pb 1)),(eF (.slice (some ⟨gb,0,none⟩) g.fol.length fc)),(eF (I6 (p : Int))),(eF (.pointer (some ⟨gb,0 + p,none⟩))),(eF (.slice va l0.length vc)),(eF (.slice ta to.length tc)),(fun _ _ => appF base TDI 1 (l0.length + to.length) ((nZ l0).map (Value.int .i64) ++ (nZ to).map (Value.int .i64)) (.slice va l0.length vc) h0),(eF undef),(eF undef)] := ⟨_,rfl⟩
   refine Wp_dagS (MsL [(13,(fun y => (Value.slice va l0.length vc).ownBlock = some y))]) [true,true,true,true,true,true,true,true,true,true,true,true,true,true,false,false] [14,15] [14,15,16,17,18,19,20,21,22,23,24,25,26,27,44,45] [[],[0],[1],[2],[],[],[5],[6],[7],[],[8,9],[10],[],[11,12],[],[]] [[],[0],[1,0],[2,1,0],[],[],[5],[6,5],[7,6,5],[],[8,7,6,5,9],[10,8,7,6,5,9],[],[11,10,8,7,6,5,9,12],[],[]] Fs3 hFs3 (by kernel_rfl) mixed (by kernel_rfl) (by kernel_rfl) (by kernel_rfl) (by kernel_rfl) ?_ ?_
   ·intro wd X0
    refine qZ (fun S s' w' hi hN X U V H => ?_) ?_
    ·replace X := xM1 X
     exact DoesT_pure (r_move (v := (P6 pb 0)) (U 0 rfl)) rfl
    refine qZ (fun S s' w' hi hN X U V H => ?_) ?_
    ·replace X := xM1 X
     have e14 := (H 0 rfl).2 14 _ rfl (by rw [hFs3]; rfl)
     exact DoesT_pure (r_nilCheck (a := ⟨pb,0,none⟩) e14) rfl
    refine qZ (fun S s' w' hi hN X U V H => ?_) ?_
    ·replace X := xM1 X
     have e15 := (H 1 rfl).2 15 _ rfl (by rw [hFs3]; rfl)
     exact DoesT_pure (r_fieldAddr (b := pb) (o := 0) (o' := 1) e15 Tryz.underlying65 rfl siz62 rfl) rfl
    refine qZ (fun S s' w' hi hN X U V H => ?_) ?_
    ·replace X := xM1 X
     have e16 := (H 2 rfl).2 16 _ rfl (by rw [hFs3]; rfl)
     exact DoesT_pure (r_load (v := (.slice (some ⟨gb,0,none⟩) g.fol.length fc)) e16 flat62 ((Chg.keep X (fun h => hap _ h rfl) (X0.keep hblk)).cell rfl)) rfl
    refine qZ (fun S s' w' hi hN X U V H => ?_) ?_
    ·replace X := xM1 X
     exact DoesT_pure (r_move (v := (I6 (p : Int))) (U 7 rfl)) rfl
    refine qZ (fun S s' w' hi hN X U V H => ?_) ?_
    ·replace X := xN1 (hN 13 rfl) X
     exact DoesT_pure (r_move (v := (P6 pb 0)) (U 0 rfl)) rfl
    refine qZ (fun S s' w' hi hN X U V H => ?_) ?_
    ·replace X := xN1 (hN 13 rfl) X
     have e19 := (H 5 rfl).2 19 _ rfl (by rw [hFs3]; rfl)
     exact DoesT_pure (r_nilCheck (a := ⟨pb,0,none⟩) e19) rfl
    refine qZ (fun S s' w' hi hN X U V H => ?_) ?_
    ·replace X := xN1 (hN 13 rfl) X
     have e20 := (H 6 rfl).2 20 _ rfl (by rw [hFs3]; rfl)
     exact DoesT_pure (r_fieldAddr (b := pb) (o := 0) (o' := 1) e20 Tryz.underlying65 rfl siz62 rfl) rfl
    refine qZ (fun S s' w' hi hN X U V H => ?_) ?_
    ·replace X := xN1 (hN 13 rfl) X
     have e21 := (H 7 rfl).2 21 _ rfl (by rw [hFs3]; rfl)
     exact DoesT_pure (r_load (v := (.slice (some ⟨gb,0,none⟩) g.fol.length fc)) e21 flat62 (((X0.trans X).keep hblk).cell rfl)) rfl
    refine qZ (fun S s' w' hi hN X U V H => ?_) ?_
    ·replace X := xN1 (hN 13 rfl) X
     exact DoesT_pure (r_move (v := (I6 (p : Int))) (U 7 rfl)) rfl
    refine qZ (fun S s' w' hi hN X U V H => ?_) ?_
    ·replace X := xN1 (hN 13 rfl) X
     have e22 := (H 8 rfl).2 22 _ rfl (by rw [hFs3]; rfl)
     have e23 := (H 9 rfl).2 23 _ rfl (by rw [hFs3]; rfl)
     exact DoesT_pure (r_indexSlice (b := gb) (o := 0) (len := g.fol.length) (cap := fc) (i := p) (o' := 0 + p) e22 e23 rfl Tryz.underlying62 siz22 (by omega) (by omega)) rfl
    refine qZ (fun S s' w' hi hN X U V H => ?_) ?_
    ·replace X := xN1 (hN 13 rfl) X
     have e24 := (H 10 rfl).2 24 _ rfl (by rw [hFs3]; rfl)
     exact DoesT_pure (r_load (v := (.slice va l0.length vc)) e24 flat22 (by have h1 := hg2 p _ hv1; exact (Ext.cell X (X0.cell h1)))) rfl
    refine qZ (fun S s' w' hi hN X U V H => ?_) ?_
    ·replace X := xN1 (hN 13 rfl) X
     exact DoesT_pure (r_move (v := (.slice ta to.length tc)) (U 2 rfl)) rfl
    refine DagStepsS.cons (StabS.chg (U := none1) (appF_ext _ _ _ _ _ _ _) (fun p y hp hw h => by
       rcases MsL_or h with ⟨rfl,h0⟩ | h0
       ·exact absurd rfl hp
       exact h0.elim)) (LocS.const) (fun S s' w' hi hN X U V H => Or.inl ⟨Guarded_none rfl,?_⟩) ?_
    ·replace X := xN1 hi X
     have e25 := (H 11 rfl).2 25 _ rfl (by rw [hFs3]; rfl)
     have e26 := (H 12 rfl).2 26 _ rfl (by rw [hFs3]; rfl)
     exact DoesT_appendAny (hs := h0) Tryz.underlying22 siz3 byt3 zer3 rfl (by decide) e25 (own_ext (own_ext hinn X0) X) e26 (by rw [List.length_map,nZ_len,Nat.mul_one]) (ints_any (htW.1.ext (X0.trans X))) (ints_one (nZ to)) (by unfold maxLen; omega) (by omega) (by have := X0.size; have := X.size; omega) (fun y h => .inl ⟨rfl,h⟩) (by have := X0.size; have := X.size; omega)
    refine DagStepsS.tail (DagStepsS.tail ?_)
    exact DagStepsS.nil
   ·intro s' wd3 w3 X0 X3 U H
    replace X3 := X3.mono (M' := (fun y => (fun y => (Value.slice va l0.length vc).ownBlock = some y) y)) (fun y _ h => by
      obtain ⟨j,hj,h⟩ := h
      rcases MsL_or h with ⟨rfl,h0⟩ | h0
      ·exact h0
      exact h0.elim)
    have e17 := H 3 rfl 17 _ rfl (by rw [hFs3]; rfl)
    have e18 := H 4 rfl 18 _ rfl (by rw [hFs3]; rfl)
    obtain ⟨⟨a27,c27,e27⟩,O27,D27⟩ := (show ((fun _ _ => appF base TDI 1 (l0.length + to.length) ((nZ l0).map (Value.int .i64) ++ (nZ to).map (Value.int .i64)) (.slice va l0.length vc) h0) : FctS) (allS [true,true,true,true,true,true,true,true,true,true,true,true,true,true,false,false]) s' (s' 27) w3 from H 13 rfl 27 (fun _ _ => appF base TDI 1 (l0.length + to.length) ((nZ l0).map (Value.int .i64) ++ (nZ to).map (Value.int .i64)) (.slice va l0.length vc) h0) rfl (by rw [hFs3]; rfl))
    obtain ⟨j3,rfl⟩ := Fits.out (σ := s') (l := [(0,(.pointer (some ⟨pb,0,none⟩))),(2,(.slice ta to.length tc)),(8,(.slice (some ⟨pb2,po,none⟩) src.length sc)),(9,(.int .i64 ((src.length : Nat) : Int))),(10,(.int .i64 ((k : Nat) : Int))),(17,(.slice (some ⟨gb,0,none⟩) g.fol.length fc)),(18,(.int .i64 ((p : Nat) : Int))),(27,(.slice a27 (l0.length + to.length) c27))]) ⟨U 0 rfl,U 2 rfl,U 8 rfl,U 9 rfl,U 10 rfl,e17,e18,e27,trivial⟩
    clear U H
    replace hblk := Chg.keep X3 (fun h => hap _ h rfl) (X0.keep hblk)
    have hXm := Chg.trans (Ext.chg X0) X3
    replace E := (E.ext X0).step X3 (fun y hy h => by rcases hG.olds y (.inr (.inr (.inr ⟨p,_,hv1,h⟩))) with h9 | h9; exact h9; omega)
    rw [e27] at O27 D27
    obtain ⟨cur,hBo,hcs⟩ := own_blkG (own_chg (hst.fol.l.on (n := g.fol.length) (by rw [List.length_map]; exact hln.symm)) hXm (fun b hb hm => hst.fol.l.apo p _ _ hv1 hm hb))
    have hPx : True := trivial
    have hBo0 := hBo
    have hMgb : GM pb sv (.slice (some ⟨gb,0,none⟩) g.fol.length fc) vs gb := .inr (.inr (.inl rfl))
    have hgpb : gb ≠ pb := fun e => hst.aps.2 (.inl (by rw [← e]; rfl))
    refine qV (r_indexSlice (b := gb) (o := 0) (len := g.fol.length) (cap := fc) (i := p) (o' := 0 + p) rfl rfl rfl Tryz.underlying62 siz22 (by omega) (by omega)) ?_
    refine s_store (b := gb) (o := 0 + p) (c' := cur.setIfInBounds (0 + p) (.slice a27 (l0.length + to.length) c27)) (v := (.slice a27 (l0.length + to.length) c27)) rfl rfl rfl siz22 hBo (by omega) (rfl) ?_
    intro w4 S4
    replace hPx := S4
    replace hblk := S4.keep (by omega) hblk
    replace E := S4.step E (by first | exact Or.inl (by omega) | exact Or.inr rfl | exact Or.inr (by assumption) | exact Or.inr (by simp) | exact Or.inr (by omega) | exact Or.inr (by dsimp only; omega))
    replace hBo := S4.blk
    have hG9 := GrG.row hst (by exact hln.symm) hv1 hl0 (to := to) (v' := .slice a27 (l0.length + to.length) c27) (by rw [nZ_app,List.map_append]; exact O27) (by rw [List.length_append]) hXm (by rw [← hh0]; exact D27) hBo0 (by simpa using hPx)
    refine WpL_nil (inB_normal (thn_normal (Wp_region ?_)))
    refine qV (r_add (k := .i64) (a := (k : Int)) (b := 1) (c := (k : Int) + 1) rfl rfl (wI64 (by omega))) ?_
    refine qM (I6 ((k : Int) + 1)) rfl ?_
    refine WpL_nil (thn_normal ?_)
    exact ⟨src.length - (k + 1),by omega,k + 1,vk.set p (.slice a27 (l0.length + to.length) c27),Fits.out ⟨rfl,rfl,rfl,rfl,rfl,trivial⟩,E,(by omega),(by rw [lnk_take hp]; exact hG.comp hG9),(by rw [lnk_take hp,Nat.add_mul,Nat.one_mul,← Nat.add_assoc]; exact hR.lnk1 p hl2),rfl⟩
  ·have khlt := hlt
   replace hlt := of_decide_eq_false hlt
   have hkk : k = src.length := by omega
   rw [hkk,List.take_length] at hG
   refine Wp_exit (thn_exit (thn_exit (inB_here ?_)))
   refine fin_none Tryz.results58 ?_
   exact ⟨_,hG⟩
end Go.Proofs
namespace Go.Proofs
open Go Go.Eng
def epS (p : Int × Int) : List Int := [p.1,p.2]
def edS (e : Ed) : List Int := [e.1,e.2.1]
def stsN (n : Nf) : List Int := (n.start :: n.ends) ++ (n.eps.map epS).flatten ++ (n.edges.map edS).flatten
def badS (m s : Int) : Bool := decide (s < 0) || decide (m ≤ s)
def setsE : List Ed → Int
  | [] => 0
  | e :: l => if checkE e.2.2 = 0 then setsE l else checkE e.2.2
def chkN (n : Nf) : Int :=
 if 500 < n.states ∨ 500 < n.ends.length ∨ 20000 < n.eps.length ∨ 20000 < n.edges.length then 2
 else if (stsN n).any (badS n.states) then 1 else setsE n.edges
theorem setsE_zero : ∀ {l : List Ed},setsE l = 0 ↔ ∀ e ∈ l,checkE e.2.2 = 0
  | [] => by simp [setsE]
  | e :: l => by
    rw [setsE]
    split
    · rename_i h
      rw [setsE_zero]
      simp [h]
    · rename_i h
      constructor
      · exact fun k => absurd k h
      · exact fun k => absurd (k e List.mem_cons_self) h
theorem any_bad {m : Int} {l : List Int} : l.any (badS m) = false ↔ ∀ s ∈ l,0 ≤ s ∧ s < m := by
 rw [List.any_eq_false]
 constructor
 ·intro h s hs
  have := h s hs
  simp [badS] at this
  omega
 ·intro h s hs
  have := h s hs
  simp [badS]
  omega
theorem chkN_zero {n : Nf} : chkN n = 0 ↔ OkN n := by
 unfold chkN
 constructor
 ·intro h
  split at h
  ·omega
  rename_i h1
  split at h
  ·omega
  rename_i h2
  have h3 := any_bad.1 (by simpa using h2)
  have h4 := setsE_zero.1 h
  have h5 : ∀ s,s ∈ n.start :: n.ends ∨ s ∈ (n.eps.map epS).flatten ∨ s ∈ (n.edges.map edS).flatten → 0 ≤ s ∧ s < n.states := by
   intro s hs
   refine h3 s ?_
   unfold stsN
   rcases hs with hs | hs | hs
   ·exact List.mem_append_left _ (List.mem_append_left _ hs)
   ·exact List.mem_append_left _ (List.mem_append_right _ hs)
   ·exact List.mem_append_right _ hs
  refine ⟨by omega,h5 _ (.inl List.mem_cons_self),by omega,by omega,by omega,fun s hs => h5 s (.inl (List.mem_cons_of_mem _ hs)),fun p hp => ?_,fun e he => ?_⟩
  ·have hm : ∀ x ∈ epS p,0 ≤ x ∧ x < n.states := fun x hx => h5 x (.inr (.inl (List.mem_flatten.2 ⟨_,List.mem_map.2 ⟨p,hp,rfl⟩,hx⟩)))
   exact ⟨hm p.1 (by simp [epS]),hm p.2 (by simp [epS])⟩
  ·have hm : ∀ x ∈ edS e,0 ≤ x ∧ x < n.states := fun x hx => h5 x (.inr (.inr (List.mem_flatten.2 ⟨_,List.mem_map.2 ⟨e,he,rfl⟩,hx⟩)))
   exact ⟨hm e.1 (by simp [edS]),hm e.2.1 (by simp [edS]),h4 e he⟩
 ·intro h
  rw [if_neg (by have := h.st; have := h.el; have := h.pl; have := h.xl; omega)]
  rw [if_neg ?_]
  ·exact setsE_zero.2 fun e he => (h.ed e he).2.2
  ·rw [Bool.not_eq_true,any_bad]
   intro s hs
   unfold stsN at hs
   rcases List.mem_append.1 hs with hs | hs
   ·rcases List.mem_append.1 hs with hs | hs
    ·rcases List.mem_cons.1 hs with rfl | hs
     ·exact h.s0
     ·exact h.en s hs
    ·obtain ⟨l,hl,hx⟩ := List.mem_flatten.1 hs
     obtain ⟨p,hp,rfl⟩ := List.mem_map.1 hl
     simp [epS] at hx
     rcases hx with rfl | rfl
     ·exact (h.ep p hp).1
     ·exact (h.ep p hp).2
   ·obtain ⟨l,hl,hx⟩ := List.mem_flatten.1 hs
    obtain ⟨p,hp,rfl⟩ := List.mem_map.1 hl
    simp [edS] at hx
    rcases hx with rfl | rfl
    ·exact (h.ed p hp).1
    ·exact (h.ed p hp).2.1
theorem flat2_len (α : Type) (f : α → List Int) (hf : ∀ x,(f x).length = 2) : ∀ l : List α,(l.map f).flatten.length = 2 * l.length
  | [] => rfl
  | x :: l => by rw [List.map_cons,List.flatten_cons,List.length_append,hf,flat2_len α f hf l,List.length_cons]; omega
theorem flat_takeN {α : Type} (f : α → List Int) {l : List α} {k : Nat} {x : α} (h : l[k]? = some x) : ((l.take (k + 1)).map f).flatten = ((l.take k).map f).flatten ++ f x := by
 rw [List.take_add_one,h]; simp
theorem setsE_step {l : List Ed} {k : Nat} {e : Ed} (h : setsE l = setsE (l.drop k)) (he : l[k]? = some e) : (checkE e.2.2 = 0 → setsE l = setsE (l.drop (k + 1))) ∧ (checkE e.2.2 ≠ 0 → setsE l = checkE e.2.2) := by
 have hl : l.drop k = e :: l.drop (k + 1) := by
  have := lt_of_get he
  rw [List.drop_eq_getElem_cons this]
  rw [List.getElem?_eq_getElem this] at he
  rw [Option.some.inj he]
 rw [h,hl,setsE]
 exact ⟨fun h => by rw [if_pos h],fun h => by rw [if_neg h]⟩
end Go.Proofs
namespace Go.Proofs
open Go Go.Eng Go.Sort
theorem ncheck1_c (w0 : World) (x st : Int) (b : Nat) (v1 v2 v3 v4 : Value) (hB : Blk w0 b #[.int .i64 st,v1,v2,v3,v4] 37) : Ret Tryz.prog 61 #[.int .i64 x,.pointer (some ⟨b,0,none⟩)] w0 fun r w => r = .bool (badS st x) ∧ Ext w0 w := by
 refine Ret_of Tryz.func61 rfl Tryz.ntmps61 (Nat.le_of_ble_eq_true rfl) ?_
 have E : Chg none1 w0 w0 := Chg.refl _ _
 refine Wp_seq_region ?_
 refine qA (.bool false) rfl ?_
 refine WpL_nil (Wp_seq_region ?_)
 refine qM (I6 x) rfl ?_
 obtain ⟨e1,he1⟩ : ∃ e,(decide ((x : Int) < 0)) = e := ⟨_,rfl⟩
 refine qV ((r_lss (k := .i64) (a := x) (b := 0) rfl rfl).trans (by rw [he1]; try rfl)) ?_
 refine qM (.bool e1) rfl ?_
 refine qG (.bool e1) (nU e1 (I6 x)) (by cases e1 <;> first | exact gA | exact gB | exact .inl ⟨rfl,r_move (v := (I6 x)) rfl⟩) ?_
 refine qG (.bool e1) (nU e1 (P6 b 0)) (by cases e1 <;> first | exact gA | exact gB | exact .inl ⟨rfl,r_fieldAddr (b := b) (o := 0) (o' := 0) rfl Tryz.underlying37 rfl siz3 rfl⟩) ?_
 refine qG (.bool e1) (nU e1 (I6 st)) (by cases e1 <;> first | exact gA | exact gB | exact .inl ⟨rfl,r_load (v := (I6 st)) rfl flat3 (hB.cell rfl)⟩) ?_
 obtain ⟨e2,he2⟩ : ∃ e,(decide ((st : Int) ≤ x)) = e := ⟨_,rfl⟩
 refine qG (.bool e1) (nU e1 (.bool e2)) (by cases e1 <;> first | exact gA | exact gB | exact .inl ⟨rfl,(r_geq (k := .i64) (a := x) (b := st) rfl rfl).trans (by rw [he2]; try rfl)⟩) ?_
 obtain ⟨e3,he3⟩ : ∃ e,(e1 || e2) = e := ⟨_,rfl⟩
 refine qV (r_pick (b := e1) (v := .bool e3) rfl (by rw [← he3]; cases e1 <;> rfl)) ?_
 refine qA (.bool e3) rfl ?_
 refine WpL_nil ?_
 subst he3
 subst he2
 subst he1
 refine Wp_ret ?_
 refine fin_tmp Tryz.results61 (v := (.bool ((decide ((x : Int) < 0)) || (decide ((st : Int) ≤ x))))) rfl ?_
 exact ⟨bool_eq rfl,E⟩
theorem two_lists {w : World} {a b : Value} {la lb : List Int} (h1 : IntsAt w a la) (h2 : IntsAt w b lb) : ∀ (i : Nat) u l,[a,b][i]? = some u → [la,lb][i]? = some l → IntsAt w u l := by
  intro i u l hu hl
  match i,hu,hl with
  | 0,hu,hl => simp at hu hl; subst hu; subst hl; exact h1
  | 1,hu,hl => simp at hu hl; subst hu; subst hl; exact h2
  | i + 2,hu,hl => simp at hu
theorem ncat2_c (w0 : World) (base : Nat) (v : Value) (ll : List (List Int)) (L : List Int) (h : IntssAt w0 v ll) (e : ll.flatten = L) (hl : L.length ≤ 8796093022208) (hb : base = (w0 : World).heap.size ∨ base ≤ w0.heap.size) :
  Ret Tryz.prog 57 #[v] w0 fun r w => (∃ a c,r = .slice a L.length c) ∧ w.ownsRow base TDI 1 r L.length (L.map (Value.int .i64)) ∧ Ext w0 w := by
 subst e
 exact (concati_c w0 v ll h hl).mono fun r w h9 => ⟨h9.1,own_low h9.2.1 (by omega),h9.2.2⟩
theorem ncheck_c (w0 : World) (n : Nf) (vs : List Value) (h : NfAt w0 n vs) : Ret Tryz.prog 29 #[.agg vs.toArray] w0 fun r w => r = .int .i64 (chkN n) ∧ Ext w0 w := by
 obtain ⟨ea,ec,pa,pc,xa,xc,rfl,hen,hep,hed⟩ := h
 refine Ret_of Tryz.func29 rfl Tryz.ntmps29 (Nat.le_of_ble_eq_true rfl) ?_
 have E : Chg none1 w0 w0 := Chg.refl _ _
 refine Wp_seq_region ?_
 refine s_box (v := (.agg #[(I6 n.states),(I6 n.start),(.slice ea n.ends.length ec),(.slice pa n.eps.length pc),(.slice xa n.edges.length xc)])) (c := #[(I6 n.states),(I6 n.start),(.slice ea n.ends.length ec),(.slice pa n.eps.length pc),(.slice xa n.edges.length xc)]) (by decide) rfl rfl ?_
 intro bn wn Nn
 have Fn := Nn.ge E
 replace E := E.ext Nn.ext
 have Bn := Nn.blk
 refine qA (I6 0) rfl ?_
 refine WpL_nil (Wp_seq (Wp_seq_region ?_))
 refine qF bn 0 0 rfl Tryz.underlying37 rfl siz3 rfl ?_
 refine qV (r_load (v := (I6 n.states)) rfl flat3 (Bn.cell rfl)) ?_
 obtain ⟨e1,he1⟩ : ∃ e,(decide ((500 : Int) < n.states)) = e := ⟨_,rfl⟩
 refine qV ((r_gtr (k := .i64) (a := n.states) (b := 500) rfl rfl).trans (by rw [he1]; try rfl)) ?_
 refine qM (.bool e1) rfl ?_
 refine qG (.bool e1) (nU e1 (P6 bn 2)) (by cases e1 <;> first | exact gA | exact gB | exact .inl ⟨rfl,r_fieldAddr (b := bn) (o := 0) (o' := 2) rfl Tryz.underlying37 rfl siz22 rfl⟩) ?_
 refine qG (.bool e1) (nU e1 (.slice ea n.ends.length ec)) (by cases e1 <;> first | exact gA | exact gB | exact .inl ⟨rfl,r_load (v := (.slice ea n.ends.length ec)) rfl flat22 (Bn.cell rfl)⟩) ?_
 refine qG (.bool e1) (nU e1 (I6 (n.ends.length : Int))) (by cases e1 <;> first | exact gA | exact gB | exact .inl ⟨rfl,r_lenSlice (ad := ea) (n := n.ends.length) (cap := ec) Tryz.underlying22 rfl⟩) ?_
 obtain ⟨e2,he2⟩ : ∃ e,(decide ((500 : Int) < ((n.ends.length : Nat) : Int))) = e := ⟨_,rfl⟩
 refine qG (.bool e1) (nU e1 (.bool e2)) (by cases e1 <;> first | exact gA | exact gB | exact .inl ⟨rfl,(r_gtr (k := .i64) (a := (n.ends.length : Int)) (b := 500) rfl rfl).trans (by rw [he2]; try rfl)⟩) ?_
 obtain ⟨e3,he3⟩ : ∃ e,(e1 || e2) = e := ⟨_,rfl⟩
 refine qV (r_pick (b := e1) (v := .bool e3) rfl (by rw [← he3]; cases e1 <;> rfl)) ?_
 refine qM (.bool e3) rfl ?_
 refine qG (.bool e3) (nU e3 (P6 bn 3)) (by cases e3 <;> first | exact gA | exact gB | exact .inl ⟨rfl,r_fieldAddr (b := bn) (o := 0) (o' := 3) rfl Tryz.underlying37 rfl siz34 rfl⟩) ?_
 refine qG (.bool e3) (nU e3 (.slice pa n.eps.length pc)) (by cases e3 <;> first | exact gA | exact gB | exact .inl ⟨rfl,r_load (v := (.slice pa n.eps.length pc)) rfl flat34 (Bn.cell rfl)⟩) ?_
 refine qG (.bool e3) (nU e3 (I6 (n.eps.length : Int))) (by cases e3 <;> first | exact gA | exact gB | exact .inl ⟨rfl,r_lenSlice (ad := pa) (n := n.eps.length) (cap := pc) Tryz.underlying34 rfl⟩) ?_
 obtain ⟨e4,he4⟩ : ∃ e,(decide ((20000 : Int) < ((n.eps.length : Nat) : Int))) = e := ⟨_,rfl⟩
 refine qG (.bool e3) (nU e3 (.bool e4)) (by cases e3 <;> first | exact gA | exact gB | exact .inl ⟨rfl,(r_gtr (k := .i64) (a := (n.eps.length : Int)) (b := 20000) rfl rfl).trans (by rw [he4]; try rfl)⟩) ?_
 obtain ⟨e5,he5⟩ : ∃ e,(e3 || e4) = e := ⟨_,rfl⟩
 refine qV (r_pick (b := e3) (v := .bool e5) rfl (by rw [← he5]; cases e3 <;> rfl)) ?_
 refine qM (.bool e5) rfl ?_
 refine qG (.bool e5) (nU e5 (P6 bn 4)) (by cases e5 <;> first | exact gA | exact gB | exact .inl ⟨rfl,r_fieldAddr (b := bn) (o := 0) (o' := 4) rfl Tryz.underlying37 rfl siz35 rfl⟩) ?_
 refine qG (.bool e5) (nU e5 (.slice xa n.edges.length xc)) (by cases e5 <;> first | exact gA | exact gB | exact .inl ⟨rfl,r_load (v := (.slice xa n.edges.length xc)) rfl flat35 (Bn.cell rfl)⟩) ?_
 refine qG (.bool e5) (nU e5 (I6 (n.edges.length : Int))) (by cases e5 <;> first | exact gA | exact gB | exact .inl ⟨rfl,r_lenSlice (ad := xa) (n := n.edges.length) (cap := xc) Tryz.underlying35 rfl⟩) ?_
 obtain ⟨e6,he6⟩ : ∃ e,(decide ((20000 : Int) < ((n.edges.length : Nat) : Int))) = e := ⟨_,rfl⟩
 refine qG (.bool e5) (nU e5 (.bool e6)) (by cases e5 <;> first | exact gA | exact gB | exact .inl ⟨rfl,(r_gtr (k := .i64) (a := (n.edges.length : Int)) (b := 20000) rfl rfl).trans (by rw [he6]; try rfl)⟩) ?_
 obtain ⟨e7,he7⟩ : ∃ e,(e5 || e6) = e := ⟨_,rfl⟩
 refine qV (r_pick (b := e5) (v := .bool e7) rfl (by rw [← he7]; cases e5 <;> rfl)) ?_
 refine WpL_nil ?_
 subst he7
 subst he6
 subst he5
 subst he4
 subst he3
 subst he2
 subst he1
 refine Wp_cond (b := ((((decide ((500 : Int) < n.states)) || (decide ((500 : Int) < (n.ends.length : Int)))) || (decide ((20000 : Int) < (n.eps.length : Int)))) || (decide ((20000 : Int) < (n.edges.length : Int))))) rfl (fun h0 => ?_) (fun h0 => ?_)
 ·have kh0 := h0
  refine Wp_seq_region ?_
  refine qA (I6 2) rfl ?_
  refine WpL_nil (Wp_ret (thn_ret ?_))
  refine fin_tmp Tryz.results29 (v := (.int .i64 2)) rfl ?_
  exact ⟨by unfold chkN; rw [if_pos (by simp only [Bool.or_eq_true,decide_eq_true_eq] at h0; omega)],E⟩
 ·have kh0 := h0
  have h0 : ¬ (500 < n.states ∨ 500 < n.ends.length ∨ 20000 < n.eps.length ∨ 20000 < n.edges.length) := by simp only [Bool.or_eq_false_iff,decide_eq_false_iff_not] at h0; omega
  obtain ⟨L0,hL0⟩ : ∃ L0,L0 = n.start :: n.ends := ⟨_,rfl⟩
  have hL0l : L0.length = n.ends.length + 1 := by rw [hL0]; rfl
  refine Wp_skip (thn_normal (Wp_seq_region ?_))
  refine qF bn 0 1 rfl Tryz.underlying37 rfl siz3 rfl ?_
  refine qV (r_load (v := (I6 n.start)) rfl flat3 (Bn.cell rfl)) ?_
  refine s_buildSlice (ps := [(0,(I6 n.start))]) (c := #[(I6 n.start)]) (by decide) rfl Tryz.underlying22 siz3 zer3 (by decide) (by decide) (by kernel_rfl) ?_
  intro bs ws Ns
  have Fs := Ns.ge E
  have Os_bn := Ns.lt Bn
  replace Bn := Ns.keep Bn
  replace E := E.ext Ns.ext
  have Bs := Ns.blk
  refine qF bn 0 2 rfl Tryz.underlying37 rfl siz22 rfl ?_
  refine qV (r_load (v := (.slice ea n.ends.length ec)) rfl flat22 (Bn.cell rfl)) ?_
  refine s_buildSlice (ps := [(0,(.slice (some ⟨bs,0,none⟩) 1 1)),(1,(.slice ea n.ends.length ec))]) (c := #[(.slice (some ⟨bs,0,none⟩) 1 1),(.slice ea n.ends.length ec)]) (by decide) rfl Tryz.underlying62 siz22 zer22 (by decide) (by decide) (by kernel_rfl) ?_
  intro bq wq Nq
  have Fq := Nq.ge E
  have Oq_bn := Nq.lt Bn
  have Oq_bs := Nq.lt Bs
  replace Bn := Nq.keep Bn
  replace Bs := Nq.keep Bs
  replace E := E.ext Nq.ext
  have Bq := Nq.blk
  obtain ⟨base,hbase⟩ : ∃ base,base = (wq).heap.size := ⟨_,rfl⟩
  have hb0 : w0.heap.size ≤ base ∧ bn < base := ⟨by rw [hbase]; exact E.size,by rw [hbase]; exact Bn.lt⟩
  refine WpL_enter rfl rfl (by decide) (r_callF (vs := [(.slice (some ⟨bq,0,none⟩) 2 2)]) Tryz.func57 kQ kQ rfl) (ncat2_c _ base _ [[n.start],n.ends] L0 (intss_blk Bq rfl rfl (by omega) (two_lists (ints_of_blk [n.start] Bs (by simp) (by simp)) (hen.ext E))) (by rw [hL0]; simp) (by omega) (.inr (by have := E.size; omega))) ?_
  rintro _ w9 ⟨⟨ja,jc,rfl⟩,hO,X9⟩
  replace Bn := X9.keep Bn
  replace Bs := X9.keep Bs
  replace Bq := X9.keep Bq
  replace E := E.ext X9
  have hs9 : base ≤ w9.heap.size := by rw [hbase]; exact X9.size
  refine qA (.slice ja L0.length jc) rfl ?_
  refine WpL_nil (Wp_seq (Wp_seq_region ?_))
  refine qF bn 0 3 rfl Tryz.underlying37 rfl siz34 rfl ?_
  refine qV (r_load (v := (.slice pa n.eps.length pc)) rfl flat34 (Bn.cell rfl)) ?_
  refine qV (r_lenSlice (ad := pa) (n := n.eps.length) (cap := pc) Tryz.underlying34 rfl) ?_
  refine qM (I6 0) rfl ?_
  refine WpL_nil (Wp_block ?_)
  refine Wp_loop (fun nn_ σ W9 => ∃ (k : Nat) (la : Option Addr) (lc : Nat) (m : Nat),(∃ jj_,σ = upds jj_ [(1,(P6 bn 0)),(40,(.slice pa n.eps.length pc)),(41,(I6 (n.eps.length : Int))),(42,(I6 (k : Int))),(3,(.slice la m lc))]) ∧ Chg none1 w0 W9 ∧ Blk W9 bn #[(I6 n.states),(I6 n.start),(.slice ea n.ends.length ec),(.slice pa n.eps.length pc),(.slice xa n.edges.length xc)] 37 ∧ (k ≤ n.eps.length) ∧ (m = L0.length + 2 * k) ∧ (W9.ownsRow base TDI 1 (.slice la m lc) m ((L0 ++ ((n.eps.take k).map epS).flatten).map (Value.int .i64))) ∧ (base ≤ W9.heap.size) ∧ nn_ = n.eps.length - k) (n := n.eps.length - 0) ?_ ?_
  ·exact ⟨0,ja,jc,L0.length,Fits.out ⟨rfl,rfl,rfl,rfl,rfl,trivial⟩,E,Bn,Nat.zero_le _,rfl,(by simpa using hO),hs9,rfl⟩
  ·clear E Bn
   rintro _ _ W9 ⟨k,la,lc,m,⟨j9,rfl⟩,E,Bn,hk,hm,hown,hbs,rfl⟩
   refine Wp_seq_region ?_
   refine qV (r_lss (k := .i64) (a := (k : Int)) (b := (n.eps.length : Int)) rfl rfl) ?_
   refine WpL_nil (Wp_seq ?_)
   refine Wp_cond (b := decide (((k : Int) : Int) < (n.eps.length : Int))) rfl (fun hlt => ?_) (fun hlt => ?_)
   ·have khlt := hlt
    replace hlt := of_decide_eq_true hlt
    obtain ⟨p,hp⟩ := get_of_lt (l := n.eps) (i := k) (by omega)
    obtain ⟨pb,po,rfl,hpc⟩ := spans_cells hep (by omega)
    refine Wp_skip (thn_normal (Wp_seq (Wp_block (Wp_seq_region ?_))))
    refine qV (r_indexSlice (b := pb) (o := po) (len := n.eps.length) (cap := pc) (i := k) (o' := po + k * 2) rfl rfl rfl Tryz.underlying34 siz47 (by omega) (by omega)) ?_
    refine qV (r_loadAgg (vs := [(I6 p.1),(I6 p.2)]) rfl agg47 siz47 rfl ((hpc k p hp).ext E)) ?_
    refine s_allocStore (v := (.agg #[(I6 p.1),(I6 p.2)])) (c := #[(I6 p.1),(I6 p.2)]) (n := 2) (by decide) zer47 rfl siz47 rfl rfl rfl (by simp [Value.oneCell']) ?_
    intro bx wx Nx
    have Fx := Nx.ge E
    have Ox_bn := Nx.lt Bn
    replace Bn := Nx.keep Bn
    replace hown := own_ext hown Nx.ext
    replace hbs := Nat.le_trans hbs Nx.ext.size
    replace E := E.ext Nx.ext
    have Bx := Nx.blk
    refine WpL_nil (Wp_region ?_)
    refine qM (.slice la m lc) rfl ?_
    refine qV (r_indexArr (b := bx) (o := 0) (i := 0) (o' := 0) rfl rfl rfl Tryz.underlying47 siz3 (by omega) (by omega)) ?_
    refine qV (r_load (v := (I6 p.1)) rfl flat3 (Bx.cell rfl)) ?_
    refine qV (r_indexArr (b := bx) (o := 0) (i := 1) (o' := 1) rfl rfl rfl Tryz.underlying47 siz3 (by omega) (by omega)) ?_
    refine qV (r_load (v := (I6 p.2)) rfl flat3 (Bx.cell rfl)) ?_
    refine s_buildSlice (ps := [(0,(I6 p.1)),(1,(I6 p.2))]) (c := #[(I6 p.1),(I6 p.2)]) (by decide) rfl Tryz.underlying22 siz3 zer3 (by decide) (by decide) (by kernel_rfl) ?_
    intro by2 wy2 Ny2
    have Fy2 := Ny2.ge E
    have Oy2_bn := Ny2.lt Bn
    have Oy2_bx := Ny2.lt Bx
    replace Bn := Ny2.keep Bn
    replace Bx := Ny2.keep Bx
    replace hown := own_ext hown Ny2.ext
    replace hbs := Nat.le_trans hbs Ny2.ext.size
    replace E := E.ext Ny2.ext
    have By2 := Ny2.blk
    refine s_append (base := base) (n := m) (m := 2) (xs := ((L0 ++ ((n.eps.take k).map epS).flatten).map (Value.int .i64))) (news := [(I6 p.1),(I6 p.2)]) (size := 1) (bytes := 8) (v := (.slice la m lc)) (by decide) Tryz.underlying22 siz3 byt3 zer3 rfl (by decide) rfl hown rfl (rfl) (By2.cells rfl) (by simp [Value.oneCell']) (by unfold maxLen; omega) (by omega) (hbs) ?_
    intro v7 w59 Ov7 Cv7 Dv7
    replace Bn := Cv7.keep (fun h => by have := (hown.lt _ h).1; omega) Bn
    replace E := E.step Cv7 (fun x hx h => absurd (hown.lt x h).1 (by omega))
    obtain ⟨la2,lc2,rfl⟩ := own_form Ov7
    refine qA (.slice la2 (m + 2) lc2) rfl ?_
    refine WpL_nil (inB_normal (thn_normal (Wp_region ?_)))
    refine qV (r_add (k := .i64) (a := (k : Int)) (b := 1) (c := (k : Int) + 1) rfl rfl (wI64 (by omega))) ?_
    refine qM (I6 ((k : Int) + 1)) rfl ?_
    refine WpL_nil (thn_normal ?_)
    exact ⟨n.eps.length - (k + 1),by omega,k + 1,la2,lc2,m + 2,Fits.out ⟨rfl,rfl,rfl,rfl,rfl,trivial⟩,E,Bn,(by omega),(by omega),(by rw [flat_takeN epS hp]; simpa [epS] using Ov7),Nat.le_trans hbs Cv7.size,rfl⟩
   ·have khlt := hlt
    replace hlt := of_decide_eq_false hlt
    have hkk : k = n.eps.length := by omega
    obtain ⟨L1,hL1⟩ : ∃ L1,L1 = L0 ++ (n.eps.map epS).flatten := ⟨_,rfl⟩
    have hL1l : L1.length = m := by rw [hL1,List.length_append,flat2_len _ epS (fun _ => rfl)]; omega
    rw [hkk,List.take_length,← hL1] at hown
    refine Wp_exit (thn_exit (thn_exit (inB_here (thn_normal (Wp_seq (Wp_seq_region ?_))))))
    refine qF bn 0 4 rfl Tryz.underlying37 rfl siz35 rfl ?_
    refine qV (r_load (v := (.slice xa n.edges.length xc)) rfl flat35 (Bn.cell rfl)) ?_
    refine qV (r_lenSlice (ad := xa) (n := n.edges.length) (cap := xc) Tryz.underlying35 rfl) ?_
    refine qM (I6 0) rfl ?_
    refine WpL_nil (Wp_block ?_)
    refine Wp_loop (fun nn_ σ W11 => ∃ (k2 : Nat) (la2 : Option Addr) (lc2 : Nat) (m2 : Nat),(∃ jj_,σ = upds jj_ [(1,(P6 bn 0)),(55,(.slice xa n.edges.length xc)),(56,(I6 (n.edges.length : Int))),(57,(I6 (k2 : Int))),(3,(.slice la2 m2 lc2))]) ∧ Chg none1 w0 W11 ∧ Blk W11 bn #[(I6 n.states),(I6 n.start),(.slice ea n.ends.length ec),(.slice pa n.eps.length pc),(.slice xa n.edges.length xc)] 37 ∧ (k2 ≤ n.edges.length) ∧ (m2 = L1.length + 2 * k2) ∧ (W11.ownsRow base TDI 1 (.slice la2 m2 lc2) m2 ((L1 ++ ((n.edges.take k2).map edS).flatten).map (Value.int .i64))) ∧ (base ≤ W11.heap.size) ∧ nn_ = n.edges.length - k2) (n := n.edges.length - 0) ?_ ?_
    ·exact ⟨0,la,lc,m,Fits.out ⟨rfl,rfl,rfl,rfl,rfl,trivial⟩,E,Bn,Nat.zero_le _,(by omega),(by simpa using hown),hbs,rfl⟩
    ·clear E Bn
     rintro _ _ W11 ⟨k2,la2,lc2,m2,⟨j11,rfl⟩,E,Bn,hk2,hm2,hown2,hbs2,rfl⟩
     refine Wp_seq_region ?_
     refine qV (r_lss (k := .i64) (a := (k2 : Int)) (b := (n.edges.length : Int)) rfl rfl) ?_
     refine WpL_nil (Wp_seq ?_)
     refine Wp_cond (b := decide (((k2 : Int) : Int) < (n.edges.length : Int))) rfl (fun hlt2 => ?_) (fun hlt2 => ?_)
     ·have khlt2 := hlt2
      replace hlt2 := of_decide_eq_true hlt2
      obtain ⟨e,he⟩ := get_of_lt (l := n.edges) (i := k2) (by omega)
      obtain ⟨xb,xo,rfl,hxc⟩ := edges_cells hed (by omega)
      obtain ⟨ra,rc,hcell,hsp⟩ := hxc k2 e he
      refine Wp_skip (thn_normal (Wp_seq (Wp_block (Wp_seq_region ?_))))
      refine qV (r_indexSlice (b := xb) (o := xo) (len := n.edges.length) (cap := xc) (i := k2) (o' := xo + k2 * 3) rfl rfl rfl Tryz.underlying35 siz74 (by omega) (by omega)) ?_
      refine qV (r_loadAgg (vs := [(I6 e.1),(I6 e.2.1),(.slice ra e.2.2.length rc)]) rfl agg74 siz74 rfl (hcell.ext E)) ?_
      refine s_allocStore (v := (.agg #[(I6 e.1),(I6 e.2.1),(.slice ra e.2.2.length rc)])) (c := #[(I6 e.1),(I6 e.2.1),(.slice ra e.2.2.length rc)]) (n := 3) (by decide) zer74 rfl siz74 rfl rfl rfl (by simp [Value.oneCell']) ?_
      intro bx wx Nx
      have Fx := Nx.ge E
      have Ox_bn := Nx.lt Bn
      replace Bn := Nx.keep Bn
      replace hown2 := own_ext hown2 Nx.ext
      replace hbs2 := Nat.le_trans hbs2 Nx.ext.size
      replace E := E.ext Nx.ext
      have Bx := Nx.blk
      refine WpL_nil (Wp_region ?_)
      refine qM (.slice la2 m2 lc2) rfl ?_
      refine qF bx 0 0 rfl Tryz.underlying74 rfl siz3 rfl ?_
      refine qV (r_load (v := (I6 e.1)) rfl flat3 (Bx.cell rfl)) ?_
      refine qF bx 0 1 rfl Tryz.underlying74 rfl siz3 rfl ?_
      refine qV (r_load (v := (I6 e.2.1)) rfl flat3 (Bx.cell rfl)) ?_
      refine s_buildSlice (ps := [(0,(I6 e.1)),(1,(I6 e.2.1))]) (c := #[(I6 e.1),(I6 e.2.1)]) (by decide) rfl Tryz.underlying22 siz3 zer3 (by decide) (by decide) (by kernel_rfl) ?_
      intro by2 wy2 Ny2
      have Fy2 := Ny2.ge E
      have Oy2_bn := Ny2.lt Bn
      have Oy2_bx := Ny2.lt Bx
      replace Bn := Ny2.keep Bn
      replace Bx := Ny2.keep Bx
      replace hown2 := own_ext hown2 Ny2.ext
      replace hbs2 := Nat.le_trans hbs2 Ny2.ext.size
      replace E := E.ext Ny2.ext
      have By2 := Ny2.blk
      refine s_append (base := base) (n := m2) (m := 2) (xs := ((L1 ++ ((n.edges.take k2).map edS).flatten).map (Value.int .i64))) (news := [(I6 e.1),(I6 e.2.1)]) (size := 1) (bytes := 8) (v := (.slice la2 m2 lc2)) (by decide) Tryz.underlying22 siz3 byt3 zer3 rfl (by decide) rfl hown2 rfl (rfl) (By2.cells rfl) (by simp [Value.oneCell']) (by unfold maxLen; omega) (by omega) (hbs2) ?_
      intro v7 w59 Ov7 Cv7 Dv7
      replace Bn := Cv7.keep (fun h => by have := (hown2.lt _ h).1; omega) Bn
      replace E := E.step Cv7 (fun x hx h => absurd (hown2.lt x h).1 (by omega))
      obtain ⟨la3,lc3,rfl⟩ := own_form Ov7
      refine qA (.slice la3 (m2 + 2) lc3) rfl ?_
      refine WpL_nil (inB_normal (thn_normal (Wp_region ?_)))
      refine qV (r_add (k := .i64) (a := (k2 : Int)) (b := 1) (c := (k2 : Int) + 1) rfl rfl (wI64 (by omega))) ?_
      refine qM (I6 ((k2 : Int) + 1)) rfl ?_
      refine WpL_nil (thn_normal ?_)
      exact ⟨n.edges.length - (k2 + 1),by omega,k2 + 1,la3,lc3,m2 + 2,Fits.out ⟨rfl,rfl,rfl,rfl,rfl,trivial⟩,E,Bn,(by omega),(by omega),(by rw [flat_takeN edS he]; simpa [edS] using Ov7),Nat.le_trans hbs2 Cv7.size,rfl⟩
     ·have khlt2 := hlt2
      replace hlt2 := of_decide_eq_false hlt2
      have hkk2 : k2 = n.edges.length := by omega
      rw [hkk2,List.take_length,hL1,hL0] at hown2
      have hst : IntsAt _ (.slice la2 m2 lc2) (stsN n) := own_intsD hown2 (by unfold stsN; rw [hm2,hL1,hL0,hkk2,List.length_append (bs := (n.edges.map edS).flatten),flat2_len _ edS (fun _ => rfl)])
      refine Wp_exit (thn_exit (thn_exit (inB_here (thn_normal (Wp_seq (Wp_seq_region ?_))))))
      refine qM (.slice la2 m2 lc2) rfl ?_
      refine qV (r_makeFunc (vs := []) (us := [(P6 bn 0)]) rfl rfl) ?_
      refine WpL_enter rfl rfl (by decide) (r_callF (vs := [(.slice la2 m2 lc2),(.func (.func 61) #[] #[(P6 bn 0)])]) Tryz.func34 kQ kQ rfl) (ints_has_c _ _ _ (stsN n) (badS n.states) hst (fun w x hE _ => CallV.mk (first := #[]) (cap := #[.pointer (some ⟨bn,0,none⟩)]) Tryz.func61 kQ kQ rfl (ncheck1_c w x n.states bn _ _ _ _ (hE.keep Bn)))) ?_
      rintro _ w19 ⟨rfl,X19⟩
      replace Bn := X19.keep Bn
      replace E := E.ext X19
      refine WpL_nil ?_
      refine Wp_cond (b := (stsN n).any (badS n.states)) rfl (fun h1 => ?_) (fun h1 => ?_)
      ·have kh1 := h1
       refine Wp_seq_region ?_
       refine qA (I6 1) rfl ?_
       refine WpL_nil (Wp_ret (thn_ret ?_))
       refine fin_tmp Tryz.results29 (v := (.int .i64 1)) rfl ?_
       exact ⟨by unfold chkN; rw [if_neg h0,if_pos h1],E⟩
      ·have kh1 := h1
       refine Wp_skip (thn_normal (Wp_seq (Wp_seq_region ?_)))
       refine qF bn 0 4 rfl Tryz.underlying37 rfl siz35 rfl ?_
       refine qV (r_load (v := (.slice xa n.edges.length xc)) rfl flat35 (Bn.cell rfl)) ?_
       refine qV (r_lenSlice (ad := xa) (n := n.edges.length) (cap := xc) Tryz.underlying35 rfl) ?_
       refine qM (I6 0) rfl ?_
       refine WpL_nil (Wp_block ?_)
       refine Wp_loop (fun nn_ σ W14 => ∃ (k3 : Nat),(∃ jj_,σ = upds jj_ [(73,(.slice xa n.edges.length xc)),(74,(I6 (n.edges.length : Int))),(75,(I6 (k3 : Int)))]) ∧ Chg none1 w0 W14 ∧ Blk W14 bn #[(I6 n.states),(I6 n.start),(.slice ea n.ends.length ec),(.slice pa n.eps.length pc),(.slice xa n.edges.length xc)] 37 ∧ (k3 ≤ n.edges.length) ∧ (setsE n.edges = setsE (n.edges.drop k3)) ∧ nn_ = n.edges.length - k3) (n := n.edges.length - 0) ?_ ?_
       ·exact ⟨0,Fits.out ⟨rfl,rfl,rfl,trivial⟩,E,Bn,Nat.zero_le _,(by rw [List.drop_zero]),rfl⟩
       ·clear E Bn
        rintro _ _ W14 ⟨k3,⟨j14,rfl⟩,E,Bn,hk3,hz,rfl⟩
        refine Wp_seq_region ?_
        refine qV (r_lss (k := .i64) (a := (k3 : Int)) (b := (n.edges.length : Int)) rfl rfl) ?_
        refine WpL_nil (Wp_seq ?_)
        refine Wp_cond (b := decide (((k3 : Int) : Int) < (n.edges.length : Int))) rfl (fun hlt3 => ?_) (fun hlt3 => ?_)
        ·have khlt3 := hlt3
         replace hlt3 := of_decide_eq_true hlt3
         obtain ⟨e,he⟩ := get_of_lt (l := n.edges) (i := k3) (by omega)
         obtain ⟨xb,xo,rfl,hxc⟩ := edges_cells hed (by omega)
         obtain ⟨ra,rc,hcell,hsp⟩ := hxc k3 e he
         have hz2 := setsE_step hz he
         refine Wp_skip (thn_normal (Wp_seq (Wp_block (Wp_seq_region ?_))))
         refine qV (r_indexSlice (b := xb) (o := xo) (len := n.edges.length) (cap := xc) (i := k3) (o' := xo + k3 * 3) rfl rfl rfl Tryz.underlying35 siz74 (by omega) (by omega)) ?_
         refine qV (r_loadAgg (vs := [(I6 e.1),(I6 e.2.1),(.slice ra e.2.2.length rc)]) rfl agg74 siz74 rfl (hcell.ext E)) ?_
         refine s_allocStore (v := (.agg #[(I6 e.1),(I6 e.2.1),(.slice ra e.2.2.length rc)])) (c := #[(I6 e.1),(I6 e.2.1),(.slice ra e.2.2.length rc)]) (n := 3) (by decide) zer74 rfl siz74 rfl rfl rfl (by simp [Value.oneCell']) ?_
         intro bx wx Nx
         have Fx := Nx.ge E
         have Ox_bn := Nx.lt Bn
         replace Bn := Nx.keep Bn
         replace E := E.ext Nx.ext
         have Bx := Nx.blk
         refine WpL_nil (Wp_seq_region ?_)
         refine qF bx 0 2 rfl Tryz.underlying74 rfl siz24 rfl ?_
         refine qV (r_load (v := (.slice ra e.2.2.length rc)) rfl flat24 (Bx.cell rfl)) ?_
         refine WpL_enter rfl rfl (by decide) (r_callF (vs := [(.slice ra e.2.2.length rc)]) Tryz.func62 kQ kQ rfl) (rcheck_c _ _ e.2.2 (hsp.ext E)) ?_
         rintro _ w29 ⟨rfl,X29⟩
         replace Bn := X29.keep Bn
         replace Bx := X29.keep Bx
         replace E := E.ext X29
         refine qA (I6 (checkE e.2.2)) rfl ?_
         refine WpL_nil (Wp_seq_region ?_)
         refine qM (I6 (checkE e.2.2)) rfl ?_
         refine qV (r_neq (k := .i64) (a := checkE e.2.2) (b := 0) rfl rfl) ?_
         refine WpL_nil ?_
         refine Wp_cond (b := decide ((checkE e.2.2 : Int) ≠ 0)) rfl (fun h2 => ?_) (fun h2 => ?_)
         ·have kh2 := h2
          replace h2 := of_decide_eq_true h2
          refine Wp_seq_region ?_
          refine qM (I6 (checkE e.2.2)) rfl ?_
          refine qA (I6 (checkE e.2.2)) rfl ?_
          refine WpL_nil (Wp_ret (inB_ret (thn_ret (thn_ret (inB_ret (thn_ret ?_))))))
          refine fin_tmp Tryz.results29 (v := (.int .i64 (checkE e.2.2))) rfl ?_
          exact ⟨by unfold chkN; rw [if_neg h0,h1,hz2.2 h2]; rfl,E⟩
         ·have kh2 := h2
          replace h2 := of_decide_eq_false h2
          refine Wp_skip (inB_normal (thn_normal (Wp_region ?_)))
          refine qV (r_add (k := .i64) (a := (k3 : Int)) (b := 1) (c := (k3 : Int) + 1) rfl rfl (wI64 (by omega))) ?_
          refine qM (I6 ((k3 : Int) + 1)) rfl ?_
          refine WpL_nil (thn_normal ?_)
          exact ⟨n.edges.length - (k3 + 1),by omega,k3 + 1,Fits.out ⟨rfl,rfl,rfl,trivial⟩,E,Bn,(by omega),hz2.1 (by omega),rfl⟩
        ·have khlt3 := hlt3
         replace hlt3 := of_decide_eq_false hlt3
         have hkk3 : k3 = n.edges.length := by omega
         refine Wp_exit (thn_exit (thn_exit (inB_here (thn_normal (Wp_seq_region ?_)))))
         refine qA (I6 0) rfl ?_
         refine WpL_nil (Wp_ret ?_)
         refine fin_tmp Tryz.results29 (v := (.int .i64 0)) rfl ?_
         exact ⟨by unfold chkN; rw [if_neg h0,h1,hz,hkk3,List.drop_length]; rfl,E⟩
/-- A block that has nothing to do with what is collected. -/
def Apq (F : Nat → Prop) (pb : Nat) (sv fv : Value) (vs : List Value) (y : Nat) : Prop := ¬ F y ∧ ¬ GM pb sv fv vs y
section
variable {F F' M : Nat → Prop} {w0 w w2 : World} {base pb : Nat} {sv fv sv' fv' : Value} {vs vs' : List Value} {g g' : GS}
theorem GkSt.fresh (h : GkSt F w base pb sv fv vs g) {y : Nat} (hy : w.heap.size ≤ y) : Apq F pb sv fv vs y := ⟨fun hf => by have := h.fl y hf; omega,fun hm => by have := h.low y hm; omega⟩
theorem GrG.apart (h : GrG F w0 base pb sv fv vs F' sv' fv' vs' g' w) {y : Nat} (hy : Apq F pb sv fv vs y) (hl : y < w0.heap.size) : Apq F' pb sv' fv' vs' y := by
 refine ⟨fun hf => ?_,fun hm => ?_⟩
 ·rcases h.new y hf with h1 | h1
  ·exact hy.1 h1
  ·omega
 ·rcases h.olds y hm with h1 | h1
  ·exact hy.2 h1
  ·omega
/-- A write elsewhere, to a block that was made behind. -/
theorem GrG.other (h : GrG F w0 base pb sv fv vs F' sv' fv' vs' g' w) (c : Chg M w w2) (hM : ∀ y,M y → w0.heap.size ≤ y ∧ Apq F' pb sv' fv' vs' y) : GrG F w0 base pb sv fv vs F' sv' fv' vs' g' w2 :=
 ⟨h.sub,h.new,h.st.chg c (fun y hy hm => (hM y hm).2.1 hy) (fun y hy hm => (hM y hm).2.2 hy),h.chg.step c (fun x hx hm => absurd hx (by have := (hM x hm).1; omega)),h.os,h.of⟩
/-- A slice that was made now is not written again. -/
theorem GrG.frzV (h : GrG F w0 base pb sv fv vs F' sv' fv' vs' g' w) (e : Ext w w2) {v : Value} (hv : ∀ k,v.ownBlock = some k → w.heap.size ≤ k ∧ k < w2.heap.size) : GrG F w0 base pb sv fv vs (fun y => F' y ∨ v.ownBlock = some y) sv' fv' vs' g' w2 := by
 have hs := h.st
 have hlow := hs.low
 have hsz := h.chg.size
 have he := e.size
 obtain ⟨us,h3,h4⟩ := hs.sets
 refine ⟨fun y hy => .inl (h.sub y hy),fun y hy => ?_,⟨e.keep hs.blk,⟨us,own_ext h3 e,(h4.chg e (fun _ _ f => f)).mono fun y hy => .inl hy⟩,hs.fol.ext e,fun q hq hf => ?_,fun q hq hf => ?_,hs.apt,fun hf => ?_,hs.aps,Nat.le_trans hs.bs he,fun y hy => ?_⟩,h.chg.ext e,h.os,h.of⟩
 ·rcases hy with hy | hy
  ·exact h.new y hy
  ·have := hv y hy; exact .inr (by omega)
 ·have := hlow q (.inr (.inl hq))
  rcases hf with hf | hf
  ·exact hs.hsF q hq hf
  ·have := hv q hf; omega
 ·have := hlow q (.inr (.inr hq))
  rcases hf with hf | hf
  ·exact hs.hfF q hq hf
  ·have := hv q hf; omega
 ·have := hlow pb (.inl rfl)
  rcases hf with hf | hf
  ·exact hs.hp hf
  ·have := hv pb hf; omega
 ·rcases hy with hy | hy
  ·have := hs.fl y hy; omega
  ·exact (hv y hy).2
theorem Apq.frzV {y n m : Nat} {v : Value} (h : Apq F pb sv fv vs y) (hy : y < n) (hv : ∀ k,v.ownBlock = some k → n ≤ k ∧ k < m) : Apq (fun y => F y ∨ v.ownBlock = some y) pb sv fv vs y :=
 ⟨fun hf => hf.elim h.1 fun h1 => by have := hv y h1; omega,h.2⟩
end
/-- Two lists of numbers, joined. -/
theorem concatN_c (w0 : World) (q : Nat) (va vb : Value) (la lb L : List Nat) (hL : L = la ++ lb) (hB : Blk w0 q #[va,vb] 22) (ha : IntsAt w0 va (nZ la)) (hb : IntsAt w0 vb (nZ lb)) (hl : la.length + lb.length ≤ 1000000) :
  Ret Tryz.prog 57 #[.slice (some ⟨q,0,none⟩) 2 2] w0 fun r w => ((∃ a c,r = .slice a L.length c) ∧ IntsAt w r (nZ L) ∧ (L = [] ∨ ∃ b,r.ownBlock = some b) ∧ ∀ k,r.ownBlock = some k → w0.heap.size ≤ k ∧ k < w.heap.size) ∧ Ext w0 w := by
 subst hL
 refine (ncat2_c w0 w0.heap.size _ [nZ la,nZ lb] (nZ (la ++ lb)) (intss_blk hB rfl rfl (Nat.le_of_ble_eq_true rfl) (two_lists ha hb)) (by simp [nZ_app]) (by rw [nZ_len,List.length_append]; omega) (.inl rfl)).mono ?_
 rintro r w ⟨⟨a,c,rfl⟩,O,e⟩
 have hO := O.lt
 rw [nZ_len] at O hO ⊢
 exact ⟨⟨⟨a,c,rfl⟩,own_intsD O (nZ_len _).symm,(own_some O).imp List.eq_nil_of_length_eq_zero id,hO⟩,e⟩
theorem FrI.made {F : Nat → Prop} {w : World} {v : Value} {l : List Nat} (h : IntsAt w v (nZ l)) (hs : l = [] ∨ ∃ b,v.ownBlock = some b) : FrI (fun y => F y ∨ v.ownBlock = some y) w v l := ⟨h,hs.imp id fun ⟨b,hb⟩ => ⟨b,hb,.inr hb⟩⟩
theorem gcat_c (F : Nat → Prop) (w0 : World) (base pb : Nat) (sv fv : Value) (vs : List Value) (g : GS) (h : GkSt F w0 base pb sv fv vs g) (a b : Pt) (va vb : Value) (ha : PtAt F w0 a va) (hb : PtAt F w0 b vb) (hsrc : ∀ p ∈ a.lst,p < g.fol.length) (hR : RowB 100000 g.fol) (hl1 : a.fst.length ≤ 1000 ∧ a.lst.length ≤ 1000) (hl2 : b.fst.length ≤ 1000 ∧ b.lst.length ≤ 1000) (hg0 : 0 < g.fol.length) :
  Ret Tryz.prog 56 #[.pointer (some ⟨pb,0,none⟩),va,vb] w0 fun r w => ∃ F' vs',GrG F w0 base pb sv fv vs F' sv fv vs' (catK g a b) w ∧ PtAt F' w (catP a b) r := by
 obtain ⟨a1,c1,a2,c2,rfl,ha1,ha2⟩ := ha
 obtain ⟨b1,d1,b2,d2,rfl,hb1,hb2⟩ := hb
 refine Ret_of Tryz.func56 rfl Tryz.ntmps56 (Nat.le_of_ble_eq_true rfl) ?_
 have E : Chg (GM pb sv fv vs) w0 w0 := Chg.refl _ _
 have hG := GrG.start h
 refine Wp_seq_region ?_
 refine s_box (v := (.agg #[(.bool a.nul),(.slice a1 a.fst.length c1),(.slice a2 a.lst.length c2)])) (c := #[(.bool a.nul),(.slice a1 a.fst.length c1),(.slice a2 a.lst.length c2)]) (by decide) rfl rfl ?_
 intro ba wa Na
 have Fa := Na.ge E
 replace hG := hG.ext Na.ext
 replace E := E.ext Na.ext
 have Ba := Na.blk
 refine s_box (v := (.agg #[(.bool b.nul),(.slice b1 b.fst.length d1),(.slice b2 b.lst.length d2)])) (c := #[(.bool b.nul),(.slice b1 b.fst.length d1),(.slice b2 b.lst.length d2)]) (by decide) rfl rfl ?_
 intro bb wb Nb
 have Fb := Nb.ge E
 have Ob_ba := Nb.lt Ba
 replace Ba := Nb.keep Ba
 replace hG := hG.ext Nb.ext
 replace E := E.ext Nb.ext
 have Bb := Nb.blk
 refine s_alloc (c := #[(.bool false),(.slice none 0 0),(.slice none 0 0)]) (by decide) zer67 rfl ?_
 intro br wr Nr
 have Fr := Nr.ge E
 have Or_ba := Nr.lt Ba
 have Or_bb := Nr.lt Bb
 replace Ba := Nr.keep Ba
 replace Bb := Nr.keep Bb
 replace hG := hG.ext Nr.ext
 replace E := E.ext Nr.ext
 have Br := Nr.blk
 refine WpL_nil (Wp_seq_region ?_)
 refine qM (P6 pb 0) rfl ?_
 refine qF ba 0 2 rfl Tryz.underlying67 rfl siz22 rfl ?_
 refine qV (r_load (v := (.slice a2 a.lst.length c2)) rfl flat22 (Ba.cell rfl)) ?_
 refine qF bb 0 1 rfl Tryz.underlying67 rfl siz22 rfl ?_
 refine qV (r_load (v := (.slice b1 b.fst.length d1)) rfl flat22 (Bb.cell rfl)) ?_
 have hbr : br < (wr).heap.size ∧ ba < (wr).heap.size ∧ bb < (wr).heap.size := ⟨Br.lt,Ba.lt,Bb.lt⟩
 refine WpL_enter rfl rfl (by decide) (r_callF (vs := [(P6 pb 0),(.slice a2 a.lst.length c2),(.slice b1 b.fst.length d1)]) Tryz.func58 kQ kQ rfl) (glink_c F _ base pb sv fv vs g hG.st a2 b1 c2 d1 a.lst b.fst (ha2.chg hG.chg fun y hy => h.kept hy) (hb1.chg hG.chg fun y hy => h.kept hy) hsrc hR hl1.2 hl2.1 hg0) ?_
 rintro _ w9 ⟨v9,G9⟩
 replace Ba := G9.chg.keep ((h.fresh (by omega)).2) Ba
 replace Bb := G9.chg.keep ((h.fresh (by omega)).2) Bb
 replace Br := G9.chg.keep ((h.fresh (by omega)).2) Br
 replace E := E.step G9.chg (fun _ _ hm => hm)
 have hAr : Apq F pb sv fv v9 br := G9.apart (h.fresh (by omega)) hbr.1
 replace hG := hG.comp G9
 have hGo := hG
 refine WpL_nil (Wp_seq_region ?_)
 refine qF ba 0 0 rfl Tryz.underlying67 rfl siz4 rfl ?_
 refine qV (r_load (v := (.bool a.nul)) rfl flat4 (Ba.cell rfl)) ?_
 obtain ⟨e1,he1⟩ : ∃ e,(a.nul) = e := ⟨_,rfl⟩
 refine qV (r_move (v := .bool e1) (congrArg Value.bool he1)) ?_
 refine qG (.bool e1) (yU e1 (P6 bb 0)) (by cases e1 <;> first | exact gA | exact gB | exact .inl ⟨rfl,r_fieldAddr (b := bb) (o := 0) (o' := 0) rfl Tryz.underlying67 rfl siz4 rfl⟩) ?_
 refine qG (.bool e1) (yU e1 (.bool b.nul)) (by cases e1 <;> first | exact gA | exact gB | exact .inl ⟨rfl,r_load (v := (.bool b.nul)) rfl flat4 (Bb.cell rfl)⟩) ?_
 obtain ⟨e2,he2⟩ : ∃ e,(e1 && b.nul) = e := ⟨_,rfl⟩
 refine qV (r_pick (b := e1) (v := .bool e2) rfl (by rw [← he2]; cases e1 <;> rfl)) ?_
 refine qF ba 0 1 rfl Tryz.underlying67 rfl siz22 rfl ?_
 refine qV (r_load (v := (.slice a1 a.fst.length c1)) rfl flat22 (Ba.cell rfl)) ?_
 refine qF bb 0 2 rfl Tryz.underlying67 rfl siz22 rfl ?_
 refine qV (r_load (v := (.slice b2 b.lst.length d2)) rfl flat22 (Bb.cell rfl)) ?_
 refine qV (r_build (ps := [(0,(.bool e2)),(1,(.slice a1 a.fst.length c1)),(2,(.slice b2 b.lst.length d2))]) (v := (.agg #[(.bool e2),(.slice a1 a.fst.length c1),(.slice b2 b.lst.length d2)])) rfl (by kernel_rfl)) ?_
 refine s_allocStore (v := (.agg #[(.bool e2),(.slice a1 a.fst.length c1),(.slice b2 b.lst.length d2)])) (c := #[(.bool e2),(.slice a1 a.fst.length c1),(.slice b2 b.lst.length d2)]) (n := 3) (by decide) zer67 rfl siz67 rfl rfl rfl (by simp [Value.oneCell']) ?_
 intro bo wo No
 have Fo := No.ge E
 have Oo_ba := No.lt Ba
 have Oo_bb := No.lt Bb
 have Oo_br := No.lt Br
 replace Ba := No.keep Ba
 replace Bb := No.keep Bb
 replace Br := No.keep Br
 replace hG := hG.ext No.ext
 replace E := E.ext No.ext
 have Bo := No.blk
 refine WpL_nil ?_
 subst he2
 subst he1
 refine Wp_cut (fun σ W3 => ∃ (F1 : Nat → Prop) (fa : Option Addr) (fc : Nat),(∃ jj_,σ = upds jj_ [(4,(P6 ba 0)),(5,(P6 bb 0)),(6,(P6 br 0)),(7,(P6 bo 0))]) ∧ Chg (GM pb sv fv vs) w0 W3 ∧ Blk W3 ba #[(.bool a.nul),(.slice a1 a.fst.length c1),(.slice a2 a.lst.length c2)] 67 ∧ Blk W3 bb #[(.bool b.nul),(.slice b1 b.fst.length d1),(.slice b2 b.lst.length d2)] 67 ∧ Blk W3 br #[(.bool false),(.slice none 0 0),(.slice none 0 0)] 67 ∧ Blk W3 bo (#[Value.bool (a.nul && b.nul),.slice fa (catP a b).fst.length fc,.slice b2 b.lst.length d2]) 67 ∧ (GrG F w0 base pb sv fv vs F1 sv fv v9 (catK g a b) W3) ∧ (FrI F1 W3 (.slice fa (catP a b).fst.length fc) (catP a b).fst) ∧ (Apq F1 pb sv fv v9 bo ∧ Apq F1 pb sv fv v9 br)) ?_ ?_
 ·skip
  refine Wp_seq_region ?_
  refine qF ba 0 0 rfl Tryz.underlying67 rfl siz4 rfl ?_
  refine qV (r_load (v := (.bool a.nul)) rfl flat4 (Ba.cell rfl)) ?_
  refine WpL_nil ?_
  refine Wp_cond (b := a.nul) rfl (fun h1 => ?_) (fun h1 => ?_)
  ·have kh1 := h1
   have hcf : (catP a b).fst = a.fst ++ b.fst := by simp [catP,h1]
   refine Wp_region ?_
   refine qF ba 0 1 rfl Tryz.underlying67 rfl siz22 rfl ?_
   refine qV (r_load (v := (.slice a1 a.fst.length c1)) rfl flat22 (Ba.cell rfl)) ?_
   refine qF bb 0 1 rfl Tryz.underlying67 rfl siz22 rfl ?_
   refine qV (r_load (v := (.slice b1 b.fst.length d1)) rfl flat22 (Bb.cell rfl)) ?_
   refine s_buildSlice (ps := [(0,(.slice a1 a.fst.length c1)),(1,(.slice b1 b.fst.length d1))]) (c := #[(.slice a1 a.fst.length c1),(.slice b1 b.fst.length d1)]) (by decide) rfl Tryz.underlying62 siz22 zer22 (by decide) (by decide) (by kernel_rfl) ?_
   intro bq wq Nq
   have Fq := Nq.ge E
   have Oq_ba := Nq.lt Ba
   have Oq_bb := Nq.lt Bb
   have Oq_br := Nq.lt Br
   have Oq_bo := Nq.lt Bo
   replace Ba := Nq.keep Ba
   replace Bb := Nq.keep Bb
   replace Br := Nq.keep Br
   replace Bo := Nq.keep Bo
   replace hG := hG.ext Nq.ext
   replace E := E.ext Nq.ext
   have Bq := Nq.blk
   have hGq := hG
   have hqs : bo < (wq).heap.size ∧ br < (wq).heap.size := ⟨Bo.lt,Br.lt⟩
   have hAo : Apq F pb sv fv v9 bo := hGo.st.fresh (by have := No.eq; omega)
   refine WpL_enter rfl rfl (by decide) (r_callF (vs := [(.slice (some ⟨bq,0,none⟩) 2 2)]) Tryz.func57 kQ kQ rfl) (concatN_c _ bq _ _ a.fst b.fst (catP a b).fst hcf Bq (ha1.chg hGq.chg fun y hy => h.kept hy).1 (hb1.chg hGq.chg fun y hy => h.kept hy).1 (by omega)) ?_
   rintro _ w19 ⟨⟨⟨e1,f1,rfl⟩,hI1,hS1,hO1⟩,X19⟩
   replace Ba := X19.keep Ba
   replace Bb := X19.keep Bb
   replace Br := X19.keep Br
   replace Bo := X19.keep Bo
   replace Bq := X19.keep Bq
   replace E := E.ext X19
   have hG3 := hGq.frzV X19 hO1
   have hI3 := FrI.made (F := F) hI1 hS1
   have hA3 := And.intro (hAo.frzV hqs.1 hO1) (hAr.frzV hqs.2 hO1)
   refine qF bo 0 1 rfl Tryz.underlying67 rfl siz22 rfl ?_
   refine s_store (b := bo) (o := 1) (c' := #[(.bool (a.nul && b.nul)),(.slice e1 ((catP a b).fst.length) f1),(.slice b2 b.lst.length d2)]) (v := (.slice e1 ((catP a b).fst.length) f1)) rfl rfl rfl siz22 Bo (by simp) rfl ?_
   intro w5 S5
   replace hG3 := hG3.other S5.chg (fun y e => by rw [show y = bo from e]; exact ⟨by omega,hA3.1⟩)
   replace hI3 := hI3.chg S5.chg (fun y hy e => by rw [show y = bo from e] at hy; exact hA3.1.1 hy)
   replace Ba := S5.keep (by omega) Ba
   replace Bb := S5.keep (by omega) Bb
   replace Br := S5.keep (by omega) Br
   replace Bq := S5.keep (by omega) Bq
   replace E := S5.step E (by first | exact Or.inl (by omega) | exact Or.inr rfl | exact Or.inr (by assumption) | exact Or.inr (by simp) | exact Or.inr (by omega) | exact Or.inr (by dsimp only; omega))
   replace Bo := S5.blk
   refine WpL_nil (thn_normal ?_)
   exact ⟨_,e1,f1,Fits.out ⟨rfl,rfl,rfl,rfl,trivial⟩,E,Ba,Bb,Br,Bo,hG3,hI3,hA3⟩
  ·have kh1 := h1
   have hcf : (catP a b).fst = a.fst := by simp [catP,h1]
   rw [← hcf] at Bo
   refine Wp_skip (thn_normal ?_)
   exact ⟨F,a1,c1,Fits.out ⟨rfl,rfl,rfl,rfl,trivial⟩,E,Ba,Bb,Br,Bo,hG,(by rw [hcf]; exact ha1.chg hG.chg fun y hy => h.kept hy),⟨hGo.st.fresh (by have := No.eq; omega),hAr⟩⟩
 ·clear E Ba Bb Br Bo
  rintro _ W3 ⟨F1,fa,fc,⟨j3,rfl⟩,E,Ba,Bb,Br,Bo,hG1,hF1,hA1⟩
  refine Wp_seq (Wp_seq_region ?_)
  refine qF bb 0 0 rfl Tryz.underlying67 rfl siz4 rfl ?_
  refine qV (r_load (v := (.bool b.nul)) rfl flat4 (Bb.cell rfl)) ?_
  refine WpL_nil ?_
  refine Wp_cond (b := b.nul) rfl (fun h2 => ?_) (fun h2 => ?_)
  ·have kh2 := h2
   have hcl : (catP a b).lst = a.lst ++ b.lst := by simp [catP,h2]
   refine Wp_region ?_
   refine qF ba 0 2 rfl Tryz.underlying67 rfl siz22 rfl ?_
   refine qV (r_load (v := (.slice a2 a.lst.length c2)) rfl flat22 (Ba.cell rfl)) ?_
   refine qF bb 0 2 rfl Tryz.underlying67 rfl siz22 rfl ?_
   refine qV (r_load (v := (.slice b2 b.lst.length d2)) rfl flat22 (Bb.cell rfl)) ?_
   refine s_buildSlice (ps := [(0,(.slice a2 a.lst.length c2)),(1,(.slice b2 b.lst.length d2))]) (c := #[(.slice a2 a.lst.length c2),(.slice b2 b.lst.length d2)]) (by decide) rfl Tryz.underlying62 siz22 zer22 (by decide) (by decide) (by kernel_rfl) ?_
   intro bq wq Nq
   have Fq := Nq.ge E
   have Oq_ba := Nq.lt Ba
   have Oq_bb := Nq.lt Bb
   have Oq_br := Nq.lt Br
   have Oq_bo := Nq.lt Bo
   replace Ba := Nq.keep Ba
   replace Bb := Nq.keep Bb
   replace Br := Nq.keep Br
   replace Bo := Nq.keep Bo
   replace hG1 := hG1.ext Nq.ext
   replace hF1 := hF1.ext Nq.ext
   replace E := E.ext Nq.ext
   have Bq := Nq.blk
   have hGq := hG1
   have hFq := hF1
   have hqs : bo < (wq).heap.size ∧ br < (wq).heap.size := ⟨Bo.lt,Br.lt⟩
   refine WpL_enter rfl rfl (by decide) (r_callF (vs := [(.slice (some ⟨bq,0,none⟩) 2 2)]) Tryz.func57 kQ kQ rfl) (concatN_c _ bq _ _ a.lst b.lst (catP a b).lst hcl Bq (ha2.chg hGq.chg fun y hy => h.kept hy).1 (hb2.chg hGq.chg fun y hy => h.kept hy).1 (by omega)) ?_
   rintro _ w29 ⟨⟨⟨e1,f1,rfl⟩,hI1,hS1,hO1⟩,X29⟩
   replace Ba := X29.keep Ba
   replace Bb := X29.keep Bb
   replace Br := X29.keep Br
   replace Bo := X29.keep Bo
   replace Bq := X29.keep Bq
   replace E := E.ext X29
   have hG3 := hGq.frzV X29 hO1
   have hI3 := FrI.made (F := F1) hI1 hS1
   have hF3 := (hFq.ext X29).mono (F' := fun y => F1 y ∨ (Value.slice e1 (catP a b).lst.length f1).ownBlock = some y) fun y hy => .inl hy
   have hA3 := And.intro (hA1.1.frzV hqs.1 hO1) (hA1.2.frzV hqs.2 hO1)
   refine qF bo 0 2 rfl Tryz.underlying67 rfl siz22 rfl ?_
   refine s_store (b := bo) (o := 2) (c' := #[(.bool (a.nul && b.nul)),(.slice fa ((catP a b).fst.length) fc),(.slice e1 ((catP a b).lst.length) f1)]) (v := (.slice e1 ((catP a b).lst.length) f1)) rfl rfl rfl siz22 Bo (by simp) rfl ?_
   intro w7 S7
   replace hG3 := hG3.other S7.chg (fun y e => by first | (rw [show y = bo from e]; exact ⟨by omega,hA3.1⟩) | (rw [show y = br from e]; exact ⟨by omega,hA3.2⟩))
   replace hI3 := hI3.chg S7.chg (fun y hy e => by first | (rw [show y = bo from e] at hy; exact hA3.1.1 hy) | (rw [show y = br from e] at hy; exact hA3.2.1 hy))
   replace hF3 := hF3.chg S7.chg (fun y hy e => by first | (rw [show y = bo from e] at hy; exact hA3.1.1 hy) | (rw [show y = br from e] at hy; exact hA3.2.1 hy))
   replace Ba := S7.keep (by omega) Ba
   replace Bb := S7.keep (by omega) Bb
   replace Br := S7.keep (by omega) Br
   replace Bq := S7.keep (by omega) Bq
   replace E := S7.step E (by first | exact Or.inl (by omega) | exact Or.inr rfl | exact Or.inr (by assumption) | exact Or.inr (by simp) | exact Or.inr (by omega) | exact Or.inr (by dsimp only; omega))
   replace Bo := S7.blk
   refine WpL_nil (thn_normal (Wp_seq_region ?_))
   refine qV (r_loadAgg (vs := [(.bool (a.nul && b.nul)),(.slice fa ((catP a b).fst.length) fc),(.slice e1 ((catP a b).lst.length) f1)]) rfl agg67 siz67 rfl (Bo.cells rfl)) ?_
   refine s_storeAgg (b := br) (o := 0) (c' := #[(.bool (a.nul && b.nul)),(.slice fa ((catP a b).fst.length) fc),(.slice e1 ((catP a b).lst.length) f1)]) rfl rfl (by simp [Value.oneCell']) siz67 rfl Br (by first | (simp; done) | exact Nat.le_of_ble_eq_true rfl) rfl ?_
   intro w8 S8
   replace hG3 := hG3.other S8.chg (fun y e => by first | (rw [show y = bo from e]; exact ⟨by omega,hA3.1⟩) | (rw [show y = br from e]; exact ⟨by omega,hA3.2⟩))
   replace hI3 := hI3.chg S8.chg (fun y hy e => by first | (rw [show y = bo from e] at hy; exact hA3.1.1 hy) | (rw [show y = br from e] at hy; exact hA3.2.1 hy))
   replace hF3 := hF3.chg S8.chg (fun y hy e => by first | (rw [show y = bo from e] at hy; exact hA3.1.1 hy) | (rw [show y = br from e] at hy; exact hA3.2.1 hy))
   replace Ba := S8.keep (by omega) Ba
   replace Bb := S8.keep (by omega) Bb
   replace Bo := S8.keep (by omega) Bo
   replace Bq := S8.keep (by omega) Bq
   replace E := S8.step E (by first | exact Or.inl (by omega) | exact Or.inr rfl | exact Or.inr (by assumption) | exact Or.inr (by simp) | exact Or.inr (by omega) | exact Or.inr (by dsimp only; omega))
   replace Br := S8.blk
   refine WpL_nil (Wp_ret ?_)
   refine fin_agg Tryz.results56 (vs := [(.bool (a.nul && b.nul)),(.slice fa ((catP a b).fst.length) fc),(.slice e1 ((catP a b).lst.length) f1)]) (b := br) rfl agg67 siz67 rfl (Br.cells rfl) ?_
   exact ⟨_,_,hG3,_,_,_,_,rfl,hF3,hI3⟩
  ·have kh2 := h2
   have hcl : (catP a b).lst = b.lst := by simp [catP,h2]
   have hA3 := hA1
   have hI3 := (hb2.chg hG1.chg fun y hy => h.kept hy).mono hG1.sub
   refine Wp_skip (thn_normal (Wp_seq_region ?_))
   refine qV (r_loadAgg (vs := [(.bool (a.nul && b.nul)),(.slice fa ((catP a b).fst.length) fc),(.slice b2 b.lst.length d2)]) rfl agg67 siz67 rfl (Bo.cells rfl)) ?_
   refine s_storeAgg (b := br) (o := 0) (c' := #[(.bool (a.nul && b.nul)),(.slice fa ((catP a b).fst.length) fc),(.slice b2 b.lst.length d2)]) rfl rfl (by simp [Value.oneCell']) siz67 rfl Br (by first | (simp; done) | exact Nat.le_of_ble_eq_true rfl) rfl ?_
   intro w9 S9
   replace hG1 := hG1.other S9.chg (fun y e => by rw [show y = br from e]; exact ⟨by omega,hA3.2⟩)
   replace hI3 := hI3.chg S9.chg (fun y hy e => by rw [show y = br from e] at hy; exact hA3.2.1 hy)
   replace hF1 := hF1.chg S9.chg (fun y hy e => by rw [show y = br from e] at hy; exact hA3.2.1 hy)
   replace Ba := S9.keep (by omega) Ba
   replace Bb := S9.keep (by omega) Bb
   replace Bo := S9.keep (by omega) Bo
   replace E := S9.step E (by first | exact Or.inl (by omega) | exact Or.inr rfl | exact Or.inr (by assumption) | exact Or.inr (by simp) | exact Or.inr (by omega) | exact Or.inr (by dsimp only; omega))
   replace Br := S9.blk
   refine WpL_nil (Wp_ret ?_)
   refine fin_agg Tryz.results56 (vs := [(.bool (a.nul && b.nul)),(.slice fa ((catP a b).fst.length) fc),(.slice b2 b.lst.length d2)]) (b := br) rfl agg67 siz67 rfl (Br.cells rfl) ?_
   exact ⟨_,_,hG1,fa,fc,b2,d2,by rw [hcl]; rfl,hF1,by rw [hcl]; exact hI3⟩
section
variable {x y : Re} {s s1 : ThS}
theorem tmO_eq (x : Re) (s : ThS) : tmO x s = nodeT x.kind x.set x.mn x.mx (tmL x.args) s := by cases x; rw [tmO]; rfl
theorem tmL_one (ha : x.args = [y]) : tmL x.args = [tmO y] := by rw [ha]; rfl
theorem tm_no (h : newT s = none) : tmO x s = none := by rw [tmO_eq,nodeT,h]; rfl
theorem tm_0 (h : newT s = some (s1,s.n)) (hk : x.kind = 0) : tmO x s = (newT s1).bind fun (s2,b) => some (s2,s.n,b) := by rw [tmO_eq,nodeT,h,Option.bind_some,hk]; rfl
theorem tm_1 (h : newT s = some (s1,s.n)) (hk : x.kind = 1) : tmO x s = some (s1,s.n,s.n) := by rw [tmO_eq,nodeT,h,Option.bind_some,hk]; rfl
theorem tm_2 (h : newT s = some (s1,s.n)) (hk : x.kind = 2) : tmO x s = (newT s1).bind fun (s2,b) => some (edgeT s2 s.n b x.set,s.n,b) := by rw [tmO_eq,nodeT,h,Option.bind_some,hk]; rfl
theorem tm_3 (h : newT s = some (s1,s.n)) (hk : x.kind = 3) : tmO x s = (catT (tmL x.args) s1 s.n).bind fun (s2,b) => some (s2,s.n,b) := by rw [tmO_eq,nodeT,h,Option.bind_some,hk]; rfl
theorem tm_4 (h : newT s = some (s1,s.n)) (hk : x.kind = 4) : tmO x s = (altA (tmL x.args) s1 s.n).bind fun (s2,b) => some (s2,s.n,b) := by
  rw [tmO_eq,nodeT,h,Option.bind_some,hk,altA]
  show ((newT s1).bind fun (s2,e) => (altT e (tmL x.args) s2 s.n).bind fun s3 => some (s3,s.n,e)) = _
  cases h1 : newT s1 with
  | none => rfl
  | some p =>
    simp only [Option.bind_some]
    cases h2 : altT p.2 (tmL x.args) p.1 s.n with
    | none => rfl
    | some q => rfl
theorem tm_9 (h : newT s = some (s1,s.n)) (hk : x.kind = 9) (ha : x.args = [y]) : tmO x s = (tmO y s1).bind fun (s2,a,b) => some (epsT s2 s.n a,s.n,b) := by rw [tmO_eq,nodeT,h,Option.bind_some,hk,tmL_one ha]; rfl
theorem tm_5 (h : newT s = some (s1,s.n)) (hk : x.kind = 5) (ha : x.args = [y]) : tmO x s = (starF (tmO y) s1 s.n).bind fun (s2,e) => some (s2,s.n,e) := by
  rw [tmO_eq,nodeT,h,Option.bind_some,hk,tmL_one ha,starF]
  show ((tmO y s1).bind fun (s2,a,b) => (newT s2).bind fun (s3,e) => some (epsT (epsT (epsT s3 s.n a) s.n e) b s.n,s.n,e)) = _
  cases h1 : tmO y s1 with
  | none => rfl
  | some p =>
    obtain ⟨s2,a,b⟩ := p
    simp only [Option.bind_some]
    cases h2 : newT s2 with
    | none => rfl
    | some q => rfl
theorem tm_6 (h : newT s = some (s1,s.n)) (hk : x.kind = 6) (ha : x.args = [y]) : tmO x s = (repT (tmO y) x.mn s1 s.n x.mx.toNat).bind fun (s2,b) => some (s2,s.n,b) := by rw [tmO_eq,nodeT,h,Option.bind_some,hk,tmL_one ha]; rfl
end
theorem args_one9 {t : Re} (h : t.args.length = 1) : ∃ y,t.args = [y] := by
  match t.args,h with
  | [a],_ => exact ⟨a,rfl⟩
theorem tof0_c (wb : World) (x : Re) (hk : x.kind = 0) : ThOf wb x := by
 intro base pb F w0 pv xv s vs hxt hE hF hP hL
 have hxt0 := hxt
 obtain ⟨sa,sc,aa,ac,rfl,hset,hlen,hargs⟩ := hxt.form
 refine RetX_of Tryz.func37 rfl Tryz.ntmps37 (Nat.le_of_ble_eq_true rfl) ?_
 have E : Chg (fun _ => True) w0 w0 := Chg.refl _ _
 refine Wp_seq_region ?_
 refine s_box (v := (.agg (R6 x sa sc aa ac))) (c := (R6 x sa sc aa ac)) (by decide) rfl rfl ?_
 intro br wr Nr
 have Fr := Nr.ge E
 replace E := E.ext Nr.ext
 have Br := Nr.blk
 refine qA (I6 0) rfl ?_
 refine qA (I6 0) rfl ?_
 refine WpL_nil (Wp_seq_region ?_)
 refine qM (P6 pb 0) rfl ?_
 have G1 := (GrT.start hP).frz Nr.ext (b := br) (by rw [Nr.eq]; exact Nat.le_refl _) Br.lt
 refine WpL_enterX rfl rfl (by decide) (r_callF (vs := [(P6 pb 0)]) Tryz.func68 kQ kQ rfl) (tstate_c _ _ base pb _ _ s G1.st hL.2.2) (fun w' h => And.intro rfl ⟨tm_no h.1,G1.pan h.2⟩) ?_
 rintro _ w19 ⟨s1,h1,rfl,G2⟩
 replace Br := G2.chg.keep (G1.st.kept (.inr rfl)) Br
 replace E := E.step G2.chg (fun _ _ _ => trivial)
 have hL1 := hL.new h1
 replace G2 := G1.comp G2
 refine qA (I6 (s.n : Int)) rfl ?_
 refine WpL_nil (Wp_seq (Wp_seq_region ?_))
 refine qF br 0 0 rfl Tryz.underlying27 rfl siz3 rfl ?_
 refine qV (r_load (v := (I6 x.kind)) rfl flat3 (Br.cell rfl)) ?_
 refine WpL_nil (Wp_block (Wp_seq_region ?_))
 refine qV (r_eql (k := .i64) (a := x.kind) (b := 0) rfl rfl) ?_
 refine qA (.bool (decide ((x.kind : Int) = 0))) rfl ?_
 refine WpL_nil ?_
 have hc1 : (decide ((x.kind : Int) = 0)) = true := decide_eq_true hk
 refine Wp_cond_true (congrArg Value.bool hc1) ?_
 refine Wp_seq_region ?_
 refine qM (I6 (s.n : Int)) rfl ?_
 refine qM (P6 pb 0) rfl ?_
 refine WpL_enterX rfl rfl (by decide) (r_callF (vs := [(P6 pb 0)]) Tryz.func68 kQ kQ rfl) (tstate_c _ _ base pb _ _ s1 G2.st hL1.2.2) (fun w' h => And.intro rfl ⟨by rw [tm_0 h1 hk,h.1]; rfl,G2.pan h.2⟩) ?_
 rintro _ w29 ⟨s2,h2,rfl,G3⟩
 replace Br := G3.chg.keep (G2.st.kept (.inr rfl)) Br
 replace E := E.step G3.chg (fun _ _ _ => trivial)
 refine qA (I6 (s.n : Int)) rfl ?_
 refine qA (I6 (s1.n : Int)) rfl ?_
 refine WpL_nil (Wp_ret (inB_ret (thn_ret (finX_ret ?_))))
 refine fin_tmp2 Tryz.results37 (v := (.int .i64 ((s.n : Nat) : Int))) (v' := (.int .i64 ((s1.n : Nat) : Int))) rfl rfl ?_
 exact ⟨_,_,_,_,_,_,by rw [tm_0 h1 hk,h2]; rfl,rfl,G2.comp G3⟩
theorem tof1_c (wb : World) (x : Re) (hk : x.kind = 1) : ThOf wb x := by
 intro base pb F w0 pv xv s vs hxt hE hF hP hL
 have hxt0 := hxt
 obtain ⟨sa,sc,aa,ac,rfl,hset,hlen,hargs⟩ := hxt.form
 refine RetX_of Tryz.func37 rfl Tryz.ntmps37 (Nat.le_of_ble_eq_true rfl) ?_
 have E : Chg (fun _ => True) w0 w0 := Chg.refl _ _
 refine Wp_seq_region ?_
 refine s_box (v := (.agg (R6 x sa sc aa ac))) (c := (R6 x sa sc aa ac)) (by decide) rfl rfl ?_
 intro br wr Nr
 have Fr := Nr.ge E
 replace E := E.ext Nr.ext
 have Br := Nr.blk
 refine qA (I6 0) rfl ?_
 refine qA (I6 0) rfl ?_
 refine WpL_nil (Wp_seq_region ?_)
 refine qM (P6 pb 0) rfl ?_
 have G1 := (GrT.start hP).frz Nr.ext (b := br) (by rw [Nr.eq]; exact Nat.le_refl _) Br.lt
 refine WpL_enterX rfl rfl (by decide) (r_callF (vs := [(P6 pb 0)]) Tryz.func68 kQ kQ rfl) (tstate_c _ _ base pb _ _ s G1.st hL.2.2) (fun w' h => And.intro rfl ⟨tm_no h.1,G1.pan h.2⟩) ?_
 rintro _ w19 ⟨s1,h1,rfl,G2⟩
 replace Br := G2.chg.keep (G1.st.kept (.inr rfl)) Br
 replace E := E.step G2.chg (fun _ _ _ => trivial)
 have hL1 := hL.new h1
 replace G2 := G1.comp G2
 refine qA (I6 (s.n : Int)) rfl ?_
 refine WpL_nil (Wp_seq (Wp_seq_region ?_))
 refine qF br 0 0 rfl Tryz.underlying27 rfl siz3 rfl ?_
 refine qV (r_load (v := (I6 x.kind)) rfl flat3 (Br.cell rfl)) ?_
 refine WpL_nil (Wp_block (Wp_seq_region ?_))
 refine qV (r_eql (k := .i64) (a := x.kind) (b := 0) rfl rfl) ?_
 refine qA (.bool (decide ((x.kind : Int) = 0))) rfl ?_
 refine WpL_nil ?_
 have hc1 : (decide ((x.kind : Int) = 0)) = false := decide_eq_false (by omega)
 refine Wp_cond_false (congrArg Value.bool hc1) ?_
 refine Wp_seq_region ?_
 refine qV (r_eql (k := .i64) (a := x.kind) (b := 1) rfl rfl) ?_
 refine qA (.bool (decide ((x.kind : Int) = 1))) rfl ?_
 refine WpL_nil ?_
 have hc2 : (decide ((x.kind : Int) = 1)) = true := decide_eq_true hk
 refine Wp_cond_true (congrArg Value.bool hc2) ?_
 refine Wp_seq_region ?_
 refine qM (I6 (s.n : Int)) rfl ?_
 refine qM (I6 (s.n : Int)) rfl ?_
 refine qA (I6 (s.n : Int)) rfl ?_
 refine qA (I6 (s.n : Int)) rfl ?_
 refine WpL_nil (Wp_ret (inB_ret (thn_ret (finX_ret ?_))))
 refine fin_tmp2 Tryz.results37 (v := (.int .i64 ((s.n : Nat) : Int))) (v' := (.int .i64 ((s.n : Nat) : Int))) rfl rfl ?_
 exact ⟨_,_,_,_,_,_,tm_1 h1 hk,rfl,G2⟩
theorem tof9_c (wb : World) (x : Re) (hk : x.kind = 9) (ha : x.args.length = 1) (hof : ∀ y ∈ x.args,ThOf wb y) : ThOf wb x := by
 intro base pb F w0 pv xv s vs hxt hE hF hP hL
 have hxt0 := hxt
 obtain ⟨sa,sc,aa,ac,rfl,hset,hlen,hargs⟩ := hxt.form
 obtain ⟨y,hy⟩ := args_one9 ha
 have hym : y ∈ x.args := by rw [hy]; exact List.mem_singleton_self y
 obtain ⟨ab,ao,rfl,hres⟩ := args_at hargs (by omega)
 obtain ⟨us,hus,hyt⟩ := hres.get (i := 0) (t := y) (by rw [hy]; rfl)
 have hyt0 := hyt
 obtain ⟨ysa,ysc,yaa,yac,rfl,_,_,_⟩ := hyt.form
 refine RetX_of Tryz.func37 rfl Tryz.ntmps37 (Nat.le_of_ble_eq_true rfl) ?_
 have E : Chg (fun _ => True) w0 w0 := Chg.refl _ _
 refine Wp_seq_region ?_
 refine s_box (v := (.agg (R6 x sa sc (some ⟨ab,ao,none⟩) ac))) (c := (R6 x sa sc (some ⟨ab,ao,none⟩) ac)) (by decide) rfl rfl ?_
 intro br wr Nr
 have Fr := Nr.ge E
 replace E := E.ext Nr.ext
 have Br := Nr.blk
 refine qA (I6 0) rfl ?_
 refine qA (I6 0) rfl ?_
 refine WpL_nil (Wp_seq_region ?_)
 refine qM (P6 pb 0) rfl ?_
 have G1 := (GrT.start hP).frz Nr.ext (b := br) (by rw [Nr.eq]; exact Nat.le_refl _) Br.lt
 refine WpL_enterX rfl rfl (by decide) (r_callF (vs := [(P6 pb 0)]) Tryz.func68 kQ kQ rfl) (tstate_c _ _ base pb _ _ s G1.st hL.2.2) (fun w' h => And.intro rfl ⟨tm_no h.1,G1.pan h.2⟩) ?_
 rintro _ w19 ⟨s1,h1,rfl,G2⟩
 replace Br := G2.chg.keep (G1.st.kept (.inr rfl)) Br
 replace E := E.step G2.chg (fun _ _ _ => trivial)
 have hL1 := hL.new h1
 replace G2 := G1.comp G2
 refine qA (I6 (s.n : Int)) rfl ?_
 refine WpL_nil (Wp_seq (Wp_seq_region ?_))
 refine qF br 0 0 rfl Tryz.underlying27 rfl siz3 rfl ?_
 refine qV (r_load (v := (I6 x.kind)) rfl flat3 (Br.cell rfl)) ?_
 refine WpL_nil (Wp_block (Wp_seq_region ?_))
 refine qV (r_eql (k := .i64) (a := x.kind) (b := 0) rfl rfl) ?_
 refine qA (.bool (decide ((x.kind : Int) = 0))) rfl ?_
 refine WpL_nil ?_
 have hc1 : (decide ((x.kind : Int) = 0)) = false := decide_eq_false (by omega)
 refine Wp_cond_false (congrArg Value.bool hc1) ?_
 refine Wp_seq_region ?_
 refine qV (r_eql (k := .i64) (a := x.kind) (b := 1) rfl rfl) ?_
 refine qA (.bool (decide ((x.kind : Int) = 1))) rfl ?_
 refine WpL_nil ?_
 have hc2 : (decide ((x.kind : Int) = 1)) = false := decide_eq_false (by omega)
 refine Wp_cond_false (congrArg Value.bool hc2) ?_
 refine Wp_seq_region ?_
 refine qV (r_eql (k := .i64) (a := x.kind) (b := 2) rfl rfl) ?_
 refine qA (.bool (decide ((x.kind : Int) = 2))) rfl ?_
 refine WpL_nil ?_
 have hc3 : (decide ((x.kind : Int) = 2)) = false := decide_eq_false (by omega)
 refine Wp_cond_false (congrArg Value.bool hc3) ?_
 refine Wp_seq_region ?_
 refine qV (r_eql (k := .i64) (a := x.kind) (b := 3) rfl rfl) ?_
 refine qA (.bool (decide ((x.kind : Int) = 3))) rfl ?_
 refine WpL_nil ?_
 have hc4 : (decide ((x.kind : Int) = 3)) = false := decide_eq_false (by omega)
 refine Wp_cond_false (congrArg Value.bool hc4) ?_
 refine Wp_seq_region ?_
 refine qV (r_eql (k := .i64) (a := x.kind) (b := 4) rfl rfl) ?_
 refine qA (.bool (decide ((x.kind : Int) = 4))) rfl ?_
 refine WpL_nil ?_
 have hc5 : (decide ((x.kind : Int) = 4)) = false := decide_eq_false (by omega)
 refine Wp_cond_false (congrArg Value.bool hc5) ?_
 refine Wp_seq_region ?_
 refine qV (r_eql (k := .i64) (a := x.kind) (b := 9) rfl rfl) ?_
 refine qA (.bool (decide ((x.kind : Int) = 9))) rfl ?_
 refine WpL_nil ?_
 have hc6 : (decide ((x.kind : Int) = 9)) = true := decide_eq_true hk
 refine Wp_cond_true (congrArg Value.bool hc6) ?_
 refine Wp_seq_region ?_
 refine qM (P6 pb 0) rfl ?_
 refine qF br 0 2 rfl Tryz.underlying27 rfl siz25 rfl ?_
 refine qV (r_load (v := (.slice (some ⟨ab,ao,none⟩) x.args.length ac)) rfl flat25 (Br.cell rfl)) ?_
 refine qV (r_indexSlice (b := ab) (o := ao) (len := x.args.length) (cap := ac) (i := 0) (o' := ao + 0 * 6) rfl rfl rfl Tryz.underlying25 siz27 (by omega) (by omega)) ?_
 refine qV (r_loadAgg (vs := [(I6 y.kind),(.slice ysa y.set.length ysc),(.slice yaa y.args.length yac),(I6 y.mn),(I6 y.mx),(.bool y.neg)]) rfl agg27 siz27 rfl (by simpa using hus.ext (G2.base' hP hF hE))) ?_
 refine WpL_enterX rfl rfl (by decide) (r_callF (vs := [(P6 pb 0),(.agg (R6 y ysa ysc yaa yac))]) Tryz.func37 kQ kQ rfl) (hof y hym base pb _ _ _ _ s1 _ hyt0 (G2.base' hP hF hE) (fun q hq => G2.sub q (hF q hq)) G2.st (hL1.le (Nat.zero_le _))) (fun w' h => And.intro rfl ⟨by rw [tm_9 h1 hk hy,h.1]; rfl,G2.pan h.2⟩) ?_
 rintro _ w29 ⟨s2,fx,fy,F2,p2,x2,h2,rfl,G3⟩
 replace Br := G3.chg.keep (G2.st.kept (.inr rfl)) Br
 replace E := E.step G3.chg (fun _ _ _ => trivial)
 have hL2 := (hL1.le (Nat.zero_le _) : LimT s1 0).step (lim_all y _ _ _ _ h2)
 replace G3 := G2.comp G3
 refine qM (.tuple #[(I6 (fx : Int)),(I6 (fy : Int))]) rfl ?_
 refine qV (r_extract (vs := #[(I6 (fx : Int)),(I6 (fy : Int))]) (v := (I6 (fx : Int))) rfl rfl) ?_
 refine qV (r_extract (vs := #[(I6 (fx : Int)),(I6 (fy : Int))]) (v := (I6 (fy : Int))) rfl rfl) ?_
 refine qA (I6 (fx : Int)) rfl ?_
 refine qA (I6 (fy : Int)) rfl ?_
 refine WpL_nil (Wp_seq_region ?_)
 refine qM (P6 pb 0) rfl ?_
 refine qM (I6 (s.n : Int)) rfl ?_
 refine qM (I6 (fx : Int)) rfl ?_
 refine WpL_enter rfl rfl (by decide) (r_callF (vs := [(P6 pb 0),(I6 (s.n : Int)),(I6 (fx : Int))]) Tryz.func69 kQ kQ rfl) (teps_c _ _ base pb _ _ s2 s.n fx G3.st hL2.small.1) ?_
 rintro _ w39 ⟨p4,G4⟩
 replace E := E.step G4.chg (fun _ _ _ => trivial)
 refine WpL_nil (Wp_seq_region ?_)
 refine qM (I6 (s.n : Int)) rfl ?_
 refine qM (I6 (fy : Int)) rfl ?_
 refine qA (I6 (s.n : Int)) rfl ?_
 refine qA (I6 (fy : Int)) rfl ?_
 refine WpL_nil (Wp_ret (inB_ret (thn_ret (finX_ret ?_))))
 refine fin_tmp2 Tryz.results37 (v := (.int .i64 ((s.n : Nat) : Int))) (v' := (.int .i64 ((fy : Nat) : Int))) rfl rfl ?_
 exact ⟨_,_,_,_,_,_,by rw [tm_9 h1 hk hy,h2]; rfl,rfl,G3.comp G4⟩
theorem tof5_c (wb : World) (x : Re) (hk : x.kind = 5) (ha : x.args.length = 1) (hof : ∀ y ∈ x.args,ThOf wb y) : ThOf wb x := by
 intro base pb F w0 pv xv s vs hxt hE hF hP hL
 have hxt0 := hxt
 obtain ⟨sa,sc,aa,ac,rfl,hset,hlen,hargs⟩ := hxt.form
 obtain ⟨y,hy⟩ := args_one9 ha
 have hym : y ∈ x.args := by rw [hy]; exact List.mem_singleton_self y
 obtain ⟨ab,ao,rfl,hres⟩ := args_at hargs (by omega)
 obtain ⟨us,hus,hyt⟩ := hres.get (i := 0) (t := y) (by rw [hy]; rfl)
 have hyt0 := hyt
 obtain ⟨ysa,ysc,yaa,yac,rfl,_,_,_⟩ := hyt.form
 refine RetX_of Tryz.func37 rfl Tryz.ntmps37 (Nat.le_of_ble_eq_true rfl) ?_
 have E : Chg (fun _ => True) w0 w0 := Chg.refl _ _
 refine Wp_seq_region ?_
 refine s_box (v := (.agg (R6 x sa sc (some ⟨ab,ao,none⟩) ac))) (c := (R6 x sa sc (some ⟨ab,ao,none⟩) ac)) (by decide) rfl rfl ?_
 intro br wr Nr
 have Fr := Nr.ge E
 replace E := E.ext Nr.ext
 have Br := Nr.blk
 refine qA (I6 0) rfl ?_
 refine qA (I6 0) rfl ?_
 refine WpL_nil (Wp_seq_region ?_)
 refine qM (P6 pb 0) rfl ?_
 have G1 := (GrT.start hP).frz Nr.ext (b := br) (by rw [Nr.eq]; exact Nat.le_refl _) Br.lt
 refine WpL_enterX rfl rfl (by decide) (r_callF (vs := [(P6 pb 0)]) Tryz.func68 kQ kQ rfl) (tstate_c _ _ base pb _ _ s G1.st hL.2.2) (fun w' h => And.intro rfl ⟨tm_no h.1,G1.pan h.2⟩) ?_
 rintro _ w19 ⟨s1,h1,rfl,G2⟩
 replace Br := G2.chg.keep (G1.st.kept (.inr rfl)) Br
 replace E := E.step G2.chg (fun _ _ _ => trivial)
 have hL1 := hL.new h1
 replace G2 := G1.comp G2
 refine qA (I6 (s.n : Int)) rfl ?_
 refine WpL_nil (Wp_seq (Wp_seq_region ?_))
 refine qF br 0 0 rfl Tryz.underlying27 rfl siz3 rfl ?_
 refine qV (r_load (v := (I6 x.kind)) rfl flat3 (Br.cell rfl)) ?_
 refine WpL_nil (Wp_block (Wp_seq_region ?_))
 refine qV (r_eql (k := .i64) (a := x.kind) (b := 0) rfl rfl) ?_
 refine qA (.bool (decide ((x.kind : Int) = 0))) rfl ?_
 refine WpL_nil ?_
 have hc1 : (decide ((x.kind : Int) = 0)) = false := decide_eq_false (by omega)
 refine Wp_cond_false (congrArg Value.bool hc1) ?_
 refine Wp_seq_region ?_
 refine qV (r_eql (k := .i64) (a := x.kind) (b := 1) rfl rfl) ?_
 refine qA (.bool (decide ((x.kind : Int) = 1))) rfl ?_
 refine WpL_nil ?_
 have hc2 : (decide ((x.kind : Int) = 1)) = false := decide_eq_false (by omega)
 refine Wp_cond_false (congrArg Value.bool hc2) ?_
 refine Wp_seq_region ?_
 refine qV (r_eql (k := .i64) (a := x.kind) (b := 2) rfl rfl) ?_
 refine qA (.bool (decide ((x.kind : Int) = 2))) rfl ?_
 refine WpL_nil ?_
 have hc3 : (decide ((x.kind : Int) = 2)) = false := decide_eq_false (by omega)
 refine Wp_cond_false (congrArg Value.bool hc3) ?_
 refine Wp_seq_region ?_
 refine qV (r_eql (k := .i64) (a := x.kind) (b := 3) rfl rfl) ?_
 refine qA (.bool (decide ((x.kind : Int) = 3))) rfl ?_
 refine WpL_nil ?_
 have hc4 : (decide ((x.kind : Int) = 3)) = false := decide_eq_false (by omega)
 refine Wp_cond_false (congrArg Value.bool hc4) ?_
 refine Wp_seq_region ?_
 refine qV (r_eql (k := .i64) (a := x.kind) (b := 4) rfl rfl) ?_
 refine qA (.bool (decide ((x.kind : Int) = 4))) rfl ?_
 refine WpL_nil ?_
 have hc5 : (decide ((x.kind : Int) = 4)) = false := decide_eq_false (by omega)
 refine Wp_cond_false (congrArg Value.bool hc5) ?_
 refine Wp_seq_region ?_
 refine qV (r_eql (k := .i64) (a := x.kind) (b := 9) rfl rfl) ?_
 refine qA (.bool (decide ((x.kind : Int) = 9))) rfl ?_
 refine WpL_nil ?_
 have hc6 : (decide ((x.kind : Int) = 9)) = false := decide_eq_false (by omega)
 refine Wp_cond_false (congrArg Value.bool hc6) ?_
 refine Wp_seq_region ?_
 refine qV (r_eql (k := .i64) (a := x.kind) (b := 5) rfl rfl) ?_
 refine qA (.bool (decide ((x.kind : Int) = 5))) rfl ?_
 refine WpL_nil ?_
 have hc7 : (decide ((x.kind : Int) = 5)) = true := decide_eq_true hk
 refine Wp_cond_true (congrArg Value.bool hc7) ?_
 refine Wp_seq_region ?_
 refine qM (I6 (s.n : Int)) rfl ?_
 refine qM (P6 pb 0) rfl ?_
 refine qM (I6 (s.n : Int)) rfl ?_
 refine qF br 0 2 rfl Tryz.underlying27 rfl siz25 rfl ?_
 refine qV (r_load (v := (.slice (some ⟨ab,ao,none⟩) x.args.length ac)) rfl flat25 (Br.cell rfl)) ?_
 refine qV (r_indexSlice (b := ab) (o := ao) (len := x.args.length) (cap := ac) (i := 0) (o' := ao + 0 * 6) rfl rfl rfl Tryz.underlying25 siz27 (by omega) (by omega)) ?_
 refine qV (r_loadAgg (vs := [(I6 y.kind),(.slice ysa y.set.length ysc),(.slice yaa y.args.length yac),(I6 y.mn),(I6 y.mx),(.bool y.neg)]) rfl agg27 siz27 rfl (by simpa using hus.ext (G2.base' hP hF hE))) ?_
 refine WpL_enterX rfl rfl (by decide) (r_callF (vs := [(P6 pb 0),(I6 (s.n : Int)),(.agg (R6 y ysa ysc yaa yac))]) Tryz.func71 kQ kQ rfl) (tstar_c wb y (hof y hym) base pb _ _ _ _ s1 s.n _ hyt0 (G2.base' hP hF hE) (fun q hq => G2.sub q (hF q hq)) G2.st (hL1.le (Nat.zero_le _))) (fun w' h => And.intro rfl ⟨by rw [tm_5 h1 hk hy,h.1]; rfl,G2.pan h.2⟩) ?_
 rintro _ w29 ⟨s2,fx,F2,p2,x2,h2,rfl,G3⟩
 replace Br := G3.chg.keep (G2.st.kept (.inr rfl)) Br
 replace E := E.step G3.chg (fun _ _ _ => trivial)
 refine qA (I6 (s.n : Int)) rfl ?_
 refine qA (I6 (fx : Int)) rfl ?_
 refine WpL_nil (Wp_ret (inB_ret (thn_ret (finX_ret ?_))))
 refine fin_tmp2 Tryz.results37 (v := (.int .i64 ((s.n : Nat) : Int))) (v' := (.int .i64 ((fx : Nat) : Int))) rfl rfl ?_
 exact ⟨_,_,_,_,_,_,by rw [tm_5 h1 hk hy,h2]; rfl,rfl,G2.comp G3⟩
theorem tof4_c (wb : World) (x : Re) (hk : x.kind = 4) (hof : ∀ y ∈ x.args,ThOf wb y) (hsz : x.args.length ≤ 1000000) : ThOf wb x := by
 intro base pb F w0 pv xv s vs hxt hE hF hP hL
 have hxt0 := hxt
 obtain ⟨sa,sc,aa,ac,rfl,hset,hlen,hargs⟩ := hxt.form
 refine RetX_of Tryz.func37 rfl Tryz.ntmps37 (Nat.le_of_ble_eq_true rfl) ?_
 have E : Chg (fun _ => True) w0 w0 := Chg.refl _ _
 refine Wp_seq_region ?_
 refine s_box (v := (.agg (R6 x sa sc aa ac))) (c := (R6 x sa sc aa ac)) (by decide) rfl rfl ?_
 intro br wr Nr
 have Fr := Nr.ge E
 replace E := E.ext Nr.ext
 have Br := Nr.blk
 refine qA (I6 0) rfl ?_
 refine qA (I6 0) rfl ?_
 refine WpL_nil (Wp_seq_region ?_)
 refine qM (P6 pb 0) rfl ?_
 have G1 := (GrT.start hP).frz Nr.ext (b := br) (by rw [Nr.eq]; exact Nat.le_refl _) Br.lt
 refine WpL_enterX rfl rfl (by decide) (r_callF (vs := [(P6 pb 0)]) Tryz.func68 kQ kQ rfl) (tstate_c _ _ base pb _ _ s G1.st hL.2.2) (fun w' h => And.intro rfl ⟨tm_no h.1,G1.pan h.2⟩) ?_
 rintro _ w19 ⟨s1,h1,rfl,G2⟩
 replace Br := G2.chg.keep (G1.st.kept (.inr rfl)) Br
 replace E := E.step G2.chg (fun _ _ _ => trivial)
 have hL1 := hL.new h1
 replace G2 := G1.comp G2
 refine qA (I6 (s.n : Int)) rfl ?_
 refine WpL_nil (Wp_seq (Wp_seq_region ?_))
 refine qF br 0 0 rfl Tryz.underlying27 rfl siz3 rfl ?_
 refine qV (r_load (v := (I6 x.kind)) rfl flat3 (Br.cell rfl)) ?_
 refine WpL_nil (Wp_block (Wp_seq_region ?_))
 refine qV (r_eql (k := .i64) (a := x.kind) (b := 0) rfl rfl) ?_
 refine qA (.bool (decide ((x.kind : Int) = 0))) rfl ?_
 refine WpL_nil ?_
 have hc1 : (decide ((x.kind : Int) = 0)) = false := decide_eq_false (by omega)
 refine Wp_cond_false (congrArg Value.bool hc1) ?_
 refine Wp_seq_region ?_
 refine qV (r_eql (k := .i64) (a := x.kind) (b := 1) rfl rfl) ?_
 refine qA (.bool (decide ((x.kind : Int) = 1))) rfl ?_
 refine WpL_nil ?_
 have hc2 : (decide ((x.kind : Int) = 1)) = false := decide_eq_false (by omega)
 refine Wp_cond_false (congrArg Value.bool hc2) ?_
 refine Wp_seq_region ?_
 refine qV (r_eql (k := .i64) (a := x.kind) (b := 2) rfl rfl) ?_
 refine qA (.bool (decide ((x.kind : Int) = 2))) rfl ?_
 refine WpL_nil ?_
 have hc3 : (decide ((x.kind : Int) = 2)) = false := decide_eq_false (by omega)
 refine Wp_cond_false (congrArg Value.bool hc3) ?_
 refine Wp_seq_region ?_
 refine qV (r_eql (k := .i64) (a := x.kind) (b := 3) rfl rfl) ?_
 refine qA (.bool (decide ((x.kind : Int) = 3))) rfl ?_
 refine WpL_nil ?_
 have hc4 : (decide ((x.kind : Int) = 3)) = false := decide_eq_false (by omega)
 refine Wp_cond_false (congrArg Value.bool hc4) ?_
 refine Wp_seq_region ?_
 refine qV (r_eql (k := .i64) (a := x.kind) (b := 4) rfl rfl) ?_
 refine qA (.bool (decide ((x.kind : Int) = 4))) rfl ?_
 refine WpL_nil ?_
 have hc5 : (decide ((x.kind : Int) = 4)) = true := decide_eq_true hk
 refine Wp_cond_true (congrArg Value.bool hc5) ?_
 refine Wp_seq_region ?_
 refine qM (I6 (s.n : Int)) rfl ?_
 refine qM (P6 pb 0) rfl ?_
 refine qM (I6 (s.n : Int)) rfl ?_
 refine qF br 0 2 rfl Tryz.underlying27 rfl siz25 rfl ?_
 refine qV (r_load (v := (.slice aa x.args.length ac)) rfl flat25 (Br.cell rfl)) ?_
 refine WpL_enterX rfl rfl (by decide) (r_callF (vs := [(P6 pb 0),(I6 (s.n : Int)),(.slice aa x.args.length ac)]) Tryz.func70 kQ kQ rfl) (talt_c wb x.args hof base pb _ _ _ _ s1 s.n aa ac hlen hargs hsz (G2.base' hP hF hE) (fun q hq => G2.sub q (hF q hq)) G2.st (hL1.le (Nat.zero_le _))) (fun w' h => And.intro rfl ⟨by rw [tm_4 h1 hk,h.1]; rfl,G2.pan h.2⟩) ?_
 rintro _ w29 ⟨s2,fx,F2,p2,x2,h2,rfl,G3⟩
 replace Br := G3.chg.keep (G2.st.kept (.inr rfl)) Br
 replace E := E.step G3.chg (fun _ _ _ => trivial)
 refine qA (I6 (s.n : Int)) rfl ?_
 refine qA (I6 (fx : Int)) rfl ?_
 refine WpL_nil (Wp_ret (inB_ret (thn_ret (finX_ret ?_))))
 refine fin_tmp2 Tryz.results37 (v := (.int .i64 ((s.n : Nat) : Int))) (v' := (.int .i64 ((fx : Nat) : Int))) rfl rfl ?_
 exact ⟨_,_,_,_,_,_,by rw [tm_4 h1 hk,h2]; rfl,rfl,G2.comp G3⟩
theorem tof3_c (wb : World) (x : Re) (hk : x.kind = 3) (hof : ∀ y ∈ x.args,ThOf wb y) : ThOf wb x := by
 intro base pb F w0 pv xv s vs hxt hE hF hP hL
 have hxt0 := hxt
 obtain ⟨sa,sc,aa,ac,rfl,hset,hlen,hargs⟩ := hxt.form
 refine RetX_of Tryz.func37 rfl Tryz.ntmps37 (Nat.le_of_ble_eq_true rfl) ?_
 have E : Chg (fun _ => True) w0 w0 := Chg.refl _ _
 refine Wp_seq_region ?_
 refine s_box (v := (.agg (R6 x sa sc aa ac))) (c := (R6 x sa sc aa ac)) (by decide) rfl rfl ?_
 intro br wr Nr
 have Fr := Nr.ge E
 replace E := E.ext Nr.ext
 have Br := Nr.blk
 refine qA (I6 0) rfl ?_
 refine qA (I6 0) rfl ?_
 refine WpL_nil (Wp_seq_region ?_)
 refine qM (P6 pb 0) rfl ?_
 have G1 := (GrT.start hP).frz Nr.ext (b := br) (by rw [Nr.eq]; exact Nat.le_refl _) Br.lt
 refine WpL_enterX rfl rfl (by decide) (r_callF (vs := [(P6 pb 0)]) Tryz.func68 kQ kQ rfl) (tstate_c _ _ base pb _ _ s G1.st hL.2.2) (fun w' h => And.intro rfl ⟨tm_no h.1,G1.pan h.2⟩) ?_
 rintro _ w19 ⟨s1,h1,rfl,G2⟩
 replace Br := G2.chg.keep (G1.st.kept (.inr rfl)) Br
 replace E := E.step G2.chg (fun _ _ _ => trivial)
 have hL1 := hL.new h1
 replace G2 := G1.comp G2
 refine qA (I6 (s.n : Int)) rfl ?_
 refine WpL_nil (Wp_seq (Wp_seq_region ?_))
 refine qF br 0 0 rfl Tryz.underlying27 rfl siz3 rfl ?_
 refine qV (r_load (v := (I6 x.kind)) rfl flat3 (Br.cell rfl)) ?_
 refine WpL_nil (Wp_block (Wp_seq_region ?_))
 refine qV (r_eql (k := .i64) (a := x.kind) (b := 0) rfl rfl) ?_
 refine qA (.bool (decide ((x.kind : Int) = 0))) rfl ?_
 refine WpL_nil ?_
 have hc1 : (decide ((x.kind : Int) = 0)) = false := decide_eq_false (by omega)
 refine Wp_cond_false (congrArg Value.bool hc1) ?_
 refine Wp_seq_region ?_
 refine qV (r_eql (k := .i64) (a := x.kind) (b := 1) rfl rfl) ?_
 refine qA (.bool (decide ((x.kind : Int) = 1))) rfl ?_
 refine WpL_nil ?_
 have hc2 : (decide ((x.kind : Int) = 1)) = false := decide_eq_false (by omega)
 refine Wp_cond_false (congrArg Value.bool hc2) ?_
 refine Wp_seq_region ?_
 refine qV (r_eql (k := .i64) (a := x.kind) (b := 2) rfl rfl) ?_
 refine qA (.bool (decide ((x.kind : Int) = 2))) rfl ?_
 refine WpL_nil ?_
 have hc3 : (decide ((x.kind : Int) = 2)) = false := decide_eq_false (by omega)
 refine Wp_cond_false (congrArg Value.bool hc3) ?_
 refine Wp_seq_region ?_
 refine qV (r_eql (k := .i64) (a := x.kind) (b := 3) rfl rfl) ?_
 refine qA (.bool (decide ((x.kind : Int) = 3))) rfl ?_
 refine WpL_nil ?_
 have hc4 : (decide ((x.kind : Int) = 3)) = true := decide_eq_true hk
 refine Wp_cond_true (congrArg Value.bool hc4) ?_
 refine Wp_seq_region ?_
 refine qM (I6 (s.n : Int)) rfl ?_
 refine qA (I6 (s.n : Int)) rfl ?_
 refine WpL_nil (Wp_seq (Wp_seq_region ?_))
 refine qF br 0 2 rfl Tryz.underlying27 rfl siz25 rfl ?_
 refine qV (r_load (v := (.slice aa x.args.length ac)) rfl flat25 (Br.cell rfl)) ?_
 refine qV (r_lenSlice (ad := aa) (n := x.args.length) (cap := ac) Tryz.underlying25 rfl) ?_
 refine qM (I6 0) rfl ?_
 refine WpL_nil (Wp_block ?_)
 refine Wp_loop (fun nn_ σ W5 => ∃ (k : Nat) (sk : ThS) (ak : Nat) (Fk : Nat → Prop) (pk : Value) (xk : Value),(∃ jj_,σ = upds jj_ [(0,(P6 pb 0)),(6,(I6 (s.n : Int))),(57,(.slice aa x.args.length ac)),(58,(I6 (x.args.length : Int))),(59,(I6 (k : Int))),(8,(I6 (ak : Int)))]) ∧ Chg (fun _ => True) w0 W5 ∧ (k ≤ x.args.length) ∧ (catT (tmL x.args) s1 s.n = catT (tmL (x.args.drop k)) sk ak) ∧ (GrT F w0 base pb pv xv Fk pk xk sk W5) ∧ (LimT sk 0) ∧ nn_ = x.args.length - k) (n := x.args.length - 0) ?_ ?_
 ·exact ⟨0,s1,s.n,_,pv,xv,Fits.out ⟨rfl,rfl,rfl,rfl,rfl,rfl,trivial⟩,E,Nat.zero_le _,(by rw [List.drop_zero]),G2,hL1.le (Nat.zero_le _),rfl⟩
 ·clear E
  rintro _ _ W5 ⟨k,sk,ak,Fk,pk,xk,⟨j5,rfl⟩,E,hk2,hQ,hG,hLk,rfl⟩
  refine Wp_seq_region ?_
  refine qV (r_lss (k := .i64) (a := (k : Int)) (b := (x.args.length : Int)) rfl rfl) ?_
  refine WpL_nil (Wp_seq ?_)
  refine Wp_cond (b := decide (((k : Int) : Int) < (x.args.length : Int))) rfl (fun hlt => ?_) (fun hlt => ?_)
  ·have khlt := hlt
   replace hlt := of_decide_eq_true hlt
   obtain ⟨y,hy⟩ := get_of_lt (l := x.args) (i := k) (by omega)
   obtain ⟨ab,ao,rfl,hres⟩ := args_at hargs (by omega)
   obtain ⟨us,hus,hyt⟩ := hres.get hy
   have hyt0 := hyt
   obtain ⟨ysa,ysc,yaa,yac,rfl,_,_,_⟩ := hyt.form
   rw [drop_at hy,tmL,catT] at hQ
   refine Wp_skip (thn_normal (Wp_seq (Wp_block (Wp_seq_region ?_))))
   refine qV (r_indexSlice (b := ab) (o := ao) (len := x.args.length) (cap := ac) (i := k) (o' := ao + k * 6) rfl rfl rfl Tryz.underlying25 siz27 (by omega) (by omega)) ?_
   refine qV (r_loadAgg (vs := [(I6 y.kind),(.slice ysa y.set.length ysc),(.slice yaa y.args.length yac),(I6 y.mn),(I6 y.mx),(.bool y.neg)]) rfl agg27 siz27 rfl (hus.ext (hG.base' hP hF hE))) ?_
   have E1 : Chg none1 W5 W5 := Chg.refl _ _
   refine s_allocStore (v := (.agg (R6 y ysa ysc yaa yac))) (c := (R6 y ysa ysc yaa yac)) (n := 6) (by decide) zer27 rfl siz27 rfl rfl rfl (by simp [Value.oneCell']) ?_
   intro bu wu Nu
   have Fu := Nu.ge E
   have Fu_E1 := Nu.ge E1
   replace E := E.ext Nu.ext
   have Bu := Nu.blk
   replace E1 := E1.ext Nu.ext
   refine WpL_nil (Wp_seq_region ?_)
   refine qM (P6 pb 0) rfl ?_
   refine qV (r_loadAgg (vs := [(I6 y.kind),(.slice ysa y.set.length ysc),(.slice yaa y.args.length yac),(I6 y.mn),(I6 y.mx),(.bool y.neg)]) rfl agg27 siz27 rfl (Bu.cells rfl)) ?_
   replace hG := hG.ext E1
   refine WpL_enterX rfl rfl (by decide) (r_callF (vs := [(P6 pb 0),(.agg (R6 y ysa ysc yaa yac))]) Tryz.func37 kQ kQ rfl) (hof y (List.mem_of_getElem? hy) base pb _ _ _ _ sk _ hyt0 (hG.base' hP hF hE) (fun q hq => hG.sub q (hF q hq)) hG.st hLk) (fun w' h => And.intro rfl ⟨by rw [tm_3 h1 hk,hQ,h.1]; rfl,hG.pan h.2⟩) ?_
   rintro _ w29 ⟨s2,fx,fy,F2,p2,x2,h2,rfl,G3⟩
   replace E := E.step G3.chg (fun _ _ _ => trivial)
   have hL2 := hLk.step (lim_all y _ _ _ _ h2)
   rw [h2,Option.bind_some] at hQ
   replace G3 := hG.comp G3
   refine qM (.tuple #[(I6 (fx : Int)),(I6 (fy : Int))]) rfl ?_
   refine qV (r_extract (vs := #[(I6 (fx : Int)),(I6 (fy : Int))]) (v := (I6 (fx : Int))) rfl rfl) ?_
   refine qV (r_extract (vs := #[(I6 (fx : Int)),(I6 (fy : Int))]) (v := (I6 (fy : Int))) rfl rfl) ?_
   refine qA (I6 (fx : Int)) rfl ?_
   refine qA (I6 (fy : Int)) rfl ?_
   refine WpL_nil (Wp_seq_region ?_)
   refine qM (P6 pb 0) rfl ?_
   refine qM (I6 (ak : Int)) rfl ?_
   refine qM (I6 (fx : Int)) rfl ?_
   refine WpL_enter rfl rfl (by decide) (r_callF (vs := [(P6 pb 0),(I6 (ak : Int)),(I6 (fx : Int))]) Tryz.func69 kQ kQ rfl) (teps_c _ _ base pb _ _ s2 ak fx G3.st hL2.small.1) ?_
   rintro _ w39 ⟨p3,G4⟩
   replace E := E.step G4.chg (fun _ _ _ => trivial)
   have hL3 : LimT (epsT s2 ak fx) 2 := hL2.eps _ _
   replace G4 := G3.comp G4
   refine WpL_nil (Wp_region ?_)
   refine qM (I6 (fy : Int)) rfl ?_
   refine qA (I6 (fy : Int)) rfl ?_
   refine WpL_nil (inB_normal (thn_normal (Wp_region ?_)))
   refine qV (r_add (k := .i64) (a := (k : Int)) (b := 1) (c := (k : Int) + 1) rfl rfl (wI64 (by omega))) ?_
   refine qM (I6 ((k : Int) + 1)) rfl ?_
   refine WpL_nil (thn_normal ?_)
   exact ⟨x.args.length - (k + 1),by omega,k + 1,_,_,F2,p3,x2,Fits.out ⟨rfl,rfl,rfl,rfl,rfl,rfl,trivial⟩,E,(by omega),hQ,G4,hL3.le (Nat.zero_le _),rfl⟩
  ·have khlt := hlt
   replace hlt := of_decide_eq_false hlt
   have hkk : k = x.args.length := by omega
   rw [hkk,List.drop_length] at hQ
   refine Wp_exit (thn_exit (thn_exit (inB_here (thn_normal (Wp_seq_region ?_)))))
   refine qM (I6 (s.n : Int)) rfl ?_
   refine qM (I6 (ak : Int)) rfl ?_
   refine qA (I6 (s.n : Int)) rfl ?_
   refine qA (I6 (ak : Int)) rfl ?_
   refine WpL_nil (Wp_ret (inB_ret (thn_ret (finX_ret ?_))))
   refine fin_tmp2 Tryz.results37 (v := (.int .i64 ((s.n : Nat) : Int))) (v' := (.int .i64 ((ak : Nat) : Int))) rfl rfl ?_
   exact ⟨_,_,_,_,_,_,by rw [tm_3 h1 hk,hQ]; rfl,rfl,hG⟩
section
variable {x y : Re} {g : GS}
theorem gkO_eq (x : Re) (g : GS) : gkO x g = gnode x.kind x.set x.mn x.mx (gkL x.args) g := by cases x; rw [gkO]; rfl
theorem gkL_one (ha : x.args = [y]) : gkL x.args = [gkO y] := by rw [ha]; rfl
theorem gk_1 (hk : x.kind = 1) : gkO x g = some (g,⟨true,[],[]⟩) := by rw [gkO_eq,hk]; rfl
theorem gk_2 (hk : x.kind = 2) : gkO x g = setK x.set g := by rw [gkO_eq,hk]; rfl
theorem gk_3 (hk : x.kind = 3) : gkO x g = catGs (gkL x.args) g ⟨true,[],[]⟩ := by rw [gkO_eq,hk]; rfl
theorem gk_4 (hk : x.kind = 4) : gkO x g = altGs (gkL x.args) g ⟨false,[],[]⟩ := by rw [gkO_eq,hk]; rfl
theorem gk_5 (hk : x.kind = 5) (ha : x.args = [y]) : gkO x g = (gkO y g).bind fun (g1,p) => some (catK g1 p p,⟨true,p.fst,p.lst⟩) := by rw [gkO_eq,hk,gkL_one ha]; rfl
theorem gk_6 (hk : x.kind = 6) (ha : x.args = [y]) : gkO x g = repGs (gkO y) x.mn g x.mx.toNat := by rw [gkO_eq,hk,gkL_one ha]; rfl
theorem gk_9 (hk : x.kind = 9) (ha : x.args = [y]) : gkO x g = gkO y g := by rw [gkO_eq,hk,gkL_one ha]; rfl
theorem gk_0 (hk : x.kind = 0) : gkO x g = some (g,⟨false,[],[]⟩) := by rw [gkO_eq,hk]; rfl
end
/-- What of does with x. -/
def GkOf (wb : World) (x : Re) : Prop := ∀ (base pb : Nat) (F : Nat → Prop) (w0 : World) (sv fv : Value) (vs : List Value) (g : GS) (us : List Value),ReAt wb x us → Ext wb w0 → (∀ y,y < wb.heap.size → F y) → GkSt F w0 base pb sv fv vs g → GI g → RowB 25000 g.fol →
 RetX Tryz.prog lgN 24 #[.pointer (some ⟨pb,0,none⟩),.agg us.toArray] w0 (fun r w => ∃ g' p F' sv' fv' vs',gkO x g = some (g',p) ∧ PtAt F' w p r ∧ GrG F w0 base pb sv fv vs F' sv' fv' vs' g' w) fun w => gkO x g = none ∧ Chg (GM pb sv fv vs) w0 w
theorem pt_nil (F : Nat → Prop) (w : World) (b : Bool) : PtAt F w ⟨b,[],[]⟩ (.agg #[.bool b,.slice none 0 0,.slice none 0 0]) := ⟨none,0,none,0,rfl,FrI.nil F w,FrI.nil F w⟩
theorem gof1_c (wb : World) (x : Re) (hk : x.kind = 1) : GkOf wb x := by
 intro base pb F w0 sv fv vs g us hxt hE hF hP hI hR
 obtain ⟨sa,sc,aa,ac,rfl,hset,hlen,hargs⟩ := hxt.form
 refine RetX_of Tryz.func24 rfl Tryz.ntmps24 (Nat.le_of_ble_eq_true rfl) ?_
 have E : Chg (fun _ => True) w0 w0 := Chg.refl _ _
 have hG := GrG.start hP
 refine Wp_seq_region ?_
 refine s_box (v := (.agg (R6 x sa sc aa ac))) (c := (R6 x sa sc aa ac)) (by decide) rfl rfl ?_
 intro bb wb Nb
 have Fb := Nb.ge E
 replace hG := hG.ext Nb.ext
 replace E := E.ext Nb.ext
 have Bb := Nb.blk
 refine s_alloc (c := #[(.bool false),(.slice none 0 0),(.slice none 0 0)]) (by decide) zer67 rfl ?_
 intro br wr Nr
 have Fr := Nr.ge E
 have Or_bb := Nr.lt Bb
 replace Bb := Nr.keep Bb
 replace hG := hG.ext Nr.ext
 replace E := E.ext Nr.ext
 have Br := Nr.blk
 refine WpL_nil (Wp_seq (Wp_seq_region ?_))
 refine qF bb 0 0 rfl Tryz.underlying27 rfl siz3 rfl ?_
 refine qV (r_load (v := (I6 x.kind)) rfl flat3 (Bb.cell rfl)) ?_
 refine WpL_nil (Wp_block (Wp_seq_region ?_))
 refine qV (r_eql (k := .i64) (a := x.kind) (b := 1) rfl rfl) ?_
 refine qA (.bool (decide ((x.kind : Int) = 1))) rfl ?_
 refine WpL_nil ?_
 have hc1 : (decide ((x.kind : Int) = 1)) = true := decide_eq_true hk
 refine Wp_cond_true (congrArg Value.bool hc1) ?_
 refine Wp_seq_region ?_
 refine qV (r_build (ps := [(0,(.bool true))]) (v := (.agg #[(.bool true),(.slice none 0 0),(.slice none 0 0)])) rfl (by kernel_rfl)) ?_
 refine s_storeAgg (b := br) (o := 0) (c' := #[(.bool true),(.slice none 0 0),(.slice none 0 0)]) rfl rfl (by simp [Value.oneCell']) siz67 rfl Br (by first | (simp; done) | exact Nat.le_of_ble_eq_true rfl) rfl ?_
 intro w2 S2
 replace hG := hG.other S2.chg (fun y e => by rw [show y = br from e]; exact ⟨by omega,hP.fresh (by omega)⟩)
 replace Bb := S2.keep (by omega) Bb
 replace E := S2.step E (by first | exact Or.inl (by omega) | exact Or.inr rfl | exact Or.inr (by assumption) | exact Or.inr (by simp) | exact Or.inr (by omega) | exact Or.inr (by dsimp only; omega))
 replace Br := S2.blk
 refine WpL_nil (Wp_ret (inB_ret (thn_ret (finX_ret ?_))))
 refine fin_agg Tryz.results24 (vs := [(.bool true),(.slice none 0 0),(.slice none 0 0)]) (b := br) rfl agg67 siz67 rfl (Br.cells rfl) ?_
 exact ⟨_,_,_,_,_,_,gk_1 hk,pt_nil _ _ _,hG⟩
theorem gof0_c (wb : World) (x : Re) (hk : x.kind = 0) : GkOf wb x := by
 intro base pb F w0 sv fv vs g us hxt hE hF hP hI hR
 obtain ⟨sa,sc,aa,ac,rfl,hset,hlen,hargs⟩ := hxt.form
 refine RetX_of Tryz.func24 rfl Tryz.ntmps24 (Nat.le_of_ble_eq_true rfl) ?_
 have E : Chg (fun _ => True) w0 w0 := Chg.refl _ _
 have hG := GrG.start hP
 refine Wp_seq_region ?_
 refine s_box (v := (.agg (R6 x sa sc aa ac))) (c := (R6 x sa sc aa ac)) (by decide) rfl rfl ?_
 intro bb wb Nb
 have Fb := Nb.ge E
 replace hG := hG.ext Nb.ext
 replace E := E.ext Nb.ext
 have Bb := Nb.blk
 refine s_alloc (c := #[(.bool false),(.slice none 0 0),(.slice none 0 0)]) (by decide) zer67 rfl ?_
 intro br wr Nr
 have Fr := Nr.ge E
 have Or_bb := Nr.lt Bb
 replace Bb := Nr.keep Bb
 replace hG := hG.ext Nr.ext
 replace E := E.ext Nr.ext
 have Br := Nr.blk
 refine WpL_nil (Wp_seq (Wp_seq_region ?_))
 refine qF bb 0 0 rfl Tryz.underlying27 rfl siz3 rfl ?_
 refine qV (r_load (v := (I6 x.kind)) rfl flat3 (Bb.cell rfl)) ?_
 refine WpL_nil (Wp_block (Wp_seq_region ?_))
 refine qV (r_eql (k := .i64) (a := x.kind) (b := 1) rfl rfl) ?_
 refine qA (.bool (decide ((x.kind : Int) = 1))) rfl ?_
 refine WpL_nil ?_
 have hc1 : (decide ((x.kind : Int) = 1)) = false := decide_eq_false (by omega)
 refine Wp_cond_false (congrArg Value.bool hc1) ?_
 refine Wp_seq_region ?_
 refine qV (r_eql (k := .i64) (a := x.kind) (b := 2) rfl rfl) ?_
 refine qA (.bool (decide ((x.kind : Int) = 2))) rfl ?_
 refine WpL_nil ?_
 have hc2 : (decide ((x.kind : Int) = 2)) = false := decide_eq_false (by omega)
 refine Wp_cond_false (congrArg Value.bool hc2) ?_
 refine Wp_seq_region ?_
 refine qV (r_eql (k := .i64) (a := x.kind) (b := 3) rfl rfl) ?_
 refine qA (.bool (decide ((x.kind : Int) = 3))) rfl ?_
 refine WpL_nil ?_
 have hc3 : (decide ((x.kind : Int) = 3)) = false := decide_eq_false (by omega)
 refine Wp_cond_false (congrArg Value.bool hc3) ?_
 refine Wp_seq_region ?_
 refine qV (r_eql (k := .i64) (a := x.kind) (b := 4) rfl rfl) ?_
 refine qA (.bool (decide ((x.kind : Int) = 4))) rfl ?_
 refine WpL_nil ?_
 have hc4 : (decide ((x.kind : Int) = 4)) = false := decide_eq_false (by omega)
 refine Wp_cond_false (congrArg Value.bool hc4) ?_
 refine Wp_seq_region ?_
 refine qV (r_eql (k := .i64) (a := x.kind) (b := 5) rfl rfl) ?_
 refine qA (.bool (decide ((x.kind : Int) = 5))) rfl ?_
 refine WpL_nil ?_
 have hc5 : (decide ((x.kind : Int) = 5)) = false := decide_eq_false (by omega)
 refine Wp_cond_false (congrArg Value.bool hc5) ?_
 refine Wp_seq_region ?_
 refine qV (r_eql (k := .i64) (a := x.kind) (b := 6) rfl rfl) ?_
 refine qA (.bool (decide ((x.kind : Int) = 6))) rfl ?_
 refine WpL_nil ?_
 have hc6 : (decide ((x.kind : Int) = 6)) = false := decide_eq_false (by omega)
 refine Wp_cond_false (congrArg Value.bool hc6) ?_
 refine Wp_seq_region ?_
 refine qV (r_eql (k := .i64) (a := x.kind) (b := 9) rfl rfl) ?_
 refine qA (.bool (decide ((x.kind : Int) = 9))) rfl ?_
 refine WpL_nil ?_
 have hc7 : (decide ((x.kind : Int) = 9)) = false := decide_eq_false (by omega)
 refine Wp_cond_false (congrArg Value.bool hc7) ?_
 refine Wp_skip (inB_normal (thn_normal (Wp_seq_region ?_)))
 refine qV (r_build (ps := []) (v := (.agg #[(.bool false),(.slice none 0 0),(.slice none 0 0)])) rfl (by kernel_rfl)) ?_
 refine s_storeAgg (b := br) (o := 0) (c' := #[(.bool false),(.slice none 0 0),(.slice none 0 0)]) rfl rfl (by simp [Value.oneCell']) siz67 rfl Br (by first | (simp; done) | exact Nat.le_of_ble_eq_true rfl) rfl ?_
 intro w8 S8
 replace hG := hG.other S8.chg (fun y e => by rw [show y = br from e]; exact ⟨by omega,hP.fresh (by omega)⟩)
 replace Bb := S8.keep (by omega) Bb
 replace E := S8.step E (by first | exact Or.inl (by omega) | exact Or.inr rfl | exact Or.inr (by assumption) | exact Or.inr (by simp) | exact Or.inr (by omega) | exact Or.inr (by dsimp only; omega))
 replace Br := S8.blk
 refine WpL_nil (Wp_ret (finX_ret ?_))
 refine fin_agg Tryz.results24 (vs := [(.bool false),(.slice none 0 0),(.slice none 0 0)]) (b := br) rfl agg67 siz67 rfl (Br.cells rfl) ?_
 exact ⟨_,_,_,_,_,_,gk_0 hk,pt_nil _ _ _,hG⟩
theorem gof9_c (wb : World) (x : Re) (hk : x.kind = 9) (ha : x.args.length = 1) (hof : ∀ y ∈ x.args,GkOf wb y) : GkOf wb x := by
 intro base pb F w0 sv fv vs g us hxt hE hF hP hI hR
 obtain ⟨sa,sc,aa,ac,rfl,hset,hlen,hargs⟩ := hxt.form
 obtain ⟨y,hy⟩ := args_one9 ha
 have hym : y ∈ x.args := by rw [hy]; exact List.mem_singleton_self y
 obtain ⟨ab,ao,rfl,hres⟩ := args_at hargs (by omega)
 obtain ⟨us,hus,hyt⟩ := hres.get (i := 0) (t := y) (by rw [hy]; rfl)
 have hyt0 := hyt
 obtain ⟨ysa,ysc,yaa,yac,rfl,_,_,_⟩ := hyt.form
 refine RetX_of Tryz.func24 rfl Tryz.ntmps24 (Nat.le_of_ble_eq_true rfl) ?_
 have E : Chg (fun _ => True) w0 w0 := Chg.refl _ _
 have hG := GrG.start hP
 refine Wp_seq_region ?_
 refine s_box (v := (.agg (R6 x sa sc (some ⟨ab,ao,none⟩) ac))) (c := (R6 x sa sc (some ⟨ab,ao,none⟩) ac)) (by decide) rfl rfl ?_
 intro bb wb Nb
 have Fb := Nb.ge E
 replace hG := hG.ext Nb.ext
 replace E := E.ext Nb.ext
 have Bb := Nb.blk
 refine s_alloc (c := #[(.bool false),(.slice none 0 0),(.slice none 0 0)]) (by decide) zer67 rfl ?_
 intro br wr Nr
 have Fr := Nr.ge E
 have Or_bb := Nr.lt Bb
 replace Bb := Nr.keep Bb
 replace hG := hG.ext Nr.ext
 replace E := E.ext Nr.ext
 have Br := Nr.blk
 refine WpL_nil (Wp_seq (Wp_seq_region ?_))
 refine qF bb 0 0 rfl Tryz.underlying27 rfl siz3 rfl ?_
 refine qV (r_load (v := (I6 x.kind)) rfl flat3 (Bb.cell rfl)) ?_
 refine WpL_nil (Wp_block (Wp_seq_region ?_))
 refine qV (r_eql (k := .i64) (a := x.kind) (b := 1) rfl rfl) ?_
 refine qA (.bool (decide ((x.kind : Int) = 1))) rfl ?_
 refine WpL_nil ?_
 have hc1 : (decide ((x.kind : Int) = 1)) = false := decide_eq_false (by omega)
 refine Wp_cond_false (congrArg Value.bool hc1) ?_
 refine Wp_seq_region ?_
 refine qV (r_eql (k := .i64) (a := x.kind) (b := 2) rfl rfl) ?_
 refine qA (.bool (decide ((x.kind : Int) = 2))) rfl ?_
 refine WpL_nil ?_
 have hc2 : (decide ((x.kind : Int) = 2)) = false := decide_eq_false (by omega)
 refine Wp_cond_false (congrArg Value.bool hc2) ?_
 refine Wp_seq_region ?_
 refine qV (r_eql (k := .i64) (a := x.kind) (b := 3) rfl rfl) ?_
 refine qA (.bool (decide ((x.kind : Int) = 3))) rfl ?_
 refine WpL_nil ?_
 have hc3 : (decide ((x.kind : Int) = 3)) = false := decide_eq_false (by omega)
 refine Wp_cond_false (congrArg Value.bool hc3) ?_
 refine Wp_seq_region ?_
 refine qV (r_eql (k := .i64) (a := x.kind) (b := 4) rfl rfl) ?_
 refine qA (.bool (decide ((x.kind : Int) = 4))) rfl ?_
 refine WpL_nil ?_
 have hc4 : (decide ((x.kind : Int) = 4)) = false := decide_eq_false (by omega)
 refine Wp_cond_false (congrArg Value.bool hc4) ?_
 refine Wp_seq_region ?_
 refine qV (r_eql (k := .i64) (a := x.kind) (b := 5) rfl rfl) ?_
 refine qA (.bool (decide ((x.kind : Int) = 5))) rfl ?_
 refine WpL_nil ?_
 have hc5 : (decide ((x.kind : Int) = 5)) = false := decide_eq_false (by omega)
 refine Wp_cond_false (congrArg Value.bool hc5) ?_
 refine Wp_seq_region ?_
 refine qV (r_eql (k := .i64) (a := x.kind) (b := 6) rfl rfl) ?_
 refine qA (.bool (decide ((x.kind : Int) = 6))) rfl ?_
 refine WpL_nil ?_
 have hc6 : (decide ((x.kind : Int) = 6)) = false := decide_eq_false (by omega)
 refine Wp_cond_false (congrArg Value.bool hc6) ?_
 refine Wp_seq_region ?_
 refine qV (r_eql (k := .i64) (a := x.kind) (b := 9) rfl rfl) ?_
 refine qA (.bool (decide ((x.kind : Int) = 9))) rfl ?_
 refine WpL_nil ?_
 have hc7 : (decide ((x.kind : Int) = 9)) = true := decide_eq_true hk
 refine Wp_cond_true (congrArg Value.bool hc7) ?_
 refine Wp_seq_region ?_
 refine qM (P6 pb 0) rfl ?_
 refine qF bb 0 2 rfl Tryz.underlying27 rfl siz25 rfl ?_
 refine qV (r_load (v := (.slice (some ⟨ab,ao,none⟩) x.args.length ac)) rfl flat25 (Bb.cell rfl)) ?_
 refine qV (r_indexSlice (b := ab) (o := ao) (len := x.args.length) (cap := ac) (i := 0) (o' := ao + 0 * 6) rfl rfl rfl Tryz.underlying25 siz27 (by omega) (by omega)) ?_
 refine qV (r_loadAgg (vs := [(I6 y.kind),(.slice ysa y.set.length ysc),(.slice yaa y.args.length yac),(I6 y.mn),(I6 y.mx),(.bool y.neg)]) rfl agg27 siz27 rfl (by simpa using hus.ext (hG.base' hP hF hE))) ?_
 have hbr : br < (wr).heap.size := Br.lt
 refine WpL_enterX rfl rfl (by decide) (r_callF (vs := [(P6 pb 0),(.agg (R6 y ysa ysc yaa yac))]) Tryz.func24 kQ kQ rfl) (hof y hym base pb _ _ _ _ _ g _ hyt0 (hG.base' hP hF hE) (fun q hq => hG.sub q (hF q hq)) hG.st hI hR) (fun w' h => And.intro rfl ⟨by rw [gk_9 hk hy]; exact h.1,hG.pan h.2⟩) ?_
 rintro _ w19 ⟨g2,p,F2,s2,f2,v2,h2,⟨pa,pc,pa2,pc2,rfl,hp1,hp2⟩,G2⟩
 replace Br := G2.chg.keep ((hP.fresh (by omega)).2) Br
 replace E := E.step G2.chg (fun _ _ _ => trivial)
 have hAr : Apq F2 pb s2 f2 v2 br := G2.apart (hP.fresh (by omega)) hbr
 replace G2 := hG.comp G2
 refine s_storeAgg (b := br) (o := 0) (c' := #[(.bool p.nul),(.slice pa p.fst.length pc),(.slice pa2 p.lst.length pc2)]) rfl rfl (by simp [Value.oneCell']) siz67 rfl Br (by first | (simp; done) | exact Nat.le_of_ble_eq_true rfl) rfl ?_
 intro w8 S8
 replace G2 := G2.other S8.chg (fun y e => by rw [show y = br from e]; exact ⟨by omega,hAr⟩)
 replace hp1 := hp1.chg S8.chg (fun y hy e => by rw [show y = br from e] at hy; exact hAr.1 hy)
 replace hp2 := hp2.chg S8.chg (fun y hy e => by rw [show y = br from e] at hy; exact hAr.1 hy)
 replace E := S8.step E (by first | exact Or.inl (by omega) | exact Or.inr rfl | exact Or.inr (by assumption) | exact Or.inr (by simp) | exact Or.inr (by omega) | exact Or.inr (by dsimp only; omega))
 replace Br := S8.blk
 refine WpL_nil (Wp_ret (inB_ret (thn_ret (finX_ret ?_))))
 refine fin_agg Tryz.results24 (vs := [(.bool p.nul),(.slice pa p.fst.length pc),(.slice pa2 p.lst.length pc2)]) (b := br) rfl agg67 siz67 rfl (Br.cells rfl) ?_
 exact ⟨_,_,_,_,_,_,by rw [gk_9 hk hy]; exact h2,⟨_,_,_,_,rfl,hp1,hp2⟩,G2⟩
theorem Rise.len {n m : Nat} {l : List Nat} (h : Rise n m l) : l.length ≤ m := by have := h.2.2; omega
theorem gof5_c (wb : World) (x : Re) (hk : x.kind = 5) (ha : x.args.length = 1) (hsz : x.size ≤ 44) (hof : ∀ y ∈ x.args,GkOf wb y) : GkOf wb x := by
 intro base pb F w0 sv fv vs g us hxt hE hF hP hI hR
 obtain ⟨sa,sc,aa,ac,rfl,hset,hlen,hargs⟩ := hxt.form
 obtain ⟨y,hy⟩ := args_one9 ha
 have hys : y.size ≤ 44 := by have h9 := Re.size_arg (t := x) (i := 0) (x := y) (by rw [hy]; rfl); omega
 have hym : y ∈ x.args := by rw [hy]; exact List.mem_singleton_self y
 obtain ⟨ab,ao,rfl,hres⟩ := args_at hargs (by omega)
 obtain ⟨us,hus,hyt⟩ := hres.get (i := 0) (t := y) (by rw [hy]; rfl)
 have hyt0 := hyt
 obtain ⟨ysa,ysc,yaa,yac,rfl,_,_,_⟩ := hyt.form
 refine RetX_of Tryz.func24 rfl Tryz.ntmps24 (Nat.le_of_ble_eq_true rfl) ?_
 have E : Chg (fun _ => True) w0 w0 := Chg.refl _ _
 have hG := GrG.start hP
 refine Wp_seq_region ?_
 refine s_box (v := (.agg (R6 x sa sc (some ⟨ab,ao,none⟩) ac))) (c := (R6 x sa sc (some ⟨ab,ao,none⟩) ac)) (by decide) rfl rfl ?_
 intro bb wb Nb
 have Fb := Nb.ge E
 replace hG := hG.ext Nb.ext
 replace E := E.ext Nb.ext
 have Bb := Nb.blk
 refine s_alloc (c := #[(.bool false),(.slice none 0 0),(.slice none 0 0)]) (by decide) zer67 rfl ?_
 intro br wr Nr
 have Fr := Nr.ge E
 have Or_bb := Nr.lt Bb
 replace Bb := Nr.keep Bb
 replace hG := hG.ext Nr.ext
 replace E := E.ext Nr.ext
 have Br := Nr.blk
 refine WpL_nil (Wp_seq (Wp_seq_region ?_))
 refine qF bb 0 0 rfl Tryz.underlying27 rfl siz3 rfl ?_
 refine qV (r_load (v := (I6 x.kind)) rfl flat3 (Bb.cell rfl)) ?_
 refine WpL_nil (Wp_block (Wp_seq_region ?_))
 refine qV (r_eql (k := .i64) (a := x.kind) (b := 1) rfl rfl) ?_
 refine qA (.bool (decide ((x.kind : Int) = 1))) rfl ?_
 refine WpL_nil ?_
 have hc1 : (decide ((x.kind : Int) = 1)) = false := decide_eq_false (by omega)
 refine Wp_cond_false (congrArg Value.bool hc1) ?_
 refine Wp_seq_region ?_
 refine qV (r_eql (k := .i64) (a := x.kind) (b := 2) rfl rfl) ?_
 refine qA (.bool (decide ((x.kind : Int) = 2))) rfl ?_
 refine WpL_nil ?_
 have hc2 : (decide ((x.kind : Int) = 2)) = false := decide_eq_false (by omega)
 refine Wp_cond_false (congrArg Value.bool hc2) ?_
 refine Wp_seq_region ?_
 refine qV (r_eql (k := .i64) (a := x.kind) (b := 3) rfl rfl) ?_
 refine qA (.bool (decide ((x.kind : Int) = 3))) rfl ?_
 refine WpL_nil ?_
 have hc3 : (decide ((x.kind : Int) = 3)) = false := decide_eq_false (by omega)
 refine Wp_cond_false (congrArg Value.bool hc3) ?_
 refine Wp_seq_region ?_
 refine qV (r_eql (k := .i64) (a := x.kind) (b := 4) rfl rfl) ?_
 refine qA (.bool (decide ((x.kind : Int) = 4))) rfl ?_
 refine WpL_nil ?_
 have hc4 : (decide ((x.kind : Int) = 4)) = false := decide_eq_false (by omega)
 refine Wp_cond_false (congrArg Value.bool hc4) ?_
 refine Wp_seq_region ?_
 refine qV (r_eql (k := .i64) (a := x.kind) (b := 5) rfl rfl) ?_
 refine qA (.bool (decide ((x.kind : Int) = 5))) rfl ?_
 refine WpL_nil ?_
 have hc5 : (decide ((x.kind : Int) = 5)) = true := decide_eq_true hk
 refine Wp_cond_true (congrArg Value.bool hc5) ?_
 refine Wp_seq_region ?_
 refine qM (P6 pb 0) rfl ?_
 refine qF bb 0 2 rfl Tryz.underlying27 rfl siz25 rfl ?_
 refine qV (r_load (v := (.slice (some ⟨ab,ao,none⟩) x.args.length ac)) rfl flat25 (Bb.cell rfl)) ?_
 refine qV (r_indexSlice (b := ab) (o := ao) (len := x.args.length) (cap := ac) (i := 0) (o' := ao + 0 * 6) rfl rfl rfl Tryz.underlying25 siz27 (by omega) (by omega)) ?_
 refine qV (r_loadAgg (vs := [(I6 y.kind),(.slice ysa y.set.length ysc),(.slice yaa y.args.length yac),(I6 y.mn),(I6 y.mx),(.bool y.neg)]) rfl agg27 siz27 rfl (by simpa using hus.ext (hG.base' hP hF hE))) ?_
 have hbr : br < (wr).heap.size := Br.lt
 refine WpL_enterX rfl rfl (by decide) (r_callF (vs := [(P6 pb 0),(.agg (R6 y ysa ysc yaa yac))]) Tryz.func24 kQ kQ rfl) (hof y hym base pb _ _ _ _ _ g _ hyt0 (hG.base' hP hF hE) (fun q hq => hG.sub q (hF q hq)) hG.st hI hR) (fun w' h => And.intro rfl ⟨by rw [gk_5 hk hy,h.1]; rfl,hG.pan h.2⟩) ?_
 rintro _ w19 ⟨g2,p,F2,s2,f2,v2,h2,⟨pa,pc,pa2,pc2,rfl,hp1,hp2⟩,G2⟩
 replace Br := G2.chg.keep ((hP.fresh (by omega)).2) Br
 replace E := E.step G2.chg (fun _ _ _ => trivial)
 have hok := gkO_ok y g g2 p hI h2
 have hRow := hok.rows hR (by omega)
 have hI2 := hok.inv
 have hAr : Apq F2 pb s2 f2 v2 br := G2.apart (hP.fresh (by omega)) hbr
 replace G2 := hG.comp G2
 have hGo := G2
 refine s_allocStore (v := (.agg #[(.bool p.nul),(.slice pa p.fst.length pc),(.slice pa2 p.lst.length pc2)])) (c := #[(.bool p.nul),(.slice pa p.fst.length pc),(.slice pa2 p.lst.length pc2)]) (n := 3) (by decide) zer67 rfl siz67 rfl rfl rfl (by simp [Value.oneCell']) ?_
 intro bo wo No
 have Fo := No.ge E
 have Oo_br := No.lt Br
 replace Br := No.keep Br
 replace G2 := G2.ext No.ext
 replace hp1 := hp1.ext No.ext
 replace hp2 := hp2.ext No.ext
 replace E := E.ext No.ext
 have Bo := No.blk
 refine WpL_nil (Wp_seq_region ?_)
 refine qM (P6 pb 0) rfl ?_
 refine qF bo 0 2 rfl Tryz.underlying67 rfl siz22 rfl ?_
 refine qV (r_load (v := (.slice pa2 p.lst.length pc2)) rfl flat22 (Bo.cell rfl)) ?_
 refine qF bo 0 1 rfl Tryz.underlying67 rfl siz22 rfl ?_
 refine qV (r_load (v := (.slice pa p.fst.length pc)) rfl flat22 (Bo.cell rfl)) ?_
 have hbo : bo < (wo).heap.size ∧ br < (wo).heap.size := ⟨Bo.lt,Br.lt⟩
 have hAo : Apq F2 pb s2 f2 v2 bo := hGo.st.fresh (by have := No.eq; omega)
 have hRo : w0.heap.size ≤ bo := by have := No.eq; have := hGo.chg.size; omega
 refine WpL_enter rfl rfl (by decide) (r_callF (vs := [(P6 pb 0),(.slice pa2 p.lst.length pc2),(.slice pa p.fst.length pc)]) Tryz.func58 kQ kQ rfl) (glink_c F2 _ base pb s2 f2 v2 g2 G2.st pa2 pa pc2 pc p.lst p.fst hp2 hp1 (fun t ht => by have := (hok.lst.2.1 t ht).2; have := hI2.1; omega) (fun i l hl => by have := hRow i l hl; omega) (by have := hok.lst.len; have := hI2.2; omega) (by have := hok.fst.len; have := hI2.2; omega) (by have := hI2.1; omega)) ?_
 rintro _ w29 ⟨v3,G3⟩
 replace Br := G3.chg.keep ((by first | exact hAr.2 | exact hAo.2)) Br
 replace Bo := G3.chg.keep ((by first | exact hAr.2 | exact hAo.2)) Bo
 replace E := E.step G3.chg (fun _ _ _ => trivial)
 have hAr3 := G3.apart hAr hbo.2
 have hAo3 := G3.apart hAo hbo.1
 replace hp1 := hp1.chg G3.chg fun y hy => G2.st.kept hy
 replace hp2 := hp2.chg G3.chg fun y hy => G2.st.kept hy
 replace G3 := G2.comp G3
 refine WpL_nil (Wp_seq_region ?_)
 refine qF bo 0 0 rfl Tryz.underlying67 rfl siz4 rfl ?_
 refine s_store (b := bo) (o := 0) (c' := #[(.bool true),(.slice pa p.fst.length pc),(.slice pa2 p.lst.length pc2)]) (v := (.bool true)) rfl rfl rfl siz4 Bo (by simp) rfl ?_
 intro w6 S6
 replace G3 := G3.other S6.chg (fun y e => by first | (rw [show y = bo from e]; exact ⟨hRo,hAo3⟩) | (rw [show y = br from e]; exact ⟨by omega,hAr3⟩))
 replace hp1 := hp1.chg S6.chg (fun y hy e => by first | (rw [show y = bo from e] at hy; exact hAo3.1 hy) | (rw [show y = br from e] at hy; exact hAr3.1 hy))
 replace hp2 := hp2.chg S6.chg (fun y hy e => by first | (rw [show y = bo from e] at hy; exact hAo3.1 hy) | (rw [show y = br from e] at hy; exact hAr3.1 hy))
 replace Br := S6.keep (by omega) Br
 replace E := S6.step E (by first | exact Or.inl (by omega) | exact Or.inr rfl | exact Or.inr (by assumption) | exact Or.inr (by simp) | exact Or.inr (by omega) | exact Or.inr (by dsimp only; omega))
 replace Bo := S6.blk
 refine WpL_nil (Wp_seq_region ?_)
 refine qV (r_loadAgg (vs := [(.bool true),(.slice pa p.fst.length pc),(.slice pa2 p.lst.length pc2)]) rfl agg67 siz67 rfl (Bo.cells rfl)) ?_
 refine s_storeAgg (b := br) (o := 0) (c' := #[(.bool true),(.slice pa p.fst.length pc),(.slice pa2 p.lst.length pc2)]) rfl rfl (by simp [Value.oneCell']) siz67 rfl Br (by first | (simp; done) | exact Nat.le_of_ble_eq_true rfl) rfl ?_
 intro w7 S7
 replace G3 := G3.other S7.chg (fun y e => by first | (rw [show y = bo from e]; exact ⟨hRo,hAo3⟩) | (rw [show y = br from e]; exact ⟨by omega,hAr3⟩))
 replace hp1 := hp1.chg S7.chg (fun y hy e => by first | (rw [show y = bo from e] at hy; exact hAo3.1 hy) | (rw [show y = br from e] at hy; exact hAr3.1 hy))
 replace hp2 := hp2.chg S7.chg (fun y hy e => by first | (rw [show y = bo from e] at hy; exact hAo3.1 hy) | (rw [show y = br from e] at hy; exact hAr3.1 hy))
 replace Bo := S7.keep (by omega) Bo
 replace E := S7.step E (by first | exact Or.inl (by omega) | exact Or.inr rfl | exact Or.inr (by assumption) | exact Or.inr (by simp) | exact Or.inr (by omega) | exact Or.inr (by dsimp only; omega))
 replace Br := S7.blk
 refine WpL_nil (Wp_ret (inB_ret (thn_ret (finX_ret ?_))))
 refine fin_agg Tryz.results24 (vs := [(.bool true),(.slice pa p.fst.length pc),(.slice pa2 p.lst.length pc2)]) (b := br) rfl agg67 siz67 rfl (Br.cells rfl) ?_
 exact ⟨_,⟨true,p.fst,p.lst⟩,_,_,_,_,by rw [gk_5 hk hy,h2]; rfl,⟨_,_,_,_,rfl,hp1,hp2⟩,G3⟩
end Go.Proofs
namespace Go.Eng
open Go
section
variable {Ms : Nat → Nat → Prop} {Rs : Nat → World → World → Prop} {cl : List (List Nat)} {i : Nat} {ws ds : List Nat}
theorem StabG.eq {u : Value} : StabG Ms Rs cl i ws (fun _ _ v _ => v = u) := fun _ _ _ _ _ _ _ _ _ _ _ _ _ h => h
theorem StabG.chg {F : Fct} {U : Nat → Prop} (hF : ∀ v w w',Chg U w w' → F v w → F v w') (hM : ∀ p y,p ≠ i → ws.contains p = false → Ms p y → U y) : StabG Ms Rs cl i ws (fun _ _ => F) :=
 fun p h1 h2 _ _ v w w' _ _ _ x _ h => hF v w w' (x.mono fun y _ hy => hM p y h1 h2 hy) h
end
def RsL : List (Nat × (World → World → Prop)) → Nat → World → World → Prop
  | [],_,_,_ => True
  | p :: r,j,w,w' => (j = p.1 → p.2 w w') ∧ RsL r j w w'
section
variable {M : Nat → Prop} {ch : List PanicEntry} {X : World → Prop} {P : Program} {N : Nat} {o : Oper} {R : Fct} {σ : Env} {w : World} {c i : Nat} {T : World → World → Prop}
theorem gX0 (h : DoesT M P N o R σ w) : DoesX M ch X P N o (fun v w2 => R v w2 ∧ RsL [] i w w2) σ w := (DoesT.x h).weak fun _ _ _ h => ⟨h,trivial⟩
theorem gX0x (h : DoesX M ch X P N o R σ w) : DoesX M ch X P N o (fun v w2 => R v w2 ∧ RsL [] i w w2) σ w := h.weak fun _ _ _ h => ⟨h,trivial⟩
end
end Go.Eng
