/- Contracts and plain lemmas, part 4. -/
import Derived.Tactics
import Derived.Deep.Quiet
import Derived.Laws.AppendOwn
import Derived.KernelRfl
import Derived.Laws.Entries
import Derived.Laws.Build
import Derived.Below
import Derived.RowKit3
import Derived.StillTail
import Derived.Sort.Grow
import Derived.Deep.Draws
import Derived.Test.YtdcgaapnkflhmaaGreatChecked
import Derived.Laws.StructEq
import Derived.MapKept
import Derived.Laws.BytesArg
import Derived.Defers
import Derived.Recover
import Derived.Shelf.SlSortCmp.WholeK
import Derived.Shelf.Sort.Plain
import Derived.Shelf.Slices.CompactI
import Derived.Test.YtdcgaapnkflhmaaGreatProg
import Derived.Shelf.Small.Bits
import Derived.DeepKeys3
import Derived.OpenShut
import Derived.ChangeSlices
import Derived.Test.YtdcgaapnkflhmaaGreatRows
import Derived.SizedLaws
import Derived.Test.YtdcgaapnkflhmaaGreatZn3
namespace Go.Proofs
open Go Go.Eng Go.Sort
set_option maxRecDepth 100000
abbrev TGk : Nat := 128
abbrev TSl : Nat := 37
def nZ (l : List Nat) : List Int := l.map fun n => ((n : Nat) : Int)
theorem nZ_len (l : List Nat) : (nZ l).length = l.length := by unfold nZ; rw [List.length_map]
theorem nZ_app (a b : List Nat) : nZ (a ++ b) = nZ a ++ nZ b := by unfold nZ; rw [List.map_append]
def nRow (l : List Nat) : Nat × List Value := (l.length, (nZ l).map (Value.int .i64))
/-- The blocks of a list of lists. -/
def LsQ (vo : Value) (vs : List Value) (b : Nat) : Prop := vo.ownBlock = some b ∨ ∃ (i : Nat) (v : Value), vs[i]? = some v ∧ v.ownBlock = some b
theorem GSt.lt {To e sz base : Nat} {w : World} {vo : Value} {vs : List Value} {ns : List (Nat × List Value)} (h : GSt To e sz w base vo vs ns) {b : Nat} (hb : LsQ vo vs b) : base ≤ b ∧ b < w.heap.size := by
 rcases hb with h1 | ⟨i, v, h1, h2⟩
 ·exact h.l.o.lt b h1
 ·obtain ⟨p, hp⟩ := get_of_lt (l := ns) (i := i) (by have := lt_of_get h1; have := h.l.len; omega)
  exact (h.l.inn i v p h1 hp).lt b h2
theorem GSt.chgQ {M : Nat → Prop} {To e sz base : Nat} {w w' : World} {vo : Value} {vs : List Value} {ns : List (Nat × List Value)} (h : GSt To e sz w base vo vs ns) (c : Chg M w w') (hM : ∀ b, LsQ vo vs b → ¬ M b) : GSt To e sz w' base vo vs ns :=
 ⟨⟨own_chg h.l.o c fun b hb => hM b (.inl hb), h.l.len, fun i v p hv hp => own_chg (h.l.inn i v p hv hp) c fun b hb => hM b (.inr ⟨i, v, hv, hb⟩), h.l.apo⟩, h.ap⟩
/-- A list of numbers that is not written again. -/
def FrI (F : Nat → Prop) (w : World) (v : Value) (l : List Nat) : Prop := IntsAt w v (nZ l) ∧ (l = [] ∨ ∃ b, v.ownBlock = some b ∧ F b)
theorem FrI.chg {F M : Nat → Prop} {w w' : World} {v : Value} {l : List Nat} (h : FrI F w v l) (c : Chg M w w') (hM : ∀ y, F y → ¬ M y) : FrI F w' v l := by
 refine ⟨slAt_keep h.1 c ?_, h.2⟩
 rcases h.2 with h1 | ⟨b, h1, h2⟩
 ·exact .inl (by rw [h1]; rfl)
 ·exact .inr ⟨b, h1, hM b h2⟩
theorem FrI.ext {F : Nat → Prop} {w w' : World} {v : Value} {l : List Nat} (h : FrI F w v l) (e : Ext w w') : FrI F w' v l := h.chg e fun _ _ f => f
theorem FrI.mono {F F' : Nat → Prop} {w : World} {v : Value} {l : List Nat} (h : FrI F w v l) (hF : ∀ y, F y → F' y) : FrI F' w v l := ⟨h.1, h.2.imp id fun ⟨b, h1, h2⟩ => ⟨b, h1, hF b h2⟩⟩
theorem FrI.nil (F : Nat → Prop) (w : World) : FrI F w (.slice none 0 0) [] := ⟨SlAt.nil w 1 _ _, .inl rfl⟩
/-- What is known of a part of an expression, as a value. -/
def PtAt (F : Nat → Prop) (w : World) (p : Pt) (v : Value) : Prop := ∃ a c a2 c2, v = .agg #[.bool p.nul, .slice a p.fst.length c, .slice a2 p.lst.length c2] ∧ FrI F w (.slice a p.fst.length c) p.fst ∧ FrI F w (.slice a2 p.lst.length c2) p.lst
theorem PtAt.chg {F M : Nat → Prop} {w w' : World} {p : Pt} {v : Value} (h : PtAt F w p v) (c : Chg M w w') (hM : ∀ y, F y → ¬ M y) : PtAt F w' p v := by
 obtain ⟨a, d, a2, c2, h1, h2, h3⟩ := h
 exact ⟨a, d, a2, c2, h1, h2.chg c hM, h3.chg c hM⟩
theorem PtAt.ext {F : Nat → Prop} {w w' : World} {p : Pt} {v : Value} (h : PtAt F w p v) (e : Ext w w') : PtAt F w' p v := h.chg e fun _ _ f => f
def SetF (F : Nat → Prop) (w : World) (zs : List (List Sp)) (us : List Value) : Prop := us.length = zs.length ∧ ∀ (i : Nat) u z, us[i]? = some u → zs[i]? = some z → SpansAt w u z ∧ (z = [] ∨ ∃ b, u.ownBlock = some b ∧ F b)
theorem SetF.chg {F M : Nat → Prop} {w w' : World} {zs : List (List Sp)} {us : List Value} (h : SetF F w zs us) (c : Chg M w w') (hM : ∀ y, F y → ¬ M y) : SetF F w' zs us := by
 refine ⟨h.1, fun i u z hu hz => ?_⟩
 obtain ⟨h1, h2⟩ := h.2 i u z hu hz
 refine ⟨slAt_keep h1 c ?_, h2⟩
 rcases h2 with h2 | ⟨b, h2, h3⟩
 ·exact .inl (by rw [h2]; rfl)
 ·exact .inr ⟨b, h2, hM b h3⟩
theorem SetF.mono {F F' : Nat → Prop} {w : World} {zs : List (List Sp)} {us : List Value} (h : SetF F w zs us) (hF : ∀ y, F y → F' y) : SetF F' w zs us := ⟨h.1, fun i u z hu hz => by obtain ⟨h1, h2⟩ := h.2 i u z hu hz; exact ⟨h1, h2.imp id fun ⟨b, h3, h4⟩ => ⟨b, h3, hF b h4⟩⟩⟩
theorem SetF.snoc {F : Nat → Prop} {w : World} {zs : List (List Sp)} {us : List Value} {u : Value} {z : List Sp} (h : SetF F w zs us) (h1 : SpansAt w u z) (h2 : z = [] ∨ ∃ b, u.ownBlock = some b ∧ F b) : SetF F w (zs ++ [z]) (us ++ [u]) := by
 refine ⟨by simp [h.1], fun i x y hx hy => ?_⟩
 rcases Nat.lt_or_ge i us.length with hi | hi
 ·rw [List.getElem?_append_left hi] at hx
  rw [List.getElem?_append_left (by have := h.1; omega)] at hy
  exact h.2 i x y hx hy
 ·have := lt_of_get hx
  simp at this
  obtain rfl : i = us.length := by omega
  rw [List.getElem?_append_right (Nat.le_refl _), Nat.sub_self] at hx
  rw [h.1, List.getElem?_append_right (Nat.le_refl _), Nat.sub_self] at hy
  simp at hx hy
  subst hx; subst hy
  exact ⟨h1, h2⟩
structure GkSt (F : Nat → Prop) (w : World) (base pb : Nat) (sv fv : Value) (vs : List Value) (g : GS) : Prop where
 blk : Blk w pb #[sv, fv] TGk
 sets : ∃ us, w.ownsRow base TSl 1 sv g.sets.length us ∧ SetF F w g.sets us
 fol : GSt TDIs TDI 1 w base fv vs (g.fol.map nRow)
 hsF : ∀ b, sv.ownBlock = some b → ¬ F b
 hfF : ∀ b, LsQ fv vs b → ¬ F b
 apt : ∀ b, sv.ownBlock = some b → ¬ LsQ fv vs b
 hp : ¬ F pb
 aps : sv.ownBlock ≠ some pb ∧ ¬ LsQ fv vs pb
 bs : base ≤ w.heap.size
 fl : ∀ y, F y → y < w.heap.size
def GM (pb : Nat) (sv fv : Value) (vs : List Value) (y : Nat) : Prop := y = pb ∨ sv.ownBlock = some y ∨ LsQ fv vs y
section
variable {F F' F2 M : Nat → Prop} {w0 w w' w2 wb : World} {base pb : Nat} {sv fv sv' fv' sv2 fv2 : Value} {vs vs' vs2 : List Value} {g g' g2 : GS}
theorem GkSt.chg (h : GkSt F w base pb sv fv vs g) (c : Chg M w w') (hM : ∀ y, F y → ¬ M y) (h1 : ∀ y, GM pb sv fv vs y → ¬ M y) : GkSt F w' base pb sv fv vs g := by
 obtain ⟨us, h4, h5⟩ := h.sets
 exact ⟨c.keep (h1 pb (.inl rfl)) h.blk, ⟨us, own_chg h4 c fun k hk => h1 k (.inr (.inl hk)), h5.chg c hM⟩, h.fol.chgQ c fun b hb => h1 b (.inr (.inr hb)), h.hsF, h.hfF, h.apt, h.hp, h.aps, Nat.le_trans h.bs c.size, fun y hy => Nat.lt_of_lt_of_le (h.fl y hy) c.size⟩
theorem GkSt.ext (h : GkSt F w base pb sv fv vs g) (c : Ext w w') : GkSt F w' base pb sv fv vs g := h.chg c (fun _ _ f => f) fun _ _ f => f
theorem GkSt.low (h : GkSt F w base pb sv fv vs g) : ∀ y, GM pb sv fv vs y → y < w.heap.size := fun y hy => by
 obtain ⟨us, h3, _⟩ := h.sets
 rcases hy with h1 | h1 | h1
 ·rw [h1]; exact h.blk.lt
 ·exact (h3.lt y h1).2
 ·exact (h.fol.lt h1).2
theorem GkSt.kept (h : GkSt F w base pb sv fv vs g) {b : Nat} (hb : F b) : ¬ GM pb sv fv vs b := fun hm => hm.elim (fun e => h.hp (e ▸ hb)) fun e => e.elim (fun e => h.hsF b e hb) fun e => h.hfF b e hb
structure GrG (F : Nat → Prop) (w0 : World) (base pb : Nat) (sv fv : Value) (vs : List Value) (F' : Nat → Prop) (sv' fv' : Value) (vs' : List Value) (g' : GS) (w : World) : Prop where
 sub : ∀ y, F y → F' y
 new : ∀ y, F' y → F y ∨ w0.heap.size ≤ y
 st : GkSt F' w base pb sv' fv' vs' g'
 chg : Chg (GM pb sv fv vs) w0 w
 os : ∀ k, sv'.ownBlock = some k → sv.ownBlock = some k ∨ w0.heap.size ≤ k
 of : ∀ k, LsQ fv' vs' k → LsQ fv vs k ∨ w0.heap.size ≤ k
theorem GrG.start (h : GkSt F w0 base pb sv fv vs g) : GrG F w0 base pb sv fv vs F sv fv vs g w0 := ⟨fun _ h => h, fun _ h => .inl h, h, Chg.refl _ _, fun _ h => .inl h, fun _ h => .inl h⟩
theorem GrG.ext (h : GrG F w0 base pb sv fv vs F' sv' fv' vs' g' w) (e : Ext w w2) : GrG F w0 base pb sv fv vs F' sv' fv' vs' g' w2 := ⟨h.sub, h.new, h.st.ext e, h.chg.ext e, h.os, h.of⟩
theorem GrG.olds (h : GrG F w0 base pb sv fv vs F' sv' fv' vs' g' w) : ∀ y, GM pb sv' fv' vs' y → GM pb sv fv vs y ∨ w0.heap.size ≤ y := fun y hy => by
 rcases hy with h1 | h1 | h1
 ·exact .inl (.inl h1)
 ·exact (h.os y h1).imp (fun h => .inr (.inl h)) id
 ·exact (h.of y h1).imp (fun h => .inr (.inr h)) id
theorem GrG.comp (h : GrG F w0 base pb sv fv vs F' sv' fv' vs' g' w) (b : GrG F' w base pb sv' fv' vs' F2 sv2 fv2 vs2 g2 w2) : GrG F w0 base pb sv fv vs F2 sv2 fv2 vs2 g2 w2 := by
 have hs := h.chg.size
 refine ⟨fun y hy => b.sub y (h.sub y hy), fun y hy => ?_, b.st, h.chg.step b.chg fun x hx hm => ?_, fun k hk => ?_, fun k hk => ?_⟩
 ·rcases b.new y hy with h1 | h1
  ·exact h.new y h1
  ·exact .inr (by omega)
 ·rcases h.olds x hm with h1 | h1
  ·exact h1
  ·omega
 ·rcases b.os k hk with h1 | h1
  ·exact h.os k h1
  ·exact .inr (by omega)
 ·rcases b.of k hk with h1 | h1
  ·exact h.of k h1
  ·exact .inr (by omega)
theorem GrG.base' (h : GrG F w0 base pb sv fv vs F' sv' fv' vs' g' w) (h0 : GkSt F w0 base pb sv fv vs g) (hF : ∀ y, y < wb.heap.size → F y) (hE : Ext wb w0) : Ext wb w :=
 hE.step h.chg fun x hx hm => h0.kept (hF x hx) hm
theorem GrG.pan (h : GrG F w0 base pb sv fv vs F' sv' fv' vs' g' w) (c : Chg (GM pb sv' fv' vs') w w2) : Chg (GM pb sv fv vs) w0 w2 :=
 h.chg.step c fun x hx hm => by
  rcases h.olds x hm with h1 | h1
  ·exact h1
  ·omega
/-- A row has grown. -/
theorem GrG.row {gb n cap m' p : Nat} {v v' : Value} {l to : List Nat} {cur : Array Value} (h : GkSt F w base pb sv (.slice (some ⟨gb, 0, none⟩) n cap) vs g) (hn : n = g.fol.length) (hv : vs[p]? = some v) (hl : g.fol[p]? = some l)
  (Ov : w'.ownsRow base TDI 1 v' m' ((nZ (l ++ to)).map (Value.int .i64))) (hm : m' = (l ++ to).length) (Cv : Chg (fun x => v.ownBlock = some x) w w') (Wv : ∀ k, v'.ownBlock = some k → v.ownBlock = some k ∨ w.heap.size ≤ k) (hB : Blk w' gb cur TDIs) (P : Put w' w2 gb (cur.setIfInBounds p v') TDIs) :
  GrG F w base pb sv (.slice (some ⟨gb, 0, none⟩) n cap) vs F sv (.slice (some ⟨gb, 0, none⟩) n cap) (vs.set p v') ⟨g.sets, lnk1 g.fol to p⟩ w2 := by
 have hp1 : (g.fol.map nRow)[p]? = some (l.length, (nZ l).map (Value.int .i64)) := by rw [List.getElem?_map, hl]; rfl
 have hG := h.fol.grow (by rw [List.length_map]; exact hn) hv hp1 (m' := m') (xs' := (nZ (l ++ to)).map (Value.int .i64)) Ov Cv Wv hB P
 have he : (g.fol.map nRow).set p (m', (nZ (l ++ to)).map (Value.int .i64)) = (lnk1 g.fol to p).map nRow := by
  unfold lnk1
  rw [List.map_set, List.getD_eq_getElem?_getD, hl, hm]; rfl
 rw [he] at hG
 have hold : ∀ k, LsQ (.slice (some ⟨gb, 0, none⟩) n cap) (vs.set p v') k → LsQ (.slice (some ⟨gb, 0, none⟩) n cap) vs k ∨ w.heap.size ≤ k := fun k hk => by
  rcases hk with h1 | ⟨i, u, h1, h2⟩
  ·exact .inl (.inl h1)
  ·rw [List.getElem?_set] at h1
   split at h1
   ·rename_i e
    split at h1
    ·cases h1
     rcases Wv k h2 with h3 | h3
     ·exact .inl (.inr ⟨p, v, hv, h3⟩)
     ·exact .inr h3
    ·cases h1
   ·exact .inl (.inr ⟨i, u, h1, h2⟩)
 have hgb : LsQ (.slice (some ⟨gb, 0, none⟩) n cap) vs gb := .inl rfl
 have hvb : ∀ y, v.ownBlock = some y → LsQ (.slice (some ⟨gb, 0, none⟩) n cap) vs y := fun y hy => .inr ⟨p, v, hv, hy⟩
 obtain ⟨us, h3, h4⟩ := h.sets
 have hC : Chg (GM pb sv (.slice (some ⟨gb, 0, none⟩) n cap) vs) w w2 := (Cv.mono fun y _ hy => .inr (.inr (hvb y hy))).step P.chg fun x hx e => .inr (.inr (by have e' : x = gb := e; rw [e']; exact hgb))
 have hlow := h.low
 refine ⟨fun _ h => h, fun _ h => .inl h, ⟨?_, ⟨us, own_chg (own_chg h3 Cv fun k hk e => h.apt k hk (hvb k e)) P.chg fun k hk e => h.apt k hk (by have e' : k = gb := e; rw [e']; exact hgb), (h4.chg Cv fun y hy e => h.hfF y (hvb y e) hy).chg P.chg fun y hy e => h.hfF y (by have e' : y = gb := e; rw [e']; exact hgb) hy⟩, hG, h.hsF, fun b hb hf => ?_, fun b hb hq => ?_, h.hp, ⟨h.aps.1, fun hq => ?_⟩, Nat.le_trans h.bs hC.size, fun y hy => Nat.lt_of_lt_of_le (h.fl y hy) hC.size⟩, hC, fun _ h => .inl h, hold⟩
 ·exact P.chg.keep (fun e => h.aps.2 (by have e' : pb = gb := e; rw [e']; exact hgb)) (Cv.keep (fun e => h.aps.2 (hvb pb e)) h.blk)
 ·rcases hold b hb with h1 | h1
  ·exact h.hfF b h1 hf
  ·have := h.fl b hf; omega
 ·rcases hold b hq with h1 | h1
  ·exact h.apt b hb h1
  ·have := (h3.lt b hb).2; omega
 ·rcases hold pb hq with h1 | h1
  ·exact h.aps.2 h1
  ·have := hlow pb (.inl rfl); omega
end
theorem DoesT_appendAny {P : Program} {N : Nat} {σ : Env} {w : World} {dst : Option Tmp} {ty : TypeId} {pos : String} {af : Array Edge} {g : Option (Nat × Bool)} {M : Nat → Prop} {t : TypeId} {s x : Operand} {base e size bytes n m c hs : Nat} {ax : Option Addr} {z v : Value} {xs news : List Value} (hu : P.underlying t = some (.slice e)) (hsz : Siz P e size) (hby : Byt P e bytes) (hz : Zer P e z) (hzs : z.cells.size = size) (h0 : 0 < size)
  (he : ev σ s = v) (hown : w.ownsRow base e size v n xs) (hx : ev σ x = .slice ax m c) (hl : news.length = m * size) (hany : (m = 0 ∧ news = []) ∨ ∃ bx ox, ax = some ⟨bx, ox, none⟩ ∧ CellsAt w bx ox news) (h1 : ∀ u ∈ news, u.oneCell' = true)
  (h63 : n + m ≤ maxLen) (hbytes : (n + m) * bytes ≤ 140737488355328) (hbase : base ≤ w.heap.size) (hM : ∀ y, v.ownBlock = some y → M y) (hhs : hs ≤ w.heap.size) :
  DoesT M P N ⟨dst, .call ⟨.builtin .append, #[s, x], #[t, t]⟩, ty, pos, af, g⟩ (appF base e size (n + m) (xs ++ news) v hs) σ w := by
 rcases hany with ⟨rfl, rfl⟩ | ⟨bx, ox, rfl, hc⟩
 ·obtain ⟨a, c', rfl⟩ := own_form hown
  exact DoesT_val (r_append0 hu hsz he (own_le hown) hx) (Chg.refl _ _) ⟨⟨a, c', rfl⟩, by simpa using hown, fun _ h => .inl h⟩
 ·exact DoesT_append hu hsz hby hz hzs h0 he hown hx hl hc h1 h63 hbytes hbase hM hhs
end Go.Proofs
namespace Go.Proofs
open Go Go.Eng Go.Sort
set_option maxRecDepth 100000
theorem nZ_get {l : List Nat} {i x : Nat} (h : l[i]? = some x) : (nZ l)[i]? = some ((x : Nat) : Int) := by unfold nZ; rw [List.getElem?_map, h]; rfl
theorem lnk_take {f : List (List Nat)} {src to : List Nat} {k p : Nat} (h : src[k]? = some p) : lnk f (src.take (k + 1)) to = lnk1 (lnk f (src.take k) to) to p := by rw [List.take_add_one, h]; exact lnk_snoc _ _ _ _
set_option maxHeartbeats 2000000 in
theorem glink_c (F : Nat → Prop) (w0 : World) (base pb : Nat) (sv fv : Value) (vs : List Value) (g : GS) (h : GkSt F w0 base pb sv fv vs g) (sa ta : Option Addr) (sc tc : Nat) (src to : List Nat) (hf : FrI F w0 (.slice sa src.length sc) src) (ht : FrI F w0 (.slice ta to.length tc) to) (hsrc : ∀ p ∈ src, p < g.fol.length) (hb : RowB 100000 g.fol) (hl1 : src.length ≤ 1000) (hl2 : to.length ≤ 1000) (hg0 : 0 < g.fol.length) :
  Ret Tryz.prog 146 #[.pointer (some ⟨pb, 0, none⟩), .slice sa src.length sc, .slice ta to.length tc] w0 fun _ w => ∃ vs', GrG F w0 base pb sv fv vs F sv fv vs' ⟨g.sets, lnk g.fol src to⟩ w := by
 have hgl : (g.fol.map nRow).length = g.fol.length := List.length_map _
 obtain ⟨fa, fc, rfl⟩ := own_form h.fol.l.o
 rw [hgl] at h ⊢
 obtain ⟨gb, hgb, _, _⟩ := own_cells (h.fol.l.on hgl.symm) hg0
 subst hgb
 refine Ret_of Tryz.func146 rfl Tryz.ntmps146 (Nat.le_of_ble_eq_true rfl) ?_
 have E : Chg (GM pb sv (.slice (some ⟨gb, 0, none⟩) g.fol.length fc) vs) w0 w0 := Chg.refl _ _
 refine Wp_seq_region ?_
 refine qM (.slice sa src.length sc) rfl ?_
 refine qV (r_lenSlice (ad := sa) (n := src.length) (cap := sc) Tryz.underlying22 rfl) ?_
 refine qM (I6 0) rfl ?_
 refine WpL_nil (Wp_block ?_)
 refine Wp_loop (fun nn_ σ W1 => ∃ (k : Nat) (vk : List Value), (∃ jj_, σ = upds jj_ [(0, (P6 pb 0)), (2, (.slice ta to.length tc)), (8, (.slice sa src.length sc)), (9, (I6 (src.length : Int))), (10, (I6 (k : Int)))]) ∧ Chg (GM pb sv (.slice (some ⟨gb, 0, none⟩) g.fol.length fc) vs) w0 W1 ∧ (k ≤ src.length) ∧ (GrG F w0 base pb sv (.slice (some ⟨gb, 0, none⟩) g.fol.length fc) vs F sv (.slice (some ⟨gb, 0, none⟩) g.fol.length fc) vk ⟨g.sets, lnk g.fol (src.take k) to⟩ W1) ∧ (RowB (100000 + k * 1000) (lnk g.fol (src.take k) to)) ∧ nn_ = src.length - k) (n := src.length - 0) ?_ ?_
 ·exact ⟨0, vs, Fits.out ⟨rfl, rfl, rfl, rfl, rfl, trivial⟩, E, Nat.zero_le _, GrG.start h, hb, rfl⟩
 ·clear E
  rintro _ _ W1 ⟨k, vk, ⟨j1, rfl⟩, E, hk, hG, hR, rfl⟩
  refine Wp_seq_region ?_
  refine qV (r_lss (k := .i64) (a := (k : Int)) (b := (src.length : Int)) rfl rfl) ?_
  refine WpL_nil (Wp_seq ?_)
  refine Wp_cond (b := decide (((k : Int) : Int) < (src.length : Int))) rfl (fun hlt => ?_) (fun hlt => ?_)
  ·have khlt := hlt
   replace hlt := of_decide_eq_true hlt
   obtain ⟨p, hp⟩ := get_of_lt (l := src) (i := k) (by omega)
   have hfW := hf.chg hG.chg fun y hy => h.kept hy
   have htW := ht.chg hG.chg fun y hy => h.kept hy
   obtain ⟨pb2, po, rfl, hpc⟩ := ints_cells hfW.1 (by omega)
   have hpn := hsrc p (List.mem_of_getElem? hp)
   have hln := lnk_len (src.take k) g.fol to
   obtain ⟨l0, hl0⟩ := get_of_lt (l := lnk g.fol (src.take k) to) (i := p) (by omega)
   have hst := hG.st
   have hvl : vk.length = g.fol.length := by have := hst.fol.l.len; rw [List.length_map] at this; exact this.trans hln
   obtain ⟨v1, hv1⟩ := get_of_lt (l := vk) (i := p) (by omega)
   have hp1 : ((lnk g.fol (src.take k) to).map nRow)[p]? = some (l0.length, (nZ l0).map (Value.int .i64)) := by rw [List.getElem?_map, hl0]; rfl
   have hinn := hst.fol.l.inn p v1 _ hv1 hp1
   have hinl := hinn.lt
   obtain ⟨va, vc, rfl⟩ := own_form hinn
   obtain ⟨gg, hgg, _, hg2⟩ := own_cells (hst.fol.l.on (n := g.fol.length) (by rw [List.length_map]; exact hln.symm)) (by omega)
   simp only [Option.some.injEq, Addr.mk.injEq, and_true] at hgg
   subst hgg
   have hblk := hst.blk
   have hbs := hst.bs
   have hr0 := hR p l0 hl0
   have hap : ∀ y, (Value.slice va l0.length vc).ownBlock = some y → y ≠ pb := fun y hy e => hst.aps.2 (.inr ⟨p, _, hv1, by rw [← e]; exact hy⟩)
   refine Wp_skip (thn_normal (Wp_seq (Wp_block (Wp_seq_region ?_))))
   refine qV (r_indexSlice (b := pb2) (o := po) (len := src.length) (cap := sc) (i := k) (o' := po + k) rfl rfl rfl Tryz.underlying22 siz3 (by omega) (by omega)) ?_
   refine qV (r_load (v := (I6 (p : Int))) rfl flat3 (hpc k _ (nZ_get hp))) ?_
   obtain ⟨h0, hh0⟩ : ∃ h0, h0 = (W1).heap.size := ⟨_, rfl⟩
   refine qA (I6 (p : Int)) rfl ?_
   refine WpL_nil ?_
   have hz_3 : w0.heap.size ≤ W1.heap.size := E.size
   have lz_3_pb : pb < W1.heap.size := hblk.lt
   obtain ⟨Fs3, hFs3⟩ : ∃ Fs : List FctS, Fs = [(eF (P6 pb 0)), (eF (P6 pb 0)), (eF (P6 pb 1)), (eF (.slice (some ⟨gb, 0, none⟩) g.fol.length fc)), (eF (I6 (p : Int))), (eF (P6 pb 0)), (eF (P6 pb 0)), (eF (P6 pb 1)), (eF (.slice (some ⟨gb, 0, none⟩) g.fol.length fc)), (eF (I6 (p : Int))), (eF (.pointer (some ⟨gb, 0 + p, none⟩))), (eF (.slice va l0.length vc)), (eF (.slice ta to.length tc)), (fun _ _ => appF base TDI 1 (l0.length + to.length) ((nZ l0).map (Value.int .i64) ++ (nZ to).map (Value.int .i64)) (.slice va l0.length vc) h0), (eF undef), (eF undef)] := ⟨_, rfl⟩
   refine Wp_dagS (MsL [(13, (fun y => (Value.slice va l0.length vc).ownBlock = some y))]) [true, true, true, true, true, true, true, true, true, true, true, true, true, true, false, false] [14, 15] [14, 15, 16, 17, 18, 19, 20, 21, 22, 23, 24, 25, 26, 27, 44, 45] [[], [0], [1], [2], [], [], [5], [6], [7], [], [8, 9], [10], [], [11, 12], [], []] [[], [0], [1, 0], [2, 1, 0], [], [], [5], [6, 5], [7, 6, 5], [], [8, 7, 6, 5, 9], [10, 8, 7, 6, 5, 9], [], [11, 10, 8, 7, 6, 5, 9, 12], [], []] Fs3 hFs3 (by kernel_rfl) mixed (by kernel_rfl) (by kernel_rfl) (by kernel_rfl) (by kernel_rfl) ?_ ?_
   ·intro wd X0
    refine qZ (fun S s' w' hi hN X U V H => ?_) ?_
    ·replace X := xM1 X
     exact DoesT_pure (r_move (v := (P6 pb 0)) (U 0 rfl)) rfl
    refine qZ (fun S s' w' hi hN X U V H => ?_) ?_
    ·replace X := xM1 X
     have e14 := (H 0 rfl).2 14 _ rfl (by rw [hFs3]; rfl)
     exact DoesT_pure (r_nilCheck (a := ⟨pb, 0, none⟩) e14) rfl
    refine qZ (fun S s' w' hi hN X U V H => ?_) ?_
    ·replace X := xM1 X
     have e15 := (H 1 rfl).2 15 _ rfl (by rw [hFs3]; rfl)
     exact DoesT_pure (r_fieldAddr (b := pb) (o := 0) (o' := 1) e15 Tryz.underlying128 rfl siz49 rfl) rfl
    refine qZ (fun S s' w' hi hN X U V H => ?_) ?_
    ·replace X := xM1 X
     have e16 := (H 2 rfl).2 16 _ rfl (by rw [hFs3]; rfl)
     exact DoesT_pure (r_load (v := (.slice (some ⟨gb, 0, none⟩) g.fol.length fc)) e16 flat49 ((Chg.keep X (fun h => hap _ h rfl) (X0.keep hblk)).cell rfl)) rfl
    refine qZ (fun S s' w' hi hN X U V H => ?_) ?_
    ·replace X := xM1 X
     exact DoesT_pure (r_move (v := (I6 (p : Int))) (U 7 rfl)) rfl
    refine qZ (fun S s' w' hi hN X U V H => ?_) ?_
    ·replace X := xN1 (hN 13 rfl) X
     exact DoesT_pure (r_move (v := (P6 pb 0)) (U 0 rfl)) rfl
    refine qZ (fun S s' w' hi hN X U V H => ?_) ?_
    ·replace X := xN1 (hN 13 rfl) X
     have e19 := (H 5 rfl).2 19 _ rfl (by rw [hFs3]; rfl)
     exact DoesT_pure (r_nilCheck (a := ⟨pb, 0, none⟩) e19) rfl
    refine qZ (fun S s' w' hi hN X U V H => ?_) ?_
    ·replace X := xN1 (hN 13 rfl) X
     have e20 := (H 6 rfl).2 20 _ rfl (by rw [hFs3]; rfl)
     exact DoesT_pure (r_fieldAddr (b := pb) (o := 0) (o' := 1) e20 Tryz.underlying128 rfl siz49 rfl) rfl
    refine qZ (fun S s' w' hi hN X U V H => ?_) ?_
    ·replace X := xN1 (hN 13 rfl) X
     have e21 := (H 7 rfl).2 21 _ rfl (by rw [hFs3]; rfl)
     exact DoesT_pure (r_load (v := (.slice (some ⟨gb, 0, none⟩) g.fol.length fc)) e21 flat49 (((X0.trans X).keep hblk).cell rfl)) rfl
    refine qZ (fun S s' w' hi hN X U V H => ?_) ?_
    ·replace X := xN1 (hN 13 rfl) X
     exact DoesT_pure (r_move (v := (I6 (p : Int))) (U 7 rfl)) rfl
    refine qZ (fun S s' w' hi hN X U V H => ?_) ?_
    ·replace X := xN1 (hN 13 rfl) X
     have e22 := (H 8 rfl).2 22 _ rfl (by rw [hFs3]; rfl)
     have e23 := (H 9 rfl).2 23 _ rfl (by rw [hFs3]; rfl)
     exact DoesT_pure (r_indexSlice (b := gb) (o := 0) (len := g.fol.length) (cap := fc) (i := p) (o' := 0 + p) e22 e23 rfl Tryz.underlying49 siz22 (by omega) (by omega)) rfl
    refine qZ (fun S s' w' hi hN X U V H => ?_) ?_
    ·replace X := xN1 (hN 13 rfl) X
     have e24 := (H 10 rfl).2 24 _ rfl (by rw [hFs3]; rfl)
     exact DoesT_pure (r_load (v := (.slice va l0.length vc)) e24 flat22 (by have h1 := hg2 p _ hv1; exact (Ext.cell X (X0.cell h1)))) rfl
    refine qZ (fun S s' w' hi hN X U V H => ?_) ?_
    ·replace X := xN1 (hN 13 rfl) X
     exact DoesT_pure (r_move (v := (.slice ta to.length tc)) (U 2 rfl)) rfl
    refine DagStepsS.cons (StabS.chg (U := none1) (appF_ext _ _ _ _ _ _ _) (fun p y hp hw h => by
       rcases MsL_or h with ⟨rfl, h0⟩ | h0
       ·exact absurd rfl hp
       exact h0.elim)) (LocS.const) (fun S s' w' hi hN X U V H => Or.inl ⟨Guarded_none rfl, ?_⟩) ?_
    ·replace X := xN1 hi X
     have e25 := (H 11 rfl).2 25 _ rfl (by rw [hFs3]; rfl)
     have e26 := (H 12 rfl).2 26 _ rfl (by rw [hFs3]; rfl)
     exact DoesT_appendAny (hs := h0) Tryz.underlying22 siz3 byt3 zer3 rfl (by decide) e25 (own_ext (own_ext hinn X0) X) e26 (by rw [List.length_map, nZ_len, Nat.mul_one]) (ints_any (htW.1.ext (X0.trans X))) (ints_one (nZ to)) (by unfold maxLen; omega) (by omega) (by have := X0.size; have := X.size; omega) (fun y h => .inl ⟨rfl, h⟩) (by have := X0.size; have := X.size; omega)
    refine DagStepsS.tail (DagStepsS.tail ?_)
    exact DagStepsS.nil
   ·intro s' wd3 w3 X0 X3 U H
    replace X3 := X3.mono (M' := (fun y => (fun y => (Value.slice va l0.length vc).ownBlock = some y) y)) (fun y _ h => by
      obtain ⟨j, hj, h⟩ := h
      rcases MsL_or h with ⟨rfl, h0⟩ | h0
      ·exact h0
      exact h0.elim)
    have e17 := H 3 rfl 17 _ rfl (by rw [hFs3]; rfl)
    have e18 := H 4 rfl 18 _ rfl (by rw [hFs3]; rfl)
    obtain ⟨⟨a27, c27, e27⟩, O27, D27⟩ := (show ((fun _ _ => appF base TDI 1 (l0.length + to.length) ((nZ l0).map (Value.int .i64) ++ (nZ to).map (Value.int .i64)) (.slice va l0.length vc) h0) : FctS) (allS [true, true, true, true, true, true, true, true, true, true, true, true, true, true, false, false]) s' (s' 27) w3 from H 13 rfl 27 (fun _ _ => appF base TDI 1 (l0.length + to.length) ((nZ l0).map (Value.int .i64) ++ (nZ to).map (Value.int .i64)) (.slice va l0.length vc) h0) rfl (by rw [hFs3]; rfl))
    obtain ⟨j3, rfl⟩ := Fits.out (σ := s') (l := [(0, (.pointer (some ⟨pb, 0, none⟩))), (2, (.slice ta to.length tc)), (8, (.slice (some ⟨pb2, po, none⟩) src.length sc)), (9, (.int .i64 ((src.length : Nat) : Int))), (10, (.int .i64 ((k : Nat) : Int))), (17, (.slice (some ⟨gb, 0, none⟩) g.fol.length fc)), (18, (.int .i64 ((p : Nat) : Int))), (27, (.slice a27 (l0.length + to.length) c27))]) ⟨U 0 rfl, U 2 rfl, U 8 rfl, U 9 rfl, U 10 rfl, e17, e18, e27, trivial⟩
    clear U H
    replace hblk := Chg.keep X3 (fun h => hap _ h rfl) (X0.keep hblk)
    have hXm := Chg.trans (Ext.chg X0) X3
    replace E := (E.ext X0).step X3 (fun y hy h => by rcases hG.olds y (.inr (.inr (.inr ⟨p, _, hv1, h⟩))) with h9 | h9; exact h9; omega)
    rw [e27] at O27 D27
    obtain ⟨cur, hBo, hcs⟩ := own_blkG (own_chg (hst.fol.l.on (n := g.fol.length) (by rw [List.length_map]; exact hln.symm)) hXm (fun b hb hm => hst.fol.l.apo p _ _ hv1 hm hb))
    have hPx : True := trivial
    have hBo0 := hBo
    have hMgb : GM pb sv (.slice (some ⟨gb, 0, none⟩) g.fol.length fc) vs gb := .inr (.inr (.inl rfl))
    have hgpb : gb ≠ pb := fun e => hst.aps.2 (.inl (by rw [← e]; rfl))
    refine qV (r_indexSlice (b := gb) (o := 0) (len := g.fol.length) (cap := fc) (i := p) (o' := 0 + p) rfl rfl rfl Tryz.underlying49 siz22 (by omega) (by omega)) ?_
    refine s_store (b := gb) (o := 0 + p) (c' := cur.setIfInBounds (0 + p) (.slice a27 (l0.length + to.length) c27)) (v := (.slice a27 (l0.length + to.length) c27)) rfl rfl rfl siz22 hBo (by omega) (rfl) ?_
    intro w4 S4
    replace hPx := S4
    replace hblk := S4.keep (by omega) hblk
    replace E := S4.step E (by first | exact Or.inl (by omega) | exact Or.inr rfl | exact Or.inr (by assumption) | exact Or.inr (by simp) | exact Or.inr (by omega) | exact Or.inr (by dsimp only; omega))
    replace hBo := S4.blk
    have hG9 := GrG.row hst (by exact hln.symm) hv1 hl0 (to := to) (v' := .slice a27 (l0.length + to.length) c27) (by rw [nZ_app, List.map_append]; exact O27) (by rw [List.length_append]) hXm (by rw [← hh0]; exact D27) hBo0 (by simpa using hPx)
    refine WpL_nil (inB_normal (thn_normal (Wp_region ?_)))
    refine qV (r_add (k := .i64) (a := (k : Int)) (b := 1) (c := (k : Int) + 1) rfl rfl (wI64 (by omega))) ?_
    refine qM (I6 ((k : Int) + 1)) rfl ?_
    refine WpL_nil (thn_normal ?_)
    exact ⟨src.length - (k + 1), by omega, k + 1, vk.set p (.slice a27 (l0.length + to.length) c27), Fits.out ⟨rfl, rfl, rfl, rfl, rfl, trivial⟩, E, (by omega), (by rw [lnk_take hp]; exact hG.comp hG9), (by rw [lnk_take hp, Nat.add_mul, Nat.one_mul, ← Nat.add_assoc]; exact hR.lnk1 p hl2), rfl⟩
  ·have khlt := hlt
   replace hlt := of_decide_eq_false hlt
   have hkk : k = src.length := by omega
   rw [hkk, List.take_length] at hG
   refine Wp_exit (thn_exit (thn_exit (inB_here ?_)))
   refine fin_none Tryz.results146 ?_
   exact ⟨_, hG⟩
end Go.Proofs
namespace Go.Proofs
open Go Go.Eng Go.Sort
set_option maxRecDepth 100000
/-- A block that has nothing to do with what is collected. -/
def Apq (F : Nat → Prop) (pb : Nat) (sv fv : Value) (vs : List Value) (y : Nat) : Prop := ¬ F y ∧ ¬ GM pb sv fv vs y
section
variable {F F' M : Nat → Prop} {w0 w w2 : World} {base pb : Nat} {sv fv sv' fv' : Value} {vs vs' : List Value} {g g' : GS}
theorem GkSt.fresh (h : GkSt F w base pb sv fv vs g) {y : Nat} (hy : w.heap.size ≤ y) : Apq F pb sv fv vs y := ⟨fun hf => by have := h.fl y hf; omega, fun hm => by have := h.low y hm; omega⟩
theorem GrG.apart (h : GrG F w0 base pb sv fv vs F' sv' fv' vs' g' w) {y : Nat} (hy : Apq F pb sv fv vs y) (hl : y < w0.heap.size) : Apq F' pb sv' fv' vs' y := by
 refine ⟨fun hf => ?_, fun hm => ?_⟩
 ·rcases h.new y hf with h1 | h1
  ·exact hy.1 h1
  ·omega
 ·rcases h.olds y hm with h1 | h1
  ·exact hy.2 h1
  ·omega
/-- A write elsewhere, to a block that was made behind. -/
theorem GrG.other (h : GrG F w0 base pb sv fv vs F' sv' fv' vs' g' w) (c : Chg M w w2) (hM : ∀ y, M y → w0.heap.size ≤ y ∧ Apq F' pb sv' fv' vs' y) : GrG F w0 base pb sv fv vs F' sv' fv' vs' g' w2 :=
 ⟨h.sub, h.new, h.st.chg c (fun y hy hm => (hM y hm).2.1 hy) (fun y hy hm => (hM y hm).2.2 hy), h.chg.step c (fun x hx hm => absurd hx (by have := (hM x hm).1; omega)), h.os, h.of⟩
/-- A slice that was made now is not written again. -/
theorem GrG.frzV (h : GrG F w0 base pb sv fv vs F' sv' fv' vs' g' w) (e : Ext w w2) {v : Value} (hv : ∀ k, v.ownBlock = some k → w.heap.size ≤ k ∧ k < w2.heap.size) : GrG F w0 base pb sv fv vs (fun y => F' y ∨ v.ownBlock = some y) sv' fv' vs' g' w2 := by
 have hs := h.st
 have hlow := hs.low
 have hsz := h.chg.size
 have he := e.size
 obtain ⟨us, h3, h4⟩ := hs.sets
 refine ⟨fun y hy => .inl (h.sub y hy), fun y hy => ?_, ⟨e.keep hs.blk, ⟨us, own_ext h3 e, (h4.chg e (fun _ _ f => f)).mono fun y hy => .inl hy⟩, hs.fol.ext e, fun q hq hf => ?_, fun q hq hf => ?_, hs.apt, fun hf => ?_, hs.aps, Nat.le_trans hs.bs he, fun y hy => ?_⟩, h.chg.ext e, h.os, h.of⟩
 ·rcases hy with hy | hy
  ·exact h.new y hy
  ·have := hv y hy; exact .inr (by omega)
 ·have := hlow q (.inr (.inl hq))
  rcases hf with hf | hf
  ·exact hs.hsF q hq hf
  ·have := hv q hf; omega
 ·have := hlow q (.inr (.inr hq))
  rcases hf with hf | hf
  ·exact hs.hfF q hq hf
  ·have := hv q hf; omega
 ·have := hlow pb (.inl rfl)
  rcases hf with hf | hf
  ·exact hs.hp hf
  ·have := hv pb hf; omega
 ·rcases hy with hy | hy
  ·have := hs.fl y hy; omega
  ·exact (hv y hy).2
theorem Apq.frzV {y n m : Nat} {v : Value} (h : Apq F pb sv fv vs y) (hy : y < n) (hv : ∀ k, v.ownBlock = some k → n ≤ k ∧ k < m) : Apq (fun y => F y ∨ v.ownBlock = some y) pb sv fv vs y :=
 ⟨fun hf => hf.elim h.1 fun h1 => by have := hv y h1; omega, h.2⟩
end
/-- Two lists of numbers, joined. -/
theorem concatN_c (w0 : World) (q : Nat) (va vb : Value) (la lb L : List Nat) (hL : L = la ++ lb) (hB : Blk w0 q #[va, vb] 22) (ha : IntsAt w0 va (nZ la)) (hb : IntsAt w0 vb (nZ lb)) (hl : la.length + lb.length ≤ 1000000) :
  Ret Tryz.prog 47 #[.slice (some ⟨q, 0, none⟩) 2 2] w0 fun r w => ((∃ a c, r = .slice a L.length c) ∧ IntsAt w r (nZ L) ∧ (L = [] ∨ ∃ b, r.ownBlock = some b) ∧ ∀ k, r.ownBlock = some k → w0.heap.size ≤ k ∧ k < w.heap.size) ∧ Ext w0 w := by
 subst hL
 refine (ncat2_c w0 w0.heap.size _ [nZ la, nZ lb] (nZ (la ++ lb)) (intss_blk hB rfl rfl (Nat.le_of_ble_eq_true rfl) (two_lists ha hb)) (by simp [nZ_app]) (by rw [nZ_len, List.length_append]; omega) (.inl rfl)).mono ?_
 rintro r w ⟨⟨a, c, rfl⟩, O, e⟩
 have hO := O.lt
 rw [nZ_len] at O hO ⊢
 exact ⟨⟨⟨a, c, rfl⟩, own_intsD O (nZ_len _).symm, (own_some O).imp List.eq_nil_of_length_eq_zero id, hO⟩, e⟩
theorem FrI.made {F : Nat → Prop} {w : World} {v : Value} {l : List Nat} (h : IntsAt w v (nZ l)) (hs : l = [] ∨ ∃ b, v.ownBlock = some b) : FrI (fun y => F y ∨ v.ownBlock = some y) w v l := ⟨h, hs.imp id fun ⟨b, hb⟩ => ⟨b, hb, .inr hb⟩⟩
set_option maxHeartbeats 4000000 in
theorem gcat_c (F : Nat → Prop) (w0 : World) (base pb : Nat) (sv fv : Value) (vs : List Value) (g : GS) (h : GkSt F w0 base pb sv fv vs g) (a b : Pt) (va vb : Value) (ha : PtAt F w0 a va) (hb : PtAt F w0 b vb) (hsrc : ∀ p ∈ a.lst, p < g.fol.length) (hR : RowB 100000 g.fol) (hl1 : a.fst.length ≤ 1000 ∧ a.lst.length ≤ 1000) (hl2 : b.fst.length ≤ 1000 ∧ b.lst.length ≤ 1000) (hg0 : 0 < g.fol.length) :
  Ret Tryz.prog 145 #[.pointer (some ⟨pb, 0, none⟩), va, vb] w0 fun r w => ∃ F' vs', GrG F w0 base pb sv fv vs F' sv fv vs' (catK g a b) w ∧ PtAt F' w (catP a b) r := by
 obtain ⟨a1, c1, a2, c2, rfl, ha1, ha2⟩ := ha
 obtain ⟨b1, d1, b2, d2, rfl, hb1, hb2⟩ := hb
 refine Ret_of Tryz.func145 rfl Tryz.ntmps145 (Nat.le_of_ble_eq_true rfl) ?_
 have E : Chg (GM pb sv fv vs) w0 w0 := Chg.refl _ _
 have hG := GrG.start h
 refine Wp_seq_region ?_
 refine s_box (v := (.agg #[(.bool a.nul), (.slice a1 a.fst.length c1), (.slice a2 a.lst.length c2)])) (c := #[(.bool a.nul), (.slice a1 a.fst.length c1), (.slice a2 a.lst.length c2)]) (by decide) rfl rfl ?_
 intro ba wa Na
 have Fa := Na.ge E
 replace hG := hG.ext Na.ext
 replace E := E.ext Na.ext
 have Ba := Na.blk
 refine s_box (v := (.agg #[(.bool b.nul), (.slice b1 b.fst.length d1), (.slice b2 b.lst.length d2)])) (c := #[(.bool b.nul), (.slice b1 b.fst.length d1), (.slice b2 b.lst.length d2)]) (by decide) rfl rfl ?_
 intro bb wb Nb
 have Fb := Nb.ge E
 have Ob_ba := Nb.lt Ba
 replace Ba := Nb.keep Ba
 replace hG := hG.ext Nb.ext
 replace E := E.ext Nb.ext
 have Bb := Nb.blk
 refine s_alloc (c := #[(.bool false), (.slice none 0 0), (.slice none 0 0)]) (by decide) zer130 rfl ?_
 intro br wr Nr
 have Fr := Nr.ge E
 have Or_ba := Nr.lt Ba
 have Or_bb := Nr.lt Bb
 replace Ba := Nr.keep Ba
 replace Bb := Nr.keep Bb
 replace hG := hG.ext Nr.ext
 replace E := E.ext Nr.ext
 have Br := Nr.blk
 refine WpL_nil (Wp_seq_region ?_)
 refine qM (P6 pb 0) rfl ?_
 refine qF ba 0 2 rfl Tryz.underlying130 rfl siz22 rfl ?_
 refine qV (r_load (v := (.slice a2 a.lst.length c2)) rfl flat22 (Ba.cell rfl)) ?_
 refine qF bb 0 1 rfl Tryz.underlying130 rfl siz22 rfl ?_
 refine qV (r_load (v := (.slice b1 b.fst.length d1)) rfl flat22 (Bb.cell rfl)) ?_
 have hbr : br < (wr).heap.size ∧ ba < (wr).heap.size ∧ bb < (wr).heap.size := ⟨Br.lt, Ba.lt, Bb.lt⟩
 refine WpL_enter rfl rfl (by decide) (r_callF (vs := [(P6 pb 0), (.slice a2 a.lst.length c2), (.slice b1 b.fst.length d1)]) Tryz.func146 kQ kQ rfl) (glink_c F _ base pb sv fv vs g hG.st a2 b1 c2 d1 a.lst b.fst (ha2.chg hG.chg fun y hy => h.kept hy) (hb1.chg hG.chg fun y hy => h.kept hy) hsrc hR hl1.2 hl2.1 hg0) ?_
 rintro _ w9 ⟨v9, G9⟩
 replace Ba := G9.chg.keep ((h.fresh (by omega)).2) Ba
 replace Bb := G9.chg.keep ((h.fresh (by omega)).2) Bb
 replace Br := G9.chg.keep ((h.fresh (by omega)).2) Br
 replace E := E.step G9.chg (fun _ _ hm => hm)
 have hAr : Apq F pb sv fv v9 br := G9.apart (h.fresh (by omega)) hbr.1
 replace hG := hG.comp G9
 have hGo := hG
 refine WpL_nil (Wp_seq_region ?_)
 refine qF ba 0 0 rfl Tryz.underlying130 rfl siz4 rfl ?_
 refine qV (r_load (v := (.bool a.nul)) rfl flat4 (Ba.cell rfl)) ?_
 obtain ⟨e1, he1⟩ : ∃ e, (a.nul) = e := ⟨_, rfl⟩
 refine qV (r_move (v := .bool e1) (congrArg Value.bool he1)) ?_
 refine qG (.bool e1) (yU e1 (P6 bb 0)) (by cases e1 <;> first | exact gA | exact gB | exact .inl ⟨rfl, r_fieldAddr (b := bb) (o := 0) (o' := 0) rfl Tryz.underlying130 rfl siz4 rfl⟩) ?_
 refine qG (.bool e1) (yU e1 (.bool b.nul)) (by cases e1 <;> first | exact gA | exact gB | exact .inl ⟨rfl, r_load (v := (.bool b.nul)) rfl flat4 (Bb.cell rfl)⟩) ?_
 obtain ⟨e2, he2⟩ : ∃ e, (e1 && b.nul) = e := ⟨_, rfl⟩
 refine qV (r_pick (b := e1) (v := .bool e2) rfl (by rw [← he2]; cases e1 <;> rfl)) ?_
 refine qF ba 0 1 rfl Tryz.underlying130 rfl siz22 rfl ?_
 refine qV (r_load (v := (.slice a1 a.fst.length c1)) rfl flat22 (Ba.cell rfl)) ?_
 refine qF bb 0 2 rfl Tryz.underlying130 rfl siz22 rfl ?_
 refine qV (r_load (v := (.slice b2 b.lst.length d2)) rfl flat22 (Bb.cell rfl)) ?_
 refine qV (r_build (ps := [(0, (.bool e2)), (1, (.slice a1 a.fst.length c1)), (2, (.slice b2 b.lst.length d2))]) (v := (.agg #[(.bool e2), (.slice a1 a.fst.length c1), (.slice b2 b.lst.length d2)])) rfl (by kernel_rfl)) ?_
 refine s_allocStore (v := (.agg #[(.bool e2), (.slice a1 a.fst.length c1), (.slice b2 b.lst.length d2)])) (c := #[(.bool e2), (.slice a1 a.fst.length c1), (.slice b2 b.lst.length d2)]) (n := 3) (by decide) zer130 rfl siz130 rfl rfl rfl (by simp [Value.oneCell']) ?_
 intro bo wo No
 have Fo := No.ge E
 have Oo_ba := No.lt Ba
 have Oo_bb := No.lt Bb
 have Oo_br := No.lt Br
 replace Ba := No.keep Ba
 replace Bb := No.keep Bb
 replace Br := No.keep Br
 replace hG := hG.ext No.ext
 replace E := E.ext No.ext
 have Bo := No.blk
 refine WpL_nil ?_
 subst he2
 subst he1
 refine Wp_cut (fun σ W3 => ∃ (F1 : Nat → Prop) (fa : Option Addr) (fc : Nat), (∃ jj_, σ = upds jj_ [(4, (P6 ba 0)), (5, (P6 bb 0)), (6, (P6 br 0)), (7, (P6 bo 0))]) ∧ Chg (GM pb sv fv vs) w0 W3 ∧ Blk W3 ba #[(.bool a.nul), (.slice a1 a.fst.length c1), (.slice a2 a.lst.length c2)] 130 ∧ Blk W3 bb #[(.bool b.nul), (.slice b1 b.fst.length d1), (.slice b2 b.lst.length d2)] 130 ∧ Blk W3 br #[(.bool false), (.slice none 0 0), (.slice none 0 0)] 130 ∧ Blk W3 bo (#[Value.bool (a.nul && b.nul), .slice fa (catP a b).fst.length fc, .slice b2 b.lst.length d2]) 130 ∧ (GrG F w0 base pb sv fv vs F1 sv fv v9 (catK g a b) W3) ∧ (FrI F1 W3 (.slice fa (catP a b).fst.length fc) (catP a b).fst) ∧ (Apq F1 pb sv fv v9 bo ∧ Apq F1 pb sv fv v9 br)) ?_ ?_
 ·skip
  refine Wp_seq_region ?_
  refine qF ba 0 0 rfl Tryz.underlying130 rfl siz4 rfl ?_
  refine qV (r_load (v := (.bool a.nul)) rfl flat4 (Ba.cell rfl)) ?_
  refine WpL_nil ?_
  refine Wp_cond (b := a.nul) rfl (fun h1 => ?_) (fun h1 => ?_)
  ·have kh1 := h1
   have hcf : (catP a b).fst = a.fst ++ b.fst := by simp [catP, h1]
   refine Wp_region ?_
   refine qF ba 0 1 rfl Tryz.underlying130 rfl siz22 rfl ?_
   refine qV (r_load (v := (.slice a1 a.fst.length c1)) rfl flat22 (Ba.cell rfl)) ?_
   refine qF bb 0 1 rfl Tryz.underlying130 rfl siz22 rfl ?_
   refine qV (r_load (v := (.slice b1 b.fst.length d1)) rfl flat22 (Bb.cell rfl)) ?_
   refine s_buildSlice (ps := [(0, (.slice a1 a.fst.length c1)), (1, (.slice b1 b.fst.length d1))]) (c := #[(.slice a1 a.fst.length c1), (.slice b1 b.fst.length d1)]) (by decide) rfl Tryz.underlying49 siz22 zer22 (by decide) (by decide) (by kernel_rfl) ?_
   intro bq wq Nq
   have Fq := Nq.ge E
   have Oq_ba := Nq.lt Ba
   have Oq_bb := Nq.lt Bb
   have Oq_br := Nq.lt Br
   have Oq_bo := Nq.lt Bo
   replace Ba := Nq.keep Ba
   replace Bb := Nq.keep Bb
   replace Br := Nq.keep Br
   replace Bo := Nq.keep Bo
   replace hG := hG.ext Nq.ext
   replace E := E.ext Nq.ext
   have Bq := Nq.blk
   have hGq := hG
   have hqs : bo < (wq).heap.size ∧ br < (wq).heap.size := ⟨Bo.lt, Br.lt⟩
   have hAo : Apq F pb sv fv v9 bo := hGo.st.fresh (by have := No.eq; omega)
   refine WpL_enter rfl rfl (by decide) (r_callF (vs := [(.slice (some ⟨bq, 0, none⟩) 2 2)]) Tryz.func47 kQ kQ rfl) (concatN_c _ bq _ _ a.fst b.fst (catP a b).fst hcf Bq (ha1.chg hGq.chg fun y hy => h.kept hy).1 (hb1.chg hGq.chg fun y hy => h.kept hy).1 (by omega)) ?_
   rintro _ w19 ⟨⟨⟨e1, f1, rfl⟩, hI1, hS1, hO1⟩, X19⟩
   replace Ba := X19.keep Ba
   replace Bb := X19.keep Bb
   replace Br := X19.keep Br
   replace Bo := X19.keep Bo
   replace Bq := X19.keep Bq
   replace E := E.ext X19
   have hG3 := hGq.frzV X19 hO1
   have hI3 := FrI.made (F := F) hI1 hS1
   have hA3 := And.intro (hAo.frzV hqs.1 hO1) (hAr.frzV hqs.2 hO1)
   refine qF bo 0 1 rfl Tryz.underlying130 rfl siz22 rfl ?_
   refine s_store (b := bo) (o := 1) (c' := #[(.bool (a.nul && b.nul)), (.slice e1 ((catP a b).fst.length) f1), (.slice b2 b.lst.length d2)]) (v := (.slice e1 ((catP a b).fst.length) f1)) rfl rfl rfl siz22 Bo (by simp) rfl ?_
   intro w5 S5
   replace hG3 := hG3.other S5.chg (fun y e => by rw [show y = bo from e]; exact ⟨by omega, hA3.1⟩)
   replace hI3 := hI3.chg S5.chg (fun y hy e => by rw [show y = bo from e] at hy; exact hA3.1.1 hy)
   replace Ba := S5.keep (by omega) Ba
   replace Bb := S5.keep (by omega) Bb
   replace Br := S5.keep (by omega) Br
   replace Bq := S5.keep (by omega) Bq
   replace E := S5.step E (by first | exact Or.inl (by omega) | exact Or.inr rfl | exact Or.inr (by assumption) | exact Or.inr (by simp) | exact Or.inr (by omega) | exact Or.inr (by dsimp only; omega))
   replace Bo := S5.blk
   refine WpL_nil (thn_normal ?_)
   exact ⟨_, e1, f1, Fits.out ⟨rfl, rfl, rfl, rfl, trivial⟩, E, Ba, Bb, Br, Bo, hG3, hI3, hA3⟩
  ·have kh1 := h1
   have hcf : (catP a b).fst = a.fst := by simp [catP, h1]
   rw [← hcf] at Bo
   refine Wp_skip (thn_normal ?_)
   exact ⟨F, a1, c1, Fits.out ⟨rfl, rfl, rfl, rfl, trivial⟩, E, Ba, Bb, Br, Bo, hG, (by rw [hcf]; exact ha1.chg hG.chg fun y hy => h.kept hy), ⟨hGo.st.fresh (by have := No.eq; omega), hAr⟩⟩
 ·clear E Ba Bb Br Bo
  rintro _ W3 ⟨F1, fa, fc, ⟨j3, rfl⟩, E, Ba, Bb, Br, Bo, hG1, hF1, hA1⟩
  refine Wp_seq (Wp_seq_region ?_)
  refine qF bb 0 0 rfl Tryz.underlying130 rfl siz4 rfl ?_
  refine qV (r_load (v := (.bool b.nul)) rfl flat4 (Bb.cell rfl)) ?_
  refine WpL_nil ?_
  refine Wp_cond (b := b.nul) rfl (fun h2 => ?_) (fun h2 => ?_)
  ·have kh2 := h2
   have hcl : (catP a b).lst = a.lst ++ b.lst := by simp [catP, h2]
   refine Wp_region ?_
   refine qF ba 0 2 rfl Tryz.underlying130 rfl siz22 rfl ?_
   refine qV (r_load (v := (.slice a2 a.lst.length c2)) rfl flat22 (Ba.cell rfl)) ?_
   refine qF bb 0 2 rfl Tryz.underlying130 rfl siz22 rfl ?_
   refine qV (r_load (v := (.slice b2 b.lst.length d2)) rfl flat22 (Bb.cell rfl)) ?_
   refine s_buildSlice (ps := [(0, (.slice a2 a.lst.length c2)), (1, (.slice b2 b.lst.length d2))]) (c := #[(.slice a2 a.lst.length c2), (.slice b2 b.lst.length d2)]) (by decide) rfl Tryz.underlying49 siz22 zer22 (by decide) (by decide) (by kernel_rfl) ?_
   intro bq wq Nq
   have Fq := Nq.ge E
   have Oq_ba := Nq.lt Ba
   have Oq_bb := Nq.lt Bb
   have Oq_br := Nq.lt Br
   have Oq_bo := Nq.lt Bo
   replace Ba := Nq.keep Ba
   replace Bb := Nq.keep Bb
   replace Br := Nq.keep Br
   replace Bo := Nq.keep Bo
   replace hG1 := hG1.ext Nq.ext
   replace hF1 := hF1.ext Nq.ext
   replace E := E.ext Nq.ext
   have Bq := Nq.blk
   have hGq := hG1
   have hFq := hF1
   have hqs : bo < (wq).heap.size ∧ br < (wq).heap.size := ⟨Bo.lt, Br.lt⟩
   refine WpL_enter rfl rfl (by decide) (r_callF (vs := [(.slice (some ⟨bq, 0, none⟩) 2 2)]) Tryz.func47 kQ kQ rfl) (concatN_c _ bq _ _ a.lst b.lst (catP a b).lst hcl Bq (ha2.chg hGq.chg fun y hy => h.kept hy).1 (hb2.chg hGq.chg fun y hy => h.kept hy).1 (by omega)) ?_
   rintro _ w29 ⟨⟨⟨e1, f1, rfl⟩, hI1, hS1, hO1⟩, X29⟩
   replace Ba := X29.keep Ba
   replace Bb := X29.keep Bb
   replace Br := X29.keep Br
   replace Bo := X29.keep Bo
   replace Bq := X29.keep Bq
   replace E := E.ext X29
   have hG3 := hGq.frzV X29 hO1
   have hI3 := FrI.made (F := F1) hI1 hS1
   have hF3 := (hFq.ext X29).mono (F' := fun y => F1 y ∨ (Value.slice e1 (catP a b).lst.length f1).ownBlock = some y) fun y hy => .inl hy
   have hA3 := And.intro (hA1.1.frzV hqs.1 hO1) (hA1.2.frzV hqs.2 hO1)
   refine qF bo 0 2 rfl Tryz.underlying130 rfl siz22 rfl ?_
   refine s_store (b := bo) (o := 2) (c' := #[(.bool (a.nul && b.nul)), (.slice fa ((catP a b).fst.length) fc), (.slice e1 ((catP a b).lst.length) f1)]) (v := (.slice e1 ((catP a b).lst.length) f1)) rfl rfl rfl siz22 Bo (by simp) rfl ?_
   intro w7 S7
   replace hG3 := hG3.other S7.chg (fun y e => by first | (rw [show y = bo from e]; exact ⟨by omega, hA3.1⟩) | (rw [show y = br from e]; exact ⟨by omega, hA3.2⟩))
   replace hI3 := hI3.chg S7.chg (fun y hy e => by first | (rw [show y = bo from e] at hy; exact hA3.1.1 hy) | (rw [show y = br from e] at hy; exact hA3.2.1 hy))
   replace hF3 := hF3.chg S7.chg (fun y hy e => by first | (rw [show y = bo from e] at hy; exact hA3.1.1 hy) | (rw [show y = br from e] at hy; exact hA3.2.1 hy))
   replace Ba := S7.keep (by omega) Ba
   replace Bb := S7.keep (by omega) Bb
   replace Br := S7.keep (by omega) Br
   replace Bq := S7.keep (by omega) Bq
   replace E := S7.step E (by first | exact Or.inl (by omega) | exact Or.inr rfl | exact Or.inr (by assumption) | exact Or.inr (by simp) | exact Or.inr (by omega) | exact Or.inr (by dsimp only; omega))
   replace Bo := S7.blk
   refine WpL_nil (thn_normal (Wp_seq_region ?_))
   refine qV (r_loadAgg (vs := [(.bool (a.nul && b.nul)), (.slice fa ((catP a b).fst.length) fc), (.slice e1 ((catP a b).lst.length) f1)]) rfl agg130 siz130 rfl (Bo.cells rfl)) ?_
   refine s_storeAgg (b := br) (o := 0) (c' := #[(.bool (a.nul && b.nul)), (.slice fa ((catP a b).fst.length) fc), (.slice e1 ((catP a b).lst.length) f1)]) rfl rfl (by simp [Value.oneCell']) siz130 rfl Br (by first | (simp; done) | exact Nat.le_of_ble_eq_true rfl) rfl ?_
   intro w8 S8
   replace hG3 := hG3.other S8.chg (fun y e => by first | (rw [show y = bo from e]; exact ⟨by omega, hA3.1⟩) | (rw [show y = br from e]; exact ⟨by omega, hA3.2⟩))
   replace hI3 := hI3.chg S8.chg (fun y hy e => by first | (rw [show y = bo from e] at hy; exact hA3.1.1 hy) | (rw [show y = br from e] at hy; exact hA3.2.1 hy))
   replace hF3 := hF3.chg S8.chg (fun y hy e => by first | (rw [show y = bo from e] at hy; exact hA3.1.1 hy) | (rw [show y = br from e] at hy; exact hA3.2.1 hy))
   replace Ba := S8.keep (by omega) Ba
   replace Bb := S8.keep (by omega) Bb
   replace Bo := S8.keep (by omega) Bo
   replace Bq := S8.keep (by omega) Bq
   replace E := S8.step E (by first | exact Or.inl (by omega) | exact Or.inr rfl | exact Or.inr (by assumption) | exact Or.inr (by simp) | exact Or.inr (by omega) | exact Or.inr (by dsimp only; omega))
   replace Br := S8.blk
   refine WpL_nil (Wp_ret ?_)
   refine fin_agg Tryz.results145 (vs := [(.bool (a.nul && b.nul)), (.slice fa ((catP a b).fst.length) fc), (.slice e1 ((catP a b).lst.length) f1)]) (b := br) rfl agg130 siz130 rfl (Br.cells rfl) ?_
   exact ⟨_, _, hG3, _, _, _, _, rfl, hF3, hI3⟩
  ·have kh2 := h2
   have hcl : (catP a b).lst = b.lst := by simp [catP, h2]
   have hA3 := hA1
   have hI3 := (hb2.chg hG1.chg fun y hy => h.kept hy).mono hG1.sub
   refine Wp_skip (thn_normal (Wp_seq_region ?_))
   refine qV (r_loadAgg (vs := [(.bool (a.nul && b.nul)), (.slice fa ((catP a b).fst.length) fc), (.slice b2 b.lst.length d2)]) rfl agg130 siz130 rfl (Bo.cells rfl)) ?_
   refine s_storeAgg (b := br) (o := 0) (c' := #[(.bool (a.nul && b.nul)), (.slice fa ((catP a b).fst.length) fc), (.slice b2 b.lst.length d2)]) rfl rfl (by simp [Value.oneCell']) siz130 rfl Br (by first | (simp; done) | exact Nat.le_of_ble_eq_true rfl) rfl ?_
   intro w9 S9
   replace hG1 := hG1.other S9.chg (fun y e => by rw [show y = br from e]; exact ⟨by omega, hA3.2⟩)
   replace hI3 := hI3.chg S9.chg (fun y hy e => by rw [show y = br from e] at hy; exact hA3.2.1 hy)
   replace hF1 := hF1.chg S9.chg (fun y hy e => by rw [show y = br from e] at hy; exact hA3.2.1 hy)
   replace Ba := S9.keep (by omega) Ba
   replace Bb := S9.keep (by omega) Bb
   replace Bo := S9.keep (by omega) Bo
   replace E := S9.step E (by first | exact Or.inl (by omega) | exact Or.inr rfl | exact Or.inr (by assumption) | exact Or.inr (by simp) | exact Or.inr (by omega) | exact Or.inr (by dsimp only; omega))
   replace Br := S9.blk
   refine WpL_nil (Wp_ret ?_)
   refine fin_agg Tryz.results145 (vs := [(.bool (a.nul && b.nul)), (.slice fa ((catP a b).fst.length) fc), (.slice b2 b.lst.length d2)]) (b := br) rfl agg130 siz130 rfl (Br.cells rfl) ?_
   exact ⟨_, _, hG1, fa, fc, b2, d2, by rw [hcl]; rfl, hF1, by rw [hcl]; exact hI3⟩
end Go.Proofs
namespace Go.Proofs
open Go Go.Eng Go.Sort
set_option maxRecDepth 100000
section
variable {x y : Re} {g : GS}
theorem gkO_eq (x : Re) (g : GS) : gkO x g = gnode x.kind x.set x.mn x.mx (gkL x.args) g := by cases x; rw [gkO]; rfl
theorem gkL_one (ha : x.args = [y]) : gkL x.args = [gkO y] := by rw [ha]; rfl
theorem gk_1 (hk : x.kind = 1) : gkO x g = some (g, ⟨true, [], []⟩) := by rw [gkO_eq, hk]; rfl
theorem gk_2 (hk : x.kind = 2) : gkO x g = setK x.set g := by rw [gkO_eq, hk]; rfl
theorem gk_3 (hk : x.kind = 3) : gkO x g = catGs (gkL x.args) g ⟨true, [], []⟩ := by rw [gkO_eq, hk]; rfl
theorem gk_4 (hk : x.kind = 4) : gkO x g = altGs (gkL x.args) g ⟨false, [], []⟩ := by rw [gkO_eq, hk]; rfl
theorem gk_5 (hk : x.kind = 5) (ha : x.args = [y]) : gkO x g = (gkO y g).bind fun (g1, p) => some (catK g1 p p, ⟨true, p.fst, p.lst⟩) := by rw [gkO_eq, hk, gkL_one ha]; rfl
theorem gk_6 (hk : x.kind = 6) (ha : x.args = [y]) : gkO x g = repGs (gkO y) x.mn g x.mx.toNat := by rw [gkO_eq, hk, gkL_one ha]; rfl
theorem gk_9 (hk : x.kind = 9) (ha : x.args = [y]) : gkO x g = gkO y g := by rw [gkO_eq, hk, gkL_one ha]; rfl
theorem gk_0 (hk : x.kind = 0) : gkO x g = some (g, ⟨false, [], []⟩) := by rw [gkO_eq, hk]; rfl
end
/-- What of does with x. -/
def GkOf (wb : World) (x : Re) : Prop := ∀ (base pb : Nat) (F : Nat → Prop) (w0 : World) (sv fv : Value) (vs : List Value) (g : GS) (us : List Value), ReAt wb x us → Ext wb w0 → (∀ y, y < wb.heap.size → F y) → GkSt F w0 base pb sv fv vs g → GI g → RowB 25000 g.fol →
 RetX Tryz.prog lgN 93 #[.pointer (some ⟨pb, 0, none⟩), .agg us.toArray] w0 (fun r w => ∃ g' p F' sv' fv' vs', gkO x g = some (g', p) ∧ PtAt F' w p r ∧ GrG F w0 base pb sv fv vs F' sv' fv' vs' g' w) fun w => gkO x g = none ∧ Chg (GM pb sv fv vs) w0 w
theorem pt_nil (F : Nat → Prop) (w : World) (b : Bool) : PtAt F w ⟨b, [], []⟩ (.agg #[.bool b, .slice none 0 0, .slice none 0 0]) := ⟨none, 0, none, 0, rfl, FrI.nil F w, FrI.nil F w⟩
set_option maxHeartbeats 2000000 in
theorem gof1_c (wb : World) (x : Re) (hk : x.kind = 1) : GkOf wb x := by
 intro base pb F w0 sv fv vs g us hxt hE hF hP hI hR
 obtain ⟨sa, sc, aa, ac, rfl, hset, hlen, hargs⟩ := hxt.form
 refine RetX_of Tryz.func93 rfl Tryz.ntmps93 (Nat.le_of_ble_eq_true rfl) ?_
 have E : Chg (fun _ => True) w0 w0 := Chg.refl _ _
 have hG := GrG.start hP
 refine Wp_seq_region ?_
 refine s_box (v := (.agg (R6 x sa sc aa ac))) (c := (R6 x sa sc aa ac)) (by decide) rfl rfl ?_
 intro bb wb Nb
 have Fb := Nb.ge E
 replace hG := hG.ext Nb.ext
 replace E := E.ext Nb.ext
 have Bb := Nb.blk
 refine s_alloc (c := #[(.bool false), (.slice none 0 0), (.slice none 0 0)]) (by decide) zer130 rfl ?_
 intro br wr Nr
 have Fr := Nr.ge E
 have Or_bb := Nr.lt Bb
 replace Bb := Nr.keep Bb
 replace hG := hG.ext Nr.ext
 replace E := E.ext Nr.ext
 have Br := Nr.blk
 refine WpL_nil (Wp_seq (Wp_seq_region ?_))
 refine qF bb 0 0 rfl Tryz.underlying48 rfl siz3 rfl ?_
 refine qV (r_load (v := (I6 x.kind)) rfl flat3 (Bb.cell rfl)) ?_
 refine WpL_nil (Wp_block (Wp_seq_region ?_))
 refine qV (r_eql (k := .i64) (a := x.kind) (b := 1) rfl rfl) ?_
 refine qA (.bool (decide ((x.kind : Int) = 1))) rfl ?_
 refine WpL_nil ?_
 have hc1 : (decide ((x.kind : Int) = 1)) = true := decide_eq_true hk
 refine Wp_cond_true (congrArg Value.bool hc1) ?_
 refine Wp_seq_region ?_
 refine qV (r_build (ps := [(0, (.bool true))]) (v := (.agg #[(.bool true), (.slice none 0 0), (.slice none 0 0)])) rfl (by kernel_rfl)) ?_
 refine s_storeAgg (b := br) (o := 0) (c' := #[(.bool true), (.slice none 0 0), (.slice none 0 0)]) rfl rfl (by simp [Value.oneCell']) siz130 rfl Br (by first | (simp; done) | exact Nat.le_of_ble_eq_true rfl) rfl ?_
 intro w2 S2
 replace hG := hG.other S2.chg (fun y e => by rw [show y = br from e]; exact ⟨by omega, hP.fresh (by omega)⟩)
 replace Bb := S2.keep (by omega) Bb
 replace E := S2.step E (by first | exact Or.inl (by omega) | exact Or.inr rfl | exact Or.inr (by assumption) | exact Or.inr (by simp) | exact Or.inr (by omega) | exact Or.inr (by dsimp only; omega))
 replace Br := S2.blk
 refine WpL_nil (Wp_ret (inB_ret (thn_ret (finX_ret ?_))))
 refine fin_agg Tryz.results93 (vs := [(.bool true), (.slice none 0 0), (.slice none 0 0)]) (b := br) rfl agg130 siz130 rfl (Br.cells rfl) ?_
 exact ⟨_, _, _, _, _, _, gk_1 hk, pt_nil _ _ _, hG⟩
set_option maxHeartbeats 2000000 in
theorem gof0_c (wb : World) (x : Re) (hk : x.kind = 0) : GkOf wb x := by
 intro base pb F w0 sv fv vs g us hxt hE hF hP hI hR
 obtain ⟨sa, sc, aa, ac, rfl, hset, hlen, hargs⟩ := hxt.form
 refine RetX_of Tryz.func93 rfl Tryz.ntmps93 (Nat.le_of_ble_eq_true rfl) ?_
 have E : Chg (fun _ => True) w0 w0 := Chg.refl _ _
 have hG := GrG.start hP
 refine Wp_seq_region ?_
 refine s_box (v := (.agg (R6 x sa sc aa ac))) (c := (R6 x sa sc aa ac)) (by decide) rfl rfl ?_
 intro bb wb Nb
 have Fb := Nb.ge E
 replace hG := hG.ext Nb.ext
 replace E := E.ext Nb.ext
 have Bb := Nb.blk
 refine s_alloc (c := #[(.bool false), (.slice none 0 0), (.slice none 0 0)]) (by decide) zer130 rfl ?_
 intro br wr Nr
 have Fr := Nr.ge E
 have Or_bb := Nr.lt Bb
 replace Bb := Nr.keep Bb
 replace hG := hG.ext Nr.ext
 replace E := E.ext Nr.ext
 have Br := Nr.blk
 refine WpL_nil (Wp_seq (Wp_seq_region ?_))
 refine qF bb 0 0 rfl Tryz.underlying48 rfl siz3 rfl ?_
 refine qV (r_load (v := (I6 x.kind)) rfl flat3 (Bb.cell rfl)) ?_
 refine WpL_nil (Wp_block (Wp_seq_region ?_))
 refine qV (r_eql (k := .i64) (a := x.kind) (b := 1) rfl rfl) ?_
 refine qA (.bool (decide ((x.kind : Int) = 1))) rfl ?_
 refine WpL_nil ?_
 have hc1 : (decide ((x.kind : Int) = 1)) = false := decide_eq_false (by omega)
 refine Wp_cond_false (congrArg Value.bool hc1) ?_
 refine Wp_seq_region ?_
 refine qV (r_eql (k := .i64) (a := x.kind) (b := 2) rfl rfl) ?_
 refine qA (.bool (decide ((x.kind : Int) = 2))) rfl ?_
 refine WpL_nil ?_
 have hc2 : (decide ((x.kind : Int) = 2)) = false := decide_eq_false (by omega)
 refine Wp_cond_false (congrArg Value.bool hc2) ?_
 refine Wp_seq_region ?_
 refine qV (r_eql (k := .i64) (a := x.kind) (b := 3) rfl rfl) ?_
 refine qA (.bool (decide ((x.kind : Int) = 3))) rfl ?_
 refine WpL_nil ?_
 have hc3 : (decide ((x.kind : Int) = 3)) = false := decide_eq_false (by omega)
 refine Wp_cond_false (congrArg Value.bool hc3) ?_
 refine Wp_seq_region ?_
 refine qV (r_eql (k := .i64) (a := x.kind) (b := 4) rfl rfl) ?_
 refine qA (.bool (decide ((x.kind : Int) = 4))) rfl ?_
 refine WpL_nil ?_
 have hc4 : (decide ((x.kind : Int) = 4)) = false := decide_eq_false (by omega)
 refine Wp_cond_false (congrArg Value.bool hc4) ?_
 refine Wp_seq_region ?_
 refine qV (r_eql (k := .i64) (a := x.kind) (b := 5) rfl rfl) ?_
 refine qA (.bool (decide ((x.kind : Int) = 5))) rfl ?_
 refine WpL_nil ?_
 have hc5 : (decide ((x.kind : Int) = 5)) = false := decide_eq_false (by omega)
 refine Wp_cond_false (congrArg Value.bool hc5) ?_
 refine Wp_seq_region ?_
 refine qV (r_eql (k := .i64) (a := x.kind) (b := 6) rfl rfl) ?_
 refine qA (.bool (decide ((x.kind : Int) = 6))) rfl ?_
 refine WpL_nil ?_
 have hc6 : (decide ((x.kind : Int) = 6)) = false := decide_eq_false (by omega)
 refine Wp_cond_false (congrArg Value.bool hc6) ?_
 refine Wp_seq_region ?_
 refine qV (r_eql (k := .i64) (a := x.kind) (b := 9) rfl rfl) ?_
 refine qA (.bool (decide ((x.kind : Int) = 9))) rfl ?_
 refine WpL_nil ?_
 have hc7 : (decide ((x.kind : Int) = 9)) = false := decide_eq_false (by omega)
 refine Wp_cond_false (congrArg Value.bool hc7) ?_
 refine Wp_skip (inB_normal (thn_normal (Wp_seq_region ?_)))
 refine qV (r_build (ps := []) (v := (.agg #[(.bool false), (.slice none 0 0), (.slice none 0 0)])) rfl (by kernel_rfl)) ?_
 refine s_storeAgg (b := br) (o := 0) (c' := #[(.bool false), (.slice none 0 0), (.slice none 0 0)]) rfl rfl (by simp [Value.oneCell']) siz130 rfl Br (by first | (simp; done) | exact Nat.le_of_ble_eq_true rfl) rfl ?_
 intro w8 S8
 replace hG := hG.other S8.chg (fun y e => by rw [show y = br from e]; exact ⟨by omega, hP.fresh (by omega)⟩)
 replace Bb := S8.keep (by omega) Bb
 replace E := S8.step E (by first | exact Or.inl (by omega) | exact Or.inr rfl | exact Or.inr (by assumption) | exact Or.inr (by simp) | exact Or.inr (by omega) | exact Or.inr (by dsimp only; omega))
 replace Br := S8.blk
 refine WpL_nil (Wp_ret (finX_ret ?_))
 refine fin_agg Tryz.results93 (vs := [(.bool false), (.slice none 0 0), (.slice none 0 0)]) (b := br) rfl agg130 siz130 rfl (Br.cells rfl) ?_
 exact ⟨_, _, _, _, _, _, gk_0 hk, pt_nil _ _ _, hG⟩
set_option maxHeartbeats 2000000 in
theorem gof9_c (wb : World) (x : Re) (hk : x.kind = 9) (ha : x.args.length = 1) (hof : ∀ y ∈ x.args, GkOf wb y) : GkOf wb x := by
 intro base pb F w0 sv fv vs g us hxt hE hF hP hI hR
 obtain ⟨sa, sc, aa, ac, rfl, hset, hlen, hargs⟩ := hxt.form
 obtain ⟨y, hy⟩ := args_one9 ha
 have hym : y ∈ x.args := by rw [hy]; exact List.mem_singleton_self y
 obtain ⟨ab, ao, rfl, hres⟩ := args_at hargs (by omega)
 obtain ⟨us, hus, hyt⟩ := hres.get (i := 0) (t := y) (by rw [hy]; rfl)
 have hyt0 := hyt
 obtain ⟨ysa, ysc, yaa, yac, rfl, _, _, _⟩ := hyt.form
 refine RetX_of Tryz.func93 rfl Tryz.ntmps93 (Nat.le_of_ble_eq_true rfl) ?_
 have E : Chg (fun _ => True) w0 w0 := Chg.refl _ _
 have hG := GrG.start hP
 refine Wp_seq_region ?_
 refine s_box (v := (.agg (R6 x sa sc (some ⟨ab, ao, none⟩) ac))) (c := (R6 x sa sc (some ⟨ab, ao, none⟩) ac)) (by decide) rfl rfl ?_
 intro bb wb Nb
 have Fb := Nb.ge E
 replace hG := hG.ext Nb.ext
 replace E := E.ext Nb.ext
 have Bb := Nb.blk
 refine s_alloc (c := #[(.bool false), (.slice none 0 0), (.slice none 0 0)]) (by decide) zer130 rfl ?_
 intro br wr Nr
 have Fr := Nr.ge E
 have Or_bb := Nr.lt Bb
 replace Bb := Nr.keep Bb
 replace hG := hG.ext Nr.ext
 replace E := E.ext Nr.ext
 have Br := Nr.blk
 refine WpL_nil (Wp_seq (Wp_seq_region ?_))
 refine qF bb 0 0 rfl Tryz.underlying48 rfl siz3 rfl ?_
 refine qV (r_load (v := (I6 x.kind)) rfl flat3 (Bb.cell rfl)) ?_
 refine WpL_nil (Wp_block (Wp_seq_region ?_))
 refine qV (r_eql (k := .i64) (a := x.kind) (b := 1) rfl rfl) ?_
 refine qA (.bool (decide ((x.kind : Int) = 1))) rfl ?_
 refine WpL_nil ?_
 have hc1 : (decide ((x.kind : Int) = 1)) = false := decide_eq_false (by omega)
 refine Wp_cond_false (congrArg Value.bool hc1) ?_
 refine Wp_seq_region ?_
 refine qV (r_eql (k := .i64) (a := x.kind) (b := 2) rfl rfl) ?_
 refine qA (.bool (decide ((x.kind : Int) = 2))) rfl ?_
 refine WpL_nil ?_
 have hc2 : (decide ((x.kind : Int) = 2)) = false := decide_eq_false (by omega)
 refine Wp_cond_false (congrArg Value.bool hc2) ?_
 refine Wp_seq_region ?_
 refine qV (r_eql (k := .i64) (a := x.kind) (b := 3) rfl rfl) ?_
 refine qA (.bool (decide ((x.kind : Int) = 3))) rfl ?_
 refine WpL_nil ?_
 have hc3 : (decide ((x.kind : Int) = 3)) = false := decide_eq_false (by omega)
 refine Wp_cond_false (congrArg Value.bool hc3) ?_
 refine Wp_seq_region ?_
 refine qV (r_eql (k := .i64) (a := x.kind) (b := 4) rfl rfl) ?_
 refine qA (.bool (decide ((x.kind : Int) = 4))) rfl ?_
 refine WpL_nil ?_
 have hc4 : (decide ((x.kind : Int) = 4)) = false := decide_eq_false (by omega)
 refine Wp_cond_false (congrArg Value.bool hc4) ?_
 refine Wp_seq_region ?_
 refine qV (r_eql (k := .i64) (a := x.kind) (b := 5) rfl rfl) ?_
 refine qA (.bool (decide ((x.kind : Int) = 5))) rfl ?_
 refine WpL_nil ?_
 have hc5 : (decide ((x.kind : Int) = 5)) = false := decide_eq_false (by omega)
 refine Wp_cond_false (congrArg Value.bool hc5) ?_
 refine Wp_seq_region ?_
 refine qV (r_eql (k := .i64) (a := x.kind) (b := 6) rfl rfl) ?_
 refine qA (.bool (decide ((x.kind : Int) = 6))) rfl ?_
 refine WpL_nil ?_
 have hc6 : (decide ((x.kind : Int) = 6)) = false := decide_eq_false (by omega)
 refine Wp_cond_false (congrArg Value.bool hc6) ?_
 refine Wp_seq_region ?_
 refine qV (r_eql (k := .i64) (a := x.kind) (b := 9) rfl rfl) ?_
 refine qA (.bool (decide ((x.kind : Int) = 9))) rfl ?_
 refine WpL_nil ?_
 have hc7 : (decide ((x.kind : Int) = 9)) = true := decide_eq_true hk
 refine Wp_cond_true (congrArg Value.bool hc7) ?_
 refine Wp_seq_region ?_
 refine qM (P6 pb 0) rfl ?_
 refine qF bb 0 2 rfl Tryz.underlying48 rfl siz46 rfl ?_
 refine qV (r_load (v := (.slice (some ⟨ab, ao, none⟩) x.args.length ac)) rfl flat46 (Bb.cell rfl)) ?_
 refine qV (r_indexSlice (b := ab) (o := ao) (len := x.args.length) (cap := ac) (i := 0) (o' := ao + 0 * 6) rfl rfl rfl Tryz.underlying46 siz48 (by omega) (by omega)) ?_
 refine qV (r_loadAgg (vs := [(I6 y.kind), (.slice ysa y.set.length ysc), (.slice yaa y.args.length yac), (I6 y.mn), (I6 y.mx), (.bool y.neg)]) rfl agg48 siz48 rfl (by simpa using hus.ext (hG.base' hP hF hE))) ?_
 have hbr : br < (wr).heap.size := Br.lt
 refine WpL_enterX rfl rfl (by decide) (r_callF (vs := [(P6 pb 0), (.agg (R6 y ysa ysc yaa yac))]) Tryz.func93 kQ kQ rfl) (hof y hym base pb _ _ _ _ _ g _ hyt0 (hG.base' hP hF hE) (fun q hq => hG.sub q (hF q hq)) hG.st hI hR) (fun w' h => And.intro rfl ⟨by rw [gk_9 hk hy]; exact h.1, hG.pan h.2⟩) ?_
 rintro _ w19 ⟨g2, p, F2, s2, f2, v2, h2, ⟨pa, pc, pa2, pc2, rfl, hp1, hp2⟩, G2⟩
 replace Br := G2.chg.keep ((hP.fresh (by omega)).2) Br
 replace E := E.step G2.chg (fun _ _ _ => trivial)
 have hAr : Apq F2 pb s2 f2 v2 br := G2.apart (hP.fresh (by omega)) hbr
 replace G2 := hG.comp G2
 refine s_storeAgg (b := br) (o := 0) (c' := #[(.bool p.nul), (.slice pa p.fst.length pc), (.slice pa2 p.lst.length pc2)]) rfl rfl (by simp [Value.oneCell']) siz130 rfl Br (by first | (simp; done) | exact Nat.le_of_ble_eq_true rfl) rfl ?_
 intro w8 S8
 replace G2 := G2.other S8.chg (fun y e => by rw [show y = br from e]; exact ⟨by omega, hAr⟩)
 replace hp1 := hp1.chg S8.chg (fun y hy e => by rw [show y = br from e] at hy; exact hAr.1 hy)
 replace hp2 := hp2.chg S8.chg (fun y hy e => by rw [show y = br from e] at hy; exact hAr.1 hy)
 replace E := S8.step E (by first | exact Or.inl (by omega) | exact Or.inr rfl | exact Or.inr (by assumption) | exact Or.inr (by simp) | exact Or.inr (by omega) | exact Or.inr (by dsimp only; omega))
 replace Br := S8.blk
 refine WpL_nil (Wp_ret (inB_ret (thn_ret (finX_ret ?_))))
 refine fin_agg Tryz.results93 (vs := [(.bool p.nul), (.slice pa p.fst.length pc), (.slice pa2 p.lst.length pc2)]) (b := br) rfl agg130 siz130 rfl (Br.cells rfl) ?_
 exact ⟨_, _, _, _, _, _, by rw [gk_9 hk hy]; exact h2, ⟨_, _, _, _, rfl, hp1, hp2⟩, G2⟩
theorem Rise.len {n m : Nat} {l : List Nat} (h : Rise n m l) : l.length ≤ m := by have := h.2.2; omega
set_option maxHeartbeats 2000000 in
theorem gof5_c (wb : World) (x : Re) (hk : x.kind = 5) (ha : x.args.length = 1) (hsz : x.size ≤ 44) (hof : ∀ y ∈ x.args, GkOf wb y) : GkOf wb x := by
 intro base pb F w0 sv fv vs g us hxt hE hF hP hI hR
 obtain ⟨sa, sc, aa, ac, rfl, hset, hlen, hargs⟩ := hxt.form
 obtain ⟨y, hy⟩ := args_one9 ha
 have hys : y.size ≤ 44 := by have h9 := Re.size_arg (t := x) (i := 0) (x := y) (by rw [hy]; rfl); omega
 have hym : y ∈ x.args := by rw [hy]; exact List.mem_singleton_self y
 obtain ⟨ab, ao, rfl, hres⟩ := args_at hargs (by omega)
 obtain ⟨us, hus, hyt⟩ := hres.get (i := 0) (t := y) (by rw [hy]; rfl)
 have hyt0 := hyt
 obtain ⟨ysa, ysc, yaa, yac, rfl, _, _, _⟩ := hyt.form
 refine RetX_of Tryz.func93 rfl Tryz.ntmps93 (Nat.le_of_ble_eq_true rfl) ?_
 have E : Chg (fun _ => True) w0 w0 := Chg.refl _ _
 have hG := GrG.start hP
 refine Wp_seq_region ?_
 refine s_box (v := (.agg (R6 x sa sc (some ⟨ab, ao, none⟩) ac))) (c := (R6 x sa sc (some ⟨ab, ao, none⟩) ac)) (by decide) rfl rfl ?_
 intro bb wb Nb
 have Fb := Nb.ge E
 replace hG := hG.ext Nb.ext
 replace E := E.ext Nb.ext
 have Bb := Nb.blk
 refine s_alloc (c := #[(.bool false), (.slice none 0 0), (.slice none 0 0)]) (by decide) zer130 rfl ?_
 intro br wr Nr
 have Fr := Nr.ge E
 have Or_bb := Nr.lt Bb
 replace Bb := Nr.keep Bb
 replace hG := hG.ext Nr.ext
 replace E := E.ext Nr.ext
 have Br := Nr.blk
 refine WpL_nil (Wp_seq (Wp_seq_region ?_))
 refine qF bb 0 0 rfl Tryz.underlying48 rfl siz3 rfl ?_
 refine qV (r_load (v := (I6 x.kind)) rfl flat3 (Bb.cell rfl)) ?_
 refine WpL_nil (Wp_block (Wp_seq_region ?_))
 refine qV (r_eql (k := .i64) (a := x.kind) (b := 1) rfl rfl) ?_
 refine qA (.bool (decide ((x.kind : Int) = 1))) rfl ?_
 refine WpL_nil ?_
 have hc1 : (decide ((x.kind : Int) = 1)) = false := decide_eq_false (by omega)
 refine Wp_cond_false (congrArg Value.bool hc1) ?_
 refine Wp_seq_region ?_
 refine qV (r_eql (k := .i64) (a := x.kind) (b := 2) rfl rfl) ?_
 refine qA (.bool (decide ((x.kind : Int) = 2))) rfl ?_
 refine WpL_nil ?_
 have hc2 : (decide ((x.kind : Int) = 2)) = false := decide_eq_false (by omega)
 refine Wp_cond_false (congrArg Value.bool hc2) ?_
 refine Wp_seq_region ?_
 refine qV (r_eql (k := .i64) (a := x.kind) (b := 3) rfl rfl) ?_
 refine qA (.bool (decide ((x.kind : Int) = 3))) rfl ?_
 refine WpL_nil ?_
 have hc3 : (decide ((x.kind : Int) = 3)) = false := decide_eq_false (by omega)
 refine Wp_cond_false (congrArg Value.bool hc3) ?_
 refine Wp_seq_region ?_
 refine qV (r_eql (k := .i64) (a := x.kind) (b := 4) rfl rfl) ?_
 refine qA (.bool (decide ((x.kind : Int) = 4))) rfl ?_
 refine WpL_nil ?_
 have hc4 : (decide ((x.kind : Int) = 4)) = false := decide_eq_false (by omega)
 refine Wp_cond_false (congrArg Value.bool hc4) ?_
 refine Wp_seq_region ?_
 refine qV (r_eql (k := .i64) (a := x.kind) (b := 5) rfl rfl) ?_
 refine qA (.bool (decide ((x.kind : Int) = 5))) rfl ?_
 refine WpL_nil ?_
 have hc5 : (decide ((x.kind : Int) = 5)) = true := decide_eq_true hk
 refine Wp_cond_true (congrArg Value.bool hc5) ?_
 refine Wp_seq_region ?_
 refine qM (P6 pb 0) rfl ?_
 refine qF bb 0 2 rfl Tryz.underlying48 rfl siz46 rfl ?_
 refine qV (r_load (v := (.slice (some ⟨ab, ao, none⟩) x.args.length ac)) rfl flat46 (Bb.cell rfl)) ?_
 refine qV (r_indexSlice (b := ab) (o := ao) (len := x.args.length) (cap := ac) (i := 0) (o' := ao + 0 * 6) rfl rfl rfl Tryz.underlying46 siz48 (by omega) (by omega)) ?_
 refine qV (r_loadAgg (vs := [(I6 y.kind), (.slice ysa y.set.length ysc), (.slice yaa y.args.length yac), (I6 y.mn), (I6 y.mx), (.bool y.neg)]) rfl agg48 siz48 rfl (by simpa using hus.ext (hG.base' hP hF hE))) ?_
 have hbr : br < (wr).heap.size := Br.lt
 refine WpL_enterX rfl rfl (by decide) (r_callF (vs := [(P6 pb 0), (.agg (R6 y ysa ysc yaa yac))]) Tryz.func93 kQ kQ rfl) (hof y hym base pb _ _ _ _ _ g _ hyt0 (hG.base' hP hF hE) (fun q hq => hG.sub q (hF q hq)) hG.st hI hR) (fun w' h => And.intro rfl ⟨by rw [gk_5 hk hy, h.1]; rfl, hG.pan h.2⟩) ?_
 rintro _ w19 ⟨g2, p, F2, s2, f2, v2, h2, ⟨pa, pc, pa2, pc2, rfl, hp1, hp2⟩, G2⟩
 replace Br := G2.chg.keep ((hP.fresh (by omega)).2) Br
 replace E := E.step G2.chg (fun _ _ _ => trivial)
 have hok := gkO_ok y g g2 p hI h2
 have hRow := hok.rows hR (by omega)
 have hI2 := hok.inv
 have hAr : Apq F2 pb s2 f2 v2 br := G2.apart (hP.fresh (by omega)) hbr
 replace G2 := hG.comp G2
 have hGo := G2
 refine s_allocStore (v := (.agg #[(.bool p.nul), (.slice pa p.fst.length pc), (.slice pa2 p.lst.length pc2)])) (c := #[(.bool p.nul), (.slice pa p.fst.length pc), (.slice pa2 p.lst.length pc2)]) (n := 3) (by decide) zer130 rfl siz130 rfl rfl rfl (by simp [Value.oneCell']) ?_
 intro bo wo No
 have Fo := No.ge E
 have Oo_br := No.lt Br
 replace Br := No.keep Br
 replace G2 := G2.ext No.ext
 replace hp1 := hp1.ext No.ext
 replace hp2 := hp2.ext No.ext
 replace E := E.ext No.ext
 have Bo := No.blk
 refine WpL_nil (Wp_seq_region ?_)
 refine qM (P6 pb 0) rfl ?_
 refine qF bo 0 2 rfl Tryz.underlying130 rfl siz22 rfl ?_
 refine qV (r_load (v := (.slice pa2 p.lst.length pc2)) rfl flat22 (Bo.cell rfl)) ?_
 refine qF bo 0 1 rfl Tryz.underlying130 rfl siz22 rfl ?_
 refine qV (r_load (v := (.slice pa p.fst.length pc)) rfl flat22 (Bo.cell rfl)) ?_
 have hbo : bo < (wo).heap.size ∧ br < (wo).heap.size := ⟨Bo.lt, Br.lt⟩
 have hAo : Apq F2 pb s2 f2 v2 bo := hGo.st.fresh (by have := No.eq; omega)
 have hRo : w0.heap.size ≤ bo := by have := No.eq; have := hGo.chg.size; omega
 refine WpL_enter rfl rfl (by decide) (r_callF (vs := [(P6 pb 0), (.slice pa2 p.lst.length pc2), (.slice pa p.fst.length pc)]) Tryz.func146 kQ kQ rfl) (glink_c F2 _ base pb s2 f2 v2 g2 G2.st pa2 pa pc2 pc p.lst p.fst hp2 hp1 (fun t ht => by have := (hok.lst.2.1 t ht).2; have := hI2.1; omega) (fun i l hl => by have := hRow i l hl; omega) (by have := hok.lst.len; have := hI2.2; omega) (by have := hok.fst.len; have := hI2.2; omega) (by have := hI2.1; omega)) ?_
 rintro _ w29 ⟨v3, G3⟩
 replace Br := G3.chg.keep ((by first | exact hAr.2 | exact hAo.2)) Br
 replace Bo := G3.chg.keep ((by first | exact hAr.2 | exact hAo.2)) Bo
 replace E := E.step G3.chg (fun _ _ _ => trivial)
 have hAr3 := G3.apart hAr hbo.2
 have hAo3 := G3.apart hAo hbo.1
 replace hp1 := hp1.chg G3.chg fun y hy => G2.st.kept hy
 replace hp2 := hp2.chg G3.chg fun y hy => G2.st.kept hy
 replace G3 := G2.comp G3
 refine WpL_nil (Wp_seq_region ?_)
 refine qF bo 0 0 rfl Tryz.underlying130 rfl siz4 rfl ?_
 refine s_store (b := bo) (o := 0) (c' := #[(.bool true), (.slice pa p.fst.length pc), (.slice pa2 p.lst.length pc2)]) (v := (.bool true)) rfl rfl rfl siz4 Bo (by simp) rfl ?_
 intro w6 S6
 replace G3 := G3.other S6.chg (fun y e => by first | (rw [show y = bo from e]; exact ⟨hRo, hAo3⟩) | (rw [show y = br from e]; exact ⟨by omega, hAr3⟩))
 replace hp1 := hp1.chg S6.chg (fun y hy e => by first | (rw [show y = bo from e] at hy; exact hAo3.1 hy) | (rw [show y = br from e] at hy; exact hAr3.1 hy))
 replace hp2 := hp2.chg S6.chg (fun y hy e => by first | (rw [show y = bo from e] at hy; exact hAo3.1 hy) | (rw [show y = br from e] at hy; exact hAr3.1 hy))
 replace Br := S6.keep (by omega) Br
 replace E := S6.step E (by first | exact Or.inl (by omega) | exact Or.inr rfl | exact Or.inr (by assumption) | exact Or.inr (by simp) | exact Or.inr (by omega) | exact Or.inr (by dsimp only; omega))
 replace Bo := S6.blk
 refine WpL_nil (Wp_seq_region ?_)
 refine qV (r_loadAgg (vs := [(.bool true), (.slice pa p.fst.length pc), (.slice pa2 p.lst.length pc2)]) rfl agg130 siz130 rfl (Bo.cells rfl)) ?_
 refine s_storeAgg (b := br) (o := 0) (c' := #[(.bool true), (.slice pa p.fst.length pc), (.slice pa2 p.lst.length pc2)]) rfl rfl (by simp [Value.oneCell']) siz130 rfl Br (by first | (simp; done) | exact Nat.le_of_ble_eq_true rfl) rfl ?_
 intro w7 S7
 replace G3 := G3.other S7.chg (fun y e => by first | (rw [show y = bo from e]; exact ⟨hRo, hAo3⟩) | (rw [show y = br from e]; exact ⟨by omega, hAr3⟩))
 replace hp1 := hp1.chg S7.chg (fun y hy e => by first | (rw [show y = bo from e] at hy; exact hAo3.1 hy) | (rw [show y = br from e] at hy; exact hAr3.1 hy))
 replace hp2 := hp2.chg S7.chg (fun y hy e => by first | (rw [show y = bo from e] at hy; exact hAo3.1 hy) | (rw [show y = br from e] at hy; exact hAr3.1 hy))
 replace Bo := S7.keep (by omega) Bo
 replace E := S7.step E (by first | exact Or.inl (by omega) | exact Or.inr rfl | exact Or.inr (by assumption) | exact Or.inr (by simp) | exact Or.inr (by omega) | exact Or.inr (by dsimp only; omega))
 replace Br := S7.blk
 refine WpL_nil (Wp_ret (inB_ret (thn_ret (finX_ret ?_))))
 refine fin_agg Tryz.results93 (vs := [(.bool true), (.slice pa p.fst.length pc), (.slice pa2 p.lst.length pc2)]) (b := br) rfl agg130 siz130 rfl (Br.cells rfl) ?_
 exact ⟨_, ⟨true, p.fst, p.lst⟩, _, _, _, _, by rw [gk_5 hk hy, h2]; rfl, ⟨_, _, _, _, rfl, hp1, hp2⟩, G3⟩
end Go.Proofs
namespace Go.Proofs
open Go Go.Eng Go.Sort
set_option maxRecDepth 100000
theorem repGs_none {f : GF} {mn : Int} {g : GS} {k : Nat} (h : repGs f mn g k = none) : ∀ m, k ≤ m → repGs f mn g m = none
  | 0, hm => by obtain rfl : k = 0 := (by omega); exact h
  | m + 1, hm => by
    rcases Nat.lt_or_ge m k with h1 | h1
    · obtain rfl : k = m + 1 := (by omega); exact h
    · rw [repGs, repGs_none h m h1]; rfl
theorem cat_hyp {c : Nat} {g0 g g2 : GS} {o p : Pt} {C : Nat} (h : GSt1 c g0 g o) (k : GSt1 C g g2 p) (hR : RowB 25000 g2.fol) : (∀ t ∈ o.lst, t < g2.fol.length) ∧ RowB 100000 g2.fol ∧ (o.fst.length ≤ 1000 ∧ o.lst.length ≤ 1000) ∧ (p.fst.length ≤ 1000 ∧ p.lst.length ≤ 1000) ∧ 0 < g2.fol.length := by
 have h1 := h.inv.2
 have k1 := k.inv.2
 have k2 := k.inv.1
 have kl := k.le
 have a1 := h.fst.len
 have a2 := h.lst.len
 have a3 := k.fst.len
 have a4 := k.lst.len
 exact ⟨fun t ht => by have := (h.lst.2.1 t ht).2; omega, fun i l hl => by have := hR i l hl; omega, ⟨by omega, by omega⟩, ⟨by omega, by omega⟩, by omega⟩
set_option maxHeartbeats 4000000 in
theorem gof6_c (wb : World) (x : Re) (hk : x.kind = 6) (ha : x.args.length = 1) (hsz : x.size ≤ 44) (hmx : x.mx ≤ 1000) (hof : ∀ y ∈ x.args, GkOf wb y) : GkOf wb x := by
 intro base pb F w0 sv fv vs g us hxt hE hF hP hI hR
 obtain ⟨sa, sc, aa, ac, rfl, hset, hlen, hargs⟩ := hxt.form
 obtain ⟨y, hy⟩ := args_one9 ha
 have hys : y.size + 1 ≤ 44 := by have h9 := Re.size_arg (t := x) (i := 0) (x := y) (by rw [hy]; rfl); omega
 have hym : y ∈ x.args := by rw [hy]; exact List.mem_singleton_self y
 obtain ⟨ab, ao, rfl, hres⟩ := args_at hargs (by omega)
 obtain ⟨us, hus, hyt⟩ := hres.get (i := 0) (t := y) (by rw [hy]; rfl)
 have hyt0 := hyt
 obtain ⟨ysa, ysc, yaa, yac, rfl, _, _, _⟩ := hyt.form
 refine RetX_of Tryz.func93 rfl Tryz.ntmps93 (Nat.le_of_ble_eq_true rfl) ?_
 have E : Chg (fun _ => True) w0 w0 := Chg.refl _ _
 have hG := GrG.start hP
 refine Wp_seq_region ?_
 refine s_box (v := (.agg (R6 x sa sc (some ⟨ab, ao, none⟩) ac))) (c := (R6 x sa sc (some ⟨ab, ao, none⟩) ac)) (by decide) rfl rfl ?_
 intro bb wb Nb
 have Fb := Nb.ge E
 replace hG := hG.ext Nb.ext
 replace E := E.ext Nb.ext
 have Bb := Nb.blk
 refine s_alloc (c := #[(.bool false), (.slice none 0 0), (.slice none 0 0)]) (by decide) zer130 rfl ?_
 intro br wr Nr
 have Fr := Nr.ge E
 have Or_bb := Nr.lt Bb
 replace Bb := Nr.keep Bb
 replace hG := hG.ext Nr.ext
 replace E := E.ext Nr.ext
 have Br := Nr.blk
 refine WpL_nil (Wp_seq (Wp_seq_region ?_))
 refine qF bb 0 0 rfl Tryz.underlying48 rfl siz3 rfl ?_
 refine qV (r_load (v := (I6 x.kind)) rfl flat3 (Bb.cell rfl)) ?_
 refine WpL_nil (Wp_block (Wp_seq_region ?_))
 refine qV (r_eql (k := .i64) (a := x.kind) (b := 1) rfl rfl) ?_
 refine qA (.bool (decide ((x.kind : Int) = 1))) rfl ?_
 refine WpL_nil ?_
 have hc1 : (decide ((x.kind : Int) = 1)) = false := decide_eq_false (by omega)
 refine Wp_cond_false (congrArg Value.bool hc1) ?_
 refine Wp_seq_region ?_
 refine qV (r_eql (k := .i64) (a := x.kind) (b := 2) rfl rfl) ?_
 refine qA (.bool (decide ((x.kind : Int) = 2))) rfl ?_
 refine WpL_nil ?_
 have hc2 : (decide ((x.kind : Int) = 2)) = false := decide_eq_false (by omega)
 refine Wp_cond_false (congrArg Value.bool hc2) ?_
 refine Wp_seq_region ?_
 refine qV (r_eql (k := .i64) (a := x.kind) (b := 3) rfl rfl) ?_
 refine qA (.bool (decide ((x.kind : Int) = 3))) rfl ?_
 refine WpL_nil ?_
 have hc3 : (decide ((x.kind : Int) = 3)) = false := decide_eq_false (by omega)
 refine Wp_cond_false (congrArg Value.bool hc3) ?_
 refine Wp_seq_region ?_
 refine qV (r_eql (k := .i64) (a := x.kind) (b := 4) rfl rfl) ?_
 refine qA (.bool (decide ((x.kind : Int) = 4))) rfl ?_
 refine WpL_nil ?_
 have hc4 : (decide ((x.kind : Int) = 4)) = false := decide_eq_false (by omega)
 refine Wp_cond_false (congrArg Value.bool hc4) ?_
 refine Wp_seq_region ?_
 refine qV (r_eql (k := .i64) (a := x.kind) (b := 5) rfl rfl) ?_
 refine qA (.bool (decide ((x.kind : Int) = 5))) rfl ?_
 refine WpL_nil ?_
 have hc5 : (decide ((x.kind : Int) = 5)) = false := decide_eq_false (by omega)
 refine Wp_cond_false (congrArg Value.bool hc5) ?_
 refine Wp_seq_region ?_
 refine qV (r_eql (k := .i64) (a := x.kind) (b := 6) rfl rfl) ?_
 refine qA (.bool (decide ((x.kind : Int) = 6))) rfl ?_
 refine WpL_nil ?_
 have hc6 : (decide ((x.kind : Int) = 6)) = true := decide_eq_true hk
 refine Wp_cond_true (congrArg Value.bool hc6) ?_
 refine Wp_seq_region ?_
 refine qV (r_build (ps := [(0, (.bool true))]) (v := (.agg #[(.bool true), (.slice none 0 0), (.slice none 0 0)])) rfl (by kernel_rfl)) ?_
 refine s_allocStore (v := (.agg #[(.bool true), (.slice none 0 0), (.slice none 0 0)])) (c := #[(.bool true), (.slice none 0 0), (.slice none 0 0)]) (n := 3) (by decide) zer130 rfl siz130 rfl rfl rfl (by simp [Value.oneCell']) ?_
 intro bo wo No
 have Fo := No.ge E
 have Oo_bb := No.lt Bb
 have Oo_br := No.lt Br
 replace Bb := No.keep Bb
 replace Br := No.keep Br
 replace hG := hG.ext No.ext
 replace E := E.ext No.ext
 have Bo := No.blk
 refine WpL_nil (Wp_seq (Wp_seq_region ?_))
 refine qF bb 0 4 rfl Tryz.underlying48 rfl siz3 rfl ?_
 refine qV (r_load (v := (I6 x.mx)) rfl flat3 (Bb.cell rfl)) ?_
 refine qM (I6 0) rfl ?_
 refine WpL_nil (Wp_block ?_)
 refine Wp_loop (fun nn_ σ W7 => ∃ (k : Nat) (gk : GS) (o : Pt) (Fk : Nat → Prop) (sk : Value) (fk : Value) (vk : List Value) (oa : Option Addr) (oc : Nat) (oa2 : Option Addr) (oc2 : Nat), (∃ jj_, σ = upds jj_ [(0, (P6 pb 0)), (3, (P6 bb 0)), (4, (P6 br 0)), (14, (P6 bo 0)), (133, (I6 x.mx)), (134, (I6 (k : Int)))]) ∧ Chg (fun _ => True) w0 W7 ∧ Blk W7 bb (R6 x sa sc (some ⟨ab, ao, none⟩) ac) 48 ∧ Blk W7 br #[(.bool false), (.slice none 0 0), (.slice none 0 0)] 130 ∧ Blk W7 bo (#[Value.bool o.nul, .slice oa o.fst.length oc, .slice oa2 o.lst.length oc2]) 130 ∧ (k ≤ x.mx.toNat) ∧ (repGs (gkO y) x.mn g k = some (gk, o)) ∧ (GrG F w0 base pb sv fv vs Fk sk fk vk gk W7) ∧ (FrI Fk W7 (.slice oa o.fst.length oc) o.fst) ∧ (FrI Fk W7 (.slice oa2 o.lst.length oc2) o.lst) ∧ (Apq Fk pb sk fk vk bo ∧ Apq Fk pb sk fk vk br ∧ Apq Fk pb sk fk vk bb) ∧ nn_ = x.mx.toNat - k) (n := x.mx.toNat - 0) ?_ ?_
 ·exact ⟨0, g, ⟨true, [], []⟩, F, sv, fv, vs, none, 0, none, 0, Fits.out ⟨rfl, rfl, rfl, rfl, rfl, rfl, trivial⟩, E, Bb, Br, Bo, Nat.zero_le _, rfl, hG, FrI.nil _ _, FrI.nil _ _, ⟨hP.fresh (by omega), hP.fresh (by omega), hP.fresh (by omega)⟩, rfl⟩
 ·clear E Bb Br Bo
  rintro _ _ W7 ⟨k, gk, o, Fk, sk, fk, vk, oa, oc, oa2, oc2, ⟨j7, rfl⟩, E, Bb, Br, Bo, hk2, hQ, hGk, ho1, ho2, hA, rfl⟩
  refine Wp_seq_region ?_
  refine qV (r_lss (k := .i64) (a := (k : Int)) (b := x.mx) rfl rfl) ?_
  refine WpL_nil (Wp_seq ?_)
  refine Wp_cond (b := decide (((k : Int) : Int) < x.mx)) rfl (fun hlt => ?_) (fun hlt => ?_)
  ·have khlt := hlt
   replace hlt := of_decide_eq_true hlt
   have hSk := repGs_ok (Nat.le_refl _) (gkO_ok y) hI k gk o hQ
   have hRk := hSk.rows hR (by omega)
   have hbl : bo < (W7).heap.size ∧ br < (W7).heap.size ∧ bb < (W7).heap.size := ⟨Bo.lt, Br.lt, Bb.lt⟩
   refine Wp_skip (thn_normal (Wp_seq (Wp_block (Wp_seq_region ?_))))
   refine qM (I6 (k : Int)) rfl ?_
   refine qA (I6 (k : Int)) rfl ?_
   refine WpL_nil (Wp_seq_region ?_)
   refine qM (P6 pb 0) rfl ?_
   refine qF bb 0 2 rfl Tryz.underlying48 rfl siz46 rfl ?_
   refine qV (r_load (v := (.slice (some ⟨ab, ao, none⟩) x.args.length ac)) rfl flat46 (Bb.cell rfl)) ?_
   refine qV (r_indexSlice (b := ab) (o := ao) (len := x.args.length) (cap := ac) (i := 0) (o' := ao + 0 * 6) rfl rfl rfl Tryz.underlying46 siz48 (by omega) (by omega)) ?_
   refine qV (r_loadAgg (vs := [(I6 y.kind), (.slice ysa y.set.length ysc), (.slice yaa y.args.length yac), (I6 y.mn), (I6 y.mx), (.bool y.neg)]) rfl agg48 siz48 rfl (by simpa using hus.ext (hGk.base' hP hF hE))) ?_
   refine WpL_enterX rfl rfl (by decide) (r_callF (vs := [(P6 pb 0), (.agg (R6 y ysa ysc yaa yac))]) Tryz.func93 kQ kQ rfl) (hof y hym base pb _ _ _ _ _ gk _ hyt0 (hGk.base' hP hF hE) (fun q hq => hGk.sub q (hF q hq)) hGk.st hSk.inv hRk) (fun w' h => And.intro rfl ⟨by rw [gk_6 hk hy, repGs_none (k := k + 1) (by rw [repGs, hQ, Option.bind_some]; dsimp only; rw [h.1]; rfl) _ (by omega)], hGk.pan h.2⟩) ?_
   rintro _ w19 ⟨g2, p, F2, s2, f2, v2, h2, ⟨pa, pc, pa2, pc2, rfl, hp1, hp2⟩, G2⟩
   replace Bb := G2.chg.keep ((by first | exact hA.1.2 | exact hA.2.1.2 | exact hA.2.2.2)) Bb
   replace Br := G2.chg.keep ((by first | exact hA.1.2 | exact hA.2.1.2 | exact hA.2.2.2)) Br
   replace Bo := G2.chg.keep ((by first | exact hA.1.2 | exact hA.2.1.2 | exact hA.2.2.2)) Bo
   replace E := E.step G2.chg (fun _ _ _ => trivial)
   have hok := gkO_ok y gk g2 p hSk.inv h2
   have hch := cat_hyp hSk hok (hok.rows hRk (by omega))
   have hA2 : Apq F2 pb s2 f2 v2 bo ∧ Apq F2 pb s2 f2 v2 br ∧ Apq F2 pb s2 f2 v2 bb := ⟨G2.apart hA.1 hbl.1, G2.apart hA.2.1 hbl.2.1, G2.apart hA.2.2 hbl.2.2⟩
   replace ho1 := (ho1.chg G2.chg fun y hy => hGk.st.kept hy).mono G2.sub
   replace ho2 := (ho2.chg G2.chg fun y hy => hGk.st.kept hy).mono G2.sub
   replace G2 := hGk.comp G2
   have hGo := G2
   have E7 : Chg none1 w19 w19 := Chg.refl _ _
   refine s_allocStore (v := (.agg #[(.bool p.nul), (.slice pa p.fst.length pc), (.slice pa2 p.lst.length pc2)])) (c := #[(.bool p.nul), (.slice pa p.fst.length pc), (.slice pa2 p.lst.length pc2)]) (n := 3) (by decide) zer130 rfl siz130 rfl rfl rfl (by simp [Value.oneCell']) ?_
   intro bp wp Np
   have Fp := Np.ge E
   have Fp_E7 := Np.ge E7
   have Op_bb := Np.lt Bb
   have Op_br := Np.lt Br
   have Op_bo := Np.lt Bo
   replace Bb := Np.keep Bb
   replace Br := Np.keep Br
   replace Bo := Np.keep Bo
   replace E := E.ext Np.ext
   have Bp := Np.blk
   replace E7 := E7.ext Np.ext
   refine WpL_nil (Wp_seq_region ?_)
   refine qF bp 0 0 rfl Tryz.underlying130 rfl siz4 rfl ?_
   refine qV (r_load (v := (.bool p.nul)) rfl flat4 (Bp.cell rfl)) ?_
   obtain ⟨e9, he9⟩ : ∃ e, (p.nul) = e := ⟨_, rfl⟩
   refine qV (r_move (v := .bool e9) (congrArg Value.bool he9)) ?_
   refine qG (.bool e9) (nU e9 (I6 (k : Int))) (by cases e9 <;> first | exact gA | exact gB | exact .inl ⟨rfl, r_move (v := (I6 (k : Int))) rfl⟩) ?_
   refine qG (.bool e9) (nU e9 (P6 bb 3)) (by cases e9 <;> first | exact gA | exact gB | exact .inl ⟨rfl, r_fieldAddr (b := bb) (o := 0) (o' := 3) rfl Tryz.underlying48 rfl siz3 rfl⟩) ?_
   refine qG (.bool e9) (nU e9 (I6 x.mn)) (by cases e9 <;> first | exact gA | exact gB | exact .inl ⟨rfl, r_load (v := (I6 x.mn)) rfl flat3 (Bb.cell rfl)⟩) ?_
   obtain ⟨e10, he10⟩ : ∃ e, (decide ((x.mn : Int) ≤ ((k : Nat) : Int))) = e := ⟨_, rfl⟩
   refine qG (.bool e9) (nU e9 (.bool e10)) (by cases e9 <;> first | exact gA | exact gB | exact .inl ⟨rfl, (r_geq (k := .i64) (a := (k : Int)) (b := x.mn) rfl rfl).trans (by rw [he10]; try rfl)⟩) ?_
   obtain ⟨e11, he11⟩ : ∃ e, (e9 || e10) = e := ⟨_, rfl⟩
   refine qV (r_pick (b := e9) (v := .bool e11) rfl (by rw [← he11]; cases e9 <;> rfl)) ?_
   refine qF bp 0 0 rfl Tryz.underlying130 rfl siz4 rfl ?_
   refine s_store (b := bp) (o := 0) (c' := #[(.bool e11), (.slice pa p.fst.length pc), (.slice pa2 p.lst.length pc2)]) (v := (.bool e11)) rfl rfl rfl siz4 Bp (by simp) rfl ?_
   intro w12 S12
   replace Bb := S12.keep (by omega) Bb
   replace Br := S12.keep (by omega) Br
   replace Bo := S12.keep (by omega) Bo
   replace E := S12.step E (by first | exact Or.inl (by omega) | exact Or.inr rfl | exact Or.inr (by assumption) | exact Or.inr (by simp) | exact Or.inr (by omega) | exact Or.inr (by dsimp only; omega))
   replace E7 := S12.step E7 (Or.inl (by omega))
   replace Bp := S12.blk
   refine WpL_nil ?_
   subst he11
   subst he10
   subst he9
   refine Wp_region ?_
   refine qM (P6 pb 0) rfl ?_
   refine qV (r_loadAgg (vs := [(.bool o.nul), (.slice oa o.fst.length oc), (.slice oa2 o.lst.length oc2)]) rfl agg130 siz130 rfl (Bo.cells rfl)) ?_
   refine qV (r_loadAgg (vs := [(.bool (p.nul || (decide ((x.mn : Int) ≤ (k : Int))))), (.slice pa p.fst.length pc), (.slice pa2 p.lst.length pc2)]) rfl agg130 siz130 rfl (Bp.cells rfl)) ?_
   have hAp : Apq F2 pb s2 f2 v2 bp := hGo.st.fresh (by omega)
   have hbl2 : bo < (w12).heap.size ∧ br < (w12).heap.size ∧ bb < (w12).heap.size ∧ bp < (w12).heap.size := ⟨Bo.lt, Br.lt, Bb.lt, Bp.lt⟩
   replace G2 := G2.ext E7
   replace ho1 := ho1.ext E7
   replace ho2 := ho2.ext E7
   replace hp1 := hp1.ext E7
   replace hp2 := hp2.ext E7
   refine WpL_enter rfl rfl (by decide) (r_callF (vs := [(P6 pb 0), (.agg #[(.bool o.nul), (.slice oa o.fst.length oc), (.slice oa2 o.lst.length oc2)]), (.agg #[(.bool (p.nul || (decide ((x.mn : Int) ≤ (k : Int))))), (.slice pa p.fst.length pc), (.slice pa2 p.lst.length pc2)])]) Tryz.func145 kQ kQ rfl) (gcat_c F2 _ base pb s2 f2 v2 g2 G2.st o (orP p (decide (x.mn ≤ (k : Int)))) _ _ ⟨_, _, _, _, rfl, ho1, ho2⟩ ⟨_, _, _, _, rfl, hp1, hp2⟩ hch.1 hch.2.1 hch.2.2.1 hch.2.2.2.1 hch.2.2.2.2) ?_
   rintro _ w29 ⟨F3, v3, G3, ca, cc, ca2, cc2, rfl, hc1, hc2⟩
   replace Bb := G3.chg.keep ((by first | exact hA2.1.2 | exact hA2.2.1.2 | exact hA2.2.2.2)) Bb
   replace Br := G3.chg.keep ((by first | exact hA2.1.2 | exact hA2.2.1.2 | exact hA2.2.2.2)) Br
   replace Bo := G3.chg.keep ((by first | exact hA2.1.2 | exact hA2.2.1.2 | exact hA2.2.2.2)) Bo
   replace E := E.step G3.chg (fun _ _ _ => trivial)
   have hA3 : Apq F3 pb s2 f2 v3 bo ∧ Apq F3 pb s2 f2 v3 br ∧ Apq F3 pb s2 f2 v3 bb := ⟨G3.apart hA2.1 hbl2.1, G3.apart hA2.2.1 hbl2.2.1, G3.apart hA2.2.2 hbl2.2.2.1⟩
   replace G3 := G2.comp G3
   refine s_storeAgg (b := bo) (o := 0) (c' := #[(.bool ((catP o (orP p (decide (x.mn ≤ (k : Int))))).nul)), (.slice ca ((catP o (orP p (decide (x.mn ≤ (k : Int))))).fst.length) cc), (.slice ca2 ((catP o (orP p (decide (x.mn ≤ (k : Int))))).lst.length) cc2)]) rfl rfl (by simp [Value.oneCell']) siz130 rfl Bo (by first | (simp; done) | exact Nat.le_of_ble_eq_true rfl) rfl ?_
   intro w13 S13
   replace G3 := G3.other S13.chg (fun y e => by rw [show y = bo from e]; exact ⟨by omega, hA3.1⟩)
   replace hc1 := hc1.chg S13.chg (fun y hy e => by rw [show y = bo from e] at hy; exact hA3.1.1 hy)
   replace hc2 := hc2.chg S13.chg (fun y hy e => by rw [show y = bo from e] at hy; exact hA3.1.1 hy)
   replace Bb := S13.keep (by omega) Bb
   replace Br := S13.keep (by omega) Br
   replace E := S13.step E (by first | exact Or.inl (by omega) | exact Or.inr rfl | exact Or.inr (by assumption) | exact Or.inr (by simp) | exact Or.inr (by omega) | exact Or.inr (by dsimp only; omega))
   replace Bo := S13.blk
   refine WpL_nil (inB_normal (thn_normal (Wp_region ?_)))
   refine qV (r_add (k := .i64) (a := (k : Int)) (b := 1) (c := (k : Int) + 1) rfl rfl (wI64 (by omega))) ?_
   refine qM (I6 ((k : Int) + 1)) rfl ?_
   refine WpL_nil (thn_normal ?_)
   exact ⟨x.mx.toNat - (k + 1), by omega, k + 1, _, catP o (orP p (decide (x.mn ≤ ((k : Nat) : Int)))), F3, s2, f2, v3, ca, cc, ca2, cc2, Fits.out ⟨rfl, rfl, rfl, rfl, rfl, rfl, trivial⟩, E, Bb, Br, Bo, (by omega), (by rw [repGs, hQ, Option.bind_some]; dsimp only; rw [h2]; rfl), G3, hc1, hc2, hA3, rfl⟩
  ·have khlt := hlt
   replace hlt := of_decide_eq_false hlt
   have hkk : x.mx.toNat = k := by omega
   refine Wp_exit (thn_exit (thn_exit (inB_here (thn_normal (Wp_seq_region ?_)))))
   refine qV (r_loadAgg (vs := [(.bool o.nul), (.slice oa o.fst.length oc), (.slice oa2 o.lst.length oc2)]) rfl agg130 siz130 rfl (Bo.cells rfl)) ?_
   refine s_storeAgg (b := br) (o := 0) (c' := #[(.bool o.nul), (.slice oa o.fst.length oc), (.slice oa2 o.lst.length oc2)]) rfl rfl (by simp [Value.oneCell']) siz130 rfl Br (by first | (simp; done) | exact Nat.le_of_ble_eq_true rfl) rfl ?_
   intro w14 S14
   replace hGk := hGk.other S14.chg (fun y e => by rw [show y = br from e]; exact ⟨by omega, hA.2.1⟩)
   replace ho1 := ho1.chg S14.chg (fun y hy e => by rw [show y = br from e] at hy; exact hA.2.1.1 hy)
   replace ho2 := ho2.chg S14.chg (fun y hy e => by rw [show y = br from e] at hy; exact hA.2.1.1 hy)
   replace Bb := S14.keep (by omega) Bb
   replace Bo := S14.keep (by omega) Bo
   replace E := S14.step E (by first | exact Or.inl (by omega) | exact Or.inr rfl | exact Or.inr (by assumption) | exact Or.inr (by simp) | exact Or.inr (by omega) | exact Or.inr (by dsimp only; omega))
   replace Br := S14.blk
   refine WpL_nil (Wp_ret (inB_ret (thn_ret (finX_ret ?_))))
   refine fin_agg Tryz.results93 (vs := [(.bool o.nul), (.slice oa o.fst.length oc), (.slice oa2 o.lst.length oc2)]) (b := br) rfl agg130 siz130 rfl (Br.cells rfl) ?_
   exact ⟨_, o, _, _, _, _, by rw [gk_6 hk hy, hkk]; exact hQ, ⟨_, _, _, _, rfl, ho1, ho2⟩, hGk⟩
def ofF (F : Nat → Prop) (w0 : World) (base pb : Nat) (sv fv : Value) (vs : List Value) (f : GF) (g : GS) : Fct := fun v w => ∃ g' p F' sv' fv' vs', f g = some (g', p) ∧ PtAt F' w p v ∧ GrG F w0 base pb sv fv vs F' sv' fv' vs' g' w
theorem ofF_ext {F : Nat → Prop} {w0 : World} {base pb : Nat} {sv fv : Value} {vs : List Value} {f : GF} {g : GS} : ∀ v w w', Ext w w' → ofF F w0 base pb sv fv vs f g v w → ofF F w0 base pb sv fv vs f g v w' := by
 rintro v w w' e ⟨g', p, F', sv', fv', vs', h1, h2, h3⟩
 exact ⟨g', p, F', sv', fv', vs', h1, h2.ext e, h3.ext e⟩
theorem of_of {F : Nat → Prop} {w0 w1 w : World} {base pb : Nat} {sv fv v : Value} {vs : List Value} {f : GF} {g g0 : GS} (h : GkSt F w0 base pb sv fv vs g0) (e : Ext w0 w1) (k : ofF F w1 base pb sv fv vs f g v w) : ofF F w0 base pb sv fv vs f g v w := by
 obtain ⟨g', p, F', sv', fv', vs', h1, h2, h3⟩ := k
 exact ⟨g', p, F', sv', fv', vs', h1, h2, ((GrG.start h).ext e).comp h3⟩
set_option maxHeartbeats 4000000 in
theorem gof3_c (wb : World) (x : Re) (hk : x.kind = 3) (hsz : x.size ≤ 44) (hof : ∀ y ∈ x.args, GkOf wb y) : GkOf wb x := by
 intro base pb F w0 sv fv vs g us hxt hE hF hP hI hR
 obtain ⟨sa, sc, aa, ac, rfl, hset, hlen, hargs⟩ := hxt.form
 have hla := len_lt_size x
 have hok3 := gkL_ok x.args
 have hss : Re.sizes x.args + 1 ≤ 44 := by have h9 := Re.size_eq x; omega
 refine RetX_of Tryz.func93 rfl Tryz.ntmps93 (Nat.le_of_ble_eq_true rfl) ?_
 have E : Chg (fun _ => True) w0 w0 := Chg.refl _ _
 have hG := GrG.start hP
 refine Wp_seq_region ?_
 refine s_box (v := (.agg (R6 x sa sc aa ac))) (c := (R6 x sa sc aa ac)) (by decide) rfl rfl ?_
 intro bb wb Nb
 have Fb := Nb.ge E
 replace hG := hG.ext Nb.ext
 replace E := E.ext Nb.ext
 have Bb := Nb.blk
 refine s_alloc (c := #[(.bool false), (.slice none 0 0), (.slice none 0 0)]) (by decide) zer130 rfl ?_
 intro br wr Nr
 have Fr := Nr.ge E
 have Or_bb := Nr.lt Bb
 replace Bb := Nr.keep Bb
 replace hG := hG.ext Nr.ext
 replace E := E.ext Nr.ext
 have Br := Nr.blk
 refine WpL_nil (Wp_seq (Wp_seq_region ?_))
 refine qF bb 0 0 rfl Tryz.underlying48 rfl siz3 rfl ?_
 refine qV (r_load (v := (I6 x.kind)) rfl flat3 (Bb.cell rfl)) ?_
 refine WpL_nil (Wp_block (Wp_seq_region ?_))
 refine qV (r_eql (k := .i64) (a := x.kind) (b := 1) rfl rfl) ?_
 refine qA (.bool (decide ((x.kind : Int) = 1))) rfl ?_
 refine WpL_nil ?_
 have hc1 : (decide ((x.kind : Int) = 1)) = false := decide_eq_false (by omega)
 refine Wp_cond_false (congrArg Value.bool hc1) ?_
 refine Wp_seq_region ?_
 refine qV (r_eql (k := .i64) (a := x.kind) (b := 2) rfl rfl) ?_
 refine qA (.bool (decide ((x.kind : Int) = 2))) rfl ?_
 refine WpL_nil ?_
 have hc2 : (decide ((x.kind : Int) = 2)) = false := decide_eq_false (by omega)
 refine Wp_cond_false (congrArg Value.bool hc2) ?_
 refine Wp_seq_region ?_
 refine qV (r_eql (k := .i64) (a := x.kind) (b := 3) rfl rfl) ?_
 refine qA (.bool (decide ((x.kind : Int) = 3))) rfl ?_
 refine WpL_nil ?_
 have hc3 : (decide ((x.kind : Int) = 3)) = true := decide_eq_true hk
 refine Wp_cond_true (congrArg Value.bool hc3) ?_
 refine Wp_seq_region ?_
 refine qV (r_build (ps := [(0, (.bool true))]) (v := (.agg #[(.bool true), (.slice none 0 0), (.slice none 0 0)])) rfl (by kernel_rfl)) ?_
 refine s_allocStore (v := (.agg #[(.bool true), (.slice none 0 0), (.slice none 0 0)])) (c := #[(.bool true), (.slice none 0 0), (.slice none 0 0)]) (n := 3) (by decide) zer130 rfl siz130 rfl rfl rfl (by simp [Value.oneCell']) ?_
 intro bo wo No
 have Fo := No.ge E
 have Oo_bb := No.lt Bb
 have Oo_br := No.lt Br
 replace Bb := No.keep Bb
 replace Br := No.keep Br
 replace hG := hG.ext No.ext
 replace E := E.ext No.ext
 have Bo := No.blk
 refine WpL_nil (Wp_seq (Wp_seq_region ?_))
 refine qF bb 0 2 rfl Tryz.underlying48 rfl siz46 rfl ?_
 refine qV (r_load (v := (.slice aa x.args.length ac)) rfl flat46 (Bb.cell rfl)) ?_
 refine qV (r_lenSlice (ad := aa) (n := x.args.length) (cap := ac) Tryz.underlying46 rfl) ?_
 refine qM (I6 0) rfl ?_
 refine WpL_nil (Wp_block ?_)
 refine Wp_loop (fun nn_ σ W4 => ∃ (k : Nat) (gk : GS) (o : Pt) (Fk : Nat → Prop) (sk : Value) (fk : Value) (vk : List Value) (oa : Option Addr) (oc : Nat) (oa2 : Option Addr) (oc2 : Nat), (∃ jj_, σ = upds jj_ [(0, (P6 pb 0)), (4, (P6 br 0)), (6, (P6 bo 0)), (66, (.slice aa x.args.length ac)), (67, (I6 (x.args.length : Int))), (68, (I6 (k : Int)))]) ∧ Chg (fun _ => True) w0 W4 ∧ Blk W4 br #[(.bool false), (.slice none 0 0), (.slice none 0 0)] 130 ∧ Blk W4 bo (#[Value.bool o.nul, .slice oa o.fst.length oc, .slice oa2 o.lst.length oc2]) 130 ∧ (k ≤ x.args.length) ∧ (catGs (gkL x.args) g ⟨true, [], []⟩ = catGs (gkL (x.args.drop k)) gk o) ∧ (GSt1 (Re.sizes x.args + 1) g gk o) ∧ (GrG F w0 base pb sv fv vs Fk sk fk vk gk W4) ∧ (FrI Fk W4 (.slice oa o.fst.length oc) o.fst) ∧ (FrI Fk W4 (.slice oa2 o.lst.length oc2) o.lst) ∧ (Apq Fk pb sk fk vk bo ∧ Apq Fk pb sk fk vk br) ∧ nn_ = x.args.length - k) (n := x.args.length - 0) ?_ ?_
 ·exact ⟨0, g, ⟨true, [], []⟩, F, sv, fv, vs, none, 0, none, 0, Fits.out ⟨rfl, rfl, rfl, rfl, rfl, rfl, trivial⟩, E, Br, Bo, Nat.zero_le _, (by rw [List.drop_zero]), GSt1.refl _ hI true, hG, FrI.nil _ _, FrI.nil _ _, ⟨hP.fresh (by omega), hP.fresh (by omega)⟩, rfl⟩
 ·clear E Br Bo
  rintro _ _ W4 ⟨k, gk, o, Fk, sk, fk, vk, oa, oc, oa2, oc2, ⟨j4, rfl⟩, E, Br, Bo, hk2, hQ, hS, hGk, ho1, ho2, hA, rfl⟩
  refine Wp_seq_region ?_
  refine qV (r_lss (k := .i64) (a := (k : Int)) (b := (x.args.length : Int)) rfl rfl) ?_
  refine WpL_nil (Wp_seq ?_)
  refine Wp_cond (b := decide (((k : Int) : Int) < (x.args.length : Int))) rfl (fun hlt => ?_) (fun hlt => ?_)
  ·have khlt := hlt
   replace hlt := of_decide_eq_true hlt
   obtain ⟨y, hy⟩ := get_of_lt (l := x.args) (i := k) (by omega)
   have hym := List.mem_of_getElem? hy
   obtain ⟨ab, ao, rfl, hres⟩ := args_at hargs (by omega)
   obtain ⟨us, hus, hyt⟩ := hres.get hy
   have hyt0 := hyt
   obtain ⟨ysa, ysc, yaa, yac, rfl, _, _, _⟩ := hyt.form
   rw [drop_at hy, gkL, catGs] at hQ
   have hRk := hS.rows hR (by omega)
   have hbl : bo < (W4).heap.size ∧ br < (W4).heap.size := ⟨Bo.lt, Br.lt⟩
   have hGo := hGk
   refine Wp_skip (thn_normal (Wp_seq (Wp_block (Wp_seq_region ?_))))
   refine qV (r_indexSlice (b := ab) (o := ao) (len := x.args.length) (cap := ac) (i := k) (o' := ao + k * 6) rfl rfl rfl Tryz.underlying46 siz48 (by omega) (by omega)) ?_
   refine qV (r_loadAgg (vs := [(I6 y.kind), (.slice ysa y.set.length ysc), (.slice yaa y.args.length yac), (I6 y.mn), (I6 y.mx), (.bool y.neg)]) rfl agg48 siz48 rfl (hus.ext (hGk.base' hP hF hE))) ?_
   have E7 : Chg none1 W4 W4 := Chg.refl _ _
   refine s_allocStore (v := (.agg (R6 y ysa ysc yaa yac))) (c := (R6 y ysa ysc yaa yac)) (n := 6) (by decide) zer48 rfl siz48 rfl rfl rfl (by simp [Value.oneCell']) ?_
   intro bu wu Nu
   have Fu := Nu.ge E
   have Fu_E7 := Nu.ge E7
   have Ou_br := Nu.lt Br
   have Ou_bo := Nu.lt Bo
   replace Br := Nu.keep Br
   replace Bo := Nu.keep Bo
   replace E := E.ext Nu.ext
   have Bu := Nu.blk
   replace E7 := E7.ext Nu.ext
   refine WpL_nil ?_
   have hAu : Apq Fk pb sk fk vk bu := hGo.st.fresh (by omega)
   replace hGk := hGk.ext E7
   replace ho1 := ho1.ext E7
   replace ho2 := ho2.ext E7
   have hbl2 : bo < (wu).heap.size ∧ br < (wu).heap.size := ⟨Bo.lt, Br.lt⟩
   have hz_6 : w0.heap.size ≤ wu.heap.size := E.size
   have lz_6_br : br < wu.heap.size := Br.lt
   have lz_6_bo : bo < wu.heap.size := Bo.lt
   have lz_6_bu : bu < wu.heap.size := Bu.lt
   obtain ⟨Fs6, hFs6⟩ : ∃ Fs : List FctS, Fs = [(eF (P6 pb 0)), (eF (.agg #[(.bool o.nul), (.slice oa o.fst.length oc), (.slice oa2 o.lst.length oc2)])), (eF (P6 pb 0)), (eF (.agg (R6 y ysa ysc yaa yac))), (fun _ _ => ofF Fk wu base pb sk fk vk (gkO y) gk), (eF undef), (eF undef)] := ⟨_, rfl⟩
   refine Wp_dagG (MsL [(4, (fun q => GM pb sk fk vk q))]) (RsL []) (lgN) ((fun _ => gkO y gk = none)) [true, true, true, true, true, false, false] [5, 6] [72, 73, 74, 75, 76, 172, 173] [[], [], [], [], [2, 3], [], []] [[], [], [], [], [2, 3], [], []] Fs6 hFs6 (by kernel_rfl) mixed (by kernel_rfl) (by kernel_rfl) (by kernel_rfl) (by kernel_rfl) ?_ ((fun σ' w1 w' X0 X hx => And.intro rfl ⟨by rw [gk_3 hk, hQ, hx]; rfl, hGk.pan ((Ext.chg X0).trans (X.mono fun q _ h => by obtain ⟨j, h⟩ := h; rcases h with h | h; exact h.2; exact h.elim))⟩)) ?_
   ·intro wd X0
    refine DagStepsG.cons (StabG.eq) (LocS.const) (fun S s' w' hi hN X U V H => Or.inl ⟨Guarded_none rfl, ?_⟩) ?_
    ·replace X := xM1 X
     exact gX0 (DoesT_pure (r_move (v := (.pointer (some ⟨pb, 0, none⟩))) (U 0 rfl)) rfl)
    refine DagStepsG.cons (StabG.eq) (LocS.const) (fun S s' w' hi hN X U V H => Or.inl ⟨Guarded_none rfl, ?_⟩) ?_
    ·replace X := xM1 X
     exact gX0 (DoesT_pure (r_loadAgg (vs := [(.bool o.nul), (.slice oa o.fst.length oc), (.slice oa2 o.lst.length oc2)]) (U 6 rfl) agg130 siz130 rfl ((Chg.keep X (fun h => hA.1.2 h) (X0.keep Bo)).cells rfl)) rfl)
    refine DagStepsG.cons (StabG.eq) (LocS.const) (fun S s' w' hi hN X U V H => Or.inl ⟨Guarded_none rfl, ?_⟩) ?_
    ·replace X := xN1 (hN 4 rfl) X
     exact gX0 (DoesT_pure (r_move (v := (.pointer (some ⟨pb, 0, none⟩))) (U 0 rfl)) rfl)
    refine DagStepsG.cons (StabG.eq) (LocS.const) (fun S s' w' hi hN X U V H => Or.inl ⟨Guarded_none rfl, ?_⟩) ?_
    ·replace X := xN1 (hN 4 rfl) X
     exact gX0 (DoesT_pure (r_loadAgg (vs := [(.int .i64 y.kind), (.slice ysa y.set.length ysc), (.slice yaa y.args.length yac), (.int .i64 y.mn), (.int .i64 y.mx), (.bool y.neg)]) (U 8 rfl) agg48 siz48 rfl (((X0.trans X).keep Bu).cells rfl)) rfl)
    refine DagStepsG.cons (StabG.chg (U := none1) (ofF_ext) (fun p y hp hw h => by
       rcases MsL_or h with ⟨rfl, h0⟩ | h0
       ·exact absurd rfl hp
       exact h0.elim)) (LocS.const) (fun S s' w' hi hN X U V H => Or.inl ⟨Guarded_none rfl, ?_⟩) ?_
    ·replace X := xN1 hi X
     have e74 := (H 2 rfl).2 74 _ rfl (by rw [hFs6]; rfl)
     have e75 := (H 3 rfl).2 75 _ rfl (by rw [hFs6]; rfl)
     exact gX0x (DoesX_enter (r_callF (vs := [(.pointer (some ⟨pb, 0, none⟩)), (.agg #[(.int .i64 y.kind), (.slice ysa y.set.length ysc), (.slice yaa y.args.length yac), (.int .i64 y.mn), (.int .i64 y.mx), (.bool y.neg)])]) Tryz.func93 kQ kQ (lst2 e74 e75)) ((hof y hym base pb _ _ _ _ _ gk _ hyt0 (Ext.trans (hGk.base' hP hF hE) (X0.trans X)) (fun q hq => hGk.sub q (hF q hq)) (hGk.st.ext (X0.trans X)) hS.inv hRk).mono (fun v w h => ⟨of_of hGk.st (X0.trans X) h, by obtain ⟨_, _, _, _, _, _, _, _, g⟩ := h; exact g.chg.mono fun q _ h => .inl ⟨rfl, h⟩⟩) (fun w h => ⟨h.1, h.2.mono fun q _ h => .inl ⟨rfl, h⟩⟩)))
    refine DagStepsG.tail (DagStepsG.tail ?_)
    exact DagStepsG.nil
   ·intro s' wd6 w6 X0 X6 U H
    replace X6 := X6.mono (M' := (fun y => (fun q => GM pb sk fk vk q) y)) (fun y _ h => by
      obtain ⟨j, hj, h⟩ := h
      rcases MsL_or h with ⟨rfl, h0⟩ | h0
      ·exact h0
      exact h0.elim)
    have e72 := H 0 rfl 72 _ rfl (by rw [hFs6]; rfl)
    have e73 := H 1 rfl 73 _ rfl (by rw [hFs6]; rfl)
    obtain ⟨g76, p76, F76, s76, f76, v76, h76, ⟨pa76, pc76, pd76, pe76, e76, hp76, hq76⟩, G76⟩ := (show ((fun _ _ => ofF Fk wu base pb sk fk vk (gkO y) gk) : FctS) (allS [true, true, true, true, true, false, false]) s' (s' 76) w6 from H 4 rfl 76 (fun _ _ => ofF Fk wu base pb sk fk vk (gkO y) gk) rfl (by rw [hFs6]; rfl))
    obtain ⟨j6, rfl⟩ := Fits.out (σ := s') (l := [(0, (.pointer (some ⟨pb, 0, none⟩))), (4, (.pointer (some ⟨br, 0, none⟩))), (6, (.pointer (some ⟨bo, 0, none⟩))), (66, (.slice (some ⟨ab, ao, none⟩) x.args.length ac)), (67, (.int .i64 ((x.args.length : Nat) : Int))), (68, (.int .i64 ((k : Nat) : Int))), (72, (.pointer (some ⟨pb, 0, none⟩))), (73, (.agg #[(.bool o.nul), (.slice oa o.fst.length oc), (.slice oa2 o.lst.length oc2)])), (76, (.agg #[(.bool p76.nul), (.slice pa76 p76.fst.length pc76), (.slice pd76 p76.lst.length pe76)]))]) ⟨U 0 rfl, U 4 rfl, U 6 rfl, U 66 rfl, U 67 rfl, U 68 rfl, e72, e73, e76, trivial⟩
    clear U H
    replace Br := Chg.keep X6 (fun h => hA.2.2 h) (X0.keep Br)
    replace Bo := Chg.keep X6 (fun h => hA.1.2 h) (X0.keep Bo)
    replace Bu := Chg.keep X6 (fun h => hAu.2 h) (X0.keep Bu)
    have hXm := Chg.trans (Ext.chg X0) X6
    replace E := (E.ext X0).step X6 (fun q hq h => trivial)
    have hok := gkO_ok y gk g76 p76 hS.inv h76
    have hsy : y.size ≤ Re.sizes x.args := Re.sizes_get hy
    have hch := cat_hyp hS hok (hok.rows hRk (by omega))
    have hA2 : Apq F76 pb s76 f76 v76 bo ∧ Apq F76 pb s76 f76 v76 br := ⟨G76.apart hA.1 hbl2.1, G76.apart hA.2 hbl2.2⟩
    replace ho1 := (ho1.chg hXm fun y hy => hGk.st.kept hy).mono G76.sub
    replace ho2 := (ho2.chg hXm fun y hy => hGk.st.kept hy).mono G76.sub
    replace G76 := hGk.comp G76
    have hbl3 : bo < (w6).heap.size ∧ br < (w6).heap.size := ⟨Bo.lt, Br.lt⟩
    refine WpL_enter rfl rfl (by decide) (r_callF (vs := [(P6 pb 0), (.agg #[(.bool o.nul), (.slice oa o.fst.length oc), (.slice oa2 o.lst.length oc2)]), (.agg #[(.bool p76.nul), (.slice pa76 p76.fst.length pc76), (.slice pd76 p76.lst.length pe76)])]) Tryz.func145 kQ kQ rfl) (gcat_c F76 _ base pb s76 f76 v76 g76 G76.st o p76 _ _ ⟨_, _, _, _, rfl, ho1, ho2⟩ ⟨_, _, _, _, rfl, hp76, hq76⟩ hch.1 hch.2.1 hch.2.2.1 hch.2.2.2.1 hch.2.2.2.2) ?_
    rintro _ w29 ⟨F3, v3, G3, ca, cc, ca2, cc2, rfl, hc1, hc2⟩
    replace Br := G3.chg.keep ((by first | exact hA2.1.2 | exact hA2.2.2)) Br
    replace Bo := G3.chg.keep ((by first | exact hA2.1.2 | exact hA2.2.2)) Bo
    replace E := E.step G3.chg (fun _ _ _ => trivial)
    have hA3 : Apq F3 pb s76 f76 v3 bo ∧ Apq F3 pb s76 f76 v3 br := ⟨G3.apart hA2.1 hbl3.1, G3.apart hA2.2 hbl3.2⟩
    replace G3 := G76.comp G3
    refine s_storeAgg (b := bo) (o := 0) (c' := #[(.bool ((catP o p76).nul)), (.slice ca ((catP o p76).fst.length) cc), (.slice ca2 ((catP o p76).lst.length) cc2)]) rfl rfl (by simp [Value.oneCell']) siz130 rfl Bo (by first | (simp; done) | exact Nat.le_of_ble_eq_true rfl) rfl ?_
    intro w7 S7
    replace G3 := G3.other S7.chg (fun y e => by rw [show y = bo from e]; exact ⟨by omega, hA3.1⟩)
    replace hc1 := hc1.chg S7.chg (fun y hy e => by rw [show y = bo from e] at hy; exact hA3.1.1 hy)
    replace hc2 := hc2.chg S7.chg (fun y hy e => by rw [show y = bo from e] at hy; exact hA3.1.1 hy)
    replace Br := S7.keep (by omega) Br
    replace E := S7.step E (by first | exact Or.inl (by omega) | exact Or.inr rfl | exact Or.inr (by assumption) | exact Or.inr (by simp) | exact Or.inr (by omega) | exact Or.inr (by dsimp only; omega))
    replace Bo := S7.blk
    refine WpL_nil (inB_normal (thn_normal (Wp_region ?_)))
    refine qV (r_add (k := .i64) (a := (k : Int)) (b := 1) (c := (k : Int) + 1) rfl rfl (wI64 (by omega))) ?_
    refine qM (I6 ((k : Int) + 1)) rfl ?_
    refine WpL_nil (thn_normal ?_)
    exact ⟨x.args.length - (k + 1), by omega, k + 1, catK g76 o p76, catP o p76, F3, s76, f76, v3, ca, cc, ca2, cc2, Fits.out ⟨rfl, rfl, rfl, rfl, rfl, rfl, trivial⟩, E, Br, Bo, (by omega), (by rw [hQ, h76]; rfl), hS.cat hok (by omega), G3, hc1, hc2, hA3, rfl⟩
  ·have khlt := hlt
   replace hlt := of_decide_eq_false hlt
   have hkk : k = x.args.length := by omega
   refine Wp_exit (thn_exit (thn_exit (inB_here (thn_normal (Wp_seq_region ?_)))))
   refine qV (r_loadAgg (vs := [(.bool o.nul), (.slice oa o.fst.length oc), (.slice oa2 o.lst.length oc2)]) rfl agg130 siz130 rfl (Bo.cells rfl)) ?_
   refine s_storeAgg (b := br) (o := 0) (c' := #[(.bool o.nul), (.slice oa o.fst.length oc), (.slice oa2 o.lst.length oc2)]) rfl rfl (by simp [Value.oneCell']) siz130 rfl Br (by first | (simp; done) | exact Nat.le_of_ble_eq_true rfl) rfl ?_
   intro w8 S8
   replace hGk := hGk.other S8.chg (fun y e => by rw [show y = br from e]; exact ⟨by omega, hA.2⟩)
   replace ho1 := ho1.chg S8.chg (fun y hy e => by rw [show y = br from e] at hy; exact hA.2.1 hy)
   replace ho2 := ho2.chg S8.chg (fun y hy e => by rw [show y = br from e] at hy; exact hA.2.1 hy)
   replace Bo := S8.keep (by omega) Bo
   replace E := S8.step E (by first | exact Or.inl (by omega) | exact Or.inr rfl | exact Or.inr (by assumption) | exact Or.inr (by simp) | exact Or.inr (by omega) | exact Or.inr (by dsimp only; omega))
   replace Br := S8.blk
   refine WpL_nil (Wp_ret (inB_ret (thn_ret (finX_ret ?_))))
   refine fin_agg Tryz.results93 (vs := [(.bool o.nul), (.slice oa o.fst.length oc), (.slice oa2 o.lst.length oc2)]) (b := br) rfl agg130 siz130 rfl (Br.cells rfl) ?_
   exact ⟨_, o, _, _, _, _, by rw [gk_3 hk, hQ, hkk, List.drop_length]; rfl, ⟨_, _, _, _, rfl, ho1, ho2⟩, hGk⟩
end Go.Proofs
namespace Go.Proofs
open Go Go.Eng Go.Sort
set_option maxRecDepth 100000
section
variable {F F' M : Nat → Prop} {w0 w w' w2 : World} {base pb : Nat} {sv fv sv' fv' : Value} {vs vs' : List Value} {g g' : GS}
/-- Blocks that were made now are not written again. -/
theorem GrG.frzS (h : GrG F w0 base pb sv fv vs F' sv' fv' vs' g' w) (e : Ext w w2) {S : Nat → Prop} (hv : ∀ k, S k → w.heap.size ≤ k ∧ k < w2.heap.size) : GrG F w0 base pb sv fv vs (fun y => F' y ∨ S y) sv' fv' vs' g' w2 := by
 have hs := h.st
 have hlow := hs.low
 have hsz := h.chg.size
 have he := e.size
 obtain ⟨us, h3, h4⟩ := hs.sets
 refine ⟨fun y hy => .inl (h.sub y hy), fun y hy => ?_, ⟨e.keep hs.blk, ⟨us, own_ext h3 e, (h4.chg e (fun _ _ f => f)).mono fun y hy => .inl hy⟩, hs.fol.ext e, fun q hq hf => ?_, fun q hq hf => ?_, hs.apt, fun hf => ?_, hs.aps, Nat.le_trans hs.bs he, fun y hy => ?_⟩, h.chg.ext e, h.os, h.of⟩
 ·rcases hy with hy | hy
  ·exact h.new y hy
  ·have := hv y hy; exact .inr (by omega)
 ·have := hlow q (.inr (.inl hq))
  rcases hf with hf | hf
  ·exact hs.hsF q hq hf
  ·have := hv q hf; omega
 ·have := hlow q (.inr (.inr hq))
  rcases hf with hf | hf
  ·exact hs.hfF q hq hf
  ·have := hv q hf; omega
 ·have := hlow pb (.inl rfl)
  rcases hf with hf | hf
  ·exact hs.hp hf
  ·have := hv pb hf; omega
 ·rcases hy with hy | hy
  ·have := hs.fl y hy; omega
  ·exact (hv y hy).2
theorem Apq.frzS {y n m : Nat} {S : Nat → Prop} (h : Apq F pb sv fv vs y) (hy : y < n) (hv : ∀ k, S k → n ≤ k ∧ k < m) : Apq (fun y => F y ∨ S y) pb sv fv vs y :=
 ⟨fun hf => hf.elim h.1 fun h1 => by have := hv y h1; omega, h.2⟩
/-- A set has been appended. -/
theorem GrG.setPut {z : List Sp} {u : Value} {us : List Value} (h : GkSt F w base pb sv fv vs g) (hus : SetF F w g.sets us) (hu : SpansAt w u z) (huF : z = [] ∨ ∃ b, u.ownBlock = some b ∧ F b) (c : Chg (fun y => sv.ownBlock = some y) w w') (ho : w'.ownsRow base TSl 1 sv' (g.sets.length + 1) (us ++ [u])) (hd : ∀ k, sv'.ownBlock = some k → sv.ownBlock = some k ∨ w.heap.size ≤ k) (p : Put w' w2 pb #[sv', fv] TGk) :
  GrG F w base pb sv fv vs F sv' fv vs ⟨g.sets ++ [z], g.fol⟩ w2 := by
 have hlow := h.low
 have hS := (hus.snoc hu huF).chg c fun y hy e => h.hsF y e hy
 have hC : Chg (GM pb sv fv vs) w w2 := (c.mono fun y _ hy => .inr (.inl hy)).step p.chg fun x hx e => .inl e
 have hspb : ∀ k, sv'.ownBlock = some k → k ≠ pb := fun k hk e => by
  rcases hd k hk with h1 | h1
  ·exact h.aps.1 (e ▸ h1)
  ·have := hlow pb (.inl rfl); omega
 refine ⟨fun _ h => h, fun _ h => .inl h, ⟨p.blk, ⟨us ++ [u], by rw [List.length_append]; exact own_chg ho p.chg fun k hk e => hspb k hk e, hS.chg p.chg fun y hy e => h.hp (by have e' : y = pb := e; exact e' ▸ hy)⟩, ?_, fun b hb hf => ?_, h.hfF, fun b hb hq => ?_, h.hp, ⟨fun e => hspb pb e rfl, h.aps.2⟩, Nat.le_trans h.bs hC.size, fun y hy => Nat.lt_of_lt_of_le (h.fl y hy) hC.size⟩, hC, hd, fun _ h => .inl h⟩
 ·exact (h.fol.chgQ c fun b hb e => h.apt b e hb).chgQ p.chg fun b hb e => h.aps.2 (by have e' : b = pb := e; exact e' ▸ hb)
 ·rcases hd b hb with h1 | h1
  ·exact h.hsF b h1 hf
  ·have := h.fl b hf; omega
 ·rcases hd b hb with h1 | h1
  ·exact h.apt b h1 hq
  ·have := hlow b (.inr (.inr hq)); omega
/-- An empty row has been appended. -/
theorem GrG.folPut (h : GkSt F w base pb sv fv vs g) (c : Chg (fun y => fv.ownBlock = some y) w w') (ho : w'.ownsRow base TDIs 1 fv' (g.fol.length + 1) (vs ++ [.slice none 0 0])) (hd : ∀ k, fv'.ownBlock = some k → fv.ownBlock = some k ∨ w.heap.size ≤ k) (p : Put w' w2 pb #[sv, fv'] TGk) :
  GrG F w base pb sv fv vs F sv fv' (vs ++ [.slice none 0 0]) ⟨g.sets, g.fol ++ [[]]⟩ w2 := by
 have hlow := h.low
 obtain ⟨us, h3, h4⟩ := h.sets
 have hQ : ∀ k, LsQ fv' (vs ++ [.slice none 0 0]) k → LsQ fv vs k ∨ w.heap.size ≤ k := fun k hk => by
  rcases hk with h1 | ⟨i, v, h1, h2⟩
  ·exact (hd k h1).imp (fun h => .inl h) id
  ·rcases Nat.lt_or_ge i vs.length with h5 | h5
   ·rw [List.getElem?_append_left h5] at h1
    exact .inl (.inr ⟨i, v, h1, h2⟩)
   ·rw [List.getElem?_append_right h5] at h1
    have := List.mem_of_getElem? h1
    rw [List.mem_singleton.1 this] at h2
    cases h2
 have hC : Chg (GM pb sv fv vs) w w2 := (c.mono fun y _ hy => .inr (.inr (.inl hy))).step p.chg fun x hx e => .inl e
 have hlen : (g.fol.map nRow).length = g.fol.length := List.length_map _
 have hL := h.fol.l.push (bu := w.heap.size) (u := .slice none 0 0) (us := []) (m := 0) (n := g.fol.length) hlen.symm (World.ownsRow_nil _ _ _ _) h.bs (fun k hk => (h.fol.l.o.lt k hk).2) ho c hd
 have hG : GSt TDIs TDI 1 w' base fv' (vs ++ [.slice none 0 0]) (g.fol.map nRow ++ [(0, [])]) := by
  refine ⟨hL, fun i j v u b hv hu hb hb' => ?_⟩
  have hold : ∀ (i : Nat) v b, (vs ++ [Value.slice none 0 0])[i]? = some v → v.ownBlock = some b → vs[i]? = some v := fun i v b hv hb => by
   rcases Nat.lt_or_ge i vs.length with h5 | h5
   ·rwa [List.getElem?_append_left h5] at hv
   ·rw [List.getElem?_append_right h5] at hv
    have := List.mem_of_getElem? hv
    rw [List.mem_singleton.1 this] at hb
    cases hb
  exact h.fol.ap i j v u b (hold i v b hv hb) (hold j u b hu hb') hb hb'
 have hfpb : ¬ LsQ fv' (vs ++ [.slice none 0 0]) pb := fun hk => by
  rcases hQ pb hk with h1 | h1
  ·exact h.aps.2 h1
  ·have := hlow pb (.inl rfl); omega
 refine ⟨fun _ h => h, fun _ h => .inl h, ⟨p.blk, ⟨us, own_chg (own_chg h3 c fun k hk e => h.apt k hk (.inl e)) p.chg fun k hk e => h.aps.1 (by have e' : k = pb := e; exact e' ▸ hk), (h4.chg c fun y hy e => h.hfF y (.inl e) hy).chg p.chg fun y hy e => h.hp (by have e' : y = pb := e; exact e' ▸ hy)⟩, ?_, h.hsF, fun b hb hf => ?_, fun b hb hq => ?_, h.hp, ⟨h.aps.1, hfpb⟩, Nat.le_trans h.bs hC.size, fun y hy => Nat.lt_of_lt_of_le (h.fl y hy) hC.size⟩, hC, fun _ h => .inl h, hQ⟩
 ·have := hG.chgQ p.chg fun b hb e => hfpb (by have e' : b = pb := e; exact e' ▸ hb)
  simpa [nRow, nZ] using this
 ·rcases hQ b hb with h1 | h1
  ·exact h.hfF b h1 hf
  ·have := h.fl b hf; omega
 ·rcases hQ b hq with h1 | h1
  ·exact h.apt b hb h1
  ·have := (h3.lt b hb).2; omega
end
theorem slAt_own {w : World} {k : Nat} {v : Value} {rows : List (List Value)} (h : SlAt w k v rows) (hk : ∀ r ∈ rows, 0 < r.length) : rows = [] ∨ ∃ b, v.ownBlock = some b ∧ b < w.heap.size := by
  obtain ⟨a, cap, hv, hl, hc, h⟩ := h
  rcases h with h | ⟨b, o, ha, h⟩
  · exact .inl h
  · cases rows with
    | nil => exact .inl rfl
    | cons r rows =>
      have h0 := h 0 r rfl
      obtain ⟨u, hu⟩ := get_of_lt (l := r) (i := 0) (hk r List.mem_cons_self)
      have h1 := h0 0 u hu
      refine .inr ⟨b, by rw [hv, ha]; rfl, ?_⟩
      unfold World.cell? at h1
      refine Classical.byContradiction fun hn => ?_
      rw [show w.heap[b]? = none from Array.getElem?_eq_none (by omega)] at h1
      simp at h1
theorem litF_chgQ {U : Nat → Prop} {e hs : Nat} {c : Array Value} (h : ∀ y, U y → y < hs) : ∀ v w w', Chg U w w' → litF e c hs v w → litF e c hs v w' := by
 rintro v w w' x ⟨b, h1, h2, h3⟩
 exact ⟨b, h1, x.keep (fun hu => by have := h b hu; omega) h2, h3⟩
set_option maxHeartbeats 4000000 in
theorem gof2_c (wb : World) (x : Re) (hk : x.kind = 2) : GkOf wb x := by
 intro base pb F w0 sv fv vs g us hxt hE hF hP hI hR
 obtain ⟨sa, sc, aa, ac, rfl, hset, hlen, hargs⟩ := hxt.form
 obtain ⟨us0, hown, hsF⟩ := hP.sets
 obtain ⟨va, vc, rfl⟩ := own_form hown
 have hfl : (g.fol.map nRow).length = g.fol.length := List.length_map _
 obtain ⟨fa, fc, rfl⟩ := own_form hP.fol.l.o
 rw [hfl] at hP ⊢
 have hg1 := hI.1
 have hg2 := hI.2
 have hblk := hP.blk
 have hown0 := hown.lt
 have huF : x.set = [] ∨ ∃ b, (Value.slice sa x.set.length sc).ownBlock = some b ∧ F b := by
  rcases slAt_own hset (by intro r hr; obtain ⟨p, _, rfl⟩ := List.mem_map.1 hr; exact Nat.zero_lt_succ 1) with h | ⟨b, h1, h2⟩
  ·exact .inl (by simpa using h)
  ·exact .inr ⟨b, h1, hF b h2⟩
 refine RetX_of Tryz.func93 rfl Tryz.ntmps93 (Nat.le_of_ble_eq_true rfl) ?_
 have E : Chg (fun _ => True) w0 w0 := Chg.refl _ _
 have hG := GrG.start hP
 refine Wp_seq_region ?_
 refine s_box (v := (.agg (R6 x sa sc aa ac))) (c := (R6 x sa sc aa ac)) (by decide) rfl rfl ?_
 intro bb wb Nb
 have Fb := Nb.ge E
 have Ob_pb := Nb.lt hblk
 replace hblk := Nb.keep hblk
 replace hG := hG.ext Nb.ext
 replace E := E.ext Nb.ext
 have Bb := Nb.blk
 refine s_alloc (c := #[(.bool false), (.slice none 0 0), (.slice none 0 0)]) (by decide) zer130 rfl ?_
 intro br wr Nr
 have Fr := Nr.ge E
 have Or_pb := Nr.lt hblk
 have Or_bb := Nr.lt Bb
 replace hblk := Nr.keep hblk
 replace Bb := Nr.keep Bb
 replace hG := hG.ext Nr.ext
 replace E := E.ext Nr.ext
 have Br := Nr.blk
 refine WpL_nil (Wp_seq (Wp_seq_region ?_))
 refine qF bb 0 0 rfl Tryz.underlying48 rfl siz3 rfl ?_
 refine qV (r_load (v := (I6 x.kind)) rfl flat3 (Bb.cell rfl)) ?_
 refine WpL_nil (Wp_block (Wp_seq_region ?_))
 refine qV (r_eql (k := .i64) (a := x.kind) (b := 1) rfl rfl) ?_
 refine qA (.bool (decide ((x.kind : Int) = 1))) rfl ?_
 refine WpL_nil ?_
 have hc1 : (decide ((x.kind : Int) = 1)) = false := decide_eq_false (by omega)
 refine Wp_cond_false (congrArg Value.bool hc1) ?_
 refine Wp_seq_region ?_
 refine qV (r_eql (k := .i64) (a := x.kind) (b := 2) rfl rfl) ?_
 refine qA (.bool (decide ((x.kind : Int) = 2))) rfl ?_
 refine WpL_nil ?_
 have hc2 : (decide ((x.kind : Int) = 2)) = true := decide_eq_true hk
 refine Wp_cond_true (congrArg Value.bool hc2) ?_
 refine Wp_seq ?_
 have hrn : pb < br := by have := hP.low pb (.inl rfl); omega
 obtain ⟨z0, hz0⟩ : ∃ z0, z0 = (wr).heap.size := ⟨_, rfl⟩
 have hAr : Apq F pb (.slice va g.sets.length vc) (.slice fa g.fol.length fc) vs br := hP.fresh (by omega)
 have hst := hG.st
 obtain ⟨us1, hownW, hsW⟩ := hst.sets
 have hownl := hownW.lt
 have hsetW := SlAt.ext hset (hG.base' hP hF hE)
 have hpl := hst.blk.lt
 have hbrl : br < (wr).heap.size := Br.lt
 have hbs := hst.bs
 have hz_3 : w0.heap.size ≤ wr.heap.size := E.size
 have lz_3_pb : pb < wr.heap.size := hblk.lt
 have lz_3_bb : bb < wr.heap.size := Bb.lt
 have lz_3_br : br < wr.heap.size := Br.lt
 refine Wp_seq ?_
 obtain ⟨Fs3, hFs3⟩ : ∃ Fs : List FctS, Fs = [(eF (P6 pb 0)), (eF (P6 pb 0)), (eF (P6 pb 0)), (eF (P6 pb 0)), (eF (.slice va g.sets.length vc)), (eF (P6 bb 1)), (eF (.slice sa x.set.length sc)), (fun _ _ => litF TSl #[.slice sa x.set.length sc] z0), (fun _ _ => appF base TSl 1 (g.sets.length + 1) (us1 ++ [.slice sa x.set.length sc]) (.slice va g.sets.length vc) z0), (eF undef), (eF undef), (eF undef)] := ⟨_, rfl⟩
 refine Wp_dagS (MsL [(8, (fun q => (Value.slice va g.sets.length vc).ownBlock = some q))]) [true, true, true, true, true, true, true, true, true, false, false, false] [9, 10, 11] [24, 25, 26, 27, 28, 29, 30, 31, 32, 176, 177, 178] [[], [], [1], [2], [3], [], [5], [6], [4, 7], [], [], []] [[], [], [1], [2, 1], [3, 2, 1], [], [5], [6, 5], [4, 3, 2, 1, 7, 6, 5], [], [], []] Fs3 hFs3 (by kernel_rfl) mixed (by kernel_rfl) (by kernel_rfl) (by kernel_rfl) (by kernel_rfl) ?_ ?_
 ·intro wd X0
  refine qZ (fun S s' w' hi hN X U V H => ?_) ?_
  ·replace X := xM1 X
   exact DoesT_pure (r_move (v := (P6 pb 0)) (U 0 rfl)) rfl
  refine qZ (fun S s' w' hi hN X U V H => ?_) ?_
  ·replace X := xN1 (hN 8 rfl) X
   exact DoesT_pure (r_move (v := (P6 pb 0)) (U 0 rfl)) rfl
  refine qZ (fun S s' w' hi hN X U V H => ?_) ?_
  ·replace X := xN1 (hN 8 rfl) X
   have e25 := (H 1 rfl).2 25 _ rfl (by rw [hFs3]; rfl)
   exact DoesT_pure (r_nilCheck (a := ⟨pb, 0, none⟩) e25) rfl
  refine qZ (fun S s' w' hi hN X U V H => ?_) ?_
  ·replace X := xN1 (hN 8 rfl) X
   have e26 := (H 2 rfl).2 26 _ rfl (by rw [hFs3]; rfl)
   exact DoesT_pure (r_fieldAddr (b := pb) (o := 0) (o' := 0) e26 Tryz.underlying128 rfl siz52 rfl) rfl
  refine qZ (fun S s' w' hi hN X U V H => ?_) ?_
  ·replace X := xN1 (hN 8 rfl) X
   have e27 := (H 3 rfl).2 27 _ rfl (by rw [hFs3]; rfl)
   exact DoesT_pure (r_load (v := (.slice va g.sets.length vc)) e27 flat52 (((X0.trans X).keep hblk).cell rfl)) rfl
  refine qZ (fun S s' w' hi hN X U V H => ?_) ?_
  ·replace X := xN1 (hN 8 rfl) X
   exact DoesT_pure (r_fieldAddr (b := bb) (o := 0) (o' := 1) (U 3 rfl) Tryz.underlying48 rfl siz37 rfl) rfl
  refine qZ (fun S s' w' hi hN X U V H => ?_) ?_
  ·replace X := xN1 (hN 8 rfl) X
   have e29 := (H 5 rfl).2 29 _ rfl (by rw [hFs3]; rfl)
   exact DoesT_pure (r_load (v := (.slice sa x.set.length sc)) e29 flat37 (((X0.trans X).keep Bb).cell rfl)) rfl
  refine DagStepsS.cons (StabS.chg (U := (fun y => (fun q => (Value.slice va g.sets.length vc).ownBlock = some q) y)) (litF_chgQ (fun q h => by have := (hownl q h).2; omega)) (fun p y hp hw h => by
     rcases MsL_or h with ⟨rfl, h0⟩ | h0
     ·exact h0
     exact h0.elim)) (LocS.const) (fun S s' w' hi hN X U V H => Or.inl ⟨Guarded_none rfl, ?_⟩) ?_
  ·replace X := xN1 (hN 8 rfl) X
   have e30 := (H 6 rfl).2 30 _ rfl (by rw [hFs3]; rfl)
   exact DoesT_lit (hs := z0) Tryz.underlying52 siz37 zer37 e30 (by decide) (by decide) (by kernel_rfl) (by have := X0.size; have := X.size; omega)
  refine DagStepsS.cons (StabS.chg (U := none1) (appF_ext _ _ _ _ _ _ _) (fun p y hp hw h => by
     rcases MsL_or h with ⟨rfl, h0⟩ | h0
     ·exact absurd rfl hp
     exact h0.elim)) (LocS.const) (fun S s' w' hi hN X U V H => Or.inl ⟨Guarded_none rfl, ?_⟩) ?_
  ·replace X := xN1 hi X
   have e28 := (H 4 rfl).2 28 _ rfl (by rw [hFs3]; rfl)
   obtain ⟨b31, e31, B31, g31⟩ := (show ((fun _ _ => litF TSl #[.slice sa x.set.length sc] z0) : FctS) S s' (s' 31) w' from (H 7 rfl).2 31 (fun _ _ => litF TSl #[.slice sa x.set.length sc] z0) rfl (by rw [hFs3]; rfl))
   exact DoesT_append (hs := z0) Tryz.underlying52 siz37 byt37 zer37 rfl (by decide) e28 (own_ext (own_ext hownW X0) X) e31 rfl (B31.cells rfl) (by simp [Value.oneCell']) (by unfold maxLen; omega) (by omega) (by have := X0.size; have := X.size; omega) (fun y h => .inl ⟨rfl, h⟩) (by have := X0.size; have := X.size; omega)
  refine DagStepsS.tail (DagStepsS.tail (DagStepsS.tail ?_))
  exact DagStepsS.nil
 ·intro s' wd3 w3 X0 X3 U H
  replace X3 := X3.mono (M' := (fun y => (fun q => (Value.slice va g.sets.length vc).ownBlock = some q) y)) (fun y _ h => by
    obtain ⟨j, hj, h⟩ := h
    rcases MsL_or h with ⟨rfl, h0⟩ | h0
    ·exact h0
    exact h0.elim)
  have e24 := H 0 rfl 24 _ rfl (by rw [hFs3]; rfl)
  obtain ⟨⟨a32, c32, e32⟩, O32, D32⟩ := (show ((fun _ _ => appF base TSl 1 (g.sets.length + 1) (us1 ++ [.slice sa x.set.length sc]) (.slice va g.sets.length vc) z0) : FctS) (allS [true, true, true, true, true, true, true, true, true, false, false, false]) s' (s' 32) w3 from H 8 rfl 32 (fun _ _ => appF base TSl 1 (g.sets.length + 1) (us1 ++ [.slice sa x.set.length sc]) (.slice va g.sets.length vc) z0) rfl (by rw [hFs3]; rfl))
  obtain ⟨j3, rfl⟩ := Fits.out (σ := s') (l := [(0, (.pointer (some ⟨pb, 0, none⟩))), (4, (.pointer (some ⟨br, 0, none⟩))), (24, (.pointer (some ⟨pb, 0, none⟩))), (32, (.slice a32 (g.sets.length + 1) c32))]) ⟨U 0 rfl, U 4 rfl, e24, e32, trivial⟩
  clear U H
  replace hblk := Chg.keep X3 (fun h => hst.aps.1 h) (X0.keep hblk)
  replace Bb := Chg.keep X3 (fun h => by have := (hown0 _ h).2; omega) (X0.keep Bb)
  replace Br := Chg.keep X3 (fun h => by have := (hown0 _ h).2; omega) (X0.keep Br)
  have hXm := Chg.trans (Ext.chg X0) X3
  replace E := (E.ext X0).step X3 (fun q hq h => trivial)
  rw [e32] at O32 D32
  have hPx : True := trivial
  refine qV (r_nilCheck (a := ⟨pb, 0, none⟩) rfl) ?_
  refine qF pb 0 0 rfl Tryz.underlying128 rfl siz52 rfl ?_
  refine s_store (b := pb) (o := 0) (c' := #[(.slice a32 (g.sets.length + 1) c32), (.slice fa g.fol.length fc)]) (v := (.slice a32 (g.sets.length + 1) c32)) rfl rfl rfl siz52 hblk (by simp) rfl ?_
  intro w4 S4
  replace hPx := GrG.setPut hst hsW hsetW huF hXm O32 (by rw [← hz0]; exact D32) S4
  replace Br := S4.keep (by omega) Br
  replace E := S4.step E (by first | exact Or.inl (by omega) | exact Or.inr rfl | exact Or.inr (by assumption) | exact Or.inr (by simp) | exact Or.inr (by omega) | exact Or.inr (by dsimp only; omega))
  replace hblk := S4.blk
  refine WpL_nil (thn_normal (Wp_seq_region ?_))
  refine qM (P6 pb 0) rfl ?_
  refine qV (r_nilCheck (a := ⟨pb, 0, none⟩) rfl) ?_
  refine qF pb 0 0 rfl Tryz.underlying128 rfl siz52 rfl ?_
  refine qV (r_load (v := (.slice a32 (g.sets.length + 1) c32)) rfl flat52 (hblk.cell rfl)) ?_
  refine qV (r_lenSlice (ad := a32) (n := (g.sets.length + 1)) (cap := c32) Tryz.underlying52 rfl) ?_
  refine qV (r_gtr (k := .i64) (a := (((g.sets.length + 1) : Nat) : Int)) (b := 499) rfl rfl) ?_
  refine WpL_nil ?_
  refine Wp_cond (b := decide ((499 : Int) < (((g.sets.length + 1) : Nat) : Int))) rfl (fun hc5 => ?_) (fun hc5 => ?_)
  ·have khc5 := hc5
   replace hc5 := of_decide_eq_true hc5
   refine Wp_region ?_
   refine qV (r_build (ps := []) (v := (.agg #[])) rfl (by kernel_rfl)) ?_
   refine qV (r_makeIface (t := 124) (v := (.agg #[])) Tryz.underlying124 rfl) ?_
   refine WpL_panic rfl (r_panic (u := 124) (v := (.agg #[])) rfl) (And.intro rfl ⟨by rw [gk_2 hk]; unfold setK; rw [if_pos (by omega)], (hG.comp hPx).chg⟩)
  ·have khc5 := hc5
   replace hc5 := of_decide_eq_false hc5
   have hG6 := hG.comp hPx
   have hAr6 := hPx.apart hAr hbrl
   have hof6 : (w4).ownsRow base TDIs 1 (.slice fa g.fol.length fc) g.fol.length vs := hG6.st.fol.l.on hfl.symm
   have hbs6 := hG6.st.bs
   refine Wp_skip (thn_normal (Wp_seq_region ?_))
   refine qM (P6 pb 0) rfl ?_
   refine qV (r_nilCheck (a := ⟨pb, 0, none⟩) rfl) ?_
   refine qF pb 0 0 rfl Tryz.underlying128 rfl siz52 rfl ?_
   refine qV (r_load (v := (.slice a32 (g.sets.length + 1) c32)) rfl flat52 (hblk.cell rfl)) ?_
   refine qV (r_lenSlice (ad := a32) (n := (g.sets.length + 1)) (cap := c32) Tryz.underlying52 rfl) ?_
   refine qA (I6 (((g.sets.length + 1) : Nat) : Int)) rfl ?_
   refine WpL_nil (Wp_seq_region ?_)
   refine qM (P6 pb 0) rfl ?_
   refine qM (P6 pb 0) rfl ?_
   refine qV (r_nilCheck (a := ⟨pb, 0, none⟩) rfl) ?_
   refine qF pb 0 1 rfl Tryz.underlying128 rfl siz49 rfl ?_
   refine qV (r_load (v := (.slice fa g.fol.length fc)) rfl flat49 (hblk.cell rfl)) ?_
   refine s_buildSlice (ps := [(0, (.slice none 0 0))]) (c := #[(.slice none 0 0)]) (by decide) rfl Tryz.underlying49 siz22 zer22 (by decide) (by decide) (by kernel_rfl) ?_
   intro b6 w6 N6
   have F6 := N6.ge E
   have O6_pb := N6.lt hblk
   have O6_br := N6.lt Br
   replace hblk := N6.keep hblk
   replace Br := N6.keep Br
   replace hG6 := hG6.ext N6.ext
   replace hof6 := own_ext hof6 N6.ext
   replace hbs6 := Nat.le_trans hbs6 N6.ext.size
   replace E := E.ext N6.ext
   have B6 := N6.blk
   have hbrl6 : br < (w6).heap.size := Br.lt
   refine s_append (base := base) (n := g.fol.length) (m := 1) (xs := vs) (news := [(.slice none 0 0)]) (size := 1) (bytes := 24) (v := (.slice fa g.fol.length fc)) (by decide) Tryz.underlying49 siz22 byt22 zer22 rfl (by decide) rfl hof6 rfl (rfl) (B6.cells rfl) (by simp [Value.oneCell']) (by unfold maxLen; omega) (by omega) (hbs6) ?_
   intro v9 w39 Ov9 Cv9 Dv9
   replace hblk := Cv9.keep (fun h => (hG6.st.aps.2 (.inl h))) hblk
   replace Br := Cv9.keep (fun h => (hAr6.2 (.inr (.inr (.inl h))))) Br
   replace E := E.step Cv9 (fun _ _ _ => trivial)
   obtain ⟨fa2, fc2, rfl⟩ := own_form Ov9
   refine qV (r_nilCheck (a := ⟨pb, 0, none⟩) rfl) ?_
   refine qF pb 0 1 rfl Tryz.underlying128 rfl siz49 rfl ?_
   refine s_store (b := pb) (o := 1) (c' := #[(.slice a32 (g.sets.length + 1) c32), (.slice fa2 (g.fol.length + 1) fc2)]) (v := (.slice fa2 (g.fol.length + 1) fc2)) rfl rfl rfl siz49 hblk (by simp) rfl ?_
   intro w7 S7
   replace Br := S7.keep (by omega) Br
   replace E := S7.step E (by first | exact Or.inl (by omega) | exact Or.inr rfl | exact Or.inr (by assumption) | exact Or.inr (by simp) | exact Or.inr (by omega) | exact Or.inr (by dsimp only; omega))
   replace hblk := S7.blk
   refine WpL_nil (Wp_seq_region ?_)
   refine qM (I6 (((g.sets.length + 1) : Nat) : Int)) rfl ?_
   refine s_buildSlice (ps := [(0, (I6 (((g.sets.length + 1) : Nat) : Int)))]) (c := #[(I6 (((g.sets.length + 1) : Nat) : Int))]) (by decide) rfl Tryz.underlying22 siz3 zer3 (by decide) (by decide) (by kernel_rfl) ?_
   intro bi wi Ni
   have Fi := Ni.ge E
   have Oi_pb := Ni.lt hblk
   have Oi_br := Ni.lt Br
   replace hblk := Ni.keep hblk
   replace Br := Ni.keep Br
   replace E := E.ext Ni.ext
   have Bi := Ni.blk
   refine qM (I6 (((g.sets.length + 1) : Nat) : Int)) rfl ?_
   refine s_buildSlice (ps := [(0, (I6 (((g.sets.length + 1) : Nat) : Int)))]) (c := #[(I6 (((g.sets.length + 1) : Nat) : Int))]) (by decide) rfl Tryz.underlying22 siz3 zer3 (by decide) (by decide) (by kernel_rfl) ?_
   intro bj wj Nj
   have Fj := Nj.ge E
   have Oj_pb := Nj.lt hblk
   have Oj_br := Nj.lt Br
   have Oj_bi := Nj.lt Bi
   replace hblk := Nj.keep hblk
   replace Br := Nj.keep Br
   replace Bi := Nj.keep Bi
   replace E := E.ext Nj.ext
   have Bj := Nj.blk
   refine qV (r_build (ps := [(1, (.slice (some ⟨bi, 0, none⟩) 1 1)), (2, (.slice (some ⟨bj, 0, none⟩) 1 1))]) (v := (.agg #[(.bool false), (.slice (some ⟨bi, 0, none⟩) 1 1), (.slice (some ⟨bj, 0, none⟩) 1 1)])) rfl (by kernel_rfl)) ?_
   refine s_storeAgg (b := br) (o := 0) (c' := #[(.bool false), (.slice (some ⟨bi, 0, none⟩) 1 1), (.slice (some ⟨bj, 0, none⟩) 1 1)]) rfl rfl (by simp [Value.oneCell']) siz130 rfl Br (by first | (simp; done) | exact Nat.le_of_ble_eq_true rfl) rfl ?_
   intro w8 S8
   replace hblk := S8.keep (by omega) hblk
   replace Bi := S8.keep (by omega) Bi
   replace Bj := S8.keep (by omega) Bj
   replace E := S8.step E (by first | exact Or.inl (by omega) | exact Or.inr rfl | exact Or.inr (by assumption) | exact Or.inr (by simp) | exact Or.inr (by omega) | exact Or.inr (by dsimp only; omega))
   replace Br := S8.blk
   refine WpL_nil (Wp_ret (inB_ret (thn_ret (finX_ret ?_))))
   refine fin_agg Tryz.results93 (vs := [(.bool false), (.slice (some ⟨bi, 0, none⟩) 1 1), (.slice (some ⟨bj, 0, none⟩) 1 1)]) (b := br) rfl agg130 siz130 rfl (Br.cells rfl) ?_
   have hR0 := GrG.folPut hG6.st Cv9 Ov9 Dv9 S7
   have hPz := hG6.comp hR0
   have hEz := Ext.trans Ni.ext Nj.ext
   have hAr7 := hR0.apart hAr6 hbrl6
   have hS : ∀ k, (k = bi ∨ k = bj) → w7.heap.size ≤ k ∧ k < wj.heap.size := by
    have h1 := Ni.eq; have h2 := Nj.eq; have h3 := Ni.size; have h4 := Nj.size
    rintro k (rfl | rfl) <;> omega
   have hG8 := hPz.frzS hEz hS
   have hAr8 := hAr7.frzS (n := w7.heap.size) (m := wj.heap.size) (by have := hR0.chg.size; omega) hS
   have hG9 := hG8.other S8.chg (fun y e => by rw [show y = br from e]; exact ⟨by omega, hAr8⟩)
   exact ⟨_, ⟨false, [g.sets.length + 1], [g.sets.length + 1]⟩, _, _, _, _, by rw [gk_2 hk]; unfold setK; rw [if_neg (by omega)], ⟨_, _, _, _, rfl, ⟨ints_of_blk [((g.sets.length + 1 : Nat) : Int)] Bi (by simp) (by simp), .inr ⟨bi, rfl, .inr (.inl rfl)⟩⟩, ⟨ints_of_blk [((g.sets.length + 1 : Nat) : Int)] Bj (by simp) (by simp), .inr ⟨bj, rfl, .inr (.inr rfl)⟩⟩⟩, hG9⟩
end Go.Proofs
namespace Go.Proofs
open Go Go.Eng Go.Sort
set_option maxRecDepth 100000
def litQ (e : Nat) (u1 u2 : Value) : Fct := fun v w => ∃ b, v = .slice (some ⟨b, 0, none⟩) 2 2 ∧ Blk w b #[u1, u2] e
theorem litQ_ext (e : Nat) (u1 u2 : Value) : ∀ v w w', Ext w w' → litQ e u1 u2 v w → litQ e u1 u2 v w' := by
 rintro v w w' x ⟨b, h1, h2⟩
 exact ⟨b, h1, Ext.keep x h2⟩
theorem DoesT_lit2q {P : Program} {N : Nat} {σ : Env} {w : World} {dst : Option Tmp} {ty : TypeId} {pos : String} {af : Array Edge} {g : Option (Nat × Bool)} {M : Nat → Prop} {t e n : Nat} {x y : Operand} {u v z : Value} (hu : P.underlying t = some (.slice e)) (hsz : Siz P e n) (hz : Zer P e z) (hx : ev σ x = u) (hy : ev σ y = v)
  (hl : ¬ (2 * n > 2 ^ 24)) (h0 : 2 * n ≠ 0) (hc : Instr.fill (fun i => some (i * n, n)) ((Array.range (2 * n)).map (z.cells[· % z.cells.size]!)) [(0, u), (1, v)] = some #[u, v]) :
  DoesT M P N ⟨dst, .buildSlice t 2 #[(0, x), (1, y)], ty, pos, af, g⟩ (litQ e u v) σ w := by
 have hn := New.mk' w #[u, v] e
 exact DoesT_val (run_buildSlice (parts := [(0, x), (1, y)]) (ps := [(0, u), (1, v)]) (by simp only [List.map, hx, hy]) hu hsz hz hl h0 hc) (Ext.chg hn.ext) ⟨_, rfl, hn.blk⟩
def catQn (L : List Nat) (z : Nat) : Fct := fun v w => (∃ a c, v = .slice a L.length c) ∧ w.ownsRow z TDI 1 v L.length ((nZ L).map (Value.int .i64))
theorem catQ_ext (L : List Nat) (z : Nat) : ∀ v w w', Ext w w' → catQn L z v w → catQn L z v w' := by
 rintro v w w' x ⟨h1, h2⟩
 exact ⟨h1, own_ext h2 x⟩
def altQ (b : Bool) (L1 L2 : List Nat) (z : Nat) : Fct := fun v w => ∃ a c a2 c2, v = .agg #[.bool b, .slice a L1.length c, .slice a2 L2.length c2] ∧ w.ownsRow z TDI 1 (.slice a L1.length c) L1.length ((nZ L1).map (Value.int .i64)) ∧ w.ownsRow z TDI 1 (.slice a2 L2.length c2) L2.length ((nZ L2).map (Value.int .i64))
theorem altQ_ext (b : Bool) (L1 L2 : List Nat) (z : Nat) : ∀ v w w', Ext w w' → altQ b L1 L2 z v w → altQ b L1 L2 z v w' := by
 rintro v w w' x ⟨a, c, a2, c2, h1, h2, h3⟩
 exact ⟨a, c, a2, c2, h1, own_ext h2 x, own_ext h3 x⟩
theorem concatQ_c (w0 : World) (z q : Nat) (va vb : Value) (la lb L : List Nat) (hL : L = la ++ lb) (hB : Blk w0 q #[va, vb] 22) (ha : IntsAt w0 va (nZ la)) (hb : IntsAt w0 vb (nZ lb)) (hl : la.length + lb.length ≤ 1000000) (hz : z ≤ w0.heap.size) :
  Ret Tryz.prog 47 #[.slice (some ⟨q, 0, none⟩) 2 2] w0 fun r w => catQn L z r w ∧ Ext w0 w := by
 subst hL
 refine (ncat2_c w0 z _ [nZ la, nZ lb] (nZ (la ++ lb)) (intss_blk hB rfl rfl (Nat.le_of_ble_eq_true rfl) (two_lists ha hb)) (by simp [nZ_app]) (by rw [nZ_len, List.length_append]; omega) (.inr hz)).mono ?_
 rintro r w ⟨⟨a, c, rfl⟩, O, e⟩
 rw [nZ_len] at O ⊢
 exact ⟨⟨⟨a, c, rfl⟩, O⟩, e⟩
theorem frI_of {F S : Nat → Prop} {w : World} {z n : Nat} {v : Value} {l : List Nat} (h : w.ownsRow z TDI 1 v n ((nZ l).map (Value.int .i64))) (hS : ∀ k, v.ownBlock = some k → S k) (hn : n = l.length := by rfl) : FrI (fun y => F y ∨ S y) w v l :=
 ⟨own_intsD h (by rw [nZ_len]; exact hn), (own_some h).imp (fun h0 => List.eq_nil_of_length_eq_zero (by omega)) fun ⟨b, hb⟩ => ⟨b, hb, .inr (hS b hb)⟩⟩
set_option maxHeartbeats 4000000 in
theorem gof4_c (wb : World) (x : Re) (hk : x.kind = 4) (hsz : x.size ≤ 44) (hof : ∀ y ∈ x.args, GkOf wb y) : GkOf wb x := by
 intro base pb F w0 sv fv vs g us hxt hE hF hP hI hR
 obtain ⟨sa, sc, aa, ac, rfl, hset, hlen, hargs⟩ := hxt.form
 have hla := len_lt_size x
 have hok3 := gkL_ok x.args
 have hss : Re.sizes x.args + 1 ≤ 44 := by have h9 := Re.size_eq x; omega
 refine RetX_of Tryz.func93 rfl Tryz.ntmps93 (Nat.le_of_ble_eq_true rfl) ?_
 have E : Chg (fun _ => True) w0 w0 := Chg.refl _ _
 have hG := GrG.start hP
 refine Wp_seq_region ?_
 refine s_box (v := (.agg (R6 x sa sc aa ac))) (c := (R6 x sa sc aa ac)) (by decide) rfl rfl ?_
 intro bb wb Nb
 have Fb := Nb.ge E
 replace hG := hG.ext Nb.ext
 replace E := E.ext Nb.ext
 have Bb := Nb.blk
 refine s_alloc (c := #[(.bool false), (.slice none 0 0), (.slice none 0 0)]) (by decide) zer130 rfl ?_
 intro br wr Nr
 have Fr := Nr.ge E
 have Or_bb := Nr.lt Bb
 replace Bb := Nr.keep Bb
 replace hG := hG.ext Nr.ext
 replace E := E.ext Nr.ext
 have Br := Nr.blk
 refine WpL_nil (Wp_seq (Wp_seq_region ?_))
 refine qF bb 0 0 rfl Tryz.underlying48 rfl siz3 rfl ?_
 refine qV (r_load (v := (I6 x.kind)) rfl flat3 (Bb.cell rfl)) ?_
 refine WpL_nil (Wp_block (Wp_seq_region ?_))
 refine qV (r_eql (k := .i64) (a := x.kind) (b := 1) rfl rfl) ?_
 refine qA (.bool (decide ((x.kind : Int) = 1))) rfl ?_
 refine WpL_nil ?_
 have hc1 : (decide ((x.kind : Int) = 1)) = false := decide_eq_false (by omega)
 refine Wp_cond_false (congrArg Value.bool hc1) ?_
 refine Wp_seq_region ?_
 refine qV (r_eql (k := .i64) (a := x.kind) (b := 2) rfl rfl) ?_
 refine qA (.bool (decide ((x.kind : Int) = 2))) rfl ?_
 refine WpL_nil ?_
 have hc2 : (decide ((x.kind : Int) = 2)) = false := decide_eq_false (by omega)
 refine Wp_cond_false (congrArg Value.bool hc2) ?_
 refine Wp_seq_region ?_
 refine qV (r_eql (k := .i64) (a := x.kind) (b := 3) rfl rfl) ?_
 refine qA (.bool (decide ((x.kind : Int) = 3))) rfl ?_
 refine WpL_nil ?_
 have hc3 : (decide ((x.kind : Int) = 3)) = false := decide_eq_false (by omega)
 refine Wp_cond_false (congrArg Value.bool hc3) ?_
 refine Wp_seq_region ?_
 refine qV (r_eql (k := .i64) (a := x.kind) (b := 4) rfl rfl) ?_
 refine qA (.bool (decide ((x.kind : Int) = 4))) rfl ?_
 refine WpL_nil ?_
 have hc4 : (decide ((x.kind : Int) = 4)) = true := decide_eq_true hk
 refine Wp_cond_true (congrArg Value.bool hc4) ?_
 refine Wp_seq_region ?_
 refine s_alloc (c := #[(.bool false), (.slice none 0 0), (.slice none 0 0)]) (by decide) zer130 rfl ?_
 intro bo wo No
 have Fo := No.ge E
 have Oo_bb := No.lt Bb
 have Oo_br := No.lt Br
 replace Bb := No.keep Bb
 replace Br := No.keep Br
 replace hG := hG.ext No.ext
 replace E := E.ext No.ext
 have Bo := No.blk
 refine WpL_nil (Wp_seq (Wp_seq_region ?_))
 refine qF bb 0 2 rfl Tryz.underlying48 rfl siz46 rfl ?_
 refine qV (r_load (v := (.slice aa x.args.length ac)) rfl flat46 (Bb.cell rfl)) ?_
 refine qV (r_lenSlice (ad := aa) (n := x.args.length) (cap := ac) Tryz.underlying46 rfl) ?_
 refine qM (I6 0) rfl ?_
 refine WpL_nil (Wp_block ?_)
 refine Wp_loop (fun nn_ σ W5 => ∃ (k : Nat) (gk : GS) (o : Pt) (Fk : Nat → Prop) (sk : Value) (fk : Value) (vk : List Value) (oa : Option Addr) (oc : Nat) (oa2 : Option Addr) (oc2 : Nat), (∃ jj_, σ = upds jj_ [(0, (P6 pb 0)), (4, (P6 br 0)), (9, (P6 bo 0)), (83, (.slice aa x.args.length ac)), (84, (I6 (x.args.length : Int))), (85, (I6 (k : Int)))]) ∧ Chg (fun _ => True) w0 W5 ∧ Blk W5 br #[(.bool false), (.slice none 0 0), (.slice none 0 0)] 130 ∧ Blk W5 bo (#[Value.bool o.nul, .slice oa o.fst.length oc, .slice oa2 o.lst.length oc2]) 130 ∧ (k ≤ x.args.length) ∧ (altGs (gkL x.args) g ⟨false, [], []⟩ = altGs (gkL (x.args.drop k)) gk o) ∧ (GSt1 (Re.sizes x.args + 1) g gk o) ∧ (GrG F w0 base pb sv fv vs Fk sk fk vk gk W5) ∧ (FrI Fk W5 (.slice oa o.fst.length oc) o.fst) ∧ (FrI Fk W5 (.slice oa2 o.lst.length oc2) o.lst) ∧ (Apq Fk pb sk fk vk bo ∧ Apq Fk pb sk fk vk br) ∧ nn_ = x.args.length - k) (n := x.args.length - 0) ?_ ?_
 ·exact ⟨0, g, ⟨false, [], []⟩, F, sv, fv, vs, none, 0, none, 0, Fits.out ⟨rfl, rfl, rfl, rfl, rfl, rfl, trivial⟩, E, Br, Bo, Nat.zero_le _, (by rw [List.drop_zero]), GSt1.refl _ hI false, hG, FrI.nil _ _, FrI.nil _ _, ⟨hP.fresh (by omega), hP.fresh (by omega)⟩, rfl⟩
 ·clear E Br Bo
  rintro _ _ W5 ⟨k, gk, o, Fk, sk, fk, vk, oa, oc, oa2, oc2, ⟨j5, rfl⟩, E, Br, Bo, hk2, hQ, hS, hGk, ho1, ho2, hA, rfl⟩
  refine Wp_seq_region ?_
  refine qV (r_lss (k := .i64) (a := (k : Int)) (b := (x.args.length : Int)) rfl rfl) ?_
  refine WpL_nil (Wp_seq ?_)
  refine Wp_cond (b := decide (((k : Int) : Int) < (x.args.length : Int))) rfl (fun hlt => ?_) (fun hlt => ?_)
  ·have khlt := hlt
   replace hlt := of_decide_eq_true hlt
   obtain ⟨y, hy⟩ := get_of_lt (l := x.args) (i := k) (by omega)
   have hym := List.mem_of_getElem? hy
   obtain ⟨ab, ao, rfl, hres⟩ := args_at hargs (by omega)
   obtain ⟨us, hus, hyt⟩ := hres.get hy
   have hyt0 := hyt
   obtain ⟨ysa, ysc, yaa, yac, rfl, _, _, _⟩ := hyt.form
   rw [drop_at hy, gkL, altGs] at hQ
   have hRk := hS.rows hR (by omega)
   have hGo := hGk
   refine Wp_skip (thn_normal (Wp_seq (Wp_block (Wp_seq_region ?_))))
   refine qV (r_indexSlice (b := ab) (o := ao) (len := x.args.length) (cap := ac) (i := k) (o' := ao + k * 6) rfl rfl rfl Tryz.underlying46 siz48 (by omega) (by omega)) ?_
   refine qV (r_loadAgg (vs := [(I6 y.kind), (.slice ysa y.set.length ysc), (.slice yaa y.args.length yac), (I6 y.mn), (I6 y.mx), (.bool y.neg)]) rfl agg48 siz48 rfl (hus.ext (hGk.base' hP hF hE))) ?_
   have E7 : Chg none1 W5 W5 := Chg.refl _ _
   refine s_allocStore (v := (.agg (R6 y ysa ysc yaa yac))) (c := (R6 y ysa ysc yaa yac)) (n := 6) (by decide) zer48 rfl siz48 rfl rfl rfl (by simp [Value.oneCell']) ?_
   intro bu wu Nu
   have Fu := Nu.ge E
   have Fu_E7 := Nu.ge E7
   have Ou_br := Nu.lt Br
   have Ou_bo := Nu.lt Bo
   replace Br := Nu.keep Br
   replace Bo := Nu.keep Bo
   replace E := E.ext Nu.ext
   have Bu := Nu.blk
   replace E7 := E7.ext Nu.ext
   refine WpL_nil (Wp_seq_region ?_)
   refine qM (P6 pb 0) rfl ?_
   refine qV (r_loadAgg (vs := [(I6 y.kind), (.slice ysa y.set.length ysc), (.slice yaa y.args.length yac), (I6 y.mn), (I6 y.mx), (.bool y.neg)]) rfl agg48 siz48 rfl (Bu.cells rfl)) ?_
   replace hGk := hGk.ext E7
   replace ho1 := ho1.ext E7
   replace ho2 := ho2.ext E7
   have hbl : bo < (wu).heap.size ∧ br < (wu).heap.size := ⟨Bo.lt, Br.lt⟩
   refine WpL_enterX rfl rfl (by decide) (r_callF (vs := [(P6 pb 0), (.agg (R6 y ysa ysc yaa yac))]) Tryz.func93 kQ kQ rfl) (hof y hym base pb _ _ _ _ _ gk _ hyt0 (hGk.base' hP hF hE) (fun q hq => hGk.sub q (hF q hq)) hGk.st hS.inv hRk) (fun w' h => And.intro rfl ⟨by rw [gk_4 hk, hQ, h.1]; rfl, hGk.pan h.2⟩) ?_
   rintro _ w19 ⟨g2, p, F2, s2, f2, v2, h2, ⟨pa, pc, pa2, pc2, rfl, hp1, hp2⟩, G2⟩
   replace Br := G2.chg.keep ((by first | exact hA.1.2 | exact hA.2.2)) Br
   replace Bo := G2.chg.keep ((by first | exact hA.1.2 | exact hA.2.2)) Bo
   replace E := E.step G2.chg (fun _ _ _ => trivial)
   have hok := gkO_ok y gk g2 p hS.inv h2
   have hsy : y.size ≤ Re.sizes x.args := Re.sizes_get hy
   have hch := cat_hyp hS hok (hok.rows hRk (by omega))
   have hA2 : Apq F2 pb s2 f2 v2 bo ∧ Apq F2 pb s2 f2 v2 br := ⟨G2.apart hA.1 hbl.1, G2.apart hA.2 hbl.2⟩
   replace ho1 := (ho1.chg G2.chg fun y hy => hGk.st.kept hy).mono G2.sub
   replace ho2 := (ho2.chg G2.chg fun y hy => hGk.st.kept hy).mono G2.sub
   replace G2 := hGk.comp G2
   have E8 : Chg none1 w19 w19 := Chg.refl _ _
   refine s_allocStore (v := (.agg #[(.bool p.nul), (.slice pa p.fst.length pc), (.slice pa2 p.lst.length pc2)])) (c := #[(.bool p.nul), (.slice pa p.fst.length pc), (.slice pa2 p.lst.length pc2)]) (n := 3) (by decide) zer130 rfl siz130 rfl rfl rfl (by simp [Value.oneCell']) ?_
   intro bp wp Np
   have Fp := Np.ge E
   have Fp_E8 := Np.ge E8
   have Op_br := Np.lt Br
   have Op_bo := Np.lt Bo
   replace Br := Np.keep Br
   replace Bo := Np.keep Bo
   replace E := E.ext Np.ext
   have Bp := Np.blk
   replace E8 := E8.ext Np.ext
   refine WpL_nil ?_
   replace G2 := G2.ext E8
   replace ho1 := ho1.ext E8
   replace ho2 := ho2.ext E8
   replace hp1 := hp1.ext E8
   replace hp2 := hp2.ext E8
   have hbl2 : bo < (wp).heap.size ∧ br < (wp).heap.size := ⟨Bo.lt, Br.lt⟩
   obtain ⟨z0, hz0⟩ : ∃ z0, z0 = (wp).heap.size := ⟨_, rfl⟩
   rcases Bool.eq_false_or_eq_true (o.nul) with hon | hon
   ·have khon := hon
    have Bo2 := Bo
    rw [hon] at Bo2
    have hnu : (altP o p).nul = true := by simp [altP, hon]
    have hz_7 : w0.heap.size ≤ wp.heap.size := E.size
    have lz_7_br : br < wp.heap.size := Br.lt
    have lz_7_bo : bo < wp.heap.size := Bo2.lt
    have lz_7_bp : bp < wp.heap.size := Bp.lt
    obtain ⟨Fs7, hFs7⟩ : ∃ Fs : List FctS, Fs = [(eF (P6 bo 0)), (eF (.bool true)), (eF (.bool true)), (eF undef), (eF undef), (eF (.bool true)), (eF (P6 bo 1)), (eF (.slice oa o.fst.length oc)), (eF (P6 bp 1)), (eF (.slice pa p.fst.length pc)), (fun _ _ => litQ 22 (.slice oa o.fst.length oc) (.slice pa p.fst.length pc)), (fun _ _ => catQn (altP o p).fst z0), (eF (P6 bo 2)), (eF (.slice oa2 o.lst.length oc2)), (eF (P6 bp 2)), (eF (.slice pa2 p.lst.length pc2)), (fun _ _ => litQ 22 (.slice oa2 o.lst.length oc2) (.slice pa2 p.lst.length pc2)), (fun _ _ => catQn (altP o p).lst z0), (fun _ _ => altQ (altP o p).nul (altP o p).fst (altP o p).lst z0), (eF undef)] := ⟨_, rfl⟩
    refine Wp_dagS (MsL []) [true, true, true, true, true, true, true, true, true, true, true, true, true, true, true, true, true, true, true, false] [19] [92, 93, 94, 95, 96, 97, 98, 99, 100, 101, 102, 103, 104, 105, 106, 107, 108, 109, 110, 186] [[], [0], [1], [2], [2, 3], [2, 4], [], [6], [], [8], [7, 9], [2, 10], [], [12], [], [14], [13, 15], [11, 16], [5, 11, 17], []] [[], [0], [1, 0], [2, 1, 0], [2, 1, 0, 3], [2, 1, 0, 4, 3], [], [6], [], [8], [7, 6, 9, 8], [2, 1, 0, 10, 7, 6, 9, 8], [], [12], [], [14], [13, 12, 15, 14], [11, 2, 1, 0, 10, 7, 6, 9, 8, 16, 13, 12, 15, 14], [5, 2, 1, 0, 4, 3, 11, 10, 7, 6, 9, 8, 17, 16, 13, 12, 15, 14], []] Fs7 hFs7 (by kernel_rfl) mixed (by kernel_rfl) (by kernel_rfl) (by kernel_rfl) (by kernel_rfl) ?_ ?_
    ·intro wd X0
     refine qZ (fun S s' w' hi hN X U V H => ?_) ?_
     ·replace X := xN0 X
      exact DoesT_pure (r_fieldAddr (b := bo) (o := 0) (o' := 0) (U 9 rfl) Tryz.underlying130 rfl siz4 rfl) rfl
     refine qZ (fun S s' w' hi hN X U V H => ?_) ?_
     ·replace X := xN0 X
      have e92 := (H 0 rfl).2 92 _ rfl (by rw [hFs7]; rfl)
      exact DoesT_pure (r_load (v := (.bool true)) e92 flat4 (((X0.trans X).keep Bo2).cell rfl)) rfl
     refine qZ (fun S s' w' hi hN X U V H => ?_) ?_
     ·replace X := xN0 X
      have e93 := (H 1 rfl).2 93 _ rfl (by rw [hFs7]; rfl)
      exact DoesT_pure (r_move (v := (.bool true)) e93) rfl
     refine DagStepsS.cons (StabS.eq) (LocS.const) (fun S s' w' hi hN X U V H => Or.inr ⟨Unmet_mk rfl rfl (d := 94) (Or.inl ((H 2 rfl).2 94 (eF (.bool true)) rfl (by rw [hFs7]; rfl))), ?_⟩) ?_
     ·exact rfl
     refine DagStepsS.cons (StabS.eq) (LocS.const) (fun S s' w' hi hN X U V H => Or.inr ⟨Unmet_mk rfl rfl (d := 94) (Or.inl ((H 2 rfl).2 94 (eF (.bool true)) rfl (by rw [hFs7]; rfl))), ?_⟩) ?_
     ·exact rfl
     refine qZ (fun S s' w' hi hN X U V H => ?_) ?_
     ·replace X := xN0 X
      have e94 := (H 2 rfl).2 94 _ rfl (by rw [hFs7]; rfl)
      exact DoesT_pure (r_pick (b := true) (v := (.bool true)) e94 rfl) rfl
     refine qZ (fun S s' w' hi hN X U V H => ?_) ?_
     ·replace X := xN0 X
      exact DoesT_pure (r_fieldAddr (b := bo) (o := 0) (o' := 1) (U 9 rfl) Tryz.underlying130 rfl siz22 rfl) rfl
     refine qZ (fun S s' w' hi hN X U V H => ?_) ?_
     ·replace X := xN0 X
      have e98 := (H 6 rfl).2 98 _ rfl (by rw [hFs7]; rfl)
      exact DoesT_pure (r_load (v := (.slice oa o.fst.length oc)) e98 flat22 (((X0.trans X).keep Bo2).cell rfl)) rfl
     refine qZ (fun S s' w' hi hN X U V H => ?_) ?_
     ·replace X := xN0 X
      exact DoesT_pure (r_fieldAddr (b := bp) (o := 0) (o' := 1) (U 12 rfl) Tryz.underlying130 rfl siz22 rfl) rfl
     refine qZ (fun S s' w' hi hN X U V H => ?_) ?_
     ·replace X := xN0 X
      have e100 := (H 8 rfl).2 100 _ rfl (by rw [hFs7]; rfl)
      exact DoesT_pure (r_load (v := (.slice pa p.fst.length pc)) e100 flat22 (((X0.trans X).keep Bp).cell rfl)) rfl
     refine DagStepsS.cons (StabS.chg (U := none1) (litQ_ext _ _ _) (fun p y hp hw h => by
        exact h.elim)) (LocS.const) (fun S s' w' hi hN X U V H => Or.inl ⟨Guarded_none rfl, ?_⟩) ?_
     ·replace X := xN0 X
      have e99 := (H 7 rfl).2 99 _ rfl (by rw [hFs7]; rfl)
      have e101 := (H 9 rfl).2 101 _ rfl (by rw [hFs7]; rfl)
      exact DoesT_lit2q Tryz.underlying49 siz22 zer22 e99 e101 (by decide) (by decide) (by kernel_rfl)
     refine DagStepsS.cons (StabS.chg (U := none1) (catQ_ext _ _) (fun p y hp hw h => by
        exact h.elim)) (LocS.const) (fun S s' w' hi hN X U V H => Or.inl ⟨Guarded_none rfl, ?_⟩) ?_
     ·replace X := xN0 X
      obtain ⟨b102, e102, B102⟩ := (show ((fun _ _ => litQ 22 (.slice oa o.fst.length oc) (.slice pa p.fst.length pc)) : FctS) S s' (s' 102) w' from (H 10 rfl).2 102 (fun _ _ => litQ 22 (.slice oa o.fst.length oc) (.slice pa p.fst.length pc)) rfl (by rw [hFs7]; rfl))
      exact DoesT_callE (r_callF (vs := [(.slice (some ⟨b102, 0, none⟩) 2 2)]) Tryz.func47 kQ kQ (lst1 e102)) (concatQ_c _ z0 b102 _ _ o.fst p.fst (altP o p).fst rfl B102 (ho1.1.ext (X0.trans X)) (hp1.1.ext (X0.trans X)) (by have := hch.2.2.1; have := hch.2.2.2.1; omega) (by have := X0.size; have := X.size; omega))
     refine qZ (fun S s' w' hi hN X U V H => ?_) ?_
     ·replace X := xN0 X
      exact DoesT_pure (r_fieldAddr (b := bo) (o := 0) (o' := 2) (U 9 rfl) Tryz.underlying130 rfl siz22 rfl) rfl
     refine qZ (fun S s' w' hi hN X U V H => ?_) ?_
     ·replace X := xN0 X
      have e104 := (H 12 rfl).2 104 _ rfl (by rw [hFs7]; rfl)
      exact DoesT_pure (r_load (v := (.slice oa2 o.lst.length oc2)) e104 flat22 (((X0.trans X).keep Bo2).cell rfl)) rfl
     refine qZ (fun S s' w' hi hN X U V H => ?_) ?_
     ·replace X := xN0 X
      exact DoesT_pure (r_fieldAddr (b := bp) (o := 0) (o' := 2) (U 12 rfl) Tryz.underlying130 rfl siz22 rfl) rfl
     refine qZ (fun S s' w' hi hN X U V H => ?_) ?_
     ·replace X := xN0 X
      have e106 := (H 14 rfl).2 106 _ rfl (by rw [hFs7]; rfl)
      exact DoesT_pure (r_load (v := (.slice pa2 p.lst.length pc2)) e106 flat22 (((X0.trans X).keep Bp).cell rfl)) rfl
     refine DagStepsS.cons (StabS.chg (U := none1) (litQ_ext _ _ _) (fun p y hp hw h => by
        exact h.elim)) (LocS.const) (fun S s' w' hi hN X U V H => Or.inl ⟨Guarded_none rfl, ?_⟩) ?_
     ·replace X := xN0 X
      have e105 := (H 13 rfl).2 105 _ rfl (by rw [hFs7]; rfl)
      have e107 := (H 15 rfl).2 107 _ rfl (by rw [hFs7]; rfl)
      exact DoesT_lit2q Tryz.underlying49 siz22 zer22 e105 e107 (by decide) (by decide) (by kernel_rfl)
     refine DagStepsS.cons (StabS.chg (U := none1) (catQ_ext _ _) (fun p y hp hw h => by
        exact h.elim)) (LocS.const) (fun S s' w' hi hN X U V H => Or.inl ⟨Guarded_none rfl, ?_⟩) ?_
     ·replace X := xN0 X
      obtain ⟨b108, e108, B108⟩ := (show ((fun _ _ => litQ 22 (.slice oa2 o.lst.length oc2) (.slice pa2 p.lst.length pc2)) : FctS) S s' (s' 108) w' from (H 16 rfl).2 108 (fun _ _ => litQ 22 (.slice oa2 o.lst.length oc2) (.slice pa2 p.lst.length pc2)) rfl (by rw [hFs7]; rfl))
      exact DoesT_callE (r_callF (vs := [(.slice (some ⟨b108, 0, none⟩) 2 2)]) Tryz.func47 kQ kQ (lst1 e108)) (concatQ_c _ z0 b108 _ _ o.lst p.lst (altP o p).lst rfl B108 (ho2.1.ext (X0.trans X)) (hp2.1.ext (X0.trans X)) (by have := hch.2.2.1; have := hch.2.2.2.1; omega) (by have := X0.size; have := X.size; omega))
     refine DagStepsS.cons (StabS.chg (U := none1) (altQ_ext _ _ _ _) (fun p y hp hw h => by
        exact h.elim)) (LocS.const) (fun S s' w' hi hN X U V H => Or.inl ⟨Guarded_none rfl, ?_⟩) ?_
     ·replace X := xN0 X
      have e97 := (H 5 rfl).2 97 _ rfl (by rw [hFs7]; rfl)
      obtain ⟨⟨a103, c103, e103⟩, O103⟩ := (show ((fun _ _ => catQn (altP o p).fst z0) : FctS) S s' (s' 103) w' from (H 11 rfl).2 103 (fun _ _ => catQn (altP o p).fst z0) rfl (by rw [hFs7]; rfl))
      obtain ⟨⟨a109, c109, e109⟩, O109⟩ := (show ((fun _ _ => catQn (altP o p).lst z0) : FctS) S s' (s' 109) w' from (H 17 rfl).2 109 (fun _ _ => catQn (altP o p).lst z0) rfl (by rw [hFs7]; rfl))
      exact DoesT_pure (r_build (ps := [(0, .bool true), (1, .slice a103 (altP o p).fst.length c103), (2, .slice a109 (altP o p).lst.length c109)]) (v := .agg #[.bool true, .slice a103 (altP o p).fst.length c103, .slice a109 (altP o p).lst.length c109]) (bld3 e97 e103 e109) (by kernel_rfl)) ⟨_, _, _, _, by rw [hnu]; rfl, e103 ▸ O103, e109 ▸ O109⟩
     refine DagStepsS.tail ?_
     exact DagStepsS.nil
    ·intro s' wd7 w7 X0 X7 U H
     replace X7 := X7.mono (M' := none1) (fun y _ h => by
       obtain ⟨j, hj, h⟩ := h
       exact h.elim)
     obtain ⟨a110, c110, d110, f110, e110, O110, Q110⟩ := (show ((fun _ _ => altQ (altP o p).nul (altP o p).fst (altP o p).lst z0) : FctS) (allS [true, true, true, true, true, true, true, true, true, true, true, true, true, true, true, true, true, true, true, false]) s' (s' 110) w7 from H 18 rfl 110 (fun _ _ => altQ (altP o p).nul (altP o p).fst (altP o p).lst z0) rfl (by rw [hFs7]; rfl))
     obtain ⟨j7, rfl⟩ := Fits.out (σ := s') (l := [(0, (.pointer (some ⟨pb, 0, none⟩))), (4, (.pointer (some ⟨br, 0, none⟩))), (9, (.pointer (some ⟨bo, 0, none⟩))), (83, (.slice (some ⟨ab, ao, none⟩) x.args.length ac)), (84, (.int .i64 ((x.args.length : Nat) : Int))), (85, (.int .i64 ((k : Nat) : Int))), (110, (.agg #[(.bool ((altP o p).nul)), (.slice a110 ((altP o p).fst.length) c110), (.slice d110 ((altP o p).lst.length) f110)]))]) ⟨U 0 rfl, U 4 rfl, U 9 rfl, U 83 rfl, U 84 rfl, U 85 rfl, e110, trivial⟩
     clear U H
     replace Br := (X0.trans X7).keep Br
     replace Bo2 := (X0.trans X7).keep Bo2
     replace Bp := (X0.trans X7).keep Bp
     replace X7 := X0.trans X7
     have hXe := X7
     replace E := E.ext X7
     have hv : ∀ k, ((Value.slice a110 (altP o p).fst.length c110).ownBlock = some k ∨ (Value.slice d110 (altP o p).lst.length f110).ownBlock = some k) → wp.heap.size ≤ k ∧ k < (w7).heap.size := fun k h => by rw [← hz0]; exact h.elim (fun h => O110.lt k h) (fun h => Q110.lt k h)
     have hG4 := G2.frzS hXe hv
     have hA4 := And.intro (hA2.1.frzS hbl2.1 hv) (hA2.2.frzS hbl2.2 hv)
     have hq1 := frI_of (F := F2) O110 (fun k h => (.inl h : _ ∨ (Value.slice d110 (altP o p).lst.length f110).ownBlock = some k))
     have hq2 := frI_of (F := F2) Q110 (fun k h => (.inr h : (Value.slice a110 (altP o p).fst.length c110).ownBlock = some k ∨ _))
     refine s_storeAgg (b := bo) (o := 0) (c' := #[(.bool ((altP o p).nul)), (.slice a110 ((altP o p).fst.length) c110), (.slice d110 ((altP o p).lst.length) f110)]) rfl rfl (by simp [Value.oneCell']) siz130 rfl Bo2 (by first | (simp; done) | exact Nat.le_of_ble_eq_true rfl) rfl ?_
     intro w8 S8
     replace hG4 := hG4.other S8.chg (fun y e => by rw [show y = bo from e]; exact ⟨by omega, hA4.1⟩)
     replace hq1 := hq1.chg S8.chg (fun y hy e => by rw [show y = bo from e] at hy; exact hA4.1.1 hy)
     replace hq2 := hq2.chg S8.chg (fun y hy e => by rw [show y = bo from e] at hy; exact hA4.1.1 hy)
     replace Br := S8.keep (by omega) Br
     replace Bp := S8.keep (by omega) Bp
     replace E := S8.step E (by first | exact Or.inl (by omega) | exact Or.inr rfl | exact Or.inr (by assumption) | exact Or.inr (by simp) | exact Or.inr (by omega) | exact Or.inr (by dsimp only; omega))
     replace Bo2 := S8.blk
     refine WpL_nil (inB_normal (thn_normal (Wp_region ?_)))
     refine qV (r_add (k := .i64) (a := (k : Int)) (b := 1) (c := (k : Int) + 1) rfl rfl (wI64 (by omega))) ?_
     refine qM (I6 ((k : Int) + 1)) rfl ?_
     refine WpL_nil (thn_normal ?_)
     exact ⟨x.args.length - (k + 1), by omega, k + 1, g2, altP o p, _, s2, f2, v2, a110, c110, d110, f110, Fits.out ⟨rfl, rfl, rfl, rfl, rfl, rfl, trivial⟩, E, Br, Bo2, (by omega), (by rw [hQ, h2]; rfl), hS.alt hok (by omega), hG4, hq1, hq2, hA4, rfl⟩
   ·have khon := hon
    have Bo2 := Bo
    rw [hon] at Bo2
    have hnu : (altP o p).nul = p.nul := by simp [altP, hon]
    have hz_9 : w0.heap.size ≤ wp.heap.size := E.size
    have lz_9_br : br < wp.heap.size := Br.lt
    have lz_9_bo : bo < wp.heap.size := Bo2.lt
    have lz_9_bp : bp < wp.heap.size := Bp.lt
    obtain ⟨Fs9, hFs9⟩ : ∃ Fs : List FctS, Fs = [(eF (P6 bo 0)), (eF (.bool false)), (eF (.bool false)), (eF (P6 bp 0)), (eF (.bool p.nul)), (eF (.bool p.nul)), (eF (P6 bo 1)), (eF (.slice oa o.fst.length oc)), (eF (P6 bp 1)), (eF (.slice pa p.fst.length pc)), (fun _ _ => litQ 22 (.slice oa o.fst.length oc) (.slice pa p.fst.length pc)), (fun _ _ => catQn (altP o p).fst z0), (eF (P6 bo 2)), (eF (.slice oa2 o.lst.length oc2)), (eF (P6 bp 2)), (eF (.slice pa2 p.lst.length pc2)), (fun _ _ => litQ 22 (.slice oa2 o.lst.length oc2) (.slice pa2 p.lst.length pc2)), (fun _ _ => catQn (altP o p).lst z0), (fun _ _ => altQ (altP o p).nul (altP o p).fst (altP o p).lst z0), (eF undef)] := ⟨_, rfl⟩
    refine Wp_dagS (MsL []) [true, true, true, true, true, true, true, true, true, true, true, true, true, true, true, true, true, true, true, false] [19] [92, 93, 94, 95, 96, 97, 98, 99, 100, 101, 102, 103, 104, 105, 106, 107, 108, 109, 110, 186] [[], [0], [1], [2], [2, 3], [2, 4], [], [6], [], [8], [7, 9], [2, 10], [], [12], [], [14], [13, 15], [11, 16], [5, 11, 17], []] [[], [0], [1, 0], [2, 1, 0], [2, 1, 0, 3], [2, 1, 0, 4, 3], [], [6], [], [8], [7, 6, 9, 8], [2, 1, 0, 10, 7, 6, 9, 8], [], [12], [], [14], [13, 12, 15, 14], [11, 2, 1, 0, 10, 7, 6, 9, 8, 16, 13, 12, 15, 14], [5, 2, 1, 0, 4, 3, 11, 10, 7, 6, 9, 8, 17, 16, 13, 12, 15, 14], []] Fs9 hFs9 (by kernel_rfl) mixed (by kernel_rfl) (by kernel_rfl) (by kernel_rfl) (by kernel_rfl) ?_ ?_
    ·intro wd X0
     refine qZ (fun S s' w' hi hN X U V H => ?_) ?_
     ·replace X := xN0 X
      exact DoesT_pure (r_fieldAddr (b := bo) (o := 0) (o' := 0) (U 9 rfl) Tryz.underlying130 rfl siz4 rfl) rfl
     refine qZ (fun S s' w' hi hN X U V H => ?_) ?_
     ·replace X := xN0 X
      have e92 := (H 0 rfl).2 92 _ rfl (by rw [hFs9]; rfl)
      exact DoesT_pure (r_load (v := (.bool false)) e92 flat4 (((X0.trans X).keep Bo2).cell rfl)) rfl
     refine qZ (fun S s' w' hi hN X U V H => ?_) ?_
     ·replace X := xN0 X
      have e93 := (H 1 rfl).2 93 _ rfl (by rw [hFs9]; rfl)
      exact DoesT_pure (r_move (v := (.bool false)) e93) rfl
     refine DagStepsS.cons (StabS.eq) (LocS.const) (fun S s' w' hi hN X U V H => Or.inl ⟨Guarded_some rfl rfl (d := 94) ((H 2 rfl).2 94 (eF (.bool false)) rfl (by rw [hFs9]; rfl)), ?_⟩) ?_
     ·replace X := xN0 X
      exact DoesT_pure (r_fieldAddr (b := bp) (o := 0) (o' := 0) (U 12 rfl) Tryz.underlying130 rfl siz4 rfl) rfl
     refine DagStepsS.cons (StabS.eq) (LocS.const) (fun S s' w' hi hN X U V H => Or.inl ⟨Guarded_some rfl rfl (d := 94) ((H 2 rfl).2 94 (eF (.bool false)) rfl (by rw [hFs9]; rfl)), ?_⟩) ?_
     ·replace X := xN0 X
      have e95 := (H 3 rfl).2 95 _ rfl (by rw [hFs9]; rfl)
      exact DoesT_pure (r_load (v := (.bool p.nul)) e95 flat4 (((X0.trans X).keep Bp).cell rfl)) rfl
     refine qZ (fun S s' w' hi hN X U V H => ?_) ?_
     ·replace X := xN0 X
      have e94 := (H 2 rfl).2 94 _ rfl (by rw [hFs9]; rfl)
      have e96 := (H 4 rfl).2 96 _ rfl (by rw [hFs9]; rfl)
      exact DoesT_pure (r_pick (b := false) (v := (.bool p.nul)) e94 e96) rfl
     refine qZ (fun S s' w' hi hN X U V H => ?_) ?_
     ·replace X := xN0 X
      exact DoesT_pure (r_fieldAddr (b := bo) (o := 0) (o' := 1) (U 9 rfl) Tryz.underlying130 rfl siz22 rfl) rfl
     refine qZ (fun S s' w' hi hN X U V H => ?_) ?_
     ·replace X := xN0 X
      have e98 := (H 6 rfl).2 98 _ rfl (by rw [hFs9]; rfl)
      exact DoesT_pure (r_load (v := (.slice oa o.fst.length oc)) e98 flat22 (((X0.trans X).keep Bo2).cell rfl)) rfl
     refine qZ (fun S s' w' hi hN X U V H => ?_) ?_
     ·replace X := xN0 X
      exact DoesT_pure (r_fieldAddr (b := bp) (o := 0) (o' := 1) (U 12 rfl) Tryz.underlying130 rfl siz22 rfl) rfl
     refine qZ (fun S s' w' hi hN X U V H => ?_) ?_
     ·replace X := xN0 X
      have e100 := (H 8 rfl).2 100 _ rfl (by rw [hFs9]; rfl)
      exact DoesT_pure (r_load (v := (.slice pa p.fst.length pc)) e100 flat22 (((X0.trans X).keep Bp).cell rfl)) rfl
     refine DagStepsS.cons (StabS.chg (U := none1) (litQ_ext _ _ _) (fun p y hp hw h => by
        exact h.elim)) (LocS.const) (fun S s' w' hi hN X U V H => Or.inl ⟨Guarded_none rfl, ?_⟩) ?_
     ·replace X := xN0 X
      have e99 := (H 7 rfl).2 99 _ rfl (by rw [hFs9]; rfl)
      have e101 := (H 9 rfl).2 101 _ rfl (by rw [hFs9]; rfl)
      exact DoesT_lit2q Tryz.underlying49 siz22 zer22 e99 e101 (by decide) (by decide) (by kernel_rfl)
     refine DagStepsS.cons (StabS.chg (U := none1) (catQ_ext _ _) (fun p y hp hw h => by
        exact h.elim)) (LocS.const) (fun S s' w' hi hN X U V H => Or.inl ⟨Guarded_none rfl, ?_⟩) ?_
     ·replace X := xN0 X
      obtain ⟨b102, e102, B102⟩ := (show ((fun _ _ => litQ 22 (.slice oa o.fst.length oc) (.slice pa p.fst.length pc)) : FctS) S s' (s' 102) w' from (H 10 rfl).2 102 (fun _ _ => litQ 22 (.slice oa o.fst.length oc) (.slice pa p.fst.length pc)) rfl (by rw [hFs9]; rfl))
      exact DoesT_callE (r_callF (vs := [(.slice (some ⟨b102, 0, none⟩) 2 2)]) Tryz.func47 kQ kQ (lst1 e102)) (concatQ_c _ z0 b102 _ _ o.fst p.fst (altP o p).fst rfl B102 (ho1.1.ext (X0.trans X)) (hp1.1.ext (X0.trans X)) (by have := hch.2.2.1; have := hch.2.2.2.1; omega) (by have := X0.size; have := X.size; omega))
     refine qZ (fun S s' w' hi hN X U V H => ?_) ?_
     ·replace X := xN0 X
      exact DoesT_pure (r_fieldAddr (b := bo) (o := 0) (o' := 2) (U 9 rfl) Tryz.underlying130 rfl siz22 rfl) rfl
     refine qZ (fun S s' w' hi hN X U V H => ?_) ?_
     ·replace X := xN0 X
      have e104 := (H 12 rfl).2 104 _ rfl (by rw [hFs9]; rfl)
      exact DoesT_pure (r_load (v := (.slice oa2 o.lst.length oc2)) e104 flat22 (((X0.trans X).keep Bo2).cell rfl)) rfl
     refine qZ (fun S s' w' hi hN X U V H => ?_) ?_
     ·replace X := xN0 X
      exact DoesT_pure (r_fieldAddr (b := bp) (o := 0) (o' := 2) (U 12 rfl) Tryz.underlying130 rfl siz22 rfl) rfl
     refine qZ (fun S s' w' hi hN X U V H => ?_) ?_
     ·replace X := xN0 X
      have e106 := (H 14 rfl).2 106 _ rfl (by rw [hFs9]; rfl)
      exact DoesT_pure (r_load (v := (.slice pa2 p.lst.length pc2)) e106 flat22 (((X0.trans X).keep Bp).cell rfl)) rfl
     refine DagStepsS.cons (StabS.chg (U := none1) (litQ_ext _ _ _) (fun p y hp hw h => by
        exact h.elim)) (LocS.const) (fun S s' w' hi hN X U V H => Or.inl ⟨Guarded_none rfl, ?_⟩) ?_
     ·replace X := xN0 X
      have e105 := (H 13 rfl).2 105 _ rfl (by rw [hFs9]; rfl)
      have e107 := (H 15 rfl).2 107 _ rfl (by rw [hFs9]; rfl)
      exact DoesT_lit2q Tryz.underlying49 siz22 zer22 e105 e107 (by decide) (by decide) (by kernel_rfl)
     refine DagStepsS.cons (StabS.chg (U := none1) (catQ_ext _ _) (fun p y hp hw h => by
        exact h.elim)) (LocS.const) (fun S s' w' hi hN X U V H => Or.inl ⟨Guarded_none rfl, ?_⟩) ?_
     ·replace X := xN0 X
      obtain ⟨b108, e108, B108⟩ := (show ((fun _ _ => litQ 22 (.slice oa2 o.lst.length oc2) (.slice pa2 p.lst.length pc2)) : FctS) S s' (s' 108) w' from (H 16 rfl).2 108 (fun _ _ => litQ 22 (.slice oa2 o.lst.length oc2) (.slice pa2 p.lst.length pc2)) rfl (by rw [hFs9]; rfl))
      exact DoesT_callE (r_callF (vs := [(.slice (some ⟨b108, 0, none⟩) 2 2)]) Tryz.func47 kQ kQ (lst1 e108)) (concatQ_c _ z0 b108 _ _ o.lst p.lst (altP o p).lst rfl B108 (ho2.1.ext (X0.trans X)) (hp2.1.ext (X0.trans X)) (by have := hch.2.2.1; have := hch.2.2.2.1; omega) (by have := X0.size; have := X.size; omega))
     refine DagStepsS.cons (StabS.chg (U := none1) (altQ_ext _ _ _ _) (fun p y hp hw h => by
        exact h.elim)) (LocS.const) (fun S s' w' hi hN X U V H => Or.inl ⟨Guarded_none rfl, ?_⟩) ?_
     ·replace X := xN0 X
      have e97 := (H 5 rfl).2 97 _ rfl (by rw [hFs9]; rfl)
      obtain ⟨⟨a103, c103, e103⟩, O103⟩ := (show ((fun _ _ => catQn (altP o p).fst z0) : FctS) S s' (s' 103) w' from (H 11 rfl).2 103 (fun _ _ => catQn (altP o p).fst z0) rfl (by rw [hFs9]; rfl))
      obtain ⟨⟨a109, c109, e109⟩, O109⟩ := (show ((fun _ _ => catQn (altP o p).lst z0) : FctS) S s' (s' 109) w' from (H 17 rfl).2 109 (fun _ _ => catQn (altP o p).lst z0) rfl (by rw [hFs9]; rfl))
      exact DoesT_pure (r_build (ps := [(0, .bool p.nul), (1, .slice a103 (altP o p).fst.length c103), (2, .slice a109 (altP o p).lst.length c109)]) (v := .agg #[.bool p.nul, .slice a103 (altP o p).fst.length c103, .slice a109 (altP o p).lst.length c109]) (bld3 e97 e103 e109) (by kernel_rfl)) ⟨_, _, _, _, by rw [hnu]; rfl, e103 ▸ O103, e109 ▸ O109⟩
     refine DagStepsS.tail ?_
     exact DagStepsS.nil
    ·intro s' wd9 w9 X0 X9 U H
     replace X9 := X9.mono (M' := none1) (fun y _ h => by
       obtain ⟨j, hj, h⟩ := h
       exact h.elim)
     obtain ⟨a110, c110, d110, f110, e110, O110, Q110⟩ := (show ((fun _ _ => altQ (altP o p).nul (altP o p).fst (altP o p).lst z0) : FctS) (allS [true, true, true, true, true, true, true, true, true, true, true, true, true, true, true, true, true, true, true, false]) s' (s' 110) w9 from H 18 rfl 110 (fun _ _ => altQ (altP o p).nul (altP o p).fst (altP o p).lst z0) rfl (by rw [hFs9]; rfl))
     obtain ⟨j9, rfl⟩ := Fits.out (σ := s') (l := [(0, (.pointer (some ⟨pb, 0, none⟩))), (4, (.pointer (some ⟨br, 0, none⟩))), (9, (.pointer (some ⟨bo, 0, none⟩))), (83, (.slice (some ⟨ab, ao, none⟩) x.args.length ac)), (84, (.int .i64 ((x.args.length : Nat) : Int))), (85, (.int .i64 ((k : Nat) : Int))), (110, (.agg #[(.bool ((altP o p).nul)), (.slice a110 ((altP o p).fst.length) c110), (.slice d110 ((altP o p).lst.length) f110)]))]) ⟨U 0 rfl, U 4 rfl, U 9 rfl, U 83 rfl, U 84 rfl, U 85 rfl, e110, trivial⟩
     clear U H
     replace Br := (X0.trans X9).keep Br
     replace Bo2 := (X0.trans X9).keep Bo2
     replace Bp := (X0.trans X9).keep Bp
     replace X9 := X0.trans X9
     have hXe := X9
     replace E := E.ext X9
     have hv : ∀ k, ((Value.slice a110 (altP o p).fst.length c110).ownBlock = some k ∨ (Value.slice d110 (altP o p).lst.length f110).ownBlock = some k) → wp.heap.size ≤ k ∧ k < (w9).heap.size := fun k h => by rw [← hz0]; exact h.elim (fun h => O110.lt k h) (fun h => Q110.lt k h)
     have hG4 := G2.frzS hXe hv
     have hA4 := And.intro (hA2.1.frzS hbl2.1 hv) (hA2.2.frzS hbl2.2 hv)
     have hq1 := frI_of (F := F2) O110 (fun k h => (.inl h : _ ∨ (Value.slice d110 (altP o p).lst.length f110).ownBlock = some k))
     have hq2 := frI_of (F := F2) Q110 (fun k h => (.inr h : (Value.slice a110 (altP o p).fst.length c110).ownBlock = some k ∨ _))
     refine s_storeAgg (b := bo) (o := 0) (c' := #[(.bool ((altP o p).nul)), (.slice a110 ((altP o p).fst.length) c110), (.slice d110 ((altP o p).lst.length) f110)]) rfl rfl (by simp [Value.oneCell']) siz130 rfl Bo2 (by first | (simp; done) | exact Nat.le_of_ble_eq_true rfl) rfl ?_
     intro w10 S10
     replace hG4 := hG4.other S10.chg (fun y e => by rw [show y = bo from e]; exact ⟨by omega, hA4.1⟩)
     replace hq1 := hq1.chg S10.chg (fun y hy e => by rw [show y = bo from e] at hy; exact hA4.1.1 hy)
     replace hq2 := hq2.chg S10.chg (fun y hy e => by rw [show y = bo from e] at hy; exact hA4.1.1 hy)
     replace Br := S10.keep (by omega) Br
     replace Bp := S10.keep (by omega) Bp
     replace E := S10.step E (by first | exact Or.inl (by omega) | exact Or.inr rfl | exact Or.inr (by assumption) | exact Or.inr (by simp) | exact Or.inr (by omega) | exact Or.inr (by dsimp only; omega))
     replace Bo2 := S10.blk
     refine WpL_nil (inB_normal (thn_normal (Wp_region ?_)))
     refine qV (r_add (k := .i64) (a := (k : Int)) (b := 1) (c := (k : Int) + 1) rfl rfl (wI64 (by omega))) ?_
     refine qM (I6 ((k : Int) + 1)) rfl ?_
     refine WpL_nil (thn_normal ?_)
     exact ⟨x.args.length - (k + 1), by omega, k + 1, g2, altP o p, _, s2, f2, v2, a110, c110, d110, f110, Fits.out ⟨rfl, rfl, rfl, rfl, rfl, rfl, trivial⟩, E, Br, Bo2, (by omega), (by rw [hQ, h2]; rfl), hS.alt hok (by omega), hG4, hq1, hq2, hA4, rfl⟩
  ·have khlt := hlt
   replace hlt := of_decide_eq_false hlt
   have hkk : k = x.args.length := by omega
   refine Wp_exit (thn_exit (thn_exit (inB_here (thn_normal (Wp_seq_region ?_)))))
   refine qV (r_loadAgg (vs := [(.bool o.nul), (.slice oa o.fst.length oc), (.slice oa2 o.lst.length oc2)]) rfl agg130 siz130 rfl (Bo.cells rfl)) ?_
   refine s_storeAgg (b := br) (o := 0) (c' := #[(.bool o.nul), (.slice oa o.fst.length oc), (.slice oa2 o.lst.length oc2)]) rfl rfl (by simp [Value.oneCell']) siz130 rfl Br (by first | (simp; done) | exact Nat.le_of_ble_eq_true rfl) rfl ?_
   intro w11 S11
   replace hGk := hGk.other S11.chg (fun y e => by rw [show y = br from e]; exact ⟨by omega, hA.2⟩)
   replace ho1 := ho1.chg S11.chg (fun y hy e => by rw [show y = br from e] at hy; exact hA.2.1 hy)
   replace ho2 := ho2.chg S11.chg (fun y hy e => by rw [show y = br from e] at hy; exact hA.2.1 hy)
   replace Bo := S11.keep (by omega) Bo
   replace E := S11.step E (by first | exact Or.inl (by omega) | exact Or.inr rfl | exact Or.inr (by assumption) | exact Or.inr (by simp) | exact Or.inr (by omega) | exact Or.inr (by dsimp only; omega))
   replace Br := S11.blk
   refine WpL_nil (Wp_ret (inB_ret (thn_ret (finX_ret ?_))))
   refine fin_agg Tryz.results93 (vs := [(.bool o.nul), (.slice oa o.fst.length oc), (.slice oa2 o.lst.length oc2)]) (b := br) rfl agg130 siz130 rfl (Br.cells rfl) ?_
   exact ⟨_, o, _, _, _, _, by rw [gk_4 hk, hQ, hkk, List.drop_length]; rfl, ⟨_, _, _, _, rfl, ho1, ho2⟩, hGk⟩
end Go.Proofs
namespace Go.Proofs
open Go Go.Eng Go.Sort
set_option maxRecDepth 100000
theorem bitsLenI_c (w0 : World) : Ret Tryz.prog 87 #[.int .u64 0] w0 fun v w => v = .int .i64 (Lib.bitLen 0 : Nat) ∧ Ext w0 w :=
 (Any.bits_Len (P := Tryz.prog) (ρ := Tryz.sortI_ren) { Tryz.sortI with } 0 w0 (by omega) (by omega)).mono fun _ _ ⟨he, hw⟩ => ⟨_, he, rfl, by rw [hw]; exact Ext.refl _⟩
theorem ins0I_c (w0 : World) (a : Option Addr) (c : Nat) : Ret Tryz.prog 167 #[.slice a 0 c, .int .i64 0, .int .i64 0] w0 fun v w => v = .tuple #[] ∧ Ext w0 w := by
 refine Ret_of Tryz.func167 rfl Tryz.ntmps167 (Nat.le_of_ble_eq_true rfl) ?_
 have E : Chg none1 w0 w0 := Chg.refl _ _
 refine Wp_seq_region ?_
 refine qM (I6 0) rfl ?_
 refine qV (r_add (k := .i64) (a := 0) (b := 1) (c := 1) rfl rfl (by decide)) ?_
 refine qA (I6 1) rfl ?_
 refine WpL_nil (Wp_block ?_)
 refine Wp_loop (fun nn_ σ W1 => (∃ jj_, σ = upds jj_ [(0, (.slice a 0 c)), (1, (I6 0)), (2, (I6 0)), (6, (I6 1))]) ∧ Chg none1 w0 W1 ∧ nn_ = (0 : Nat)) (n := (0 : Nat)) ?_ ?_
 ·exact ⟨Fits.out ⟨rfl, rfl, rfl, rfl, trivial⟩, E, rfl⟩
 ·clear E
  rintro _ _ W1 ⟨⟨j1, rfl⟩, E, rfl⟩
  refine Wp_seq (Wp_seq_region ?_)
  refine qM (I6 1) rfl ?_
  refine qM (I6 0) rfl ?_
  refine qV (r_lss (k := .i64) (a := 1) (b := 0) rfl rfl) ?_
  refine WpL_nil ?_
  refine Wp_cond_false rfl ?_
  refine Wp_exit (thn_exit (thn_exit (inB_here ?_)))
  refine fin_none Tryz.results167 ?_
  exact ⟨rfl, E⟩
theorem pdq0I_c (w0 : World) (a : Option Addr) (c : Nat) (n : Int) : Ret Tryz.prog 147 #[.slice a 0 c, .int .i64 0, .int .i64 0, .int .i64 n] w0 fun v w => v = .tuple #[] ∧ Ext w0 w := by
 refine Ret_of Tryz.func147 rfl Tryz.ntmps147 (Nat.le_of_ble_eq_true rfl) ?_
 have E : Chg none1 w0 w0 := Chg.refl _ _
 refine Wp_seq_region ?_
 refine qA (.bool true) rfl ?_
 refine WpL_nil (Wp_seq_region ?_)
 refine qA (.bool true) rfl ?_
 refine WpL_nil (Wp_block ?_)
 refine Wp_loop (fun nn_ σ W1 => (∃ jj_, σ = upds jj_ [(0, (.slice a 0 c)), (1, (I6 0)), (2, (I6 0))]) ∧ Chg none1 w0 W1 ∧ nn_ = (0 : Nat)) (n := (0 : Nat)) ?_ ?_
 ·exact ⟨Fits.out ⟨rfl, rfl, rfl, trivial⟩, E, rfl⟩
 ·clear E
  rintro _ _ W1 ⟨⟨j1, rfl⟩, E, rfl⟩
  refine Wp_block (Wp_seq_region ?_)
  refine qM (I6 0) rfl ?_
  refine qM (I6 0) rfl ?_
  refine qV (r_sub (k := .i64) (a := 0) (b := 0) (c := 0) rfl rfl (by decide)) ?_
  refine qA (I6 0) rfl ?_
  refine WpL_nil (Wp_seq (Wp_seq_region ?_))
  refine qM (I6 0) rfl ?_
  refine qV (r_leq (k := .i64) (a := 0) (b := 12) rfl rfl) ?_
  refine WpL_nil ?_
  refine Wp_cond_true rfl ?_
  refine Wp_seq_region ?_
  refine qM (.slice a 0 c) rfl ?_
  refine qM (I6 0) rfl ?_
  refine qM (I6 0) rfl ?_
  refine WpL_enter rfl rfl (by decide) (r_callF (vs := [(.slice a 0 c), (I6 0), (I6 0)]) Tryz.func167 kQ kQ rfl) (ins0I_c _ a c) ?_
  rintro _ w9 ⟨rfl, X9⟩
  replace E := E.ext X9
  refine WpL_nil (Wp_ret (thn_ret (inB_ret (thn_ret (inB_ret ?_)))))
  refine fin_noneR Tryz.results147 ?_
  exact ⟨rfl, E⟩
theorem sort0I_c (w0 : World) (a : Option Addr) (c : Nat) : Ret Tryz.prog 94 #[.slice a 0 c] w0 fun v w => v = .tuple #[] ∧ Ext w0 w := by
 refine Ret_of Tryz.func94 rfl Tryz.ntmps94 (Nat.le_of_ble_eq_true rfl) ?_
 have E : Chg none1 w0 w0 := Chg.refl _ _
 refine Wp_seq_region ?_
 refine qM (.slice a 0 c) rfl ?_
 refine qV (r_lenSlice (ad := a) (n := 0) (cap := c) Tryz.underlying22 rfl) ?_
 refine qA (I6 0) rfl ?_
 refine WpL_nil (Wp_region ?_)
 refine qM (.slice a 0 c) rfl ?_
 refine qM (I6 0) rfl ?_
 refine qM (I6 0) rfl ?_
 refine qV (r_convInt (k := .i64) (k' := .u64) (n := 0) (c := 0) ⟨_, Tryz.underlying3⟩ Tryz.underlying119 rfl (wU64 (by omega))) ?_
 refine WpL_enter rfl rfl (by decide) (r_callF (vs := [(.int .u64 0)]) Tryz.func87 kQ kQ rfl) (bitsLenI_c _) ?_
 rintro _ w8 ⟨rfl, X8⟩
 replace E := E.ext X8
 refine WpL_enter rfl rfl (by decide) (r_callF (vs := [(.slice a 0 c), (I6 0), (I6 0), (I6 (Lib.bitLen 0 : Nat))]) Tryz.func147 kQ kQ rfl) (pdq0I_c _ a c _) ?_
 rintro _ w9 ⟨rfl, X9⟩
 replace E := E.ext X9
 refine WpL_nil ?_
 refine fin_none Tryz.results94 ?_
 exact ⟨rfl, E⟩
theorem comp0I_c (w0 : World) (a : Option Addr) (c : Nat) : Ret Tryz.prog 95 #[.slice a 0 c] w0 fun v w => v = .slice a 0 c ∧ Ext w0 w := by
 refine Ret_of Tryz.func95 rfl Tryz.ntmps95 (Nat.le_of_ble_eq_true rfl) ?_
 have E : Chg none1 w0 w0 := Chg.refl _ _
 refine Wp_seq_region ?_
 refine qA (.slice none 0 0) rfl ?_
 refine WpL_nil (Wp_seq (Wp_seq_region ?_))
 refine qM (.slice a 0 c) rfl ?_
 refine qV (r_lenSlice (ad := a) (n := 0) (cap := c) Tryz.underlying22 rfl) ?_
 refine qV (r_lss (k := .i64) (a := 0) (b := 2) rfl rfl) ?_
 refine WpL_nil ?_
 refine Wp_cond_true rfl ?_
 refine Wp_seq_region ?_
 refine qM (.slice a 0 c) rfl ?_
 refine qA (.slice a 0 c) rfl ?_
 refine WpL_nil (Wp_ret (thn_ret ?_))
 refine fin_tmp Tryz.results95 (v := (.slice a 0 c)) rfl ?_
 exact ⟨rfl, E⟩
/-- Sorted numbers in memory of one's own, or none. -/
def SrtAt (base : Nat) (w : World) (v : Value) (l : List Int) : Prop := ∃ a c, v = .slice a l.length c ∧ (l = [] ∨ ∃ g, a = some ⟨g, 0, none⟩ ∧ base ≤ g ∧ g < w.heap.size ∧ Sort.Holds (Value.int .i64) w g 0 l.toArray ∧ l.length ≤ c ∧ c ≤ 9223372036854775807)
theorem sortW_c (w0 : World) (base n : Nat) (a : Option Addr) (c : Nat) (l : List Int) (hn : n = l.length) (h : l = [] ∨ w0.ownsRow base TDI 1 (.slice a n c) n (l.map (Value.int .i64))) (hl : n ≤ 17592186044416) :
  Ret Tryz.prog 94 #[.slice a n c] w0 fun r w => r = .tuple #[] ∧ SrtAt base w (.slice a n c) (l.mergeSort leB) ∧ Chg (fun x => l ≠ [] ∧ (Value.slice a n c).ownBlock = some x) w0 w := by
 subst hn
 have hlen : (l.mergeSort leB).length = l.length := List.length_mergeSort _
 rcases Classical.em (l = []) with h0 | h0
 ·subst h0
  exact (sort0I_c w0 a c).mono fun v w ⟨h1, h2⟩ => ⟨h1, ⟨a, c, by rw [hlen], .inl (by simp)⟩, Ext.chg h2⟩
 ·have h := h.resolve_left h0
  rcases h.2 with ⟨_, h1⟩ | ⟨g, cap, cur, hv, hbg, hg, hnc, hcm, hcs, htake⟩
  ·exact absurd (List.eq_nil_of_length_eq_zero (by simpa using h1)) h0
  ·simp only [Value.slice.injEq] at hv
   obtain ⟨rfl, _, rfl⟩ := hv
   have hgl := (h.lt g rfl).2
   refine (sorti_h w0 base g c l h hl).mono ?_
   rintro r w ⟨rfl, hH, hC⟩
   refine ⟨rfl, ⟨_, _, by rw [hlen], .inr ⟨g, rfl, hbg, Nat.lt_of_lt_of_le hgl hC.size, hH, by rw [hlen]; exact hnc, by unfold maxLen at hcm; omega⟩⟩, hC.mono fun x _ hx => ⟨h0, by have e : x = g := hx; rw [e]; rfl⟩⟩
theorem compW_c (w0 : World) (base : Nat) (v : Value) (l : List Int) (h : SrtAt base w0 v l) :
  Ret Tryz.prog 95 #[v] w0 fun r w => (∃ a c, r = .slice a (Lib.compact l).length c ∧ IntsAt w (.slice a (Lib.compact l).length c) (Lib.compact l) ∧ (Lib.compact l = [] ∨ ∃ b, (Value.slice a (Lib.compact l).length c).ownBlock = some b ∧ base ≤ b ∧ b < w.heap.size)) ∧ Chg (fun x => l ≠ [] ∧ v.ownBlock = some x) w0 w := by
 obtain ⟨a, c, rfl, h⟩ := h
 rcases Classical.em (l = []) with h0 | h0
 ·subst h0
  refine (comp0I_c w0 a c).mono ?_
  rintro r w ⟨rfl, x⟩
  exact ⟨⟨a, c, rfl, SlAt.nil w 1 _ _, .inl rfl⟩, Ext.chg x⟩
 ·obtain ⟨g, rfl, hb, hg, hH, hc⟩ := h.resolve_left h0
  refine (compi_c w0 g c l hH hc).mono ?_
  rintro r w ⟨rfl, hI, hC⟩
  exact ⟨⟨_, c, rfl, hI, .inr ⟨g, rfl, hb, Nat.lt_of_lt_of_le hg hC.size⟩⟩, hC.mono fun x _ hx => ⟨h0, by have e : x = g := hx; rw [e]; rfl⟩⟩
theorem cloneX_c (w0 : World) (base b o c : Nat) (l : List Int) (hbase : base = w0.heap.size) (h1 : 0 < l.length) (hl : l.length ≤ 2000000) (hcl : ∀ (i : Nat) x, l[i]? = some x → w0.cell? ⟨b, o + i, none⟩ = some (.int .i64 x)) :
  Ret Tryz.prog 96 #[.slice (some ⟨b, o, none⟩) l.length c] w0 fun r w => (∃ a c, r = .slice a l.length c ∧ (l = [] ∨ w.ownsRow base TDI 1 (.slice a l.length c) l.length (l.map (Value.int .i64)))) ∧ Ext w0 w := by
 refine Ret_of Tryz.func96 rfl Tryz.ntmps96 (Nat.le_of_ble_eq_true rfl) ?_
 have E : Chg none1 w0 w0 := Chg.refl _ _
 refine Wp_seq_region ?_
 refine qA (.slice none 0 0) rfl ?_
 refine WpL_nil (Wp_seq (Wp_seq_region ?_))
 refine qM (.slice (some ⟨b, o, none⟩) l.length c) rfl ?_
 refine WpL_val (v := (.bool ((some (⟨b, o, none⟩ : Addr)).isNone))) rfl rfl (by decide) (r_eqlNil Tryz.underlying22 rfl rfl) ?_
 refine WpL_nil ?_
 have hc1 : ((some (⟨b, o, none⟩ : Addr)).isNone) = false := rfl
 refine Wp_cond_false (congrArg Value.bool hc1) ?_
 refine Wp_skip (thn_normal (Wp_seq_region ?_))
 refine s_build0 (by decide) Tryz.underlying22 siz3 ?_
 intro bq wq Nq
 have Fq := Nq.ge E
 replace E := E.ext Nq.ext
 have Bq := Nq.blk
 refine qM (.slice (some ⟨b, o, none⟩) l.length c) rfl ?_
 have hown := own_empty (base := base) (size := 1) Bq (by omega)
 have hbs : base ≤ wq.heap.size := by have := Nq.ext.size; omega
 refine s_append (base := base) (n := 0) (m := l.length) (xs := []) (news := l.map (Value.int .i64)) (size := 1) (bytes := 8) (v := (.slice (some ⟨bq, 0, none⟩) 0 0)) (by decide) Tryz.underlying22 siz3 byt3 zer3 rfl (by decide) rfl hown rfl (by simp) (fun i u hu => by rw [List.getElem?_map, Option.map_eq_some_iff] at hu; obtain ⟨x, hx, rfl⟩ := hu; exact Nq.ext.cell (hcl i x hx)) (by simp [Value.oneCell']) (by unfold maxLen; omega) (by omega) (hbs) ?_
 intro v9 w29 Ov9 Cv9 Dv9
 replace E := E.step Cv9 (fun x hx h => absurd (hown.lt x h).1 (by omega))
 obtain ⟨la, lc, rfl⟩ := own_form Ov9
 refine qA (.slice la (0 + l.length) lc) rfl ?_
 refine WpL_nil (Wp_ret ?_)
 refine fin_tmp Tryz.results96 (v := (.slice la (0 + l.length) lc)) rfl ?_
 simp only [Nat.zero_add, List.nil_append] at Ov9 ⊢
 exact ⟨⟨la, lc, rfl, .inr Ov9⟩, E⟩
/-- A copy. -/
theorem cloneW_c (w0 : World) (v : Value) (l : List Int) (h : IntsAt w0 v l) (hl : l.length ≤ 2000000) :
  Ret Tryz.prog 96 #[v] w0 fun r w => (∃ a c, r = .slice a l.length c ∧ (l = [] ∨ w.ownsRow w0.heap.size TDI 1 (.slice a l.length c) l.length (l.map (Value.int .i64)))) ∧ Ext w0 w := by
 rcases Classical.em (l = []) with h0 | h0
 ·refine (clonei_c w0 v l h hl).mono ?_
  rintro r w ⟨a, c, rfl, _, _, x⟩
  exact ⟨⟨a, c, rfl, .inl h0⟩, x⟩
 ·have h1 := List.length_pos_iff.2 h0
  obtain ⟨a, c, rfl⟩ := SlAt.form h
  rw [List.length_map] at h ⊢
  obtain ⟨base, hbase⟩ : ∃ base, base = w0.heap.size := ⟨_, rfl⟩
  rw [← hbase]
  obtain ⟨b, o, rfl, hcl⟩ := ints_cells h h1
  exact cloneX_c w0 base b o c l hbase h1 hl hcl
end Go.Proofs
namespace Go.Proofs
open Go Go.Eng Go.Sort
set_option maxRecDepth 100000
--BEGIN
def ClosedE (eps : List (Int × Int)) (K : List Int) : Prop := ∀ p ∈ eps, p.1 ∈ K → p.2 ∈ K
def FreeOf (eps : List (Int × Int)) (I : Int → Prop) (r : List Int) : Prop := r.Pairwise (· < ·) ∧ ∀ s, s ∈ r ↔ cloP eps I s
theorem FreeOf.uniq {eps : List (Int × Int)} {I : Int → Prop} {r q : List Int} (h : FreeOf eps I r) (k : FreeOf eps I q) : r = q := lt_unique h.1 k.1 fun s => (h.2 s).trans (k.2 s).symm
structure FrK (eps : List (Int × Int)) (N : Nat) (I : Int → Prop) (K : List Int) : Prop where
 nd : K.Nodup
 sub : ∀ s ∈ K, 0 ≤ s ∧ s < (N : Int)
 ini : ∀ s, I s → s ∈ K
 clo : ∀ s ∈ K, cloP eps I s
theorem mem_addK {K : List Int} {k s : Int} : s ∈ addK K k ↔ s ∈ K ∨ s = k := by
 unfold addK
 split
 ·rename_i h
  exact ⟨.inl, fun h1 => h1.elim id fun e => by rw [e]; simpa using h⟩
 ·simp
theorem addK_nd {K : List Int} {k : Int} (h : K.Nodup) : (addK K k).Nodup := by
 unfold addK
 split
 ·exact h
 ·rename_i h1
  refine List.nodup_append.2 ⟨h, by simp, fun x hx z hz => ?_⟩
  rw [List.mem_singleton] at hz
  subst hz
  intro e
  subst e
  exact h1 (by simpa using hx)
theorem addK_len {K : List Int} {k : Int} : K.length ≤ (addK K k).length ∧ ((addK K k).length = K.length → addK K k = K ∧ k ∈ K) := by
 unfold addK
 split
 ·rename_i h
  exact ⟨Nat.le_refl _, fun _ => ⟨rfl, by simpa using h⟩⟩
 ·rw [List.length_append, List.length_singleton]
  exact ⟨by omega, fun h => by omega⟩
theorem FrK.add {eps : List (Int × Int)} {N : Nat} {I : Int → Prop} {K : List Int} (h : FrK eps N I K) {p : Int × Int} (hp : p ∈ eps) (h1 : p.1 ∈ K) (h2 : 0 ≤ p.2 ∧ p.2 < (N : Int)) : FrK eps N I (addK K p.2) where
 nd := addK_nd h.nd
 sub := fun s hs => (mem_addK.1 hs).elim (h.sub s) fun e => e ▸ h2
 ini := fun s hs => mem_addK.2 (.inl (h.ini s hs))
 clo := fun s hs => (mem_addK.1 hs).elim (h.clo s) fun e => by
  rw [e]
  exact cloP_step (h.clo p.1 h1) ((EpsR.refl _).tail hp)
/-- One round: what was there, what is there now, how many steps were tried. -/
structure InK (eps : List (Int × Int)) (K0 K : List Int) (j : Nat) : Prop where
 le : K0.length ≤ K.length
 eq : K.length = K0.length → K = K0 ∧ ClosedE (eps.take j) K
 kp : ClosedE eps K0 → K = K0
theorem InK.start (eps : List (Int × Int)) (K : List Int) : InK eps K K 0 := ⟨Nat.le_refl _, fun _ => ⟨rfl, fun p hp => by simp at hp⟩, fun _ => rfl⟩
theorem InK.skip {eps : List (Int × Int)} {K0 K : List Int} {j : Nat} {p : Int × Int} (h : InK eps K0 K j) (hp : eps[j]? = some p) (hn : p.1 ∉ K) : InK eps K0 K (j + 1) :=
 ⟨h.le, fun e => ⟨(h.eq e).1, fun q hq h1 => by
  rw [take_snoc hp, List.mem_append, List.mem_singleton] at hq
  rcases hq with hq | rfl
  ·exact (h.eq e).2 q hq h1
  ·exact absurd h1 hn⟩, h.kp⟩
theorem InK.put {eps : List (Int × Int)} {K0 K : List Int} {j : Nat} {p : Int × Int} (h : InK eps K0 K j) (hp : eps[j]? = some p) (h1 : p.1 ∈ K) : InK eps K0 (addK K p.2) (j + 1) := by
 have hl := addK_len (K := K) (k := p.2)
 refine ⟨Nat.le_trans h.le hl.1, fun e => ?_, fun hc => ?_⟩
 ·have h2 := hl.2 (by have := h.le; omega)
  have h3 := h.eq (by rw [h2.1] at e; exact e)
  rw [h2.1]
  refine ⟨h3.1, fun q hq h4 => ?_⟩
  rw [take_snoc hp, List.mem_append, List.mem_singleton] at hq
  rcases hq with hq | rfl
  ·exact h3.2 q hq h4
  ·exact h2.2
 ·have h2 := h.kp hc
  have h3 : p.2 ∈ K := by rw [h2] at h1 ⊢; exact hc p (List.mem_of_getElem? hp) h1
  have h4 : addK K p.2 = K := by unfold addK; rw [if_pos (by simpa using h3)]
  rw [h4]; exact h2
theorem InK.done {eps : List (Int × Int)} {K0 K : List Int} {j k : Nat} (h : InK eps K0 K j) (hj : eps.length ≤ j) (hc : ClosedE eps K0 ∨ k ≤ K0.length) : ClosedE eps K ∨ k + 1 ≤ K.length := by
 have hle := h.le
 rcases Nat.lt_or_ge K0.length K.length with h1 | h1
 ·rcases hc with h2 | h2
  ·have := h.kp h2; rw [this] at h1; omega
  ·exact .inr (by omega)
 ·have h2 := (h.eq (by omega)).2
  rw [List.take_of_length_le hj] at h2
  exact .inl h2
theorem full_mem {K : List Int} {N : Nat} (hd : K.Nodup) (hs : ∀ s ∈ K, 0 ≤ s ∧ s < (N : Int)) (hl : N ≤ K.length) {s : Int} (h : 0 ≤ s ∧ s < (N : Int)) : s ∈ K := by
 apply Classical.byContradiction
 intro hn
 have h1 : ((s :: K).map Int.toNat).Nodup := by
  rw [List.nodup_iff_pairwise_ne, List.pairwise_map]
  have h2 : (s :: K).Nodup := List.nodup_cons.2 ⟨hn, hd⟩
  rw [List.nodup_iff_pairwise_ne] at h2
  refine h2.imp_of_mem fun {a b} ha hb hne e => hne ?_
  have ra : 0 ≤ a := by rcases List.mem_cons.1 ha with rfl | ha; exact h.1; exact (hs a ha).1
  have rb : 0 ≤ b := by rcases List.mem_cons.1 hb with rfl | hb; exact h.1; exact (hs b hb).1
  omega
 have h3 := seen_len (n := N) h1 fun i hi => by
  obtain ⟨a, ha, rfl⟩ := List.mem_map.1 hi
  rcases List.mem_cons.1 ha with rfl | ha
  ·omega
  ·have := hs a ha; omega
 simp at h3
 omega
theorem FrK.fin {eps : List (Int × Int)} {N : Nat} {I : Int → Prop} {K : List Int} (h : FrK eps N I K) (hc : ClosedE eps K ∨ N ≤ K.length) (hp : ∀ p ∈ eps, 0 ≤ p.2 ∧ p.2 < (N : Int)) (s : Int) : s ∈ K ↔ cloP eps I s := by
  refine ⟨h.clo s, ?_⟩
  have hcl : ClosedE eps K := hc.elim id fun hl p hpm _ => full_mem h.nd h.sub hl (hp p hpm)
  rintro ⟨a, ha, hr⟩
  induction hr with
  | refl => exact h.ini _ ha
  | tail _ he ih => exact hcl _ he ih
--END
end Go.Proofs
