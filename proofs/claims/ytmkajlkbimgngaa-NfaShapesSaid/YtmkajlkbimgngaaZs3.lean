/- Contracts and plain lemmas, part 3. -/
import Derived.Tactics
import Derived.Deep.Quiet
import Derived.Laws.AppendOwn
import Derived.KernelRfl
import Derived.Laws.Entries
import Derived.Laws.Build
import Derived.Below
import Derived.RowKit3
import Derived.StillTail
import Derived.Sort.Grow
import Derived.Deep.Draws
import Derived.Test.YtmkajlkbimgngaaChecked
import Derived.Laws.StructEq
import Derived.MapKept
import Derived.Laws.BytesArg
import Derived.Defers
import Derived.Recover
import Derived.Test.YtmkajlkbimgngaaZs2
namespace Go.Proofs
open Go Go.Eng Go.Sort
set_option maxRecDepth 100000
abbrev TTh : Nat := 78
abbrev nI (n : Nat) : Value := .int .i64 ((n : Nat) : Int)
theorem slAt_keep {M : Nat → Prop} {w w' : World} {k : Nat} {v : Value} {rows : List (List Value)} (h : SlAt w k v rows) (c : Chg M w w') (hM : rows = [] ∨ ∃ b, v.ownBlock = some b ∧ ¬ M b) : SlAt w' k v rows := by
 obtain ⟨a, cap, hv, hl, hc, h⟩ := h
 refine ⟨a, cap, hv, hl, hc, ?_⟩
 rcases h with h | ⟨b, o, ha, h⟩
 ·exact .inl h
 ·rcases hM with hM | ⟨b', hb', hM⟩
  ·exact .inl hM
  ·rw [hv, ha] at hb'
   cases hb'
   exact .inr ⟨b, o, ha, fun i r hr => (h i r hr).chg c hM⟩
/-- An edge whose set lies in a block of F. -/
def EdF (F : Nat → Prop) (w : World) (e : Ed) (row : List Value) : Prop := ∃ u, row = edRow e u ∧ SpansAt w u e.2.2 ∧ (e.2.2 = [] ∨ ∃ b, u.ownBlock = some b ∧ F b)
theorem EdF.chg {F M : Nat → Prop} {w w' : World} {e : Ed} {row : List Value} (h : EdF F w e row) (c : Chg M w w') (hM : ∀ y, F y → ¬ M y) : EdF F w' e row := by
 obtain ⟨u, h1, h2, h3⟩ := h
 refine ⟨u, h1, slAt_keep h2 c ?_, h3⟩
 rcases h3 with h3 | ⟨b, h3, h4⟩
 ·exact .inl (by rw [h3]; rfl)
 ·exact .inr ⟨b, h3, hM b h4⟩
theorem EdF.mono {F F' : Nat → Prop} {w : World} {e : Ed} {row : List Value} (h : EdF F w e row) (hF : ∀ y, F y → F' y) : EdF F' w e row := by
 obtain ⟨u, h1, h2, h3⟩ := h
 exact ⟨u, h1, h2, h3.imp id fun ⟨b, h4, h5⟩ => ⟨b, h4, hF b h5⟩⟩
def EdsF (F : Nat → Prop) (w : World) (es : List Ed) (rows : List (List Value)) : Prop := rows.length = es.length ∧ ∀ (i : Nat) e row, es[i]? = some e → rows[i]? = some row → EdF F w e row
theorem EdsF.chg {F M : Nat → Prop} {w w' : World} {es : List Ed} {rows : List (List Value)} (h : EdsF F w es rows) (c : Chg M w w') (hM : ∀ y, F y → ¬ M y) : EdsF F w' es rows := ⟨h.1, fun i e row h1 h2 => (h.2 i e row h1 h2).chg c hM⟩
theorem EdsF.mono {F F' : Nat → Prop} {w : World} {es : List Ed} {rows : List (List Value)} (h : EdsF F w es rows) (hF : ∀ y, F y → F' y) : EdsF F' w es rows := ⟨h.1, fun i e row h1 h2 => (h.2 i e row h1 h2).mono hF⟩
theorem EdsF.snoc {F : Nat → Prop} {w : World} {es : List Ed} {rows : List (List Value)} {e : Ed} {row : List Value} (h : EdsF F w es rows) (hr : EdF F w e row) : EdsF F w (es ++ [e]) (rows ++ [row]) := by
 refine ⟨by simp [h.1], fun i x y hx hy => ?_⟩
 rcases Nat.lt_or_ge i es.length with hi | hi
 ·rw [List.getElem?_append_left hi] at hx
  rw [List.getElem?_append_left (by have := h.1; omega)] at hy
  exact h.2 i x y hx hy
 ·have := lt_of_get hx
  simp at this
  obtain rfl : i = es.length := by omega
  rw [List.getElem?_append_right (Nat.le_refl _), Nat.sub_self] at hx
  rw [← h.1, List.getElem?_append_right (Nat.le_refl _), Nat.sub_self] at hy
  simp at hx hy
  subst hx; subst hy
  exact hr
/-- An automaton that is being built. -/
structure TSt (F : Nat → Prop) (w : World) (base pb : Nat) (pv xv : Value) (s : ThS) : Prop where
 blk : Blk w pb #[nI s.n, .int .i64 0, .slice none 0 0, pv, xv] TTh
 eps : w.ownsRow base TPr 2 pv s.eps.length (s.eps.map spanV).flatten
 edg : ∃ rows, w.ownsRow base TEd 3 xv s.edges.length rows.flatten ∧ EdsF (fun y => F y ∧ base ≤ y) w s.edges rows
 hpF : ∀ b, pv.ownBlock = some b → ¬ F b
 hxF : ∀ b, xv.ownBlock = some b → ¬ F b
 apt : ∀ b, pv.ownBlock = some b → xv.ownBlock ≠ some b
 hp : ¬ F pb
 pb : pb < base
 bs : base ≤ w.heap.size
 fl : ∀ y, F y → y < w.heap.size
section
variable {F F' F2 M : Nat → Prop} {w0 w w' w2 wb : World} {base pb : Nat} {pv xv pv' xv' pv2 xv2 : Value} {s s' s2 : ThS}
theorem TSt.chg (h : TSt F w base pb pv xv s) (c : Chg M w w') (hM : ∀ y, F y → ¬ M y) (h1 : ¬ M pb) (h2 : ∀ b, pv.ownBlock = some b → ¬ M b) (h3 : ∀ b, xv.ownBlock = some b → ¬ M b) : TSt F w' base pb pv xv s := by
 obtain ⟨rows, h4, h5⟩ := h.edg
 exact ⟨c.keep h1 h.blk, own_chg h.eps c h2, ⟨rows, own_chg h4 c h3, h5.chg c fun y hy => hM y hy.1⟩, h.hpF, h.hxF, h.apt, h.hp, h.pb, Nat.le_trans h.bs c.size, fun y hy => Nat.lt_of_lt_of_le (h.fl y hy) c.size⟩
theorem TSt.ext (h : TSt F w base pb pv xv s) (c : Ext w w') : TSt F w' base pb pv xv s := h.chg c (fun _ _ f => f) (fun f => f) (fun _ _ f => f) fun _ _ f => f
theorem TSt.form (h : TSt F w base pb pv xv s) : (∃ a c, pv = .slice a s.eps.length c) ∧ ∃ a c, xv = .slice a s.edges.length c := by
 obtain ⟨rows, h4, h5⟩ := h.edg
 exact ⟨own_form h.eps, own_form h4⟩
theorem TSt.kept (h : TSt F w base pb pv xv s) {b : Nat} (hb : F b) : ¬ (b = pb ∨ pv.ownBlock = some b ∨ xv.ownBlock = some b) := fun hm => hm.elim (fun e => h.hp (e ▸ hb)) fun e => e.elim (fun e => h.hpF b e hb) fun e => h.hxF b e hb
/-- It grew. -/
structure GrT (F : Nat → Prop) (w0 : World) (base pb : Nat) (pv xv : Value) (F' : Nat → Prop) (pv' xv' : Value) (s' : ThS) (w : World) : Prop where
 sub : ∀ y, F y → F' y
 new : ∀ y, F' y → F y ∨ w0.heap.size ≤ y
 st : TSt F' w base pb pv' xv' s'
 chg : Chg (fun y => y = pb ∨ pv.ownBlock = some y ∨ xv.ownBlock = some y) w0 w
 op : ∀ k, pv'.ownBlock = some k → pv.ownBlock = some k ∨ w0.heap.size ≤ k
 ox : ∀ k, xv'.ownBlock = some k → xv.ownBlock = some k ∨ w0.heap.size ≤ k
theorem GrT.start (h : TSt F w0 base pb pv xv s) : GrT F w0 base pb pv xv F pv xv s w0 := ⟨fun _ h => h, fun _ h => .inl h, h, Chg.refl _ _, fun _ h => .inl h, fun _ h => .inl h⟩
theorem GrT.ext (h : GrT F w0 base pb pv xv F' pv' xv' s' w) (e : Ext w w2) : GrT F w0 base pb pv xv F' pv' xv' s' w2 := ⟨h.sub, h.new, h.st.ext e, h.chg.ext e, h.op, h.ox⟩
/-- A block that is made now, and never written again. -/
theorem GrT.frz (h : GrT F w0 base pb pv xv F' pv' xv' s' w) (e : Ext w w2) {b : Nat} (hb : w.heap.size ≤ b) (hb2 : b < w2.heap.size) : GrT F w0 base pb pv xv (fun y => F' y ∨ y = b) pv' xv' s' w2 := by
 have hs := h.st
 have hpl := hs.blk.lt
 obtain ⟨rows, h3, h4⟩ := hs.edg
 refine ⟨fun y hy => .inl (h.sub y hy), fun y hy => ?_, ⟨e.keep hs.blk, own_ext hs.eps e, ⟨rows, own_ext h3 e, (h4.chg e (fun _ _ f => f)).mono fun y hy => ⟨.inl hy.1, hy.2⟩⟩, fun q hq hf => ?_, fun q hq hf => ?_, hs.apt, fun hf => ?_, hs.pb, Nat.le_trans hs.bs e.size, fun y hy => ?_⟩, h.chg.ext e, h.op, h.ox⟩
 ·rcases hy with hy | hy
  ·exact h.new y hy
  ·have := h.chg.size; exact .inr (by omega)
 ·have := (hs.eps.lt q hq).2
  rcases hf with hf | hf
  ·exact hs.hpF q hq hf
  ·omega
 ·have := (h3.lt q hq).2
  rcases hf with hf | hf
  ·exact hs.hxF q hq hf
  ·omega
 ·rcases hf with hf | hf
  ·exact hs.hp hf
  ·omega
 ·rcases hy with hy | hy
  ·have := hs.fl y hy; have := e.size; omega
  ·omega
theorem GrT.comp (h : GrT F w0 base pb pv xv F' pv' xv' s' w) (b : GrT F' w base pb pv' xv' F2 pv2 xv2 s2 w2) : GrT F w0 base pb pv xv F2 pv2 xv2 s2 w2 := by
 have hs := h.chg.size
 refine ⟨fun y hy => b.sub y (h.sub y hy), fun y hy => ?_, b.st, h.chg.step b.chg fun x hx hm => ?_, fun k hk => ?_, fun k hk => ?_⟩
 ·rcases b.new y hy with h1 | h1
  ·exact h.new y h1
  ·exact .inr (by omega)
 ·rcases hm with h1 | h1 | h1
  ·exact .inl h1
  ·rcases h.op x h1 with h3 | h3
   ·exact .inr (.inl h3)
   ·omega
  ·rcases h.ox x h1 with h3 | h3
   ·exact .inr (.inr h3)
   ·omega
 ·rcases b.op k hk with h1 | h1
  ·exact h.op k h1
  ·exact .inr (by omega)
 ·rcases b.ox k hk with h1 | h1
  ·exact h.ox k h1
  ·exact .inr (by omega)
theorem GrT.base' (h : GrT F w0 base pb pv xv F' pv' xv' s' w) (h0 : TSt F w0 base pb pv xv s) (hF : ∀ y, y < wb.heap.size → F y) (hE : Ext wb w0) : Ext wb w :=
 hE.step h.chg fun x hx hm => h0.kept (hF x hx) hm
/-- What a panic leaves. -/
theorem GrT.pan (h : GrT F w0 base pb pv xv F' pv' xv' s' w) (c : Chg (fun y => y = pb ∨ pv'.ownBlock = some y ∨ xv'.ownBlock = some y) w w2) : Chg (fun y => y = pb ∨ pv.ownBlock = some y ∨ xv.ownBlock = some y) w0 w2 :=
 h.chg.step c fun x hx hm => by
  rcases hm with h1 | h1 | h1
  ·exact .inl h1
  ·rcases h.op x h1 with h3 | h3
   ·exact .inr (.inl h3)
   ·omega
  ·rcases h.ox x h1 with h3 | h3
   ·exact .inr (.inr h3)
   ·omega
/-- The number of states changes. -/
theorem GrT.num (h : GrT F w0 base pb pv xv F' pv' xv' s' w) {n' : Nat} (p : Put w w2 pb #[nI n', .int .i64 0, .slice none 0 0, pv', xv'] TTh) : GrT F w0 base pb pv xv F' pv' xv' ⟨n', s'.eps, s'.edges⟩ w2 := by
 have hs := h.st
 obtain ⟨rows, h3, h4⟩ := hs.edg
 refine ⟨h.sub, h.new, ⟨p.blk, own_chg hs.eps p.chg (fun k hk e => ?_), ⟨rows, own_chg h3 p.chg (fun k hk e => ?_), h4.chg p.chg (fun y hy e => hs.hp (e ▸ hy.1))⟩, hs.hpF, hs.hxF, hs.apt, hs.hp, hs.pb, Nat.le_trans hs.bs p.chg.size, fun y hy => Nat.lt_of_lt_of_le (hs.fl y hy) p.chg.size⟩, h.chg.step p.chg (fun x hx e => .inl e), h.op, h.ox⟩
 ·have := (hs.eps.lt k hk).1; have := hs.pb; omega
 ·have := (h3.lt k hk).1; have := hs.pb; omega
/-- Steps for nothing have been appended elsewhere, and are now the automaton's. -/
theorem GrT.epsPut (h : TSt F w0 base pb pv xv s) {es : List (Int × Int)} (c : Chg (fun y => pv.ownBlock = some y) w0 w) (ho : w.ownsRow base TPr 2 pv' es.length (es.map spanV).flatten) (hd : ∀ k, pv'.ownBlock = some k → pv.ownBlock = some k ∨ w0.heap.size ≤ k) (p : Put w w2 pb #[nI s.n, .int .i64 0, .slice none 0 0, pv', xv] TTh) :
  GrT F w0 base pb pv xv F pv' xv ⟨s.n, es, s.edges⟩ w2 := by
 obtain ⟨rows, h3, h4⟩ := h.edg
 have hx : ∀ k, xv.ownBlock = some k → ¬ pv.ownBlock = some k := fun k hk e => h.apt k e hk
 refine ⟨fun _ h => h, fun _ h => .inl h, ⟨p.blk, own_chg ho p.chg (fun k hk e => ?_), ⟨rows, own_chg (own_chg h3 c hx) p.chg (fun k hk e => ?_), (h4.chg c (fun y hy e => h.hpF y e hy.1)).chg p.chg (fun y hy e => h.hp (e ▸ hy.1))⟩, fun k hk hf => ?_, h.hxF, fun k hk e => ?_, h.hp, h.pb, Nat.le_trans h.bs (Nat.le_trans c.size p.chg.size), fun y hy => Nat.lt_of_lt_of_le (h.fl y hy) (Nat.le_trans c.size p.chg.size)⟩, (c.mono fun y _ hy => .inr (.inl hy)).step p.chg (fun x hx e => .inl e), hd, fun _ h => .inl h⟩
 ·have := (ho.lt k hk).1; have := h.pb; omega
 ·have := (h3.lt k hk).1; have := h.pb; omega
 ·rcases hd k hk with h1 | h1
  ·exact h.hpF k h1 hf
  ·have := h.fl k hf; omega
 ·rcases hd k hk with h1 | h1
  ·exact h.apt k h1 e
  ·have := (h3.lt k e).2; omega
/-- Edges have been appended elsewhere, and are now the automaton's. -/
theorem GrT.edgPut (h : TSt F w0 base pb pv xv s) {es : List Ed} {rows : List (List Value)} (c : Chg (fun y => xv.ownBlock = some y) w0 w) (ho : w.ownsRow base TEd 3 xv' es.length rows.flatten) (hr : EdsF (fun y => F' y ∧ base ≤ y) w es rows) (hsub : ∀ y, F y → F' y) (hnew : ∀ y, F' y → F y ∨ (w0.heap.size ≤ y ∧ y < w.heap.size ∧ xv'.ownBlock ≠ some y)) (hd : ∀ k, xv'.ownBlock = some k → xv.ownBlock = some k ∨ w0.heap.size ≤ k) (p : Put w w2 pb #[nI s.n, .int .i64 0, .slice none 0 0, pv, xv'] TTh) :
  GrT F w0 base pb pv xv F' pv xv' ⟨s.n, s.eps, es⟩ w2 := by
 have hx : ∀ k, pv.ownBlock = some k → ¬ xv.ownBlock = some k := h.apt
 have hpl := h.blk.lt
 have hF' : ¬ F' pb := fun hf => by
  rcases hnew pb hf with h1 | h1
  ·exact h.hp h1
  ·omega
 refine ⟨hsub, fun y hy => (hnew y hy).imp id fun h => h.1, ⟨p.blk, own_chg (own_chg h.eps c hx) p.chg (fun k hk e => ?_), ⟨rows, own_chg ho p.chg (fun k hk e => ?_), hr.chg p.chg (fun y hy e => hF' (e ▸ hy.1))⟩, fun k hk hf => ?_, fun k hk hf => ?_, fun k hk e => ?_, hF', h.pb, Nat.le_trans h.bs (Nat.le_trans c.size p.chg.size), fun y hy => ?_⟩, (c.mono fun y _ hy => .inr (.inr hy)).step p.chg (fun x hx e => .inl e), fun _ h => .inl h, hd⟩
 ·have := (h.eps.lt k hk).1; have := h.pb; omega
 ·have := (ho.lt k hk).1; have := h.pb; omega
 ·rcases hnew k hf with h1 | h1
  ·exact h.hpF k hk h1
  ·have := (h.eps.lt k hk).2; omega
 ·rcases hnew k hf with h1 | h1
  ·rcases hd k hk with h2 | h2
   ·exact h.hxF k h2 h1
   ·have := h.fl k h1; omega
  ·exact h1.2.2 hk
 ·rcases hd k e with h1 | h1
  ·exact h.apt k hk h1
  ·have := (h.eps.lt k hk).2; omega
 ·have h2 := p.chg.size
  rcases hnew y hy with h1 | h1
  ·have := h.fl y h1; have := c.size; omega
  ·omega
/-- What is built stays, whatever older blocks become. -/
theorem TSt.done (h : TSt F w base pb pv xv s) (c : Chg M w w') (hM : ∀ y, M y → y < base) : SpansAt w' pv s.eps ∧ EdgesAt w' xv s.edges := by
 obtain ⟨rows, h3, h4⟩ := h.edg
 have k1 := own_chg h.eps c fun k hk hm => by have := (h.eps.lt k hk).1; have := hM k hm; omega
 have k2 := own_chg h3 c fun k hk hm => by have := (h3.lt k hk).1; have := hM k hm; omega
 have k3 := h4.chg c fun y hy hm => by have := hM y hm; omega
 have h8 : ∀ r ∈ rows, r.length = 3 := fun r hr => by
  obtain ⟨i, hi⟩ := List.getElem?_of_mem hr
  obtain ⟨e, he⟩ := get_of_lt (l := s.edges) (i := i) (by have := h4.1; have := lt_of_get hi; omega)
  obtain ⟨u, rfl, _⟩ := h4.2 i e r he hi
  rfl
 refine ⟨own_slat k1 (by intro r hr; obtain ⟨p, _, rfl⟩ := List.mem_map.1 hr; rfl) (by simp) (by decide), rows, own_slat k2 h8 h4.1 (by decide), h4.1, fun i e row h5 h6 => ?_⟩
 obtain ⟨u, h7, h9, _⟩ := k3.2 i e row h5 h6
 exact ⟨u, h7, h9⟩
end
end Go.Proofs
namespace Go.Proofs
open Go Go.Eng
def DL (s s' : ThS) (k : Nat) : Prop := s'.eps.length + 3 * s.n + k ≤ s.eps.length + 3 * s'.n ∧ s'.edges.length + s.n ≤ s.edges.length + s'.n ∧ s.n ≤ s'.n ∧ (s.n ≤ 500 → s'.n ≤ 500)
def LimT (s : ThS) (k : Nat) : Prop := s.eps.length + k ≤ 3 * s.n ∧ s.edges.length ≤ s.n ∧ s.n ≤ 500
theorem LimT.step {s s' : ThS} {k : Nat} (h : LimT s 0) (d : DL s s' k) : LimT s' k := by
 obtain ⟨h1, h2, h3⟩ := h
 obtain ⟨d1, d2, d3, d4⟩ := d
 exact ⟨by omega, by omega, d4 h3⟩
theorem LimT.le {s : ThS} {k j : Nat} (h : LimT s k) (hj : j ≤ k) : LimT s j := ⟨by have := h.1; omega, h.2⟩
theorem LimT.eps {s : ThS} {k : Nat} (a b : Nat) (h : LimT s (k + 1)) : LimT (epsT s a b) k := by
 obtain ⟨h1, h2, h3⟩ := h
 exact ⟨by simp [epsT]; omega, h2, h3⟩
theorem LimT.new {s s' : ThS} {k a : Nat} (h : LimT s k) (e : newT s = some (s', a)) : LimT s' (k + 3) := by
 obtain ⟨rfl, rfl, hn⟩ := newT_some e
 obtain ⟨h1, h2, h3⟩ := h
 refine ⟨?_, ?_, hn⟩
 ·show s.eps.length + (k + 3) ≤ 3 * (s.n + 1); omega
 ·show s.edges.length ≤ s.n + 1; omega
theorem dl_eps {s s' : ThS} {k : Nat} (a b : Nat) (h : DL s s' (k + 1)) : DL s (epsT s' a b) k := by
 obtain ⟨d1, d2, d3, d4⟩ := h
 refine ⟨?_, d2, d3, d4⟩
 simp only [epsT, List.length_append, List.length_singleton]
 omega
theorem dl_new {s s' s2 : ThS} {k a : Nat} (h : DL s s' k) (e : newT s' = some (s2, a)) : DL s s2 (k + 3) := by
 obtain ⟨rfl, rfl, hn⟩ := newT_some e
 obtain ⟨d1, d2, d3, d4⟩ := h
 refine ⟨?_, ?_, ?_, fun _ => hn⟩
 ·show s'.eps.length + 3 * s.n + (k + 3) ≤ s.eps.length + 3 * (s'.n + 1); omega
 ·show s'.edges.length + s.n ≤ s.edges.length + (s'.n + 1); omega
 ·show s.n ≤ s'.n + 1; omega
theorem dl_refl (s : ThS) : DL s s 0 := ⟨by omega, by omega, Nat.le_refl _, id⟩
theorem dl_trans {s s1 s2 : ThS} {k j : Nat} (h : DL s s1 k) (g : DL s1 s2 j) : DL s s2 (k + j) := by
 obtain ⟨d1, d2, d3, d4⟩ := h
 obtain ⟨e1, e2, e3, e4⟩ := g
 exact ⟨by omega, by omega, by omega, fun h => e4 (d4 h)⟩
theorem dl_le {s s1 : ThS} {k j : Nat} (h : DL s s1 k) (hj : j ≤ k) : DL s s1 j := ⟨by have := h.1; omega, h.2⟩
def FragLim (f : TF) : Prop := ∀ s s' a b, f s = some (s', a, b) → DL s s' 3
theorem cat_lim : ∀ (fs : List TF), (∀ f ∈ fs, FragLim f) → ∀ (s s' : ThS) (b b' : Nat), catT fs s b = some (s', b') → DL s s' 0
  | [], _, s, s', b, b', e => by
    simp only [catT, Option.some.injEq, Prod.mk.injEq] at e
    rw [← e.1]; exact dl_refl s
  | f :: fs, hf, s, s', b, b', e => by
    rw [catT] at e
    obtain ⟨⟨s1, x, y⟩, e1, e2⟩ := Option.bind_eq_some_iff.1 e
    exact dl_le (dl_trans (dl_eps b x (hf f List.mem_cons_self _ _ _ _ e1)) (cat_lim fs (fun g hg => hf g (List.mem_cons_of_mem _ hg)) _ _ _ _ e2)) (Nat.zero_le _)
theorem alt_lim (e : Nat) : ∀ (fs : List TF), (∀ f ∈ fs, FragLim f) → ∀ (s s' : ThS) (a : Nat), altT e fs s a = some s' → DL s s' 0
  | [], _, s, s', a, h => by
    simp only [altT, Option.some.injEq] at h
    rw [← h]; exact dl_refl s
  | f :: fs, hf, s, s', a, h => by
    rw [altT] at h
    obtain ⟨⟨s1, x, y⟩, e1, e2⟩ := Option.bind_eq_some_iff.1 h
    simp only at e2
    have h1 := dl_eps y e (dl_eps a x (hf f List.mem_cons_self _ _ _ _ e1))
    split at e2
    · obtain ⟨⟨s2, q⟩, e3, e4⟩ := Option.bind_eq_some_iff.1 e2
      exact dl_le (dl_trans (dl_eps a q (dl_new h1 e3)) (alt_lim e fs (fun g hg => hf g (List.mem_cons_of_mem _ hg)) _ _ _ e4)) (Nat.zero_le _)
    · exact dl_le (dl_trans h1 (alt_lim e fs (fun g hg => hf g (List.mem_cons_of_mem _ hg)) _ _ _ e2)) (Nat.zero_le _)
theorem copy_lim {f : TF} (hf : FragLim f) {s s' : ThS} {b b' : Nat} {out : Bool} (e : copyT f s b out = some (s', b')) : DL s s' 0 := by
 unfold copyT at e
 obtain ⟨⟨s1, x, y⟩, e1, e2⟩ := Option.bind_eq_some_iff.1 e
 simp only at e2
 have h1 := dl_eps b x (hf _ _ _ _ e1)
 split at e2
 ·obtain ⟨⟨s2, q⟩, e3, e4⟩ := Option.bind_eq_some_iff.1 e2
  simp only [Option.some.injEq, Prod.mk.injEq] at e4
  rw [← e4.1]
  exact dl_le (dl_eps y q (dl_eps b q (dl_new h1 e3))) (Nat.zero_le _)
 ·simp only [Option.some.injEq, Prod.mk.injEq] at e2
  rw [← e2.1]
  exact dl_le h1 (Nat.zero_le _)
theorem rep_lim {f : TF} (hf : FragLim f) {mn : Int} {s : ThS} {b : Nat} : ∀ (k : Nat) (s' : ThS) (b' : Nat), repT f mn s b k = some (s', b') → DL s s' 0
  | 0, s', b', e => by
    simp only [repT, Option.some.injEq, Prod.mk.injEq] at e
    rw [← e.1]; exact dl_refl s
  | k + 1, s', b', e => by
    rw [repT] at e
    obtain ⟨⟨s1, b1⟩, e1, e2⟩ := Option.bind_eq_some_iff.1 e
    exact dl_trans (rep_lim hf k s1 b1 e1) (copy_lim hf e2)
theorem repT_none {f : TF} {mn : Int} {s : ThS} {b k : Nat} (h : repT f mn s b k = none) : ∀ m, k ≤ m → repT f mn s b m = none
  | 0, hm => by obtain rfl : k = 0 := (by omega); exact h
  | m + 1, hm => by
    rcases Nat.lt_or_ge m k with h1 | h1
    · obtain rfl : k = m + 1 := (by omega); exact h
    · rw [repT, repT_none h m h1]; rfl
theorem node_lim {k : Int} {z : List Sp} {mn mx : Int} {fs : List TF} (hf : ∀ f ∈ fs, FragLim f) : FragLim (nodeT k z mn mx fs) := by
  intro s s' a b e
  unfold nodeT at e
  obtain ⟨⟨s1, a1⟩, e1, e2⟩ := Option.bind_eq_some_iff.1 e
  simp only at e2
  have h1 : DL s s1 3 := dl_new (dl_refl s) e1
  split at e2
  · obtain ⟨⟨s2, b2⟩, e3, e4⟩ := Option.bind_eq_some_iff.1 e2
    simp only [Option.some.injEq, Prod.mk.injEq] at e4
    rw [← e4.1]; exact dl_le (dl_new h1 e3) (by omega)
  split at e2
  · simp only [Option.some.injEq, Prod.mk.injEq] at e2
    rw [← e2.1]; exact h1
  split at e2
  · obtain ⟨⟨s2, b2⟩, e3, e4⟩ := Option.bind_eq_some_iff.1 e2
    simp only [Option.some.injEq, Prod.mk.injEq] at e4
    rw [← e4.1]
    obtain ⟨_, rfl, hn⟩ := newT_some e1
    obtain ⟨_, rfl, hn2⟩ := newT_some e3
    refine ⟨?_, ?_, ?_, fun _ => hn2⟩
    · show s.eps.length + 3 * s.n + 3 ≤ s.eps.length + 3 * (s.n + 1 + 1); omega
    · show (s.edges ++ _).length + s.n ≤ s.edges.length + (s.n + 1 + 1); simp; omega
    · show s.n ≤ s.n + 1 + 1; omega
  split at e2
  · obtain ⟨⟨s2, b2⟩, e3, e4⟩ := Option.bind_eq_some_iff.1 e2
    simp only [Option.some.injEq, Prod.mk.injEq] at e4
    rw [← e4.1]; exact dl_trans h1 (cat_lim fs hf _ _ _ _ e3)
  split at e2
  · obtain ⟨⟨s2, b2⟩, e3, e4⟩ := Option.bind_eq_some_iff.1 e2
    simp only at e4
    obtain ⟨s3, e5, e6⟩ := Option.bind_eq_some_iff.1 e4
    simp only [Option.some.injEq, Prod.mk.injEq] at e6
    rw [← e6.1]; exact dl_le (dl_trans (dl_new h1 e3) (alt_lim b2 fs hf _ _ _ e5)) (by omega)
  split at e2
  · cases fs with
    | nil => cases e2
    | cons f fs =>
      simp only at e2
      obtain ⟨⟨s2, x, y⟩, e3, e4⟩ := Option.bind_eq_some_iff.1 e2
      simp only [Option.some.injEq, Prod.mk.injEq] at e4
      rw [← e4.1]
      exact dl_le (dl_eps _ _ (show DL s s2 (5 + 1) from dl_trans (k := 3) (j := 3) h1 (hf f List.mem_cons_self _ _ _ _ e3))) (by omega)
  split at e2
  · cases fs with
    | nil => cases e2
    | cons f fs =>
      simp only at e2
      obtain ⟨⟨s2, x, y⟩, e3, e4⟩ := Option.bind_eq_some_iff.1 e2
      simp only at e4
      obtain ⟨⟨s3, q0⟩, e5, e6⟩ := Option.bind_eq_some_iff.1 e4
      simp only [Option.some.injEq, Prod.mk.injEq] at e6
      rw [← e6.1]
      have h3 : DL s s3 (6 + 1 + 1 + 1) := dl_new (dl_trans (k := 3) (j := 3) h1 (hf f List.mem_cons_self _ _ _ _ e3)) e5
      exact dl_le (dl_eps _ _ (dl_eps _ _ (dl_eps _ _ h3))) (by omega)
  · cases fs with
    | nil =>
      simp only at e2
      split at e2
      · simp only [Option.some.injEq, Prod.mk.injEq] at e2
        rw [← e2.1]; exact h1
      · cases e2
    | cons f fs =>
      simp only at e2
      obtain ⟨⟨s2, b2⟩, e3, e4⟩ := Option.bind_eq_some_iff.1 e2
      simp only [Option.some.injEq, Prod.mk.injEq] at e4
      rw [← e4.1]; exact dl_trans h1 (rep_lim (hf f List.mem_cons_self) _ _ _ e3)
mutual
theorem lim_all : ∀ t : Re, FragLim (tmO t)
  | .mk k z a mn mx g => by rw [tmO]; exact node_lim (lim_list a)
theorem lim_list : ∀ l : List Re, ∀ f ∈ tmL l, FragLim f
  | [], f, hf => by cases hf
  | x :: l, f, hf => by
    rw [tmL] at hf
    rcases List.mem_cons.1 hf with rfl | h1
    · exact lim_all x
    · exact lim_list l f h1
end
end Go.Proofs
namespace Go.Proofs
open Go Go.Eng Go.Sort
set_option maxRecDepth 100000
/-- What is thrown where an automaton grows too large. -/
def lgN : List PanicEntry := [{ v := .iface 74 (.agg #[]), recovered := false }]
theorem newT_ok {s : ThS} (h : s.n + 1 ≤ 500) : newT s = some (⟨s.n + 1, s.eps, s.edges⟩, s.n) := by unfold newT; rw [if_neg (by omega)]
theorem newT_no {s : ThS} (h : 500 < s.n + 1) : newT s = none := by unfold newT; rw [if_pos h]
theorem tstate_c (F : Nat → Prop) (w0 : World) (base pb : Nat) (pv xv : Value) (s : ThS) (h : TSt F w0 base pb pv xv s) (hn : s.n ≤ 500) :
  RetX Try.prog lgN 82 #[.pointer (some ⟨pb, 0, none⟩)] w0 (fun r w => ∃ s', newT s = some (s', s.n) ∧ r = nI s.n ∧ GrT F w0 base pb pv xv F pv xv s' w) fun w => newT s = none ∧ Chg (fun y => y = pb ∨ pv.ownBlock = some y ∨ xv.ownBlock = some y) w0 w := by
 have hG := GrT.start h
 obtain ⟨⟨pa, pc, rfl⟩, xa, xc, rfl⟩ := h.form
 have hblk := h.blk
 have hp := h.hp
 refine RetX_of Try.func82 rfl Try.ntmps82 (Nat.le_of_ble_eq_true rfl) ?_
 have E : Chg (fun q => q = pb) w0 w0 := Chg.refl _ _
 refine Wp_seq_region ?_
 refine qA (I6 0) rfl ?_
 refine WpL_nil (Wp_seq (Wp_seq_region ?_))
 refine qM (P6 pb 0) rfl ?_
 refine qV (r_nilCheck (a := ⟨pb, 0, none⟩) rfl) ?_
 refine qF pb 0 0 rfl Try.underlying78 rfl siz26 rfl ?_
 refine qF pb 0 0 rfl Try.underlying26 rfl siz3 rfl ?_
 refine qV (r_load (v := (I6 (s.n : Int))) rfl flat3 (hblk.cell rfl)) ?_
 refine qV (r_add (k := .i64) (a := (s.n : Int)) (b := 1) (c := ((s.n + 1 : Nat) : Int)) rfl rfl ((wI64 (by omega)).trans (by omega))) ?_
 refine qV (r_nilCheck (a := ⟨pb, 0, none⟩) rfl) ?_
 refine qF pb 0 0 rfl Try.underlying78 rfl siz26 rfl ?_
 refine qF pb 0 0 rfl Try.underlying26 rfl siz3 rfl ?_
 refine s_store (b := pb) (o := 0) (c' := #[(I6 ((s.n + 1 : Nat) : Int)), (I6 0), (.slice none 0 0), (.slice pa s.eps.length pc), (.slice xa s.edges.length xc)]) (v := (I6 ((s.n + 1 : Nat) : Int))) rfl rfl rfl siz3 hblk (by simp) rfl ?_
 intro w1 S1
 replace hG := hG.num S1
 replace E := S1.step E (by first | exact Or.inl (by omega) | exact Or.inr rfl | exact Or.inr (by assumption) | exact Or.inr (by simp) | exact Or.inr (by omega) | exact Or.inr (by dsimp only; omega))
 replace hblk := S1.blk
 refine WpL_nil (Wp_seq_region ?_)
 refine qM (P6 pb 0) rfl ?_
 refine qV (r_nilCheck (a := ⟨pb, 0, none⟩) rfl) ?_
 refine qF pb 0 0 rfl Try.underlying78 rfl siz26 rfl ?_
 refine qF pb 0 0 rfl Try.underlying26 rfl siz3 rfl ?_
 refine qV (r_load (v := (I6 ((s.n + 1 : Nat) : Int))) rfl flat3 (hblk.cell rfl)) ?_
 refine qV (r_gtr (k := .i64) (a := ((s.n + 1 : Nat) : Int)) (b := 500) rfl rfl) ?_
 refine WpL_nil ?_
 refine Wp_cond (b := decide ((500 : Int) < ((s.n + 1 : Nat) : Int))) rfl (fun h0 => ?_) (fun h0 => ?_)
 ·have kh0 := h0
  replace h0 := of_decide_eq_true h0
  refine Wp_region ?_
  refine qV (r_build (ps := []) (v := (.agg #[])) rfl (by kernel_rfl)) ?_
  refine qV (r_makeIface (t := 74) (v := (.agg #[])) Try.underlying74 rfl) ?_
  refine WpL_panic rfl (r_panic (u := 74) (v := (.agg #[])) rfl) (And.intro rfl ⟨newT_no (by omega), E.mono fun y _ hy => .inl hy⟩)
 ·have kh0 := h0
  replace h0 := of_decide_eq_false h0
  refine Wp_skip (thn_normal (Wp_seq_region ?_))
  refine qM (P6 pb 0) rfl ?_
  refine qV (r_nilCheck (a := ⟨pb, 0, none⟩) rfl) ?_
  refine qF pb 0 0 rfl Try.underlying78 rfl siz26 rfl ?_
  refine qF pb 0 0 rfl Try.underlying26 rfl siz3 rfl ?_
  refine qV (r_load (v := (I6 ((s.n + 1 : Nat) : Int))) rfl flat3 (hblk.cell rfl)) ?_
  refine qV (r_sub (k := .i64) (a := ((s.n + 1 : Nat) : Int)) (b := 1) (c := (s.n : Int)) rfl rfl ((wI64 (by omega)).trans (by omega))) ?_
  refine qA (I6 (s.n : Int)) rfl ?_
  refine WpL_nil (Wp_ret (finX_ret ?_))
  refine fin_tmp Try.results82 (v := (.int .i64 ((s.n : Nat) : Int))) rfl ?_
  exact ⟨_, newT_ok (by omega), rfl, hG⟩
set_option maxHeartbeats 1000000 in
theorem teps_c (F : Nat → Prop) (w0 : World) (base pb : Nat) (pv xv : Value) (s : ThS) (a b : Nat) (h : TSt F w0 base pb pv xv s) (hn : s.eps.length ≤ 100000) :
  Ret Try.prog 83 #[.pointer (some ⟨pb, 0, none⟩), nI a, nI b] w0 fun _ w => ∃ pv', GrT F w0 base pb pv xv F pv' xv (epsT s a b) w := by
 obtain ⟨⟨pa, pc, rfl⟩, xa, xc, rfl⟩ := h.form
 have hblk := h.blk
 have hown := h.eps
 have hpb := h.pb
 have hbs := h.bs
 refine Ret_of Try.func83 rfl Try.ntmps83 (Nat.le_of_ble_eq_true rfl) ?_
 have E : Chg (fun q => q = pb ∨ (Value.slice pa s.eps.length pc).ownBlock = some q) w0 w0 := Chg.refl _ _
 have hG := GrT.start h
 refine Wp_region ?_
 refine qM (P6 pb 0) rfl ?_
 refine qM (P6 pb 0) rfl ?_
 refine qV (r_nilCheck (a := ⟨pb, 0, none⟩) rfl) ?_
 refine qF pb 0 0 rfl Try.underlying78 rfl siz26 rfl ?_
 refine qF pb 0 3 rfl Try.underlying26 rfl siz23 rfl ?_
 refine qV (r_load (v := (.slice pa s.eps.length pc)) rfl flat23 (hblk.cell rfl)) ?_
 refine qM (I6 (a : Int)) rfl ?_
 refine qM (I6 (b : Int)) rfl ?_
 refine qV (r_build (ps := [(0, (I6 (a : Int))), (1, (I6 (b : Int)))]) (v := (.agg #[(I6 (a : Int)), (I6 (b : Int))])) rfl (by kernel_rfl)) ?_
 refine s_buildSlice (ps := [(0, (.agg #[(I6 (a : Int)), (I6 (b : Int))]))]) (c := #[(I6 (a : Int)), (I6 (b : Int))]) (by decide) rfl Try.underlying23 siz41 zer41 (by decide) (by decide) (by kernel_rfl) ?_
 intro b1 w1 N1
 have F1 := N1.ge E
 have O1_pb := N1.lt hblk
 replace hblk := N1.keep hblk
 replace hown := own_ext hown N1.ext
 replace hbs := Nat.le_trans hbs N1.ext.size
 replace hG := hG.ext N1.ext
 replace E := E.ext N1.ext
 have B1 := N1.blk
 refine s_append (base := base) (n := s.eps.length) (m := 1) (xs := (s.eps.map spanV).flatten) (news := [(I6 (a : Int)), (I6 (b : Int))]) (size := 2) (bytes := 16) (v := (.slice pa s.eps.length pc)) (by decide) Try.underlying23 siz41 byt41 zer41 rfl (by decide) rfl hown rfl (rfl) (B1.cells rfl) (by simp [Value.oneCell']) (by unfold maxLen; omega) (by omega) (hbs) ?_
 intro v7 w59 Ov7 Cv7 Dv7
 replace hblk := Cv7.keep (fun h => by have := (hown.lt _ h).1; omega) hblk
 replace E := E.step Cv7 (fun x hx h => .inr h)
 obtain ⟨pa2, pc2, rfl⟩ := own_form Ov7
 have hPx : True := trivial
 refine qV (r_nilCheck (a := ⟨pb, 0, none⟩) rfl) ?_
 refine qF pb 0 0 rfl Try.underlying78 rfl siz26 rfl ?_
 refine qF pb 0 3 rfl Try.underlying26 rfl siz23 rfl ?_
 refine s_store (b := pb) (o := 3) (c' := #[(I6 (s.n : Int)), (I6 0), (.slice none 0 0), (.slice pa2 (s.eps.length + 1) pc2), (.slice xa s.edges.length xc)]) (v := (.slice pa2 (s.eps.length + 1) pc2)) rfl rfl rfl siz23 hblk (by simp) rfl ?_
 intro w2 S2
 replace hPx := hG.comp (GrT.epsPut (es := s.eps ++ [((a : Int), (b : Int))]) (pv' := .slice pa2 (s.eps.length + 1) pc2) hG.st Cv7 (by simpa [spanV, List.map_append, List.flatten_append] using Ov7) Dv7 S2)
 replace E := S2.step E (by first | exact Or.inl (by omega) | exact Or.inr rfl | exact Or.inr (by assumption) | exact Or.inr (by simp) | exact Or.inr (by omega) | exact Or.inr (by dsimp only; omega))
 replace hblk := S2.blk
 refine WpL_nil ?_
 refine fin_none Try.results83 ?_
 exact ⟨_, hPx⟩
end Go.Proofs
namespace Go.Proofs
open Go Go.Eng Go.Sort
set_option maxRecDepth 100000
theorem LimT.small {s : ThS} {k : Nat} (h : LimT s k) : s.eps.length ≤ 100000 ∧ s.edges.length ≤ 100000 := by
 obtain ⟨h1, h2, h3⟩ := h; omega
/-- What of does with x. -/
def ThOf (wb : World) (x : Re) : Prop := ∀ (base pb : Nat) (F : Nat → Prop) (w0 : World) (pv xv : Value) (s : ThS) (vs : List Value), ReAt wb x vs → Ext wb w0 → (∀ y, y < wb.heap.size → F y) → TSt F w0 base pb pv xv s → LimT s 0 →
 RetX Try.prog lgN 33 #[.pointer (some ⟨pb, 0, none⟩), .agg vs.toArray] w0 (fun r w => ∃ s' a b F' pv' xv', tmO x s = some (s', a, b) ∧ r = .tuple #[nI a, nI b] ∧ GrT F w0 base pb pv xv F' pv' xv' s' w) fun w => tmO x s = none ∧ Chg (fun y => y = pb ∨ pv.ownBlock = some y ∨ xv.ownBlock = some y) w0 w
def starF (f : TF) (s : ThS) (a : Nat) : Option (ThS × Nat) := (f s).bind fun (s2, x, y) => (newT s2).bind fun (s3, e) => some (epsT (epsT (epsT s3 a x) a e) y a, e)
set_option maxHeartbeats 1000000 in
theorem tstar_c (wb : World) (x : Re) (hx : ThOf wb x) (base pb : Nat) (F : Nat → Prop) (w0 : World) (pv xv : Value) (s : ThS) (a : Nat) (vs : List Value) (hxt : ReAt wb x vs) (hE : Ext wb w0) (hF : ∀ y, y < wb.heap.size → F y) (hP : TSt F w0 base pb pv xv s) (hL : LimT s 0) :
  RetX Try.prog lgN 85 #[.pointer (some ⟨pb, 0, none⟩), nI a, .agg vs.toArray] w0 (fun r w => ∃ s' e F' pv' xv', starF (tmO x) s a = some (s', e) ∧ r = nI e ∧ GrT F w0 base pb pv xv F' pv' xv' s' w) fun w => starF (tmO x) s a = none ∧ Chg (fun y => y = pb ∨ pv.ownBlock = some y ∨ xv.ownBlock = some y) w0 w := by
 have hxt0 := hxt
 obtain ⟨sa, sc, aa, ac, rfl, _, _, _⟩ := hxt.form
 refine RetX_of Try.func85 rfl Try.ntmps85 (Nat.le_of_ble_eq_true rfl) ?_
 have E : Chg (fun _ => True) w0 w0 := Chg.refl _ _
 refine Wp_seq_region ?_
 refine s_box (v := (.agg (R6 x sa sc aa ac))) (c := (R6 x sa sc aa ac)) (by decide) rfl rfl ?_
 intro bx wx Nx
 have Fx := Nx.ge E
 replace E := E.ext Nx.ext
 have Bx := Nx.blk
 refine qA (I6 0) rfl ?_
 refine WpL_nil (Wp_seq_region ?_)
 refine qM (P6 pb 0) rfl ?_
 refine qV (r_loadAgg (vs := [(I6 x.kind), (.slice sa x.set.length sc), (.slice aa x.args.length ac), (I6 x.mn), (I6 x.mx), (.bool x.neg)]) rfl agg33 siz33 rfl (Bx.cells rfl)) ?_
 have G1 := (GrT.start hP).ext Nx.ext
 refine WpL_enterX rfl rfl (by decide) (r_callF (vs := [(P6 pb 0), (.agg (R6 x sa sc aa ac))]) Try.func33 nm33 bd33 rfl) (hx base pb _ _ _ _ s _ hxt0 (G1.base' hP hF hE) (fun q hq => G1.sub q (hF q hq)) G1.st hL) (fun w' h => And.intro rfl ⟨by unfold starF; rw [h.1]; rfl, G1.pan h.2⟩) ?_
 rintro _ w19 ⟨s2, fx, fy, F2, p2, x2, h2, rfl, G2⟩
 replace E := E.step G2.chg (fun _ _ _ => trivial)
 have hL2 := hL.step (lim_all x _ _ _ _ h2)
 replace G2 := G1.comp G2
 refine qM (.tuple #[(I6 (fx : Int)), (I6 (fy : Int))]) rfl ?_
 refine qV (r_extract (vs := #[(I6 (fx : Int)), (I6 (fy : Int))]) (v := (I6 (fx : Int))) rfl rfl) ?_
 refine qV (r_extract (vs := #[(I6 (fx : Int)), (I6 (fy : Int))]) (v := (I6 (fy : Int))) rfl rfl) ?_
 refine qA (I6 (fx : Int)) rfl ?_
 refine qA (I6 (fy : Int)) rfl ?_
 refine WpL_nil (Wp_seq_region ?_)
 refine qM (P6 pb 0) rfl ?_
 refine WpL_enterX rfl rfl (by decide) (r_callF (vs := [(P6 pb 0)]) Try.func82 nm82 bd82 rfl) (tstate_c _ _ base pb _ _ s2 G2.st hL2.2.2) (fun w' h => And.intro rfl ⟨by unfold starF; rw [h2]; simp [h.1], G2.pan h.2⟩) ?_
 rintro _ w29 ⟨s3, h3, rfl, G3⟩
 replace E := E.step G3.chg (fun _ _ _ => trivial)
 have hL3 := hL2.new h3
 replace G3 := G2.comp G3
 refine qA (I6 (s2.n : Int)) rfl ?_
 refine WpL_nil (Wp_seq_region ?_)
 refine qM (P6 pb 0) rfl ?_
 refine qM (I6 (a : Int)) rfl ?_
 refine qM (I6 (fx : Int)) rfl ?_
 refine WpL_enter rfl rfl (by decide) (r_callF (vs := [(P6 pb 0), (I6 (a : Int)), (I6 (fx : Int))]) Try.func83 nm83 bd83 rfl) (teps_c _ _ base pb _ _ s3 a fx G3.st hL3.small.1) ?_
 rintro _ w39 ⟨p4, G4⟩
 replace E := E.step G4.chg (fun _ _ _ => trivial)
 have hL4 : LimT (epsT s3 a fx) 5 := hL3.eps a fx
 replace G4 := G3.comp G4
 refine WpL_nil (Wp_seq_region ?_)
 refine qM (P6 pb 0) rfl ?_
 refine qM (I6 (a : Int)) rfl ?_
 refine qM (I6 (s2.n : Int)) rfl ?_
 refine WpL_enter rfl rfl (by decide) (r_callF (vs := [(P6 pb 0), (I6 (a : Int)), (I6 (s2.n : Int))]) Try.func83 nm83 bd83 rfl) (teps_c _ _ base pb _ _ _ a s2.n G4.st hL4.small.1) ?_
 rintro _ w49 ⟨p5, G5⟩
 replace E := E.step G5.chg (fun _ _ _ => trivial)
 have hL5 : LimT (epsT (epsT s3 a fx) a s2.n) 4 := hL4.eps a s2.n
 replace G5 := G4.comp G5
 refine WpL_nil (Wp_seq_region ?_)
 refine qM (P6 pb 0) rfl ?_
 refine qM (I6 (fy : Int)) rfl ?_
 refine qM (I6 (a : Int)) rfl ?_
 refine WpL_enter rfl rfl (by decide) (r_callF (vs := [(P6 pb 0), (I6 (fy : Int)), (I6 (a : Int))]) Try.func83 nm83 bd83 rfl) (teps_c _ _ base pb _ _ _ fy a G5.st hL5.small.1) ?_
 rintro _ w59 ⟨p6, G6⟩
 replace E := E.step G6.chg (fun _ _ _ => trivial)
 replace G6 := G5.comp G6
 refine WpL_nil (Wp_seq_region ?_)
 refine qM (I6 (s2.n : Int)) rfl ?_
 refine qA (I6 (s2.n : Int)) rfl ?_
 refine WpL_nil (Wp_ret (finX_ret ?_))
 refine fin_tmp Try.results85 (v := (.int .i64 ((s2.n : Nat) : Int))) rfl ?_
 exact ⟨_, _, _, _, _, by unfold starF; rw [h2]; simp [h3], rfl, G6⟩
set_option maxHeartbeats 1000000 in
theorem tcopy_c (wb : World) (x : Re) (hx : ThOf wb x) (base pb : Nat) (F : Nat → Prop) (w0 : World) (pv xv : Value) (s : ThS) (b : Nat) (out : Bool) (vs : List Value) (hxt : ReAt wb x vs) (hE : Ext wb w0) (hF : ∀ y, y < wb.heap.size → F y) (hP : TSt F w0 base pb pv xv s) (hL : LimT s 0) :
  RetX Try.prog lgN 86 #[.pointer (some ⟨pb, 0, none⟩), nI b, .agg vs.toArray, .bool out] w0 (fun r w => ∃ s' e F' pv' xv', copyT (tmO x) s b out = some (s', e) ∧ r = nI e ∧ GrT F w0 base pb pv xv F' pv' xv' s' w) fun w => copyT (tmO x) s b out = none ∧ Chg (fun y => y = pb ∨ pv.ownBlock = some y ∨ xv.ownBlock = some y) w0 w := by
 have hxt0 := hxt
 obtain ⟨sa, sc, aa, ac, rfl, _, _, _⟩ := hxt.form
 refine RetX_of Try.func86 rfl Try.ntmps86 (Nat.le_of_ble_eq_true rfl) ?_
 have E : Chg (fun _ => True) w0 w0 := Chg.refl _ _
 refine Wp_seq_region ?_
 refine s_box (v := (.agg (R6 x sa sc aa ac))) (c := (R6 x sa sc aa ac)) (by decide) rfl rfl ?_
 intro bx wx Nx
 have Fx := Nx.ge E
 replace E := E.ext Nx.ext
 have Bx := Nx.blk
 refine qA (I6 0) rfl ?_
 refine WpL_nil (Wp_seq_region ?_)
 refine qM (P6 pb 0) rfl ?_
 refine qV (r_loadAgg (vs := [(I6 x.kind), (.slice sa x.set.length sc), (.slice aa x.args.length ac), (I6 x.mn), (I6 x.mx), (.bool x.neg)]) rfl agg33 siz33 rfl (Bx.cells rfl)) ?_
 have G1 := (GrT.start hP).ext Nx.ext
 refine WpL_enterX rfl rfl (by decide) (r_callF (vs := [(P6 pb 0), (.agg (R6 x sa sc aa ac))]) Try.func33 nm33 bd33 rfl) (hx base pb _ _ _ _ s _ hxt0 (G1.base' hP hF hE) (fun q hq => G1.sub q (hF q hq)) G1.st hL) (fun w' h => And.intro rfl ⟨by unfold copyT; rw [h.1]; rfl, G1.pan h.2⟩) ?_
 rintro _ w19 ⟨s2, fx, fy, F2, p2, x2, h2, rfl, G2⟩
 replace E := E.step G2.chg (fun _ _ _ => trivial)
 have hL2 := hL.step (lim_all x _ _ _ _ h2)
 replace G2 := G1.comp G2
 refine qM (.tuple #[(I6 (fx : Int)), (I6 (fy : Int))]) rfl ?_
 refine qV (r_extract (vs := #[(I6 (fx : Int)), (I6 (fy : Int))]) (v := (I6 (fx : Int))) rfl rfl) ?_
 refine qV (r_extract (vs := #[(I6 (fx : Int)), (I6 (fy : Int))]) (v := (I6 (fy : Int))) rfl rfl) ?_
 refine qA (I6 (fx : Int)) rfl ?_
 refine qA (I6 (fy : Int)) rfl ?_
 refine WpL_nil (Wp_seq_region ?_)
 refine qM (P6 pb 0) rfl ?_
 refine qM (I6 (b : Int)) rfl ?_
 refine qM (I6 (fx : Int)) rfl ?_
 refine WpL_enter rfl rfl (by decide) (r_callF (vs := [(P6 pb 0), (I6 (b : Int)), (I6 (fx : Int))]) Try.func83 nm83 bd83 rfl) (teps_c _ _ base pb _ _ s2 b fx G2.st hL2.small.1) ?_
 rintro _ w29 ⟨p3, G3⟩
 replace E := E.step G3.chg (fun _ _ _ => trivial)
 have hL3 : LimT (epsT s2 b fx) 2 := hL2.eps b fx
 replace G3 := G2.comp G3
 refine WpL_nil (Wp_seq (Wp_seq_region ?_))
 refine qM (.bool out) rfl ?_
 refine qV (r_not (b := out) rfl) ?_
 refine WpL_nil ?_
 refine Wp_cond (b := !out) rfl (fun ho => ?_) (fun ho => ?_)
 ·have kho := ho
  replace ho := by simpa using ho
  refine Wp_seq_region ?_
  refine qM (I6 (fy : Int)) rfl ?_
  refine qA (I6 (fy : Int)) rfl ?_
  refine WpL_nil (Wp_ret (thn_ret (finX_ret ?_)))
  refine fin_tmp Try.results86 (v := (.int .i64 ((fy : Nat) : Int))) rfl ?_
  exact ⟨_, _, _, _, _, by unfold copyT; rw [h2]; simp [ho], rfl, G3⟩
 ·have kho := ho
  replace ho := by simpa using ho
  refine Wp_skip (thn_normal (Wp_seq_region ?_))
  refine qM (P6 pb 0) rfl ?_
  refine WpL_enterX rfl rfl (by decide) (r_callF (vs := [(P6 pb 0)]) Try.func82 nm82 bd82 rfl) (tstate_c _ _ base pb _ _ _ G3.st hL3.2.2) (fun w' h => And.intro rfl ⟨by unfold copyT; rw [h2]; simp [ho, h.1], G3.pan h.2⟩) ?_
  rintro _ w39 ⟨s4, h4, rfl, G4⟩
  replace E := E.step G4.chg (fun _ _ _ => trivial)
  have hL4 := hL3.new h4
  replace G4 := G3.comp G4
  refine qA (I6 (((epsT s2 b fx).n : Nat) : Int)) rfl ?_
  refine WpL_nil (Wp_seq_region ?_)
  refine qM (P6 pb 0) rfl ?_
  refine qM (I6 (b : Int)) rfl ?_
  refine qM (I6 (((epsT s2 b fx).n : Nat) : Int)) rfl ?_
  refine WpL_enter rfl rfl (by decide) (r_callF (vs := [(P6 pb 0), (I6 (b : Int)), (I6 (((epsT s2 b fx).n : Nat) : Int))]) Try.func83 nm83 bd83 rfl) (teps_c _ _ base pb _ _ s4 b (epsT s2 b fx).n G4.st hL4.small.1) ?_
  rintro _ w49 ⟨p5, G5⟩
  replace E := E.step G5.chg (fun _ _ _ => trivial)
  have hL5 : LimT (epsT s4 b (epsT s2 b fx).n) 4 := hL4.eps _ _
  replace G5 := G4.comp G5
  refine WpL_nil (Wp_seq_region ?_)
  refine qM (P6 pb 0) rfl ?_
  refine qM (I6 (fy : Int)) rfl ?_
  refine qM (I6 (((epsT s2 b fx).n : Nat) : Int)) rfl ?_
  refine WpL_enter rfl rfl (by decide) (r_callF (vs := [(P6 pb 0), (I6 (fy : Int)), (I6 (((epsT s2 b fx).n : Nat) : Int))]) Try.func83 nm83 bd83 rfl) (teps_c _ _ base pb _ _ _ fy (epsT s2 b fx).n G5.st hL5.small.1) ?_
  rintro _ w59 ⟨p6, G6⟩
  replace E := E.step G6.chg (fun _ _ _ => trivial)
  replace G6 := G5.comp G6
  refine WpL_nil (Wp_seq_region ?_)
  refine qM (I6 (((epsT s2 b fx).n : Nat) : Int)) rfl ?_
  refine qA (I6 (((epsT s2 b fx).n : Nat) : Int)) rfl ?_
  refine WpL_nil (Wp_ret (finX_ret ?_))
  refine fin_tmp Try.results86 (v := (.int .i64 (((epsT s2 b fx).n : Nat) : Int))) rfl ?_
  exact ⟨_, _, _, _, _, by unfold copyT; rw [h2]; simp [ho, h4], rfl, G6⟩
theorem drop_at {α : Type} {l : List α} {k : Nat} {y : α} (hy : l[k]? = some y) : l.drop k = y :: l.drop (k + 1) := by
 have := lt_of_get hy
 rw [List.drop_eq_getElem_cons this]
 rw [List.getElem?_eq_getElem this] at hy
 rw [Option.some.inj hy]
theorem altT_at {e : Nat} {l : List Re} {k : Nat} {y : Re} (hy : l[k]? = some y) (s : ThS) (a : Nat) : altT e (tmL (l.drop k)) s a = (tmO y s).bind fun (s1, x, z) =>
  if k + 2 < l.length then (newT (epsT (epsT s1 a x) z e)).bind fun (s2, q) => altT e (tmL (l.drop (k + 1))) (epsT s2 a q) q
  else altT e (tmL (l.drop (k + 1))) (epsT (epsT s1 a x) z e) a := by
 have hk := lt_of_get hy
 have hlen : (tmL (l.drop (k + 1))).length = l.length - (k + 1) := by rw [tmL_map, List.length_map, List.length_drop]
 rw [drop_at hy, tmL, altT, hlen]
 congr 1
 funext ⟨s1, x, z⟩
 dsimp only
 by_cases h : k + 2 < l.length
 ·rw [if_pos h, if_pos (by omega)]
 ·rw [if_neg h, if_neg (by omega)]
def altA (fs : List TF) (s : ThS) (a : Nat) : Option (ThS × Nat) := (newT s).bind fun (s2, e) => (altT e fs s2 a).bind fun s3 => some (s3, e)
set_option maxHeartbeats 2000000 in
theorem talt_c (wb : World) (l : List Re) (hx : ∀ y ∈ l, ThOf wb y) (base pb : Nat) (F : Nat → Prop) (w0 : World) (pv xv : Value) (s : ThS) (a : Nat) (aa : Option Addr) (ac : Nat) (hlen : l.length ≤ ac ∧ ac ≤ 9223372036854775807) (hargs : l = [] ∨ ∃ b o, aa = some ⟨b, o, none⟩ ∧ ResAt wb b o l) (hsz : l.length ≤ 1000000) (hE : Ext wb w0) (hF : ∀ y, y < wb.heap.size → F y) (hP : TSt F w0 base pb pv xv s) (hL : LimT s 0) :
  RetX Try.prog lgN 84 #[.pointer (some ⟨pb, 0, none⟩), nI a, .slice aa l.length ac] w0 (fun r w => ∃ s' e F' pv' xv', altA (tmL l) s a = some (s', e) ∧ r = nI e ∧ GrT F w0 base pb pv xv F' pv' xv' s' w) fun w => altA (tmL l) s a = none ∧ Chg (fun y => y = pb ∨ pv.ownBlock = some y ∨ xv.ownBlock = some y) w0 w := by
 refine RetX_of Try.func84 rfl Try.ntmps84 (Nat.le_of_ble_eq_true rfl) ?_
 have E : Chg (fun _ => True) w0 w0 := Chg.refl _ _
 refine Wp_seq_region ?_
 refine qA (I6 0) rfl ?_
 refine WpL_nil (Wp_seq_region ?_)
 refine qM (P6 pb 0) rfl ?_
 refine WpL_enterX rfl rfl (by decide) (r_callF (vs := [(P6 pb 0)]) Try.func82 nm82 bd82 rfl) (tstate_c _ _ base pb _ _ s hP hL.2.2) (fun w' h => And.intro rfl ⟨by unfold altA; rw [h.1]; rfl, h.2⟩) ?_
 rintro _ w19 ⟨s1, h1, rfl, G1⟩
 replace E := E.step G1.chg (fun _ _ _ => trivial)
 have hL1 := hL.new h1
 refine qA (I6 (s.n : Int)) rfl ?_
 refine WpL_nil (Wp_seq (Wp_seq_region ?_))
 refine qM (.slice aa l.length ac) rfl ?_
 refine qV (r_lenSlice (ad := aa) (n := l.length) (cap := ac) Try.underlying31 rfl) ?_
 refine qM (I6 0) rfl ?_
 refine WpL_nil (Wp_block ?_)
 refine Wp_loop (fun nn_ σ W1 => ∃ (k : Nat) (sk : ThS) (ak : Nat) (Fk : Nat → Prop) (pk : Value) (xk : Value), (∃ jj_, σ = upds jj_ [(0, (P6 pb 0)), (2, (.slice aa l.length ac)), (7, (I6 (s.n : Int))), (15, (.slice aa l.length ac)), (16, (I6 (l.length : Int))), (17, (I6 (k : Int))), (1, (I6 (ak : Int)))]) ∧ Chg (fun _ => True) w0 W1 ∧ (k ≤ l.length) ∧ (altT s.n (tmL l) s1 a = altT s.n (tmL (l.drop k)) sk ak) ∧ (GrT F w0 base pb pv xv Fk pk xk sk W1) ∧ (LimT sk 0) ∧ nn_ = l.length - k) (n := l.length - 0) ?_ ?_
 ·exact ⟨0, s1, a, F, pv, xv, Fits.out ⟨rfl, rfl, rfl, rfl, rfl, rfl, rfl, trivial⟩, E, Nat.zero_le _, (by rw [List.drop_zero]), G1, hL1.le (Nat.zero_le _), rfl⟩
 ·clear E
  rintro _ _ W1 ⟨k, sk, ak, Fk, pk, xk, ⟨j1, rfl⟩, E, hk, hQ, hG, hLk, rfl⟩
  refine Wp_seq_region ?_
  refine qV (r_lss (k := .i64) (a := (k : Int)) (b := (l.length : Int)) rfl rfl) ?_
  refine WpL_nil (Wp_seq ?_)
  refine Wp_cond (b := decide (((k : Int) : Int) < (l.length : Int))) rfl (fun hlt => ?_) (fun hlt => ?_)
  ·have khlt := hlt
   replace hlt := of_decide_eq_true hlt
   obtain ⟨y, hy⟩ := get_of_lt (l := l) (i := k) (by omega)
   obtain ⟨ab, ao, rfl, hres⟩ := args_at hargs (by omega)
   obtain ⟨us, hus, hyt⟩ := hres.get hy
   have hyt0 := hyt
   obtain ⟨ysa, ysc, yaa, yac, rfl, _, _, _⟩ := hyt.form
   rw [altT_at hy] at hQ
   refine Wp_skip (thn_normal (Wp_seq (Wp_block (Wp_seq_region ?_))))
   refine qM (I6 (k : Int)) rfl ?_
   refine qV (r_indexSlice (b := ab) (o := ao) (len := l.length) (cap := ac) (i := k) (o' := ao + k * 6) rfl rfl rfl Try.underlying31 siz33 (by omega) (by omega)) ?_
   refine qV (r_loadAgg (vs := [(I6 y.kind), (.slice ysa y.set.length ysc), (.slice yaa y.args.length yac), (I6 y.mn), (I6 y.mx), (.bool y.neg)]) rfl agg33 siz33 rfl (hus.ext (hG.base' hP hF hE))) ?_
   have E1 : Chg none1 W1 W1 := Chg.refl _ _
   refine s_alloc (c := #[(I6 0), (.slice none 0 0), (.slice none 0 0), (I6 0), (I6 0), (.bool false)]) (by decide) zer33 rfl ?_
   intro bu wu Nu
   have Fu := Nu.ge E
   have Fu_E1 := Nu.ge E1
   replace E := E.ext Nu.ext
   have Bu := Nu.blk
   replace E1 := E1.ext Nu.ext
   refine qA (I6 (k : Int)) rfl ?_
   refine s_storeAgg (b := bu) (o := 0) (c' := (R6 y ysa ysc yaa yac)) rfl rfl (by simp [Value.oneCell']) siz33 rfl Bu (by first | (simp; done) | exact Nat.le_of_ble_eq_true rfl) rfl ?_
   intro w3 S3
   replace E := S3.step E (by first | exact Or.inl (by omega) | exact Or.inr rfl | exact Or.inr (by assumption) | exact Or.inr (by simp) | exact Or.inr (by omega) | exact Or.inr (by dsimp only; omega))
   replace E1 := S3.step E1 (Or.inl (by omega))
   replace Bu := S3.blk
   refine WpL_nil (Wp_seq_region ?_)
   refine qM (P6 pb 0) rfl ?_
   refine qV (r_loadAgg (vs := [(I6 y.kind), (.slice ysa y.set.length ysc), (.slice yaa y.args.length yac), (I6 y.mn), (I6 y.mx), (.bool y.neg)]) rfl agg33 siz33 rfl (Bu.cells rfl)) ?_
   replace hG := hG.ext E1
   refine WpL_enterX rfl rfl (by decide) (r_callF (vs := [(P6 pb 0), (.agg (R6 y ysa ysc yaa yac))]) Try.func33 nm33 bd33 rfl) (hx y (List.mem_of_getElem? hy) base pb _ _ _ _ sk _ hyt0 (hG.base' hP hF hE) (fun q hq => hG.sub q (hF q hq)) hG.st hLk) (fun w' h => And.intro rfl ⟨by unfold altA; rw [h1]; simp [hQ, h.1], hG.pan h.2⟩) ?_
   rintro _ w29 ⟨s2, fx, fy, F2, p2, x2, h2, rfl, G2⟩
   replace E := E.step G2.chg (fun _ _ _ => trivial)
   have hL2 := hLk.step (lim_all y _ _ _ _ h2)
   rw [h2, Option.bind_some] at hQ
   dsimp only at hQ
   replace G2 := hG.comp G2
   refine qM (.tuple #[(I6 (fx : Int)), (I6 (fy : Int))]) rfl ?_
   refine qV (r_extract (vs := #[(I6 (fx : Int)), (I6 (fy : Int))]) (v := (I6 (fx : Int))) rfl rfl) ?_
   refine qV (r_extract (vs := #[(I6 (fx : Int)), (I6 (fy : Int))]) (v := (I6 (fy : Int))) rfl rfl) ?_
   refine qA (I6 (fx : Int)) rfl ?_
   refine qA (I6 (fy : Int)) rfl ?_
   refine WpL_nil (Wp_seq_region ?_)
   refine qM (P6 pb 0) rfl ?_
   refine qM (I6 (ak : Int)) rfl ?_
   refine qM (I6 (fx : Int)) rfl ?_
   refine WpL_enter rfl rfl (by decide) (r_callF (vs := [(P6 pb 0), (I6 (ak : Int)), (I6 (fx : Int))]) Try.func83 nm83 bd83 rfl) (teps_c _ _ base pb _ _ s2 ak fx G2.st hL2.small.1) ?_
   rintro _ w39 ⟨p3, G3⟩
   replace E := E.step G3.chg (fun _ _ _ => trivial)
   have hL3 : LimT (epsT s2 ak fx) 2 := hL2.eps _ _
   replace G3 := G2.comp G3
   refine WpL_nil (Wp_seq_region ?_)
   refine qM (P6 pb 0) rfl ?_
   refine qM (I6 (fy : Int)) rfl ?_
   refine qM (I6 (s.n : Int)) rfl ?_
   refine WpL_enter rfl rfl (by decide) (r_callF (vs := [(P6 pb 0), (I6 (fy : Int)), (I6 (s.n : Int))]) Try.func83 nm83 bd83 rfl) (teps_c _ _ base pb _ _ _ fy s.n G3.st hL3.small.1) ?_
   rintro _ w49 ⟨p4, G4⟩
   replace E := E.step G4.chg (fun _ _ _ => trivial)
   have hL4 : LimT (epsT (epsT s2 ak fx) fy s.n) 1 := hL3.eps _ _
   replace G4 := G3.comp G4
   refine WpL_nil (Wp_seq_region ?_)
   refine qM (I6 (k : Int)) rfl ?_
   refine qV (r_add (k := .i64) (a := (k : Int)) (b := 2) (c := ((k + 2 : Nat) : Int)) rfl rfl ((wI64 (by omega)).trans (by omega))) ?_
   refine qM (.slice (some ⟨ab, ao, none⟩) l.length ac) rfl ?_
   refine qV (r_lenSlice (ad := some ⟨ab, ao, none⟩) (n := l.length) (cap := ac) Try.underlying31 rfl) ?_
   refine qV (r_lss (k := .i64) (a := ((k + 2 : Nat) : Int)) (b := (l.length : Int)) rfl rfl) ?_
   refine WpL_nil ?_
   refine Wp_cond (b := decide ((((k + 2 : Nat) : Int) : Int) < (l.length : Int))) rfl (fun hmore => ?_) (fun hmore => ?_)
   ·have khmore := hmore
    replace hmore := of_decide_eq_true hmore
    rw [if_pos (by omega)] at hQ
    refine Wp_seq_region ?_
    refine qM (P6 pb 0) rfl ?_
    refine WpL_enterX rfl rfl (by decide) (r_callF (vs := [(P6 pb 0)]) Try.func82 nm82 bd82 rfl) (tstate_c _ _ base pb _ _ _ G4.st hL4.2.2) (fun w' h => And.intro rfl ⟨by unfold altA; rw [h1]; simp [hQ, h.1], G4.pan h.2⟩) ?_
    rintro _ w59 ⟨s5, h5, rfl, G5⟩
    replace E := E.step G5.chg (fun _ _ _ => trivial)
    have hL5 := hL4.new h5
    rw [h5, Option.bind_some] at hQ
    dsimp only at hQ
    replace G5 := G4.comp G5
    refine qA (I6 (((epsT (epsT s2 ak fx) fy s.n).n : Nat) : Int)) rfl ?_
    refine WpL_nil (Wp_seq_region ?_)
    refine qM (P6 pb 0) rfl ?_
    refine qM (I6 (ak : Int)) rfl ?_
    refine qM (I6 (((epsT (epsT s2 ak fx) fy s.n).n : Nat) : Int)) rfl ?_
    refine WpL_enter rfl rfl (by decide) (r_callF (vs := [(P6 pb 0), (I6 (ak : Int)), (I6 (((epsT (epsT s2 ak fx) fy s.n).n : Nat) : Int))]) Try.func83 nm83 bd83 rfl) (teps_c _ _ base pb _ _ s5 ak (epsT (epsT s2 ak fx) fy s.n).n G5.st hL5.small.1) ?_
    rintro _ w69 ⟨p6, G6⟩
    replace E := E.step G6.chg (fun _ _ _ => trivial)
    have hL6 : LimT (epsT s5 ak (epsT (epsT s2 ak fx) fy s.n).n) 3 := hL5.eps _ _
    replace G6 := G5.comp G6
    refine WpL_nil (Wp_region ?_)
    refine qM (I6 (((epsT (epsT s2 ak fx) fy s.n).n : Nat) : Int)) rfl ?_
    refine qA (I6 (((epsT (epsT s2 ak fx) fy s.n).n : Nat) : Int)) rfl ?_
    refine WpL_nil (inB_normal (thn_normal (Wp_region ?_)))
    refine qV (r_add (k := .i64) (a := (k : Int)) (b := 1) (c := (k : Int) + 1) rfl rfl (wI64 (by omega))) ?_
    refine qM (I6 ((k : Int) + 1)) rfl ?_
    refine WpL_nil (thn_normal ?_)
    exact ⟨l.length - (k + 1), by omega, k + 1, _, _, F2, p6, x2, Fits.out ⟨rfl, rfl, rfl, rfl, rfl, rfl, rfl, trivial⟩, E, (by omega), hQ, G6, hL6.le (Nat.zero_le _), rfl⟩
   ·have khmore := hmore
    replace hmore := of_decide_eq_false hmore
    rw [if_neg (by omega)] at hQ
    refine Wp_skip (inB_normal (thn_normal (Wp_region ?_)))
    refine qV (r_add (k := .i64) (a := (k : Int)) (b := 1) (c := (k : Int) + 1) rfl rfl (wI64 (by omega))) ?_
    refine qM (I6 ((k : Int) + 1)) rfl ?_
    refine WpL_nil (thn_normal ?_)
    exact ⟨l.length - (k + 1), by omega, k + 1, _, _, F2, p4, x2, Fits.out ⟨rfl, rfl, rfl, rfl, rfl, rfl, rfl, trivial⟩, E, (by omega), hQ, G4, hL4.le (Nat.zero_le _), rfl⟩
  ·have khlt := hlt
   replace hlt := of_decide_eq_false hlt
   have hkk : k = l.length := by omega
   rw [hkk, List.drop_length] at hQ
   refine Wp_exit (thn_exit (thn_exit (inB_here (thn_normal (Wp_seq_region ?_)))))
   refine qM (I6 (s.n : Int)) rfl ?_
   refine qA (I6 (s.n : Int)) rfl ?_
   refine WpL_nil (Wp_ret (finX_ret ?_))
   refine fin_tmp Try.results84 (v := (.int .i64 ((s.n : Nat) : Int))) rfl ?_
   exact ⟨_, _, _, _, _, by unfold altA; rw [h1]; simp [hQ, tmL, altT], rfl, hG⟩
end Go.Proofs
namespace Go.Proofs
open Go Go.Eng Go.Sort
set_option maxRecDepth 100000
theorem own_other {w : World} {base e sz n base' e' sz' n' : Nat} {v v' : Value} {xs xs' : List Value} (h : w.ownsRow base e sz v n xs) (h' : w.ownsRow base' e' sz' v' n' xs') (he : e ≠ e') {k : Nat} (hk : v.ownBlock = some k) : v'.ownBlock ≠ some k := by
 intro hk'
 rcases h.2 with ⟨rfl, _⟩ | ⟨g, cap, cur, rfl, _, hg, _⟩
 ·cases hk
 rcases h'.2 with ⟨rfl, _⟩ | ⟨g', cap', cur', rfl, _, hg', _⟩
 ·cases hk'
 ·cases hk; cases hk'
  rw [hg] at hg'
  simp only [Option.some.injEq] at hg'
  injection hg' with h1 h2
  exact he (by first | exact h1 | exact h2)
theorem own_some {w : World} {base e sz n : Nat} {v : Value} {xs : List Value} (h : w.ownsRow base e sz v n xs) : n = 0 ∨ ∃ b, v.ownBlock = some b := by
 rcases h.2 with ⟨rfl, _⟩ | ⟨g, cap, cur, rfl, _⟩
 ·left; have := h.1; simp_all
 ·exact .inr ⟨g, rfl⟩
def cloG (l : List Sp) (z : Nat) : Fct := fun v w => OwnS w z v l
theorem cloG_chg {U : Nat → Prop} {l : List Sp} {z : Nat} (h : ∀ y, U y → y < z) : ∀ v w w', Chg U w w' → cloG l z v w → cloG l z v w' := by
 rintro v w w' c ⟨h1, h2⟩
 exact ⟨h1, own_chg h2 c fun k hk hu => by have := (h2.lt k hk).1; have := h k hu; omega⟩
def edG (a b : Int) (l : List Sp) (z : Nat) : Fct := fun v w => ∃ ra rc, v = .agg #[.int .i64 a, .int .i64 b, .slice ra l.length rc] ∧ cloG l z (.slice ra l.length rc) w
theorem edG_chg {U : Nat → Prop} {a b : Int} {l : List Sp} {z : Nat} (h : ∀ y, U y → y < z) : ∀ v w w', Chg U w w' → edG a b l z v w → edG a b l z v w' := by
 rintro v w w' c ⟨ra, rc, h1, h2⟩
 exact ⟨ra, rc, h1, cloG_chg h _ _ _ c h2⟩
def elG (a b : Int) (l : List Sp) (z : Nat) : Fct := fun v w => ∃ q ra rc, v = .slice (some ⟨q, 0, none⟩) 1 1 ∧ Blk w q #[.int .i64 a, .int .i64 b, .slice ra l.length rc] TEd ∧ z ≤ q ∧ cloG l z (.slice ra l.length rc) w
theorem elG_chg {U : Nat → Prop} {a b : Int} {l : List Sp} {z : Nat} (h : ∀ y, U y → y < z) : ∀ v w w', Chg U w w' → elG a b l z v w → elG a b l z v w' := by
 rintro v w w' c ⟨q, ra, rc, h1, h2, h3, h4⟩
 exact ⟨q, ra, rc, h1, c.keep (fun hu => by have := h q hu; omega) h2, h3, cloG_chg h _ _ _ c h4⟩
theorem DoesT_litE {M : Nat → Prop} {N : Nat} {σ : Env} {w : World} {dst : Option Tmp} {ty : TypeId} {pos : String} {af : Array Edge} {g : Option (Nat × Bool)} {x : Operand} {a b : Int} {ra : Option Addr} {rc z : Nat} {l : List Sp} (hx : ev σ x = .agg #[.int .i64 a, .int .i64 b, .slice ra l.length rc]) (hb : z ≤ w.heap.size) (hO : cloG l z (.slice ra l.length rc) w) :
  DoesT M Try.prog N ⟨dst, .buildSlice 24 1 #[(0, x)], ty, pos, af, g⟩ (elG a b l z) σ w := by
 have hn := New.mk' w #[.int .i64 a, .int .i64 b, .slice ra l.length rc] TEd
 exact DoesT_val (run_buildSlice (parts := [(0, x)]) (ps := [(0, .agg #[.int .i64 a, .int .i64 b, .slice ra l.length rc])]) (by simp only [List.map, hx]) Try.underlying24 siz40 zer40 (by decide) (by decide) (by kernel_rfl)) (Ext.chg hn.ext) ⟨_, _, _, rfl, hn.blk, hb, OwnS.ext hO hn.ext⟩
def apG (base m : Nat) (xs : List Value) (old : Value) (z : Nat) (a b : Int) (l : List Sp) : Fct := fun v w => ∃ ra rc, appF base TEd 3 (m + 1) (xs ++ [.int .i64 a, .int .i64 b, .slice ra l.length rc]) old z v w ∧ cloG l z (.slice ra l.length rc) w
theorem apG_ext (base m : Nat) (xs : List Value) (old : Value) (z : Nat) (a b : Int) (l : List Sp) : ∀ v w w', Ext w w' → apG base m xs old z a b l v w → apG base m xs old z a b l v w' := by
 rintro v w w' e ⟨ra, rc, h1, h2⟩
 exact ⟨ra, rc, appF_ext _ _ _ _ _ _ _ _ _ _ e h1, OwnS.ext h2 e⟩
theorem DoesT_appE {M : Nat → Prop} {N : Nat} {σ : Env} {w : World} {dst : Option Tmp} {ty : TypeId} {pos : String} {af : Array Edge} {g : Option (Nat × Bool)} {s x : Operand} {base n q z : Nat} {a b : Int} {ra : Option Addr} {rc : Nat} {l : List Sp} {v : Value} {xs : List Value}
  (he : ev σ s = v) (hown : w.ownsRow base TEd 3 v n xs) (hx : ev σ x = .slice (some ⟨q, 0, none⟩) 1 1) (hB : Blk w q #[.int .i64 a, .int .i64 b, .slice ra l.length rc] TEd) (hO : cloG l z (.slice ra l.length rc) w) (hn : n ≤ 1000000) (hbase : base ≤ w.heap.size) (hM : ∀ y, v.ownBlock = some y → M y) (hMz : ∀ y, M y → y < z) (hz : z ≤ w.heap.size) :
  DoesT M Try.prog N ⟨dst, .call ⟨.builtin .append, #[s, x], #[24, 24]⟩, ty, pos, af, g⟩ (apG base n xs v z a b l) σ w := by
 have h1 : DoesT M Try.prog N ⟨dst, .call ⟨.builtin .append, #[s, x], #[24, 24]⟩, ty, pos, af, g⟩ (appF base TEd 3 (n + 1) (xs ++ [.int .i64 a, .int .i64 b, .slice ra l.length rc]) v z) σ w :=
  DoesT_append Try.underlying24 siz40 byt40 zer40 rfl (by decide) he hown hx rfl (hB.cells rfl) (by intro u hu; simp only [List.mem_cons, List.not_mem_nil, or_false] at hu; rcases hu with rfl | rfl | rfl <;> rfl) (by unfold maxLen; omega) (by omega) hbase hM hz
 exact fun dz a9 ha he9 Q K hK => h1 dz a9 ha he9 Q K fun v9 w9 hx9 hR => hK v9 w9 hx9 ⟨ra, rc, hR, cloG_chg hMz _ _ _ hx9 hO⟩
/-- The edge is the automaton's. -/
theorem TSt.addEdge {F : Nat → Prop} {w0 w w2 : World} {base pb z c1 c2 rc : Nat} {pv : Value} {xa ua ra : Option Addr} {s : ThS} {a b : Int} {l : List Sp} {rows : List (List Value)} (h : TSt F w0 base pb pv (.slice xa s.edges.length c1) s) (c : Chg (fun q => (Value.slice xa s.edges.length c1).ownBlock = some q) w0 w) (hz : z = w0.heap.size) (hrows : EdsF (fun y => F y ∧ base ≤ y) w0 s.edges rows)
  (ho : w.ownsRow base TEd 3 (.slice ua (s.edges.length + 1) c2) (s.edges.length + 1) (rows.flatten ++ [.int .i64 a, .int .i64 b, .slice ra l.length rc])) (hd : ∀ k, (Value.slice ua (s.edges.length + 1) c2).ownBlock = some k → (Value.slice xa s.edges.length c1).ownBlock = some k ∨ z ≤ k) (hK : cloG l z (.slice ra l.length rc) w) (p : Put w w2 pb #[nI s.n, .int .i64 0, .slice none 0 0, pv, .slice ua (s.edges.length + 1) c2] TTh) :
  GrT F w0 base pb pv (.slice xa s.edges.length c1) (fun y => F y ∨ (Value.slice ra l.length rc).ownBlock = some y) pv (.slice ua (s.edges.length + 1) c2) ⟨s.n, s.eps, s.edges ++ [(a, b, l)]⟩ w2 := by
 subst hz
 have hlk := hK.2.lt
 have hbs := h.bs
 refine GrT.edgPut (es := s.edges ++ [(a, b, l)]) (rows := rows ++ [edRow (a, b, l) (.slice ra l.length rc)]) h c (by simpa [edRow, List.flatten_append] using ho) ?_ (fun y hy => .inl hy) (fun y hy => ?_) hd p
 ·refine ((hrows.chg c fun y hy e => h.hxF y e hy.1).mono fun y hy => ⟨.inl hy.1, hy.2⟩).snoc ⟨_, rfl, OwnS.at hK, ?_⟩
  rcases own_some hK.2 with h1 | ⟨k, hk⟩
  ·exact .inl (List.eq_nil_of_length_eq_zero h1)
  ·exact .inr ⟨k, hk, .inr hk, by have := (hlk k hk).1; omega⟩
 ·rcases hy with hy | hy
  ·exact .inl hy
  ·exact .inr ⟨(hlk y hy).1, (hlk y hy).2, own_other hK.2 ho (by decide) hy⟩
end Go.Proofs
namespace Go.Proofs
open Go Go.Eng Go.Sort
set_option maxRecDepth 100000
section
variable {x y : Re} {s s1 : ThS}
theorem tmO_eq (x : Re) (s : ThS) : tmO x s = nodeT x.kind x.set x.mn x.mx (tmL x.args) s := by cases x; rw [tmO]; rfl
theorem tmL_one (ha : x.args = [y]) : tmL x.args = [tmO y] := by rw [ha]; rfl
theorem tm_no (h : newT s = none) : tmO x s = none := by rw [tmO_eq, nodeT, h]; rfl
theorem tm_0 (h : newT s = some (s1, s.n)) (hk : x.kind = 0) : tmO x s = (newT s1).bind fun (s2, b) => some (s2, s.n, b) := by rw [tmO_eq, nodeT, h, Option.bind_some, hk]; rfl
theorem tm_1 (h : newT s = some (s1, s.n)) (hk : x.kind = 1) : tmO x s = some (s1, s.n, s.n) := by rw [tmO_eq, nodeT, h, Option.bind_some, hk]; rfl
theorem tm_2 (h : newT s = some (s1, s.n)) (hk : x.kind = 2) : tmO x s = (newT s1).bind fun (s2, b) => some (edgeT s2 s.n b x.set, s.n, b) := by rw [tmO_eq, nodeT, h, Option.bind_some, hk]; rfl
theorem tm_3 (h : newT s = some (s1, s.n)) (hk : x.kind = 3) : tmO x s = (catT (tmL x.args) s1 s.n).bind fun (s2, b) => some (s2, s.n, b) := by rw [tmO_eq, nodeT, h, Option.bind_some, hk]; rfl
theorem tm_4 (h : newT s = some (s1, s.n)) (hk : x.kind = 4) : tmO x s = (altA (tmL x.args) s1 s.n).bind fun (s2, b) => some (s2, s.n, b) := by
  rw [tmO_eq, nodeT, h, Option.bind_some, hk, altA]
  show ((newT s1).bind fun (s2, e) => (altT e (tmL x.args) s2 s.n).bind fun s3 => some (s3, s.n, e)) = _
  cases h1 : newT s1 with
  | none => rfl
  | some p =>
    simp only [Option.bind_some]
    cases h2 : altT p.2 (tmL x.args) p.1 s.n with
    | none => rfl
    | some q => rfl
theorem tm_9 (h : newT s = some (s1, s.n)) (hk : x.kind = 9) (ha : x.args = [y]) : tmO x s = (tmO y s1).bind fun (s2, a, b) => some (epsT s2 s.n a, s.n, b) := by rw [tmO_eq, nodeT, h, Option.bind_some, hk, tmL_one ha]; rfl
theorem tm_5 (h : newT s = some (s1, s.n)) (hk : x.kind = 5) (ha : x.args = [y]) : tmO x s = (starF (tmO y) s1 s.n).bind fun (s2, e) => some (s2, s.n, e) := by
  rw [tmO_eq, nodeT, h, Option.bind_some, hk, tmL_one ha, starF]
  show ((tmO y s1).bind fun (s2, a, b) => (newT s2).bind fun (s3, e) => some (epsT (epsT (epsT s3 s.n a) s.n e) b s.n, s.n, e)) = _
  cases h1 : tmO y s1 with
  | none => rfl
  | some p =>
    obtain ⟨s2, a, b⟩ := p
    simp only [Option.bind_some]
    cases h2 : newT s2 with
    | none => rfl
    | some q => rfl
theorem tm_6 (h : newT s = some (s1, s.n)) (hk : x.kind = 6) (ha : x.args = [y]) : tmO x s = (repT (tmO y) x.mn s1 s.n x.mx.toNat).bind fun (s2, b) => some (s2, s.n, b) := by rw [tmO_eq, nodeT, h, Option.bind_some, hk, tmL_one ha]; rfl
end
theorem args_one9 {t : Re} (h : t.args.length = 1) : ∃ y, t.args = [y] := by
  match t.args, h with
  | [a], _ => exact ⟨a, rfl⟩
set_option maxHeartbeats 2000000 in
theorem tof0_c (wb : World) (x : Re) (hk : x.kind = 0) : ThOf wb x := by
 intro base pb F w0 pv xv s vs hxt hE hF hP hL
 have hxt0 := hxt
 obtain ⟨sa, sc, aa, ac, rfl, hset, hlen, hargs⟩ := hxt.form
 refine RetX_of Try.func33 rfl Try.ntmps33 (Nat.le_of_ble_eq_true rfl) ?_
 have E : Chg (fun _ => True) w0 w0 := Chg.refl _ _
 refine Wp_seq_region ?_
 refine s_box (v := (.agg (R6 x sa sc aa ac))) (c := (R6 x sa sc aa ac)) (by decide) rfl rfl ?_
 intro br wr Nr
 have Fr := Nr.ge E
 replace E := E.ext Nr.ext
 have Br := Nr.blk
 refine qA (I6 0) rfl ?_
 refine qA (I6 0) rfl ?_
 refine WpL_nil (Wp_seq_region ?_)
 refine qM (P6 pb 0) rfl ?_
 have G1 := (GrT.start hP).frz Nr.ext (b := br) (by rw [Nr.eq]; exact Nat.le_refl _) Br.lt
 refine WpL_enterX rfl rfl (by decide) (r_callF (vs := [(P6 pb 0)]) Try.func82 nm82 bd82 rfl) (tstate_c _ _ base pb _ _ s G1.st hL.2.2) (fun w' h => And.intro rfl ⟨tm_no h.1, G1.pan h.2⟩) ?_
 rintro _ w19 ⟨s1, h1, rfl, G2⟩
 replace Br := G2.chg.keep (G1.st.kept (.inr rfl)) Br
 replace E := E.step G2.chg (fun _ _ _ => trivial)
 have hL1 := hL.new h1
 replace G2 := G1.comp G2
 refine qA (I6 (s.n : Int)) rfl ?_
 refine WpL_nil (Wp_seq (Wp_seq_region ?_))
 refine qF br 0 0 rfl Try.underlying33 rfl siz3 rfl ?_
 refine qV (r_load (v := (I6 x.kind)) rfl flat3 (Br.cell rfl)) ?_
 refine WpL_nil (Wp_block (Wp_seq_region ?_))
 refine qV (r_eql (k := .i64) (a := x.kind) (b := 0) rfl rfl) ?_
 refine qA (.bool (decide ((x.kind : Int) = 0))) rfl ?_
 refine WpL_nil ?_
 have hc1 : (decide ((x.kind : Int) = 0)) = true := decide_eq_true hk
 refine Wp_cond_true (congrArg Value.bool hc1) ?_
 refine Wp_seq_region ?_
 refine qM (I6 (s.n : Int)) rfl ?_
 refine qM (P6 pb 0) rfl ?_
 refine WpL_enterX rfl rfl (by decide) (r_callF (vs := [(P6 pb 0)]) Try.func82 nm82 bd82 rfl) (tstate_c _ _ base pb _ _ s1 G2.st hL1.2.2) (fun w' h => And.intro rfl ⟨by rw [tm_0 h1 hk, h.1]; rfl, G2.pan h.2⟩) ?_
 rintro _ w29 ⟨s2, h2, rfl, G3⟩
 replace Br := G3.chg.keep (G2.st.kept (.inr rfl)) Br
 replace E := E.step G3.chg (fun _ _ _ => trivial)
 refine qA (I6 (s.n : Int)) rfl ?_
 refine qA (I6 (s1.n : Int)) rfl ?_
 refine WpL_nil (Wp_ret (inB_ret (thn_ret (finX_ret ?_))))
 refine fin_tmp2 Try.results33 (v := (.int .i64 ((s.n : Nat) : Int))) (v' := (.int .i64 ((s1.n : Nat) : Int))) rfl rfl ?_
 exact ⟨_, _, _, _, _, _, by rw [tm_0 h1 hk, h2]; rfl, rfl, G2.comp G3⟩
set_option maxHeartbeats 2000000 in
theorem tof1_c (wb : World) (x : Re) (hk : x.kind = 1) : ThOf wb x := by
 intro base pb F w0 pv xv s vs hxt hE hF hP hL
 have hxt0 := hxt
 obtain ⟨sa, sc, aa, ac, rfl, hset, hlen, hargs⟩ := hxt.form
 refine RetX_of Try.func33 rfl Try.ntmps33 (Nat.le_of_ble_eq_true rfl) ?_
 have E : Chg (fun _ => True) w0 w0 := Chg.refl _ _
 refine Wp_seq_region ?_
 refine s_box (v := (.agg (R6 x sa sc aa ac))) (c := (R6 x sa sc aa ac)) (by decide) rfl rfl ?_
 intro br wr Nr
 have Fr := Nr.ge E
 replace E := E.ext Nr.ext
 have Br := Nr.blk
 refine qA (I6 0) rfl ?_
 refine qA (I6 0) rfl ?_
 refine WpL_nil (Wp_seq_region ?_)
 refine qM (P6 pb 0) rfl ?_
 have G1 := (GrT.start hP).frz Nr.ext (b := br) (by rw [Nr.eq]; exact Nat.le_refl _) Br.lt
 refine WpL_enterX rfl rfl (by decide) (r_callF (vs := [(P6 pb 0)]) Try.func82 nm82 bd82 rfl) (tstate_c _ _ base pb _ _ s G1.st hL.2.2) (fun w' h => And.intro rfl ⟨tm_no h.1, G1.pan h.2⟩) ?_
 rintro _ w19 ⟨s1, h1, rfl, G2⟩
 replace Br := G2.chg.keep (G1.st.kept (.inr rfl)) Br
 replace E := E.step G2.chg (fun _ _ _ => trivial)
 have hL1 := hL.new h1
 replace G2 := G1.comp G2
 refine qA (I6 (s.n : Int)) rfl ?_
 refine WpL_nil (Wp_seq (Wp_seq_region ?_))
 refine qF br 0 0 rfl Try.underlying33 rfl siz3 rfl ?_
 refine qV (r_load (v := (I6 x.kind)) rfl flat3 (Br.cell rfl)) ?_
 refine WpL_nil (Wp_block (Wp_seq_region ?_))
 refine qV (r_eql (k := .i64) (a := x.kind) (b := 0) rfl rfl) ?_
 refine qA (.bool (decide ((x.kind : Int) = 0))) rfl ?_
 refine WpL_nil ?_
 have hc1 : (decide ((x.kind : Int) = 0)) = false := decide_eq_false (by omega)
 refine Wp_cond_false (congrArg Value.bool hc1) ?_
 refine Wp_seq_region ?_
 refine qV (r_eql (k := .i64) (a := x.kind) (b := 1) rfl rfl) ?_
 refine qA (.bool (decide ((x.kind : Int) = 1))) rfl ?_
 refine WpL_nil ?_
 have hc2 : (decide ((x.kind : Int) = 1)) = true := decide_eq_true hk
 refine Wp_cond_true (congrArg Value.bool hc2) ?_
 refine Wp_seq_region ?_
 refine qM (I6 (s.n : Int)) rfl ?_
 refine qM (I6 (s.n : Int)) rfl ?_
 refine qA (I6 (s.n : Int)) rfl ?_
 refine qA (I6 (s.n : Int)) rfl ?_
 refine WpL_nil (Wp_ret (inB_ret (thn_ret (finX_ret ?_))))
 refine fin_tmp2 Try.results33 (v := (.int .i64 ((s.n : Nat) : Int))) (v' := (.int .i64 ((s.n : Nat) : Int))) rfl rfl ?_
 exact ⟨_, _, _, _, _, _, tm_1 h1 hk, rfl, G2⟩
set_option maxHeartbeats 2000000 in
theorem tof9_c (wb : World) (x : Re) (hk : x.kind = 9) (ha : x.args.length = 1) (hof : ∀ y ∈ x.args, ThOf wb y) : ThOf wb x := by
 intro base pb F w0 pv xv s vs hxt hE hF hP hL
 have hxt0 := hxt
 obtain ⟨sa, sc, aa, ac, rfl, hset, hlen, hargs⟩ := hxt.form
 obtain ⟨y, hy⟩ := args_one9 ha
 have hym : y ∈ x.args := by rw [hy]; exact List.mem_singleton_self y
 obtain ⟨ab, ao, rfl, hres⟩ := args_at hargs (by omega)
 obtain ⟨us, hus, hyt⟩ := hres.get (i := 0) (t := y) (by rw [hy]; rfl)
 have hyt0 := hyt
 obtain ⟨ysa, ysc, yaa, yac, rfl, _, _, _⟩ := hyt.form
 refine RetX_of Try.func33 rfl Try.ntmps33 (Nat.le_of_ble_eq_true rfl) ?_
 have E : Chg (fun _ => True) w0 w0 := Chg.refl _ _
 refine Wp_seq_region ?_
 refine s_box (v := (.agg (R6 x sa sc (some ⟨ab, ao, none⟩) ac))) (c := (R6 x sa sc (some ⟨ab, ao, none⟩) ac)) (by decide) rfl rfl ?_
 intro br wr Nr
 have Fr := Nr.ge E
 replace E := E.ext Nr.ext
 have Br := Nr.blk
 refine qA (I6 0) rfl ?_
 refine qA (I6 0) rfl ?_
 refine WpL_nil (Wp_seq_region ?_)
 refine qM (P6 pb 0) rfl ?_
 have G1 := (GrT.start hP).frz Nr.ext (b := br) (by rw [Nr.eq]; exact Nat.le_refl _) Br.lt
 refine WpL_enterX rfl rfl (by decide) (r_callF (vs := [(P6 pb 0)]) Try.func82 nm82 bd82 rfl) (tstate_c _ _ base pb _ _ s G1.st hL.2.2) (fun w' h => And.intro rfl ⟨tm_no h.1, G1.pan h.2⟩) ?_
 rintro _ w19 ⟨s1, h1, rfl, G2⟩
 replace Br := G2.chg.keep (G1.st.kept (.inr rfl)) Br
 replace E := E.step G2.chg (fun _ _ _ => trivial)
 have hL1 := hL.new h1
 replace G2 := G1.comp G2
 refine qA (I6 (s.n : Int)) rfl ?_
 refine WpL_nil (Wp_seq (Wp_seq_region ?_))
 refine qF br 0 0 rfl Try.underlying33 rfl siz3 rfl ?_
 refine qV (r_load (v := (I6 x.kind)) rfl flat3 (Br.cell rfl)) ?_
 refine WpL_nil (Wp_block (Wp_seq_region ?_))
 refine qV (r_eql (k := .i64) (a := x.kind) (b := 0) rfl rfl) ?_
 refine qA (.bool (decide ((x.kind : Int) = 0))) rfl ?_
 refine WpL_nil ?_
 have hc1 : (decide ((x.kind : Int) = 0)) = false := decide_eq_false (by omega)
 refine Wp_cond_false (congrArg Value.bool hc1) ?_
 refine Wp_seq_region ?_
 refine qV (r_eql (k := .i64) (a := x.kind) (b := 1) rfl rfl) ?_
 refine qA (.bool (decide ((x.kind : Int) = 1))) rfl ?_
 refine WpL_nil ?_
 have hc2 : (decide ((x.kind : Int) = 1)) = false := decide_eq_false (by omega)
 refine Wp_cond_false (congrArg Value.bool hc2) ?_
 refine Wp_seq_region ?_
 refine qV (r_eql (k := .i64) (a := x.kind) (b := 2) rfl rfl) ?_
 refine qA (.bool (decide ((x.kind : Int) = 2))) rfl ?_
 refine WpL_nil ?_
 have hc3 : (decide ((x.kind : Int) = 2)) = false := decide_eq_false (by omega)
 refine Wp_cond_false (congrArg Value.bool hc3) ?_
 refine Wp_seq_region ?_
 refine qV (r_eql (k := .i64) (a := x.kind) (b := 3) rfl rfl) ?_
 refine qA (.bool (decide ((x.kind : Int) = 3))) rfl ?_
 refine WpL_nil ?_
 have hc4 : (decide ((x.kind : Int) = 3)) = false := decide_eq_false (by omega)
 refine Wp_cond_false (congrArg Value.bool hc4) ?_
 refine Wp_seq_region ?_
 refine qV (r_eql (k := .i64) (a := x.kind) (b := 4) rfl rfl) ?_
 refine qA (.bool (decide ((x.kind : Int) = 4))) rfl ?_
 refine WpL_nil ?_
 have hc5 : (decide ((x.kind : Int) = 4)) = false := decide_eq_false (by omega)
 refine Wp_cond_false (congrArg Value.bool hc5) ?_
 refine Wp_seq_region ?_
 refine qV (r_eql (k := .i64) (a := x.kind) (b := 9) rfl rfl) ?_
 refine qA (.bool (decide ((x.kind : Int) = 9))) rfl ?_
 refine WpL_nil ?_
 have hc6 : (decide ((x.kind : Int) = 9)) = true := decide_eq_true hk
 refine Wp_cond_true (congrArg Value.bool hc6) ?_
 refine Wp_seq_region ?_
 refine qM (P6 pb 0) rfl ?_
 refine qF br 0 2 rfl Try.underlying33 rfl siz31 rfl ?_
 refine qV (r_load (v := (.slice (some ⟨ab, ao, none⟩) x.args.length ac)) rfl flat31 (Br.cell rfl)) ?_
 refine qV (r_indexSlice (b := ab) (o := ao) (len := x.args.length) (cap := ac) (i := 0) (o' := ao + 0 * 6) rfl rfl rfl Try.underlying31 siz33 (by omega) (by omega)) ?_
 refine qV (r_loadAgg (vs := [(I6 y.kind), (.slice ysa y.set.length ysc), (.slice yaa y.args.length yac), (I6 y.mn), (I6 y.mx), (.bool y.neg)]) rfl agg33 siz33 rfl (by simpa using hus.ext (G2.base' hP hF hE))) ?_
 refine WpL_enterX rfl rfl (by decide) (r_callF (vs := [(P6 pb 0), (.agg (R6 y ysa ysc yaa yac))]) Try.func33 nm33 bd33 rfl) (hof y hym base pb _ _ _ _ s1 _ hyt0 (G2.base' hP hF hE) (fun q hq => G2.sub q (hF q hq)) G2.st (hL1.le (Nat.zero_le _))) (fun w' h => And.intro rfl ⟨by rw [tm_9 h1 hk hy, h.1]; rfl, G2.pan h.2⟩) ?_
 rintro _ w29 ⟨s2, fx, fy, F2, p2, x2, h2, rfl, G3⟩
 replace Br := G3.chg.keep (G2.st.kept (.inr rfl)) Br
 replace E := E.step G3.chg (fun _ _ _ => trivial)
 have hL2 := (hL1.le (Nat.zero_le _) : LimT s1 0).step (lim_all y _ _ _ _ h2)
 replace G3 := G2.comp G3
 refine qM (.tuple #[(I6 (fx : Int)), (I6 (fy : Int))]) rfl ?_
 refine qV (r_extract (vs := #[(I6 (fx : Int)), (I6 (fy : Int))]) (v := (I6 (fx : Int))) rfl rfl) ?_
 refine qV (r_extract (vs := #[(I6 (fx : Int)), (I6 (fy : Int))]) (v := (I6 (fy : Int))) rfl rfl) ?_
 refine qA (I6 (fx : Int)) rfl ?_
 refine qA (I6 (fy : Int)) rfl ?_
 refine WpL_nil (Wp_seq_region ?_)
 refine qM (P6 pb 0) rfl ?_
 refine qM (I6 (s.n : Int)) rfl ?_
 refine qM (I6 (fx : Int)) rfl ?_
 refine WpL_enter rfl rfl (by decide) (r_callF (vs := [(P6 pb 0), (I6 (s.n : Int)), (I6 (fx : Int))]) Try.func83 nm83 bd83 rfl) (teps_c _ _ base pb _ _ s2 s.n fx G3.st hL2.small.1) ?_
 rintro _ w39 ⟨p4, G4⟩
 replace E := E.step G4.chg (fun _ _ _ => trivial)
 refine WpL_nil (Wp_seq_region ?_)
 refine qM (I6 (s.n : Int)) rfl ?_
 refine qM (I6 (fy : Int)) rfl ?_
 refine qA (I6 (s.n : Int)) rfl ?_
 refine qA (I6 (fy : Int)) rfl ?_
 refine WpL_nil (Wp_ret (inB_ret (thn_ret (finX_ret ?_))))
 refine fin_tmp2 Try.results33 (v := (.int .i64 ((s.n : Nat) : Int))) (v' := (.int .i64 ((fy : Nat) : Int))) rfl rfl ?_
 exact ⟨_, _, _, _, _, _, by rw [tm_9 h1 hk hy, h2]; rfl, rfl, G3.comp G4⟩
set_option maxHeartbeats 2000000 in
theorem tof5_c (wb : World) (x : Re) (hk : x.kind = 5) (ha : x.args.length = 1) (hof : ∀ y ∈ x.args, ThOf wb y) : ThOf wb x := by
 intro base pb F w0 pv xv s vs hxt hE hF hP hL
 have hxt0 := hxt
 obtain ⟨sa, sc, aa, ac, rfl, hset, hlen, hargs⟩ := hxt.form
 obtain ⟨y, hy⟩ := args_one9 ha
 have hym : y ∈ x.args := by rw [hy]; exact List.mem_singleton_self y
 obtain ⟨ab, ao, rfl, hres⟩ := args_at hargs (by omega)
 obtain ⟨us, hus, hyt⟩ := hres.get (i := 0) (t := y) (by rw [hy]; rfl)
 have hyt0 := hyt
 obtain ⟨ysa, ysc, yaa, yac, rfl, _, _, _⟩ := hyt.form
 refine RetX_of Try.func33 rfl Try.ntmps33 (Nat.le_of_ble_eq_true rfl) ?_
 have E : Chg (fun _ => True) w0 w0 := Chg.refl _ _
 refine Wp_seq_region ?_
 refine s_box (v := (.agg (R6 x sa sc (some ⟨ab, ao, none⟩) ac))) (c := (R6 x sa sc (some ⟨ab, ao, none⟩) ac)) (by decide) rfl rfl ?_
 intro br wr Nr
 have Fr := Nr.ge E
 replace E := E.ext Nr.ext
 have Br := Nr.blk
 refine qA (I6 0) rfl ?_
 refine qA (I6 0) rfl ?_
 refine WpL_nil (Wp_seq_region ?_)
 refine qM (P6 pb 0) rfl ?_
 have G1 := (GrT.start hP).frz Nr.ext (b := br) (by rw [Nr.eq]; exact Nat.le_refl _) Br.lt
 refine WpL_enterX rfl rfl (by decide) (r_callF (vs := [(P6 pb 0)]) Try.func82 nm82 bd82 rfl) (tstate_c _ _ base pb _ _ s G1.st hL.2.2) (fun w' h => And.intro rfl ⟨tm_no h.1, G1.pan h.2⟩) ?_
 rintro _ w19 ⟨s1, h1, rfl, G2⟩
 replace Br := G2.chg.keep (G1.st.kept (.inr rfl)) Br
 replace E := E.step G2.chg (fun _ _ _ => trivial)
 have hL1 := hL.new h1
 replace G2 := G1.comp G2
 refine qA (I6 (s.n : Int)) rfl ?_
 refine WpL_nil (Wp_seq (Wp_seq_region ?_))
 refine qF br 0 0 rfl Try.underlying33 rfl siz3 rfl ?_
 refine qV (r_load (v := (I6 x.kind)) rfl flat3 (Br.cell rfl)) ?_
 refine WpL_nil (Wp_block (Wp_seq_region ?_))
 refine qV (r_eql (k := .i64) (a := x.kind) (b := 0) rfl rfl) ?_
 refine qA (.bool (decide ((x.kind : Int) = 0))) rfl ?_
 refine WpL_nil ?_
 have hc1 : (decide ((x.kind : Int) = 0)) = false := decide_eq_false (by omega)
 refine Wp_cond_false (congrArg Value.bool hc1) ?_
 refine Wp_seq_region ?_
 refine qV (r_eql (k := .i64) (a := x.kind) (b := 1) rfl rfl) ?_
 refine qA (.bool (decide ((x.kind : Int) = 1))) rfl ?_
 refine WpL_nil ?_
 have hc2 : (decide ((x.kind : Int) = 1)) = false := decide_eq_false (by omega)
 refine Wp_cond_false (congrArg Value.bool hc2) ?_
 refine Wp_seq_region ?_
 refine qV (r_eql (k := .i64) (a := x.kind) (b := 2) rfl rfl) ?_
 refine qA (.bool (decide ((x.kind : Int) = 2))) rfl ?_
 refine WpL_nil ?_
 have hc3 : (decide ((x.kind : Int) = 2)) = false := decide_eq_false (by omega)
 refine Wp_cond_false (congrArg Value.bool hc3) ?_
 refine Wp_seq_region ?_
 refine qV (r_eql (k := .i64) (a := x.kind) (b := 3) rfl rfl) ?_
 refine qA (.bool (decide ((x.kind : Int) = 3))) rfl ?_
 refine WpL_nil ?_
 have hc4 : (decide ((x.kind : Int) = 3)) = false := decide_eq_false (by omega)
 refine Wp_cond_false (congrArg Value.bool hc4) ?_
 refine Wp_seq_region ?_
 refine qV (r_eql (k := .i64) (a := x.kind) (b := 4) rfl rfl) ?_
 refine qA (.bool (decide ((x.kind : Int) = 4))) rfl ?_
 refine WpL_nil ?_
 have hc5 : (decide ((x.kind : Int) = 4)) = false := decide_eq_false (by omega)
 refine Wp_cond_false (congrArg Value.bool hc5) ?_
 refine Wp_seq_region ?_
 refine qV (r_eql (k := .i64) (a := x.kind) (b := 9) rfl rfl) ?_
 refine qA (.bool (decide ((x.kind : Int) = 9))) rfl ?_
 refine WpL_nil ?_
 have hc6 : (decide ((x.kind : Int) = 9)) = false := decide_eq_false (by omega)
 refine Wp_cond_false (congrArg Value.bool hc6) ?_
 refine Wp_seq_region ?_
 refine qV (r_eql (k := .i64) (a := x.kind) (b := 5) rfl rfl) ?_
 refine qA (.bool (decide ((x.kind : Int) = 5))) rfl ?_
 refine WpL_nil ?_
 have hc7 : (decide ((x.kind : Int) = 5)) = true := decide_eq_true hk
 refine Wp_cond_true (congrArg Value.bool hc7) ?_
 refine Wp_seq_region ?_
 refine qM (I6 (s.n : Int)) rfl ?_
 refine qM (P6 pb 0) rfl ?_
 refine qM (I6 (s.n : Int)) rfl ?_
 refine qF br 0 2 rfl Try.underlying33 rfl siz31 rfl ?_
 refine qV (r_load (v := (.slice (some ⟨ab, ao, none⟩) x.args.length ac)) rfl flat31 (Br.cell rfl)) ?_
 refine qV (r_indexSlice (b := ab) (o := ao) (len := x.args.length) (cap := ac) (i := 0) (o' := ao + 0 * 6) rfl rfl rfl Try.underlying31 siz33 (by omega) (by omega)) ?_
 refine qV (r_loadAgg (vs := [(I6 y.kind), (.slice ysa y.set.length ysc), (.slice yaa y.args.length yac), (I6 y.mn), (I6 y.mx), (.bool y.neg)]) rfl agg33 siz33 rfl (by simpa using hus.ext (G2.base' hP hF hE))) ?_
 refine WpL_enterX rfl rfl (by decide) (r_callF (vs := [(P6 pb 0), (I6 (s.n : Int)), (.agg (R6 y ysa ysc yaa yac))]) Try.func85 nm85 bd85 rfl) (tstar_c wb y (hof y hym) base pb _ _ _ _ s1 s.n _ hyt0 (G2.base' hP hF hE) (fun q hq => G2.sub q (hF q hq)) G2.st (hL1.le (Nat.zero_le _))) (fun w' h => And.intro rfl ⟨by rw [tm_5 h1 hk hy, h.1]; rfl, G2.pan h.2⟩) ?_
 rintro _ w29 ⟨s2, fx, F2, p2, x2, h2, rfl, G3⟩
 replace Br := G3.chg.keep (G2.st.kept (.inr rfl)) Br
 replace E := E.step G3.chg (fun _ _ _ => trivial)
 refine qA (I6 (s.n : Int)) rfl ?_
 refine qA (I6 (fx : Int)) rfl ?_
 refine WpL_nil (Wp_ret (inB_ret (thn_ret (finX_ret ?_))))
 refine fin_tmp2 Try.results33 (v := (.int .i64 ((s.n : Nat) : Int))) (v' := (.int .i64 ((fx : Nat) : Int))) rfl rfl ?_
 exact ⟨_, _, _, _, _, _, by rw [tm_5 h1 hk hy, h2]; rfl, rfl, G2.comp G3⟩
set_option maxHeartbeats 2000000 in
theorem tof4_c (wb : World) (x : Re) (hk : x.kind = 4) (hof : ∀ y ∈ x.args, ThOf wb y) (hsz : x.args.length ≤ 1000000) : ThOf wb x := by
 intro base pb F w0 pv xv s vs hxt hE hF hP hL
 have hxt0 := hxt
 obtain ⟨sa, sc, aa, ac, rfl, hset, hlen, hargs⟩ := hxt.form
 refine RetX_of Try.func33 rfl Try.ntmps33 (Nat.le_of_ble_eq_true rfl) ?_
 have E : Chg (fun _ => True) w0 w0 := Chg.refl _ _
 refine Wp_seq_region ?_
 refine s_box (v := (.agg (R6 x sa sc aa ac))) (c := (R6 x sa sc aa ac)) (by decide) rfl rfl ?_
 intro br wr Nr
 have Fr := Nr.ge E
 replace E := E.ext Nr.ext
 have Br := Nr.blk
 refine qA (I6 0) rfl ?_
 refine qA (I6 0) rfl ?_
 refine WpL_nil (Wp_seq_region ?_)
 refine qM (P6 pb 0) rfl ?_
 have G1 := (GrT.start hP).frz Nr.ext (b := br) (by rw [Nr.eq]; exact Nat.le_refl _) Br.lt
 refine WpL_enterX rfl rfl (by decide) (r_callF (vs := [(P6 pb 0)]) Try.func82 nm82 bd82 rfl) (tstate_c _ _ base pb _ _ s G1.st hL.2.2) (fun w' h => And.intro rfl ⟨tm_no h.1, G1.pan h.2⟩) ?_
 rintro _ w19 ⟨s1, h1, rfl, G2⟩
 replace Br := G2.chg.keep (G1.st.kept (.inr rfl)) Br
 replace E := E.step G2.chg (fun _ _ _ => trivial)
 have hL1 := hL.new h1
 replace G2 := G1.comp G2
 refine qA (I6 (s.n : Int)) rfl ?_
 refine WpL_nil (Wp_seq (Wp_seq_region ?_))
 refine qF br 0 0 rfl Try.underlying33 rfl siz3 rfl ?_
 refine qV (r_load (v := (I6 x.kind)) rfl flat3 (Br.cell rfl)) ?_
 refine WpL_nil (Wp_block (Wp_seq_region ?_))
 refine qV (r_eql (k := .i64) (a := x.kind) (b := 0) rfl rfl) ?_
 refine qA (.bool (decide ((x.kind : Int) = 0))) rfl ?_
 refine WpL_nil ?_
 have hc1 : (decide ((x.kind : Int) = 0)) = false := decide_eq_false (by omega)
 refine Wp_cond_false (congrArg Value.bool hc1) ?_
 refine Wp_seq_region ?_
 refine qV (r_eql (k := .i64) (a := x.kind) (b := 1) rfl rfl) ?_
 refine qA (.bool (decide ((x.kind : Int) = 1))) rfl ?_
 refine WpL_nil ?_
 have hc2 : (decide ((x.kind : Int) = 1)) = false := decide_eq_false (by omega)
 refine Wp_cond_false (congrArg Value.bool hc2) ?_
 refine Wp_seq_region ?_
 refine qV (r_eql (k := .i64) (a := x.kind) (b := 2) rfl rfl) ?_
 refine qA (.bool (decide ((x.kind : Int) = 2))) rfl ?_
 refine WpL_nil ?_
 have hc3 : (decide ((x.kind : Int) = 2)) = false := decide_eq_false (by omega)
 refine Wp_cond_false (congrArg Value.bool hc3) ?_
 refine Wp_seq_region ?_
 refine qV (r_eql (k := .i64) (a := x.kind) (b := 3) rfl rfl) ?_
 refine qA (.bool (decide ((x.kind : Int) = 3))) rfl ?_
 refine WpL_nil ?_
 have hc4 : (decide ((x.kind : Int) = 3)) = false := decide_eq_false (by omega)
 refine Wp_cond_false (congrArg Value.bool hc4) ?_
 refine Wp_seq_region ?_
 refine qV (r_eql (k := .i64) (a := x.kind) (b := 4) rfl rfl) ?_
 refine qA (.bool (decide ((x.kind : Int) = 4))) rfl ?_
 refine WpL_nil ?_
 have hc5 : (decide ((x.kind : Int) = 4)) = true := decide_eq_true hk
 refine Wp_cond_true (congrArg Value.bool hc5) ?_
 refine Wp_seq_region ?_
 refine qM (I6 (s.n : Int)) rfl ?_
 refine qM (P6 pb 0) rfl ?_
 refine qM (I6 (s.n : Int)) rfl ?_
 refine qF br 0 2 rfl Try.underlying33 rfl siz31 rfl ?_
 refine qV (r_load (v := (.slice aa x.args.length ac)) rfl flat31 (Br.cell rfl)) ?_
 refine WpL_enterX rfl rfl (by decide) (r_callF (vs := [(P6 pb 0), (I6 (s.n : Int)), (.slice aa x.args.length ac)]) Try.func84 nm84 bd84 rfl) (talt_c wb x.args hof base pb _ _ _ _ s1 s.n aa ac hlen hargs hsz (G2.base' hP hF hE) (fun q hq => G2.sub q (hF q hq)) G2.st (hL1.le (Nat.zero_le _))) (fun w' h => And.intro rfl ⟨by rw [tm_4 h1 hk, h.1]; rfl, G2.pan h.2⟩) ?_
 rintro _ w29 ⟨s2, fx, F2, p2, x2, h2, rfl, G3⟩
 replace Br := G3.chg.keep (G2.st.kept (.inr rfl)) Br
 replace E := E.step G3.chg (fun _ _ _ => trivial)
 refine qA (I6 (s.n : Int)) rfl ?_
 refine qA (I6 (fx : Int)) rfl ?_
 refine WpL_nil (Wp_ret (inB_ret (thn_ret (finX_ret ?_))))
 refine fin_tmp2 Try.results33 (v := (.int .i64 ((s.n : Nat) : Int))) (v' := (.int .i64 ((fx : Nat) : Int))) rfl rfl ?_
 exact ⟨_, _, _, _, _, _, by rw [tm_4 h1 hk, h2]; rfl, rfl, G2.comp G3⟩
set_option maxHeartbeats 2000000 in
theorem tof3_c (wb : World) (x : Re) (hk : x.kind = 3) (hof : ∀ y ∈ x.args, ThOf wb y) : ThOf wb x := by
 intro base pb F w0 pv xv s vs hxt hE hF hP hL
 have hxt0 := hxt
 obtain ⟨sa, sc, aa, ac, rfl, hset, hlen, hargs⟩ := hxt.form
 refine RetX_of Try.func33 rfl Try.ntmps33 (Nat.le_of_ble_eq_true rfl) ?_
 have E : Chg (fun _ => True) w0 w0 := Chg.refl _ _
 refine Wp_seq_region ?_
 refine s_box (v := (.agg (R6 x sa sc aa ac))) (c := (R6 x sa sc aa ac)) (by decide) rfl rfl ?_
 intro br wr Nr
 have Fr := Nr.ge E
 replace E := E.ext Nr.ext
 have Br := Nr.blk
 refine qA (I6 0) rfl ?_
 refine qA (I6 0) rfl ?_
 refine WpL_nil (Wp_seq_region ?_)
 refine qM (P6 pb 0) rfl ?_
 have G1 := (GrT.start hP).frz Nr.ext (b := br) (by rw [Nr.eq]; exact Nat.le_refl _) Br.lt
 refine WpL_enterX rfl rfl (by decide) (r_callF (vs := [(P6 pb 0)]) Try.func82 nm82 bd82 rfl) (tstate_c _ _ base pb _ _ s G1.st hL.2.2) (fun w' h => And.intro rfl ⟨tm_no h.1, G1.pan h.2⟩) ?_
 rintro _ w19 ⟨s1, h1, rfl, G2⟩
 replace Br := G2.chg.keep (G1.st.kept (.inr rfl)) Br
 replace E := E.step G2.chg (fun _ _ _ => trivial)
 have hL1 := hL.new h1
 replace G2 := G1.comp G2
 refine qA (I6 (s.n : Int)) rfl ?_
 refine WpL_nil (Wp_seq (Wp_seq_region ?_))
 refine qF br 0 0 rfl Try.underlying33 rfl siz3 rfl ?_
 refine qV (r_load (v := (I6 x.kind)) rfl flat3 (Br.cell rfl)) ?_
 refine WpL_nil (Wp_block (Wp_seq_region ?_))
 refine qV (r_eql (k := .i64) (a := x.kind) (b := 0) rfl rfl) ?_
 refine qA (.bool (decide ((x.kind : Int) = 0))) rfl ?_
 refine WpL_nil ?_
 have hc1 : (decide ((x.kind : Int) = 0)) = false := decide_eq_false (by omega)
 refine Wp_cond_false (congrArg Value.bool hc1) ?_
 refine Wp_seq_region ?_
 refine qV (r_eql (k := .i64) (a := x.kind) (b := 1) rfl rfl) ?_
 refine qA (.bool (decide ((x.kind : Int) = 1))) rfl ?_
 refine WpL_nil ?_
 have hc2 : (decide ((x.kind : Int) = 1)) = false := decide_eq_false (by omega)
 refine Wp_cond_false (congrArg Value.bool hc2) ?_
 refine Wp_seq_region ?_
 refine qV (r_eql (k := .i64) (a := x.kind) (b := 2) rfl rfl) ?_
 refine qA (.bool (decide ((x.kind : Int) = 2))) rfl ?_
 refine WpL_nil ?_
 have hc3 : (decide ((x.kind : Int) = 2)) = false := decide_eq_false (by omega)
 refine Wp_cond_false (congrArg Value.bool hc3) ?_
 refine Wp_seq_region ?_
 refine qV (r_eql (k := .i64) (a := x.kind) (b := 3) rfl rfl) ?_
 refine qA (.bool (decide ((x.kind : Int) = 3))) rfl ?_
 refine WpL_nil ?_
 have hc4 : (decide ((x.kind : Int) = 3)) = true := decide_eq_true hk
 refine Wp_cond_true (congrArg Value.bool hc4) ?_
 refine Wp_seq_region ?_
 refine qM (I6 (s.n : Int)) rfl ?_
 refine qA (I6 (s.n : Int)) rfl ?_
 refine WpL_nil (Wp_seq (Wp_seq_region ?_))
 refine qF br 0 2 rfl Try.underlying33 rfl siz31 rfl ?_
 refine qV (r_load (v := (.slice aa x.args.length ac)) rfl flat31 (Br.cell rfl)) ?_
 refine qV (r_lenSlice (ad := aa) (n := x.args.length) (cap := ac) Try.underlying31 rfl) ?_
 refine qM (I6 0) rfl ?_
 refine WpL_nil (Wp_block ?_)
 refine Wp_loop (fun nn_ σ W5 => ∃ (k : Nat) (sk : ThS) (ak : Nat) (Fk : Nat → Prop) (pk : Value) (xk : Value), (∃ jj_, σ = upds jj_ [(0, (P6 pb 0)), (6, (I6 (s.n : Int))), (57, (.slice aa x.args.length ac)), (58, (I6 (x.args.length : Int))), (59, (I6 (k : Int))), (8, (I6 (ak : Int)))]) ∧ Chg (fun _ => True) w0 W5 ∧ (k ≤ x.args.length) ∧ (catT (tmL x.args) s1 s.n = catT (tmL (x.args.drop k)) sk ak) ∧ (GrT F w0 base pb pv xv Fk pk xk sk W5) ∧ (LimT sk 0) ∧ nn_ = x.args.length - k) (n := x.args.length - 0) ?_ ?_
 ·exact ⟨0, s1, s.n, _, pv, xv, Fits.out ⟨rfl, rfl, rfl, rfl, rfl, rfl, trivial⟩, E, Nat.zero_le _, (by rw [List.drop_zero]), G2, hL1.le (Nat.zero_le _), rfl⟩
 ·clear E
  rintro _ _ W5 ⟨k, sk, ak, Fk, pk, xk, ⟨j5, rfl⟩, E, hk2, hQ, hG, hLk, rfl⟩
  refine Wp_seq_region ?_
  refine qV (r_lss (k := .i64) (a := (k : Int)) (b := (x.args.length : Int)) rfl rfl) ?_
  refine WpL_nil (Wp_seq ?_)
  refine Wp_cond (b := decide (((k : Int) : Int) < (x.args.length : Int))) rfl (fun hlt => ?_) (fun hlt => ?_)
  ·have khlt := hlt
   replace hlt := of_decide_eq_true hlt
   obtain ⟨y, hy⟩ := get_of_lt (l := x.args) (i := k) (by omega)
   obtain ⟨ab, ao, rfl, hres⟩ := args_at hargs (by omega)
   obtain ⟨us, hus, hyt⟩ := hres.get hy
   have hyt0 := hyt
   obtain ⟨ysa, ysc, yaa, yac, rfl, _, _, _⟩ := hyt.form
   rw [drop_at hy, tmL, catT] at hQ
   refine Wp_skip (thn_normal (Wp_seq (Wp_block (Wp_seq_region ?_))))
   refine qV (r_indexSlice (b := ab) (o := ao) (len := x.args.length) (cap := ac) (i := k) (o' := ao + k * 6) rfl rfl rfl Try.underlying31 siz33 (by omega) (by omega)) ?_
   refine qV (r_loadAgg (vs := [(I6 y.kind), (.slice ysa y.set.length ysc), (.slice yaa y.args.length yac), (I6 y.mn), (I6 y.mx), (.bool y.neg)]) rfl agg33 siz33 rfl (hus.ext (hG.base' hP hF hE))) ?_
   have E1 : Chg none1 W5 W5 := Chg.refl _ _
   refine s_allocStore (v := (.agg (R6 y ysa ysc yaa yac))) (c := (R6 y ysa ysc yaa yac)) (n := 6) (by decide) zer33 rfl siz33 rfl rfl rfl (by simp [Value.oneCell']) ?_
   intro bu wu Nu
   have Fu := Nu.ge E
   have Fu_E1 := Nu.ge E1
   replace E := E.ext Nu.ext
   have Bu := Nu.blk
   replace E1 := E1.ext Nu.ext
   refine WpL_nil (Wp_seq_region ?_)
   refine qM (P6 pb 0) rfl ?_
   refine qV (r_loadAgg (vs := [(I6 y.kind), (.slice ysa y.set.length ysc), (.slice yaa y.args.length yac), (I6 y.mn), (I6 y.mx), (.bool y.neg)]) rfl agg33 siz33 rfl (Bu.cells rfl)) ?_
   replace hG := hG.ext E1
   refine WpL_enterX rfl rfl (by decide) (r_callF (vs := [(P6 pb 0), (.agg (R6 y ysa ysc yaa yac))]) Try.func33 nm33 bd33 rfl) (hof y (List.mem_of_getElem? hy) base pb _ _ _ _ sk _ hyt0 (hG.base' hP hF hE) (fun q hq => hG.sub q (hF q hq)) hG.st hLk) (fun w' h => And.intro rfl ⟨by rw [tm_3 h1 hk, hQ, h.1]; rfl, hG.pan h.2⟩) ?_
   rintro _ w29 ⟨s2, fx, fy, F2, p2, x2, h2, rfl, G3⟩
   replace E := E.step G3.chg (fun _ _ _ => trivial)
   have hL2 := hLk.step (lim_all y _ _ _ _ h2)
   rw [h2, Option.bind_some] at hQ
   replace G3 := hG.comp G3
   refine qM (.tuple #[(I6 (fx : Int)), (I6 (fy : Int))]) rfl ?_
   refine qV (r_extract (vs := #[(I6 (fx : Int)), (I6 (fy : Int))]) (v := (I6 (fx : Int))) rfl rfl) ?_
   refine qV (r_extract (vs := #[(I6 (fx : Int)), (I6 (fy : Int))]) (v := (I6 (fy : Int))) rfl rfl) ?_
   refine qA (I6 (fx : Int)) rfl ?_
   refine qA (I6 (fy : Int)) rfl ?_
   refine WpL_nil (Wp_seq_region ?_)
   refine qM (P6 pb 0) rfl ?_
   refine qM (I6 (ak : Int)) rfl ?_
   refine qM (I6 (fx : Int)) rfl ?_
   refine WpL_enter rfl rfl (by decide) (r_callF (vs := [(P6 pb 0), (I6 (ak : Int)), (I6 (fx : Int))]) Try.func83 nm83 bd83 rfl) (teps_c _ _ base pb _ _ s2 ak fx G3.st hL2.small.1) ?_
   rintro _ w39 ⟨p3, G4⟩
   replace E := E.step G4.chg (fun _ _ _ => trivial)
   have hL3 : LimT (epsT s2 ak fx) 2 := hL2.eps _ _
   replace G4 := G3.comp G4
   refine WpL_nil (Wp_region ?_)
   refine qM (I6 (fy : Int)) rfl ?_
   refine qA (I6 (fy : Int)) rfl ?_
   refine WpL_nil (inB_normal (thn_normal (Wp_region ?_)))
   refine qV (r_add (k := .i64) (a := (k : Int)) (b := 1) (c := (k : Int) + 1) rfl rfl (wI64 (by omega))) ?_
   refine qM (I6 ((k : Int) + 1)) rfl ?_
   refine WpL_nil (thn_normal ?_)
   exact ⟨x.args.length - (k + 1), by omega, k + 1, _, _, F2, p3, x2, Fits.out ⟨rfl, rfl, rfl, rfl, rfl, rfl, trivial⟩, E, (by omega), hQ, G4, hL3.le (Nat.zero_le _), rfl⟩
  ·have khlt := hlt
   replace hlt := of_decide_eq_false hlt
   have hkk : k = x.args.length := by omega
   rw [hkk, List.drop_length] at hQ
   refine Wp_exit (thn_exit (thn_exit (inB_here (thn_normal (Wp_seq_region ?_)))))
   refine qM (I6 (s.n : Int)) rfl ?_
   refine qM (I6 (ak : Int)) rfl ?_
   refine qA (I6 (s.n : Int)) rfl ?_
   refine qA (I6 (ak : Int)) rfl ?_
   refine WpL_nil (Wp_ret (inB_ret (thn_ret (finX_ret ?_))))
   refine fin_tmp2 Try.results33 (v := (.int .i64 ((s.n : Nat) : Int))) (v' := (.int .i64 ((ak : Nat) : Int))) rfl rfl ?_
   exact ⟨_, _, _, _, _, _, by rw [tm_3 h1 hk, hQ]; rfl, rfl, hG⟩
end Go.Proofs
namespace Go.Eng
open Go
section
variable {Ms : Nat → Nat → Prop} {Rs : Nat → World → World → Prop} {cl : List (List Nat)} {i : Nat} {ws ds : List Nat}
theorem StabG.eq {u : Value} : StabG Ms Rs cl i ws (fun _ _ v _ => v = u) := fun _ _ _ _ _ _ _ _ _ _ _ _ _ h => h
theorem StabG.chg {F : Fct} {U : Nat → Prop} (hF : ∀ v w w', Chg U w w' → F v w → F v w') (hM : ∀ p y, p ≠ i → ws.contains p = false → Ms p y → U y) : StabG Ms Rs cl i ws (fun _ _ => F) :=
 fun p h1 h2 _ _ v w w' _ _ _ x _ h => hF v w w' (x.mono fun y _ hy => hM p y h1 h2 hy) h
end
def RsL : List (Nat × (World → World → Prop)) → Nat → World → World → Prop
  | [], _, _, _ => True
  | p :: r, j, w, w' => (j = p.1 → p.2 w w') ∧ RsL r j w w'
section
variable {M : Nat → Prop} {ch : List PanicEntry} {X : World → Prop} {P : Program} {N : Nat} {o : Oper} {R : Fct} {σ : Env} {w : World} {c i : Nat} {T : World → World → Prop}
theorem gX0 (h : DoesT M P N o R σ w) : DoesX M ch X P N o (fun v w2 => R v w2 ∧ RsL [] i w w2) σ w := (DoesT.x h).weak fun _ _ _ h => ⟨h, trivial⟩
theorem gX0x (h : DoesX M ch X P N o R σ w) : DoesX M ch X P N o (fun v w2 => R v w2 ∧ RsL [] i w w2) σ w := h.weak fun _ _ _ h => ⟨h, trivial⟩
end
end Go.Eng
namespace Go.Proofs
open Go Go.Eng Go.Sort
set_option maxRecDepth 100000
def cpF (F : Nat → Prop) (w0 : World) (base pb : Nat) (pv xv : Value) (f : TF) (s : ThS) (a : Nat) (out : Bool) : Fct := fun v w => ∃ s' e F' pv' xv', copyT f s a out = some (s', e) ∧ v = nI e ∧ GrT F w0 base pb pv xv F' pv' xv' s' w
theorem cpF_ext {F : Nat → Prop} {w0 : World} {base pb : Nat} {pv xv : Value} {f : TF} {s : ThS} {a : Nat} {out : Bool} : ∀ v w w', Ext w w' → cpF F w0 base pb pv xv f s a out v w → cpF F w0 base pb pv xv f s a out v w' := by
 rintro v w w' e ⟨s', e', F', pv', xv', h1, h2, h3⟩
 exact ⟨s', e', F', pv', xv', h1, h2, h3.ext e⟩
theorem cp_of {F : Nat → Prop} {w0 w1 w : World} {base pb : Nat} {pv xv v : Value} {f : TF} {s s0 : ThS} {a : Nat} {out : Bool} (h : TSt F w0 base pb pv xv s0) (e : Ext w0 w1) (g : cpF F w1 base pb pv xv f s a out v w) : cpF F w0 base pb pv xv f s a out v w := by
 obtain ⟨s', e', F', pv', xv', h1, h2, h3⟩ := g
 exact ⟨s', e', F', pv', xv', h1, h2, ((GrT.start h).ext e).comp h3⟩
set_option maxHeartbeats 2000000 in
theorem tof6_c (wb : World) (x : Re) (hk : x.kind = 6) (ha : x.args.length = 1) (hmx : x.mx ≤ 1000) (hof : ∀ y ∈ x.args, ThOf wb y) : ThOf wb x := by
 intro base pb F w0 pv xv s vs hxt hE hF hP hL
 have hxt0 := hxt
 obtain ⟨sa, sc, aa, ac, rfl, hset, hlen, hargs⟩ := hxt.form
 obtain ⟨y, hy⟩ := args_one9 ha
 have hym : y ∈ x.args := by rw [hy]; exact List.mem_singleton_self y
 obtain ⟨ab, ao, rfl, hres⟩ := args_at hargs (by omega)
 obtain ⟨us, hus, hyt⟩ := hres.get (i := 0) (t := y) (by rw [hy]; rfl)
 have hyt0 := hyt
 obtain ⟨ysa, ysc, yaa, yac, rfl, _, _, _⟩ := hyt.form
 refine RetX_of Try.func33 rfl Try.ntmps33 (Nat.le_of_ble_eq_true rfl) ?_
 have E : Chg (fun _ => True) w0 w0 := Chg.refl _ _
 refine Wp_seq_region ?_
 refine s_box (v := (.agg (R6 x sa sc (some ⟨ab, ao, none⟩) ac))) (c := (R6 x sa sc (some ⟨ab, ao, none⟩) ac)) (by decide) rfl rfl ?_
 intro br wr Nr
 have Fr := Nr.ge E
 replace E := E.ext Nr.ext
 have Br := Nr.blk
 refine qA (I6 0) rfl ?_
 refine qA (I6 0) rfl ?_
 refine WpL_nil (Wp_seq_region ?_)
 refine qM (P6 pb 0) rfl ?_
 have G1 := (GrT.start hP).frz Nr.ext (b := br) (by rw [Nr.eq]; exact Nat.le_refl _) Br.lt
 refine WpL_enterX rfl rfl (by decide) (r_callF (vs := [(P6 pb 0)]) Try.func82 nm82 bd82 rfl) (tstate_c _ _ base pb _ _ s G1.st hL.2.2) (fun w' h => And.intro rfl ⟨tm_no h.1, G1.pan h.2⟩) ?_
 rintro _ w19 ⟨s1, h1, rfl, G2⟩
 replace Br := G2.chg.keep (G1.st.kept (.inr rfl)) Br
 replace E := E.step G2.chg (fun _ _ _ => trivial)
 have hL1 := hL.new h1
 replace G2 := G1.comp G2
 refine qA (I6 (s.n : Int)) rfl ?_
 refine WpL_nil (Wp_seq (Wp_seq_region ?_))
 refine qF br 0 0 rfl Try.underlying33 rfl siz3 rfl ?_
 refine qV (r_load (v := (I6 x.kind)) rfl flat3 (Br.cell rfl)) ?_
 refine WpL_nil (Wp_block (Wp_seq_region ?_))
 refine qV (r_eql (k := .i64) (a := x.kind) (b := 0) rfl rfl) ?_
 refine qA (.bool (decide ((x.kind : Int) = 0))) rfl ?_
 refine WpL_nil ?_
 have hc1 : (decide ((x.kind : Int) = 0)) = false := decide_eq_false (by omega)
 refine Wp_cond_false (congrArg Value.bool hc1) ?_
 refine Wp_seq_region ?_
 refine qV (r_eql (k := .i64) (a := x.kind) (b := 1) rfl rfl) ?_
 refine qA (.bool (decide ((x.kind : Int) = 1))) rfl ?_
 refine WpL_nil ?_
 have hc2 : (decide ((x.kind : Int) = 1)) = false := decide_eq_false (by omega)
 refine Wp_cond_false (congrArg Value.bool hc2) ?_
 refine Wp_seq_region ?_
 refine qV (r_eql (k := .i64) (a := x.kind) (b := 2) rfl rfl) ?_
 refine qA (.bool (decide ((x.kind : Int) = 2))) rfl ?_
 refine WpL_nil ?_
 have hc3 : (decide ((x.kind : Int) = 2)) = false := decide_eq_false (by omega)
 refine Wp_cond_false (congrArg Value.bool hc3) ?_
 refine Wp_seq_region ?_
 refine qV (r_eql (k := .i64) (a := x.kind) (b := 3) rfl rfl) ?_
 refine qA (.bool (decide ((x.kind : Int) = 3))) rfl ?_
 refine WpL_nil ?_
 have hc4 : (decide ((x.kind : Int) = 3)) = false := decide_eq_false (by omega)
 refine Wp_cond_false (congrArg Value.bool hc4) ?_
 refine Wp_seq_region ?_
 refine qV (r_eql (k := .i64) (a := x.kind) (b := 4) rfl rfl) ?_
 refine qA (.bool (decide ((x.kind : Int) = 4))) rfl ?_
 refine WpL_nil ?_
 have hc5 : (decide ((x.kind : Int) = 4)) = false := decide_eq_false (by omega)
 refine Wp_cond_false (congrArg Value.bool hc5) ?_
 refine Wp_seq_region ?_
 refine qV (r_eql (k := .i64) (a := x.kind) (b := 9) rfl rfl) ?_
 refine qA (.bool (decide ((x.kind : Int) = 9))) rfl ?_
 refine WpL_nil ?_
 have hc6 : (decide ((x.kind : Int) = 9)) = false := decide_eq_false (by omega)
 refine Wp_cond_false (congrArg Value.bool hc6) ?_
 refine Wp_seq_region ?_
 refine qV (r_eql (k := .i64) (a := x.kind) (b := 5) rfl rfl) ?_
 refine qA (.bool (decide ((x.kind : Int) = 5))) rfl ?_
 refine WpL_nil ?_
 have hc7 : (decide ((x.kind : Int) = 5)) = false := decide_eq_false (by omega)
 refine Wp_cond_false (congrArg Value.bool hc7) ?_
 refine Wp_skip (inB_normal (thn_normal (Wp_seq_region ?_)))
 refine qM (I6 (s.n : Int)) rfl ?_
 refine qA (I6 (s.n : Int)) rfl ?_
 refine WpL_nil (Wp_seq (Wp_seq_region ?_))
 refine qF br 0 4 rfl Try.underlying33 rfl siz3 rfl ?_
 refine qV (r_load (v := (I6 x.mx)) rfl flat3 (Br.cell rfl)) ?_
 refine qM (I6 0) rfl ?_
 refine WpL_nil (Wp_block ?_)
 refine Wp_loop (fun nn_ σ W8 => ∃ (k : Nat) (sk : ThS) (ak : Nat) (Fk : Nat → Prop) (pk : Value) (xk : Value), (∃ jj_, σ = upds jj_ [(0, (P6 pb 0)), (3, (P6 br 0)), (6, (I6 (s.n : Int))), (114, (I6 x.mx)), (115, (I6 (k : Int))), (15, (I6 (ak : Int)))]) ∧ Chg (fun _ => True) w0 W8 ∧ Blk W8 br (R6 x sa sc (some ⟨ab, ao, none⟩) ac) 33 ∧ (k ≤ x.mx.toNat) ∧ (repT (tmO y) x.mn s1 s.n k = some (sk, ak)) ∧ (GrT F w0 base pb pv xv Fk pk xk sk W8) ∧ (LimT sk 0) ∧ (Fk br) ∧ nn_ = x.mx.toNat - k) (n := x.mx.toNat - 0) ?_ ?_
 ·exact ⟨0, s1, s.n, _, pv, xv, Fits.out ⟨rfl, rfl, rfl, rfl, rfl, rfl, trivial⟩, E, Br, Nat.zero_le _, rfl, G2, hL1.le (Nat.zero_le _), .inr rfl, rfl⟩
 ·clear E Br
  rintro _ _ W8 ⟨k, sk, ak, Fk, pk, xk, ⟨j8, rfl⟩, E, Br, hk2, hQ, hG, hLk, hbr, rfl⟩
  refine Wp_seq_region ?_
  refine qV (r_lss (k := .i64) (a := (k : Int)) (b := x.mx) rfl rfl) ?_
  refine WpL_nil (Wp_seq ?_)
  refine Wp_cond (b := decide (((k : Int) : Int) < x.mx)) rfl (fun hlt => ?_) (fun hlt => ?_)
  ·have khlt := hlt
   replace hlt := of_decide_eq_true hlt
   have hus2 := hus.ext (hG.base' hP hF hE)
   refine Wp_skip (thn_normal (Wp_seq (Wp_block (Wp_seq_region ?_))))
   refine qM (I6 (k : Int)) rfl ?_
   refine qA (I6 (k : Int)) rfl ?_
   refine WpL_nil ?_
   have hz_10 : w0.heap.size ≤ W8.heap.size := E.size
   have lz_10_br : br < W8.heap.size := Br.lt
   obtain ⟨Fs10, hFs10⟩ : ∃ Fs : List FctS, Fs = [(fun _ _ v _ => v = (P6 pb 0)), (fun _ _ v _ => v = (I6 (ak : Int))), (fun _ _ v _ => v = (P6 br 2)), (fun _ _ v _ => v = (.slice (some ⟨ab, ao, none⟩) x.args.length ac)), (fun _ _ v _ => v = (.pointer (some ⟨ab, ao + 0 * 6, none⟩))), (fun _ _ v _ => v = (.agg (R6 y ysa ysc yaa yac))), (fun _ _ v _ => v = (I6 (k : Int))), (fun _ _ v _ => v = (P6 br 3)), (fun _ _ v _ => v = (I6 x.mn)), (fun _ _ v _ => v = (.bool (decide ((x.mn : Int) ≤ (k : Int))))), (fun _ _ => cpF Fk W8 base pb pk xk (tmO y) sk ak (decide (x.mn ≤ (k : Int)))), (fun _ _ v _ => v = undef)] := ⟨_, rfl⟩
   refine Wp_dagG (MsL [(10, (fun q => q = pb ∨ pk.ownBlock = some q ∨ xk.ownBlock = some q))]) (RsL []) (lgN) ((fun _ => copyT (tmO y) sk ak (decide (x.mn ≤ (k : Int))) = none)) [true, true, true, true, true, true, true, true, true, true, true, false] [11] [118, 119, 120, 121, 122, 123, 124, 125, 126, 127, 128, 143] [[], [], [], [2], [3], [4], [], [], [7], [6, 8], [0, 1, 5, 9], []] [[], [], [], [2], [3, 2], [4, 3, 2], [], [], [7], [6, 8, 7], [0, 1, 5, 4, 3, 2, 9, 6, 8, 7], []] Fs10 hFs10 (by kernel_rfl) mixed (by kernel_rfl) (by kernel_rfl) (by kernel_rfl) (by kernel_rfl) ?_ ((fun σ' w1 w' X0 X hx => And.intro rfl ⟨by rw [tm_6 h1 hk hy, repT_none (k := k + 1) (by rw [repT, hQ]; exact hx) _ (by omega)]; rfl, hG.pan ((Ext.chg X0).trans (X.mono fun q _ h => by obtain ⟨j, h⟩ := h; rcases h with h | h; exact h.2; exact h.elim))⟩)) ?_
   ·intro wd X0
    refine DagStepsG.cons (StabG.eq) (LocS.const) (fun S s' w' hi hN X U V H => Or.inl ⟨Guarded_none rfl, ?_⟩) ?_
    ·replace X := X.mono (M' := none1) (fun y _ h => by
       obtain ⟨j, hj, h⟩ := h
       rcases MsL_or h with ⟨rfl, h0⟩ | h0
       ·exact Bool.noConfusion (hj.symm.trans (hN 10 rfl))
       exact h0.elim)
     exact gX0 (DoesT_pure (r_move (v := (.pointer (some ⟨pb, 0, none⟩))) (U 0 rfl)) rfl)
    refine DagStepsG.cons (StabG.eq) (LocS.const) (fun S s' w' hi hN X U V H => Or.inl ⟨Guarded_none rfl, ?_⟩) ?_
    ·replace X := X.mono (M' := none1) (fun y _ h => by
       obtain ⟨j, hj, h⟩ := h
       rcases MsL_or h with ⟨rfl, h0⟩ | h0
       ·exact Bool.noConfusion (hj.symm.trans (hN 10 rfl))
       exact h0.elim)
     exact gX0 (DoesT_pure (r_move (v := (.int .i64 ((ak : Nat) : Int))) (U 15 rfl)) rfl)
    refine DagStepsG.cons (StabG.eq) (LocS.const) (fun S s' w' hi hN X U V H => Or.inl ⟨Guarded_none rfl, ?_⟩) ?_
    ·replace X := X.mono (M' := none1) (fun y _ h => by
       obtain ⟨j, hj, h⟩ := h
       rcases MsL_or h with ⟨rfl, h0⟩ | h0
       ·exact Bool.noConfusion (hj.symm.trans (hN 10 rfl))
       exact h0.elim)
     exact gX0 (DoesT_pure (r_fieldAddr (b := br) (o := 0) (o' := 2) (U 3 rfl) Try.underlying33 rfl siz31 rfl) rfl)
    refine DagStepsG.cons (StabG.eq) (LocS.const) (fun S s' w' hi hN X U V H => Or.inl ⟨Guarded_none rfl, ?_⟩) ?_
    ·replace X := X.mono (M' := none1) (fun y _ h => by
       obtain ⟨j, hj, h⟩ := h
       rcases MsL_or h with ⟨rfl, h0⟩ | h0
       ·exact Bool.noConfusion (hj.symm.trans (hN 10 rfl))
       exact h0.elim)
     have e120 : s' 120 = (.pointer (some ⟨br, 2, none⟩)) := (H 2 rfl).2 120 (fun _ _ v _ => v = (.pointer (some ⟨br, 2, none⟩))) rfl (by rw [hFs10]; rfl)
     exact gX0 (DoesT_pure (r_load (v := (.slice (some ⟨ab, ao, none⟩) x.args.length ac)) e120 flat31 (((X0.trans X).keep Br).cell rfl)) rfl)
    refine DagStepsG.cons (StabG.eq) (LocS.const) (fun S s' w' hi hN X U V H => Or.inl ⟨Guarded_none rfl, ?_⟩) ?_
    ·replace X := X.mono (M' := none1) (fun y _ h => by
       obtain ⟨j, hj, h⟩ := h
       rcases MsL_or h with ⟨rfl, h0⟩ | h0
       ·exact Bool.noConfusion (hj.symm.trans (hN 10 rfl))
       exact h0.elim)
     have e121 : s' 121 = (.slice (some ⟨ab, ao, none⟩) x.args.length ac) := (H 3 rfl).2 121 (fun _ _ v _ => v = (.slice (some ⟨ab, ao, none⟩) x.args.length ac)) rfl (by rw [hFs10]; rfl)
     exact gX0 (DoesT_pure (r_indexSlice (b := ab) (o := ao) (len := x.args.length) (cap := ac) (i := 0) (o' := ao + 0 * 6) e121 rfl rfl Try.underlying31 siz33 (by omega) (by omega)) rfl)
    refine DagStepsG.cons (StabG.eq) (LocS.const) (fun S s' w' hi hN X U V H => Or.inl ⟨Guarded_none rfl, ?_⟩) ?_
    ·replace X := X.mono (M' := none1) (fun y _ h => by
       obtain ⟨j, hj, h⟩ := h
       rcases MsL_or h with ⟨rfl, h0⟩ | h0
       ·exact Bool.noConfusion (hj.symm.trans (hN 10 rfl))
       exact h0.elim)
     have e122 : s' 122 = (.pointer (some ⟨ab, ao + 0 * 6, none⟩)) := (H 4 rfl).2 122 (fun _ _ v _ => v = (.pointer (some ⟨ab, ao + 0 * 6, none⟩))) rfl (by rw [hFs10]; rfl)
     exact gX0 (DoesT_pure (r_loadAgg (vs := [(.int .i64 y.kind), (.slice ysa y.set.length ysc), (.slice yaa y.args.length yac), (.int .i64 y.mn), (.int .i64 y.mx), (.bool y.neg)]) e122 agg33 siz33 rfl (by simpa using hus2.ext (X0.trans X))) rfl)
    refine DagStepsG.cons (StabG.eq) (LocS.const) (fun S s' w' hi hN X U V H => Or.inl ⟨Guarded_none rfl, ?_⟩) ?_
    ·replace X := X.mono (M' := none1) (fun y _ h => by
       obtain ⟨j, hj, h⟩ := h
       rcases MsL_or h with ⟨rfl, h0⟩ | h0
       ·exact Bool.noConfusion (hj.symm.trans (hN 10 rfl))
       exact h0.elim)
     exact gX0 (DoesT_pure (r_move (v := (.int .i64 ((k : Nat) : Int))) (U 16 rfl)) rfl)
    refine DagStepsG.cons (StabG.eq) (LocS.const) (fun S s' w' hi hN X U V H => Or.inl ⟨Guarded_none rfl, ?_⟩) ?_
    ·replace X := X.mono (M' := none1) (fun y _ h => by
       obtain ⟨j, hj, h⟩ := h
       rcases MsL_or h with ⟨rfl, h0⟩ | h0
       ·exact Bool.noConfusion (hj.symm.trans (hN 10 rfl))
       exact h0.elim)
     exact gX0 (DoesT_pure (r_fieldAddr (b := br) (o := 0) (o' := 3) (U 3 rfl) Try.underlying33 rfl siz3 rfl) rfl)
    refine DagStepsG.cons (StabG.eq) (LocS.const) (fun S s' w' hi hN X U V H => Or.inl ⟨Guarded_none rfl, ?_⟩) ?_
    ·replace X := X.mono (M' := none1) (fun y _ h => by
       obtain ⟨j, hj, h⟩ := h
       rcases MsL_or h with ⟨rfl, h0⟩ | h0
       ·exact Bool.noConfusion (hj.symm.trans (hN 10 rfl))
       exact h0.elim)
     have e125 : s' 125 = (.pointer (some ⟨br, 3, none⟩)) := (H 7 rfl).2 125 (fun _ _ v _ => v = (.pointer (some ⟨br, 3, none⟩))) rfl (by rw [hFs10]; rfl)
     exact gX0 (DoesT_pure (r_load (v := (.int .i64 x.mn)) e125 flat3 (((X0.trans X).keep Br).cell rfl)) rfl)
    refine DagStepsG.cons (StabG.eq) (LocS.const) (fun S s' w' hi hN X U V H => Or.inl ⟨Guarded_none rfl, ?_⟩) ?_
    ·replace X := X.mono (M' := none1) (fun y _ h => by
       obtain ⟨j, hj, h⟩ := h
       rcases MsL_or h with ⟨rfl, h0⟩ | h0
       ·exact Bool.noConfusion (hj.symm.trans (hN 10 rfl))
       exact h0.elim)
     have e124 : s' 124 = (.int .i64 ((k : Nat) : Int)) := (H 6 rfl).2 124 (fun _ _ v _ => v = (.int .i64 ((k : Nat) : Int))) rfl (by rw [hFs10]; rfl)
     have e126 : s' 126 = (.int .i64 x.mn) := (H 8 rfl).2 126 (fun _ _ v _ => v = (.int .i64 x.mn)) rfl (by rw [hFs10]; rfl)
     exact gX0 (DoesT_pure (r_geq (k := .i64) (a := ((k : Nat) : Int)) (b := x.mn) e124 e126) rfl)
    refine DagStepsG.cons (StabG.chg (U := none1) (cpF_ext) (fun p y hp hw h => by
       rcases MsL_or h with ⟨rfl, h0⟩ | h0
       ·exact absurd rfl hp
       exact h0.elim)) (LocS.const) (fun S s' w' hi hN X U V H => Or.inl ⟨Guarded_none rfl, ?_⟩) ?_
    ·replace X := X.mono (M' := none1) (fun y _ h => by
       obtain ⟨j, hj, h⟩ := h
       rcases MsL_or h with ⟨rfl, h0⟩ | h0
       ·exact Bool.noConfusion (hj.symm.trans hi)
       exact h0.elim)
     have e118 : s' 118 = (.pointer (some ⟨pb, 0, none⟩)) := (H 0 rfl).2 118 (fun _ _ v _ => v = (.pointer (some ⟨pb, 0, none⟩))) rfl (by rw [hFs10]; rfl)
     have e119 : s' 119 = (.int .i64 ((ak : Nat) : Int)) := (H 1 rfl).2 119 (fun _ _ v _ => v = (.int .i64 ((ak : Nat) : Int))) rfl (by rw [hFs10]; rfl)
     have e123 : s' 123 = (.agg #[(.int .i64 y.kind), (.slice ysa y.set.length ysc), (.slice yaa y.args.length yac), (.int .i64 y.mn), (.int .i64 y.mx), (.bool y.neg)]) := (H 5 rfl).2 123 (fun _ _ v _ => v = (.agg #[(.int .i64 y.kind), (.slice ysa y.set.length ysc), (.slice yaa y.args.length yac), (.int .i64 y.mn), (.int .i64 y.mx), (.bool y.neg)])) rfl (by rw [hFs10]; rfl)
     have e127 : s' 127 = (.bool (decide ((x.mn : Int) ≤ ((k : Nat) : Int)))) := (H 9 rfl).2 127 (fun _ _ v _ => v = (.bool (decide ((x.mn : Int) ≤ ((k : Nat) : Int))))) rfl (by rw [hFs10]; rfl)
     exact gX0x (DoesX_enter (r_callF (vs := [(.pointer (some ⟨pb, 0, none⟩)), (.int .i64 ((ak : Nat) : Int)), (.agg #[(.int .i64 y.kind), (.slice ysa y.set.length ysc), (.slice yaa y.args.length yac), (.int .i64 y.mn), (.int .i64 y.mx), (.bool y.neg)]), (.bool (decide ((x.mn : Int) ≤ ((k : Nat) : Int))))]) Try.func86 nm86 bd86 (lst4 e118 e119 e123 e127)) ((tcopy_c wb y (hof y hym) base pb _ _ _ _ sk ak (decide (x.mn ≤ ((k : Nat) : Int))) _ hyt0 (Ext.trans (hG.base' hP hF hE) (X0.trans X)) (fun q hq => hG.sub q (hF q hq)) (hG.st.ext (X0.trans X)) hLk).mono (fun v w h => ⟨cp_of hG.st (X0.trans X) h, by obtain ⟨_, _, _, _, _, _, _, g⟩ := h; exact g.chg.mono fun q _ h => .inl ⟨rfl, h⟩⟩) (fun w h => ⟨h.1, h.2.mono fun q _ h => .inl ⟨rfl, h⟩⟩)))
    refine DagStepsG.tail ?_
    exact DagStepsG.nil
   ·intro s' wd10 w10 X0 X10 U H
    replace X10 := X10.mono (M' := (fun y => (fun q => q = pb ∨ pk.ownBlock = some q ∨ xk.ownBlock = some q) y)) (fun y _ h => by
      obtain ⟨j, hj, h⟩ := h
      rcases MsL_or h with ⟨rfl, h0⟩ | h0
      ·exact h0
      exact h0.elim)
    obtain ⟨s128, f128, F128, p128, x128, h128, e128, g128⟩ := (show ((fun _ _ => cpF Fk W8 base pb pk xk (tmO y) sk ak (decide (x.mn ≤ ((k : Nat) : Int)))) : FctS) (allS [true, true, true, true, true, true, true, true, true, true, true, false]) s' (s' 128) w10 from H 10 rfl 128 (fun _ _ => cpF Fk W8 base pb pk xk (tmO y) sk ak (decide (x.mn ≤ ((k : Nat) : Int)))) rfl (by rw [hFs10]; rfl))
    obtain ⟨j10, rfl⟩ := Fits.out (σ := s') (l := [(0, (.pointer (some ⟨pb, 0, none⟩))), (3, (.pointer (some ⟨br, 0, none⟩))), (6, (.int .i64 ((s.n : Nat) : Int))), (114, (.int .i64 x.mx)), (115, (.int .i64 ((k : Nat) : Int))), (128, (.int .i64 ((f128 : Nat) : Int)))]) ⟨U 0 rfl, U 3 rfl, U 6 rfl, U 114 rfl, U 115 rfl, e128, trivial⟩
    clear U H
    replace Br := Chg.keep X10 (fun h => hG.st.kept hbr h) (X0.keep Br)
    replace E := (E.ext X0).step X10 (fun q hq h => trivial)
    have hL2 := hLk.step (copy_lim (lim_all y) h128)
    refine qA (I6 (f128 : Int)) rfl ?_
    refine WpL_nil (inB_normal (thn_normal (Wp_region ?_)))
    refine qV (r_add (k := .i64) (a := (k : Int)) (b := 1) (c := (k : Int) + 1) rfl rfl (wI64 (by omega))) ?_
    refine qM (I6 ((k : Int) + 1)) rfl ?_
    refine WpL_nil (thn_normal ?_)
    exact ⟨x.mx.toNat - (k + 1), by omega, k + 1, s128, f128, F128, p128, x128, Fits.out ⟨rfl, rfl, rfl, rfl, rfl, rfl, trivial⟩, E, Br, (by omega), (by rw [repT, hQ]; exact h128), hG.comp g128, hL2, g128.sub _ hbr, rfl⟩
  ·have khlt := hlt
   replace hlt := of_decide_eq_false hlt
   have hkk : x.mx.toNat = k := by omega
   refine Wp_exit (thn_exit (thn_exit (inB_here (thn_normal (Wp_seq_region ?_)))))
   refine qM (I6 (s.n : Int)) rfl ?_
   refine qM (I6 (ak : Int)) rfl ?_
   refine qA (I6 (s.n : Int)) rfl ?_
   refine qA (I6 (ak : Int)) rfl ?_
   refine WpL_nil (Wp_ret (finX_ret ?_))
   refine fin_tmp2 Try.results33 (v := (.int .i64 ((s.n : Nat) : Int))) (v' := (.int .i64 ((ak : Nat) : Int))) rfl rfl ?_
   exact ⟨_, _, _, _, _, _, by rw [tm_6 h1 hk hy, hkk, hQ]; rfl, rfl, hG⟩
set_option maxHeartbeats 2000000 in
theorem tof2_c (wb : World) (x : Re) (hk : x.kind = 2) (hsl : x.set.length ≤ 1000000) : ThOf wb x := by
 intro base pb F w0 pv xv s vs hxt hE hF hP hL
 have hxt0 := hxt
 obtain ⟨sa, sc, aa, ac, rfl, hset, hlen, hargs⟩ := hxt.form
 refine RetX_of Try.func33 rfl Try.ntmps33 (Nat.le_of_ble_eq_true rfl) ?_
 have E : Chg (fun _ => True) w0 w0 := Chg.refl _ _
 refine Wp_seq_region ?_
 refine s_box (v := (.agg (R6 x sa sc aa ac))) (c := (R6 x sa sc aa ac)) (by decide) rfl rfl ?_
 intro br wr Nr
 have Fr := Nr.ge E
 replace E := E.ext Nr.ext
 have Br := Nr.blk
 refine qA (I6 0) rfl ?_
 refine qA (I6 0) rfl ?_
 refine WpL_nil (Wp_seq_region ?_)
 refine qM (P6 pb 0) rfl ?_
 have G1 := (GrT.start hP).frz Nr.ext (b := br) (by rw [Nr.eq]; exact Nat.le_refl _) Br.lt
 have hbrp : pb < br := by have := hP.blk.lt; have := Nr.eq; omega
 refine WpL_enterX rfl rfl (by decide) (r_callF (vs := [(P6 pb 0)]) Try.func82 nm82 bd82 rfl) (tstate_c _ _ base pb _ _ s G1.st hL.2.2) (fun w' h => And.intro rfl ⟨tm_no h.1, G1.pan h.2⟩) ?_
 rintro _ w19 ⟨s1, h1, rfl, G2⟩
 replace Br := G2.chg.keep (G1.st.kept (.inr rfl)) Br
 replace E := E.step G2.chg (fun _ _ _ => trivial)
 have hL1 := hL.new h1
 replace G2 := G1.comp G2
 refine qA (I6 (s.n : Int)) rfl ?_
 refine WpL_nil (Wp_seq (Wp_seq_region ?_))
 refine qF br 0 0 rfl Try.underlying33 rfl siz3 rfl ?_
 refine qV (r_load (v := (I6 x.kind)) rfl flat3 (Br.cell rfl)) ?_
 refine WpL_nil (Wp_block (Wp_seq_region ?_))
 refine qV (r_eql (k := .i64) (a := x.kind) (b := 0) rfl rfl) ?_
 refine qA (.bool (decide ((x.kind : Int) = 0))) rfl ?_
 refine WpL_nil ?_
 have hc1 : (decide ((x.kind : Int) = 0)) = false := decide_eq_false (by omega)
 refine Wp_cond_false (congrArg Value.bool hc1) ?_
 refine Wp_seq_region ?_
 refine qV (r_eql (k := .i64) (a := x.kind) (b := 1) rfl rfl) ?_
 refine qA (.bool (decide ((x.kind : Int) = 1))) rfl ?_
 refine WpL_nil ?_
 have hc2 : (decide ((x.kind : Int) = 1)) = false := decide_eq_false (by omega)
 refine Wp_cond_false (congrArg Value.bool hc2) ?_
 refine Wp_seq_region ?_
 refine qV (r_eql (k := .i64) (a := x.kind) (b := 2) rfl rfl) ?_
 refine qA (.bool (decide ((x.kind : Int) = 2))) rfl ?_
 refine WpL_nil ?_
 have hc3 : (decide ((x.kind : Int) = 2)) = true := decide_eq_true hk
 refine Wp_cond_true (congrArg Value.bool hc3) ?_
 refine Wp_seq_region ?_
 refine qM (P6 pb 0) rfl ?_
 refine WpL_enterX rfl rfl (by decide) (r_callF (vs := [(P6 pb 0)]) Try.func82 nm82 bd82 rfl) (tstate_c _ _ base pb _ _ s1 G2.st hL1.2.2) (fun w' h => And.intro rfl ⟨by rw [tm_2 h1 hk, h.1]; rfl, G2.pan h.2⟩) ?_
 rintro _ w29 ⟨s2, h2, rfl, G3⟩
 replace Br := G3.chg.keep (G2.st.kept (.inr rfl)) Br
 replace E := E.step G3.chg (fun _ _ _ => trivial)
 have htm : tmO x s = some (edgeT s2 s.n s1.n x.set, s.n, s1.n) := by rw [tm_2 h1 hk, h2]; rfl
 have hL2 := hL1.new h2
 replace G3 := G2.comp G3
 obtain ⟨⟨pa, pc, rfl⟩, xa, xc, rfl⟩ := G3.st.form
 obtain ⟨rows, hown, hrows⟩ := G3.st.edg
 have hblk := G3.st.blk
 have hpb := G3.st.pb
 have hbs := G3.st.bs
 obtain ⟨z0, hz0⟩ : ∃ z0, z0 = (w29).heap.size := ⟨_, rfl⟩
 have hset2 := SlAt.ext hset (G3.base' hP hF hE)
 have hel := hL2.small.2
 refine qA (I6 (s1.n : Int)) rfl ?_
 refine WpL_nil ?_
 have hz_4 : w0.heap.size ≤ w29.heap.size := E.size
 have lz_4_br : br < w29.heap.size := Br.lt
 have lz_4_pb : pb < w29.heap.size := hblk.lt
 refine Wp_seq ?_
 obtain ⟨Fs4, hFs4⟩ : ∃ Fs : List FctS, Fs = [(fun _ _ v _ => v = (P6 pb 0)), (fun _ _ v _ => v = (P6 pb 0)), (fun _ _ v _ => v = (P6 pb 0)), (fun _ _ v _ => v = (P6 pb 0)), (fun _ _ v _ => v = (P6 pb 4)), (fun _ _ v _ => v = (.slice xa s2.edges.length xc)), (fun _ _ v _ => v = (I6 (s.n : Int))), (fun _ _ v _ => v = (I6 (s1.n : Int))), (fun _ _ v _ => v = (P6 br 1)), (fun _ _ v _ => v = (.slice sa x.set.length sc)), (fun _ _ => cloG x.set z0), (fun _ _ => edG (s.n : Int) (s1.n : Int) x.set z0), (fun _ _ => elG (s.n : Int) (s1.n : Int) x.set z0), (fun _ _ => apG base s2.edges.length rows.flatten (.slice xa s2.edges.length xc) z0 (s.n : Int) (s1.n : Int) x.set), (fun _ _ v _ => v = undef), (fun _ _ v _ => v = undef), (fun _ _ v _ => v = undef), (fun _ _ v _ => v = undef)] := ⟨_, rfl⟩
 refine Wp_dagS (MsL [(13, (fun q => (Value.slice xa s2.edges.length xc).ownBlock = some q))]) [true, true, true, true, true, true, true, true, true, true, true, true, true, true, false, false, false, false] [14, 15, 16, 17] [34, 35, 36, 37, 38, 39, 40, 41, 42, 43, 44, 45, 46, 47, 146, 147, 148, 149] [[], [], [1], [2], [3], [4], [], [], [], [8], [9], [6, 7, 10], [11], [5, 10, 12], [], [], [], []] [[], [], [1], [2, 1], [3, 2, 1], [4, 3, 2, 1], [], [], [], [8], [9, 8], [6, 7, 10, 9, 8], [11, 6, 7, 10, 9, 8], [5, 4, 3, 2, 1, 10, 9, 8, 12, 11, 6, 7], [], [], [], []] Fs4 hFs4 (by kernel_rfl) mixed (by kernel_rfl) (by kernel_rfl) (by kernel_rfl) (by kernel_rfl) ?_ ?_
 ·intro wd X0
  refine qZ (fun S s' w' hi hN X U V H => ?_) ?_
  ·replace X := X.mono (M' := (fun y => (fun q => (Value.slice xa s2.edges.length xc).ownBlock = some q) y)) (fun y _ h => by
     obtain ⟨j, hj, h⟩ := h
     rcases MsL_or h with ⟨rfl, h0⟩ | h0
     ·exact h0
     exact h0.elim)
   exact DoesT_pure (r_move (v := (P6 pb 0)) (U 0 rfl)) rfl
  refine qZ (fun S s' w' hi hN X U V H => ?_) ?_
  ·replace X := X.mono (M' := none1) (fun y _ h => by
     obtain ⟨j, hj, h⟩ := h
     rcases MsL_or h with ⟨rfl, h0⟩ | h0
     ·exact Bool.noConfusion (hj.symm.trans (hN 13 rfl))
     exact h0.elim)
   exact DoesT_pure (r_move (v := (P6 pb 0)) (U 0 rfl)) rfl
  refine qZ (fun S s' w' hi hN X U V H => ?_) ?_
  ·replace X := X.mono (M' := none1) (fun y _ h => by
     obtain ⟨j, hj, h⟩ := h
     rcases MsL_or h with ⟨rfl, h0⟩ | h0
     ·exact Bool.noConfusion (hj.symm.trans (hN 13 rfl))
     exact h0.elim)
   have e35 : s' 35 = (.pointer (some ⟨pb, 0, none⟩)) := (H 1 rfl).2 35 (fun _ _ v _ => v = (.pointer (some ⟨pb, 0, none⟩))) rfl (by rw [hFs4]; rfl)
   exact DoesT_pure (r_nilCheck (a := ⟨pb, 0, none⟩) e35) rfl
  refine qZ (fun S s' w' hi hN X U V H => ?_) ?_
  ·replace X := X.mono (M' := none1) (fun y _ h => by
     obtain ⟨j, hj, h⟩ := h
     rcases MsL_or h with ⟨rfl, h0⟩ | h0
     ·exact Bool.noConfusion (hj.symm.trans (hN 13 rfl))
     exact h0.elim)
   have e36 : s' 36 = (.pointer (some ⟨pb, 0, none⟩)) := (H 2 rfl).2 36 (fun _ _ v _ => v = (.pointer (some ⟨pb, 0, none⟩))) rfl (by rw [hFs4]; rfl)
   exact DoesT_pure (r_fieldAddr (b := pb) (o := 0) (o' := 0) e36 Try.underlying78 rfl siz26 rfl) rfl
  refine qZ (fun S s' w' hi hN X U V H => ?_) ?_
  ·replace X := X.mono (M' := none1) (fun y _ h => by
     obtain ⟨j, hj, h⟩ := h
     rcases MsL_or h with ⟨rfl, h0⟩ | h0
     ·exact Bool.noConfusion (hj.symm.trans (hN 13 rfl))
     exact h0.elim)
   have e37 : s' 37 = (.pointer (some ⟨pb, 0, none⟩)) := (H 3 rfl).2 37 (fun _ _ v _ => v = (.pointer (some ⟨pb, 0, none⟩))) rfl (by rw [hFs4]; rfl)
   exact DoesT_pure (r_fieldAddr (b := pb) (o := 0) (o' := 4) e37 Try.underlying26 rfl siz24 rfl) rfl
  refine qZ (fun S s' w' hi hN X U V H => ?_) ?_
  ·replace X := X.mono (M' := none1) (fun y _ h => by
     obtain ⟨j, hj, h⟩ := h
     rcases MsL_or h with ⟨rfl, h0⟩ | h0
     ·exact Bool.noConfusion (hj.symm.trans (hN 13 rfl))
     exact h0.elim)
   have e38 : s' 38 = (.pointer (some ⟨pb, 4, none⟩)) := (H 4 rfl).2 38 (fun _ _ v _ => v = (.pointer (some ⟨pb, 4, none⟩))) rfl (by rw [hFs4]; rfl)
   exact DoesT_pure (r_load (v := (.slice xa s2.edges.length xc)) e38 flat24 (((X0.trans X).keep hblk).cell rfl)) rfl
  refine qZ (fun S s' w' hi hN X U V H => ?_) ?_
  ·replace X := X.mono (M' := none1) (fun y _ h => by
     obtain ⟨j, hj, h⟩ := h
     rcases MsL_or h with ⟨rfl, h0⟩ | h0
     ·exact Bool.noConfusion (hj.symm.trans (hN 13 rfl))
     exact h0.elim)
   exact DoesT_pure (r_move (v := (I6 (s.n : Int))) (U 6 rfl)) rfl
  refine qZ (fun S s' w' hi hN X U V H => ?_) ?_
  ·replace X := X.mono (M' := none1) (fun y _ h => by
     obtain ⟨j, hj, h⟩ := h
     rcases MsL_or h with ⟨rfl, h0⟩ | h0
     ·exact Bool.noConfusion (hj.symm.trans (hN 13 rfl))
     exact h0.elim)
   exact DoesT_pure (r_move (v := (I6 (s1.n : Int))) (U 7 rfl)) rfl
  refine qZ (fun S s' w' hi hN X U V H => ?_) ?_
  ·replace X := X.mono (M' := none1) (fun y _ h => by
     obtain ⟨j, hj, h⟩ := h
     rcases MsL_or h with ⟨rfl, h0⟩ | h0
     ·exact Bool.noConfusion (hj.symm.trans (hN 13 rfl))
     exact h0.elim)
   exact DoesT_pure (r_fieldAddr (b := br) (o := 0) (o' := 1) (U 3 rfl) Try.underlying33 rfl siz30 rfl) rfl
  refine qZ (fun S s' w' hi hN X U V H => ?_) ?_
  ·replace X := X.mono (M' := none1) (fun y _ h => by
     obtain ⟨j, hj, h⟩ := h
     rcases MsL_or h with ⟨rfl, h0⟩ | h0
     ·exact Bool.noConfusion (hj.symm.trans (hN 13 rfl))
     exact h0.elim)
   have e42 : s' 42 = (.pointer (some ⟨br, 1, none⟩)) := (H 8 rfl).2 42 (fun _ _ v _ => v = (.pointer (some ⟨br, 1, none⟩))) rfl (by rw [hFs4]; rfl)
   exact DoesT_pure (r_load (v := (.slice sa x.set.length sc)) e42 flat30 (((X0.trans X).keep Br).cell rfl)) rfl
  refine DagStepsS.cons (StabS.chg (U := (fun y => (fun q => (Value.slice xa s2.edges.length xc).ownBlock = some q) y)) (cloG_chg (fun q h => by have := (hown.lt q h).2; omega)) (fun p y hp hw h => by
     rcases MsL_or h with ⟨rfl, h0⟩ | h0
     ·exact h0
     exact h0.elim)) (LocS.const) (fun S s' w' hi hN X U V H => Or.inl ⟨Guarded_none rfl, ?_⟩) ?_
  ·replace X := X.mono (M' := none1) (fun y _ h => by
     obtain ⟨j, hj, h⟩ := h
     rcases MsL_or h with ⟨rfl, h0⟩ | h0
     ·exact Bool.noConfusion (hj.symm.trans (hN 13 rfl))
     exact h0.elim)
   have e43 : s' 43 = (.slice sa x.set.length sc) := (H 9 rfl).2 43 (fun _ _ v _ => v = (.slice sa x.set.length sc)) rfl (by rw [hFs4]; rfl)
   exact DoesT_callE (r_callF (vs := [(.slice sa x.set.length sc)]) Try.func40 nm40 bd40 (lst1 e43)) ((clones_c _ _ x.set (SlAt.ext hset2 (X0.trans X)) (by omega)).mono (fun v w h => ⟨(⟨h.1.1, own_low h.1.2 (by have := X0.size; have := X.size; omega)⟩ : cloG x.set z0 v w), h.2⟩))
  refine DagStepsS.cons (StabS.chg (U := (fun y => (fun q => (Value.slice xa s2.edges.length xc).ownBlock = some q) y)) (edG_chg (fun q h => by have := (hown.lt q h).2; omega)) (fun p y hp hw h => by
     rcases MsL_or h with ⟨rfl, h0⟩ | h0
     ·exact h0
     exact h0.elim)) (LocS.const) (fun S s' w' hi hN X U V H => Or.inl ⟨Guarded_none rfl, ?_⟩) ?_
  ·replace X := X.mono (M' := none1) (fun y _ h => by
     obtain ⟨j, hj, h⟩ := h
     rcases MsL_or h with ⟨rfl, h0⟩ | h0
     ·exact Bool.noConfusion (hj.symm.trans (hN 13 rfl))
     exact h0.elim)
   have e40 : s' 40 = (.int .i64 ((s.n : Nat) : Int)) := (H 6 rfl).2 40 (fun _ _ v _ => v = (.int .i64 ((s.n : Nat) : Int))) rfl (by rw [hFs4]; rfl)
   have e41 : s' 41 = (.int .i64 ((s1.n : Nat) : Int)) := (H 7 rfl).2 41 (fun _ _ v _ => v = (.int .i64 ((s1.n : Nat) : Int))) rfl (by rw [hFs4]; rfl)
   obtain ⟨⟨a44, c44, e44⟩, O44⟩ := (show ((fun _ _ => cloG x.set z0) : FctS) S s' (s' 44) w' from (H 10 rfl).2 44 (fun _ _ => cloG x.set z0) rfl (by rw [hFs4]; rfl))
   exact DoesT_pure (r_build (ps := [(0, .int .i64 (s.n : Int)), (1, .int .i64 (s1.n : Int)), (2, .slice a44 x.set.length c44)]) (v := .agg #[.int .i64 (s.n : Int), .int .i64 (s1.n : Int), .slice a44 x.set.length c44]) (bld3 e40 e41 e44) (by kernel_rfl)) ⟨a44, c44, rfl, ⟨a44, c44, rfl⟩, e44 ▸ O44⟩
  refine DagStepsS.cons (StabS.chg (U := (fun y => (fun q => (Value.slice xa s2.edges.length xc).ownBlock = some q) y)) (elG_chg (fun q h => by have := (hown.lt q h).2; omega)) (fun p y hp hw h => by
     rcases MsL_or h with ⟨rfl, h0⟩ | h0
     ·exact h0
     exact h0.elim)) (LocS.const) (fun S s' w' hi hN X U V H => Or.inl ⟨Guarded_none rfl, ?_⟩) ?_
  ·replace X := X.mono (M' := none1) (fun y _ h => by
     obtain ⟨j, hj, h⟩ := h
     rcases MsL_or h with ⟨rfl, h0⟩ | h0
     ·exact Bool.noConfusion (hj.symm.trans (hN 13 rfl))
     exact h0.elim)
   obtain ⟨a45, c45, e45, O45⟩ := (show ((fun _ _ => edG ((s.n : Nat) : Int) ((s1.n : Nat) : Int) x.set z0) : FctS) S s' (s' 45) w' from (H 11 rfl).2 45 (fun _ _ => edG ((s.n : Nat) : Int) ((s1.n : Nat) : Int) x.set z0) rfl (by rw [hFs4]; rfl))
   exact DoesT_litE e45 (by have := X0.size; have := X.size; omega) O45
  refine DagStepsS.cons (StabS.chg (U := none1) (apG_ext _ _ _ _ _ _ _ _) (fun p y hp hw h => by
     rcases MsL_or h with ⟨rfl, h0⟩ | h0
     ·exact absurd rfl hp
     exact h0.elim)) (LocS.const) (fun S s' w' hi hN X U V H => Or.inl ⟨Guarded_none rfl, ?_⟩) ?_
  ·replace X := X.mono (M' := none1) (fun y _ h => by
     obtain ⟨j, hj, h⟩ := h
     rcases MsL_or h with ⟨rfl, h0⟩ | h0
     ·exact Bool.noConfusion (hj.symm.trans hi)
     exact h0.elim)
   have e39 : s' 39 = (.slice xa s2.edges.length xc) := (H 5 rfl).2 39 (fun _ _ v _ => v = (.slice xa s2.edges.length xc)) rfl (by rw [hFs4]; rfl)
   obtain ⟨b46, a46, c46, e46, B46, g46, O46⟩ := (show ((fun _ _ => elG ((s.n : Nat) : Int) ((s1.n : Nat) : Int) x.set z0) : FctS) S s' (s' 46) w' from (H 12 rfl).2 46 (fun _ _ => elG ((s.n : Nat) : Int) ((s1.n : Nat) : Int) x.set z0) rfl (by rw [hFs4]; rfl))
   exact DoesT_appE e39 (own_ext (own_ext hown X0) X) e46 B46 O46 (by omega) (by have := X0.size; have := X.size; omega) (fun q h => .inl ⟨rfl, h⟩) (fun q h => by rcases h with h | h; exact (by have := (hown.lt q h.2).2; omega); exact h.elim) (by have := X0.size; have := X.size; omega)
  refine DagStepsS.tail (DagStepsS.tail (DagStepsS.tail (DagStepsS.tail ?_)))
  exact DagStepsS.nil
 ·intro s' wd4 w4 X0 X4 U H
  replace X4 := X4.mono (M' := (fun y => (fun q => (Value.slice xa s2.edges.length xc).ownBlock = some q) y)) (fun y _ h => by
    obtain ⟨j, hj, h⟩ := h
    rcases MsL_or h with ⟨rfl, h0⟩ | h0
    ·exact h0
    exact h0.elim)
  have e34 : s' 34 = (.pointer (some ⟨pb, 0, none⟩)) := H 0 rfl 34 (fun _ _ v _ => v = (.pointer (some ⟨pb, 0, none⟩))) rfl (by rw [hFs4]; rfl)
  obtain ⟨a47, c47, ⟨⟨u47, v47, e47⟩, O47, D47⟩, K47⟩ := (show ((fun _ _ => apG base s2.edges.length rows.flatten (.slice xa s2.edges.length xc) z0 ((s.n : Nat) : Int) ((s1.n : Nat) : Int) x.set) : FctS) (allS [true, true, true, true, true, true, true, true, true, true, true, true, true, true, false, false, false, false]) s' (s' 47) w4 from H 13 rfl 47 (fun _ _ => apG base s2.edges.length rows.flatten (.slice xa s2.edges.length xc) z0 ((s.n : Nat) : Int) ((s1.n : Nat) : Int) x.set) rfl (by rw [hFs4]; rfl))
  obtain ⟨j4, rfl⟩ := Fits.out (σ := s') (l := [(6, (.int .i64 ((s.n : Nat) : Int))), (7, (.int .i64 ((s1.n : Nat) : Int))), (34, (.pointer (some ⟨pb, 0, none⟩))), (47, (.slice u47 (s2.edges.length + 1) v47))]) ⟨U 6 rfl, U 7 rfl, e34, e47, trivial⟩
  clear U H
  replace Br := Chg.keep X4 (fun h => G3.st.hxF br h (.inr rfl)) (X0.keep Br)
  replace hblk := Chg.keep X4 (fun h => by have := (hown.lt _ h).1; omega) (X0.keep hblk)
  have hXm := Chg.trans (Ext.chg X0) X4
  replace E := (E.ext X0).step X4 (fun q hq h => trivial)
  rw [e47] at O47 D47
  have hK := K47
  have hPx : True := trivial
  refine qV (r_nilCheck (a := ⟨pb, 0, none⟩) rfl) ?_
  refine qF pb 0 0 rfl Try.underlying78 rfl siz26 rfl ?_
  refine qF pb 0 4 rfl Try.underlying26 rfl siz24 rfl ?_
  refine s_store (b := pb) (o := 4) (c' := #[(I6 (s2.n : Int)), (I6 0), (.slice none 0 0), (.slice pa s2.eps.length pc), (.slice u47 (s2.edges.length + 1) v47)]) (v := (.slice u47 (s2.edges.length + 1) v47)) rfl rfl rfl siz24 hblk (by simp) rfl ?_
  intro w5 S5
  replace hPx := G3.comp (G3.st.addEdge hXm hz0 hrows O47 D47 hK S5)
  replace Br := S5.keep (by omega) Br
  replace E := S5.step E (by first | exact Or.inl (by omega) | exact Or.inr rfl | exact Or.inr (by assumption) | exact Or.inr (by simp) | exact Or.inr (by omega) | exact Or.inr (by dsimp only; omega))
  replace hblk := S5.blk
  refine WpL_nil (thn_normal (Wp_seq_region ?_))
  refine qM (I6 (s.n : Int)) rfl ?_
  refine qM (I6 (s1.n : Int)) rfl ?_
  refine qA (I6 (s.n : Int)) rfl ?_
  refine qA (I6 (s1.n : Int)) rfl ?_
  refine WpL_nil (Wp_ret (inB_ret (thn_ret (finX_ret ?_))))
  refine fin_tmp2 Try.results33 (v := (.int .i64 ((s.n : Nat) : Int))) (v' := (.int .i64 ((s1.n : Nat) : Int))) rfl rfl ?_
  exact ⟨_, _, _, _, _, _, htm, rfl, hPx⟩
end Go.Proofs
namespace Go.Eng
open Go
section
variable {P : Program} {N : Nat} {σ : Env} {w : World} {y : Code}
/-- Where the body ends with no deferred call. -/
def finE (P : Program) (fn : Func) (R : Ending → World → Prop) : Post
  | .ret, σ, w => ∀ a : Act, env a = σ → Leaves P fn a.tmps R [] .returning w
  | _, _, _ => False
theorem WpA_assoc {QA : Exit → Act → World → Prop} {x : Code} (h : WpA P N x (Exit.then (y.wp P QA) QA) σ w) : WpA P N (.seq x y) QA σ w := fun a ha he => wp_seq (h a ha he)
theorem WpA_cond {fn : Func} {R : Ending → World → Prop} {x : Operand} {c1 : Code} {b : Bool} (hx : ev σ x = .bool b) (ht : b = true → Wp P N c1 (finE P fn R) σ w) (hf : b = false → WpA P N y (bodyPostD P fn R) σ w) : WpA P N (.cond x c1 .skip) (Exit.then (y.wp P (bodyPostD P fn R)) (bodyPostD P fn R)) σ w := by
 intro a ha he
 refine wp_cond_split (t := b) (by rw [eval_env, he]; exact hx) (fun h => ?_) (fun h => wp_skip (hf h a ha he))
 refine Code.wp_mono ?_ (ht h [] a ha he)
 rintro e a' w' ⟨o', q⟩
 have ho := o'.defers
 cases e <;> simp only [finE] at q
 show Leaves P fn a'.tmps R a'.defers .returning w'
 rw [ho]
 exact q a' rfl
end
end Go.Eng
namespace Go.Proofs
open Go Go.Eng Go.Sort
set_option maxRecDepth 100000
theorem usesB_arg {ks : List Int} {x : Re} (h : usesB ks x = false) : ks.contains x.kind = false ∧ ∀ y ∈ x.args, usesB ks y = false := by
  have hs : ∀ l : List Re, usesBs ks l = false → ∀ y ∈ l, usesB ks y = false := by
    intro l
    induction l with
    | nil => intro _ y hy; cases hy
    | cons z l ih =>
      intro h y hy
      simp only [usesBs, Bool.or_eq_false_iff] at h
      rcases List.mem_cons.1 hy with rfl | h1
      · exact h.1
      · exact ih h.2 y h1
  cases x
  simp only [usesB, Bool.or_eq_false_iff] at h
  exact ⟨h.1, hs _ h.2⟩
theorem thOf_c (wb : World) : ∀ (n : Nat) (x : Re), x.size ≤ n → n ≤ 1000000 → okRe x → usesB [7, 8, 10] x = false → ThOf wb x := by
  intro n
  induction n with
  | zero => intro x h; have := x.size_pos; omega
  | succ n ih =>
  intro x hn hb hok hu
  have hN := node_inv (okRe_node hok)
  have hla := len_lt_size x
  obtain ⟨hk0, hua⟩ := usesB_arg hu
  have hof : ∀ y ∈ x.args, ThOf wb y := fun y hy => by
    obtain ⟨i, hi⟩ := List.getElem?_of_mem hy
    have h1 := Re.size_arg hi
    exact ih y (by omega) (by omega) (okRes_get (okRe_args hok) hi) (hua y hy)
  have hk := hN.k
  have hk7 : x.kind ≠ 7 ∧ x.kind ≠ 8 ∧ x.kind ≠ 10 := by
    simp at hk0
    exact ⟨hk0.1, hk0.2.1, hk0.2.2⟩
  by_cases h0 : x.kind = 0
  · exact tof0_c wb x h0
  by_cases h1 : x.kind = 1
  · exact tof1_c wb x h1
  by_cases h2 : x.kind = 2
  · refine tof2_c wb x h2 ?_
    have := node_chk (okRe_node hok) h2
    unfold checkE at this
    split at this
    · cases this
    · omega
  by_cases h3 : x.kind = 3
  · exact tof3_c wb x h3 hof
  by_cases h4 : x.kind = 4
  · exact tof4_c wb x h4 hof (by omega)
  by_cases h5 : x.kind = 5
  · exact tof5_c wb x h5 (hN.one (by omega)) hof
  by_cases h6 : x.kind = 6
  · exact tof6_c wb x h6 (hN.one (by omega)) (by have := (hN.rep h6).2.2; omega) hof
  · exact tof9_c wb x (by omega) (hN.one (by omega)) hof
/-- What Simple says. -/
def simE (t : Re) : Int := if fitsE t 40 ≠ 0 then fitsE t 40 else if usesB [7, 8, 10] t then 3 else 0
theorem simE_zero {t : Re} : simE t = 0 ↔ okRe t ∧ (t.size : Int) ≤ 40 ∧ usesB [7, 8, 10] t = false := by
 unfold simE
 have h := fitsE_zero (t := t) (most := 40) (by decide) (by decide)
 constructor
 ·intro h1
  split at h1
  ·rename_i h2; exact absurd h1 h2
  ·rename_i h2
   have h3 := h.1 (Classical.not_not.1 h2)
   split at h1
   ·cases h1
   ·rename_i h4
    exact ⟨h3.1, h3.2, by simpa using h4⟩
 ·rintro ⟨h1, h2, h3⟩
  rw [if_neg (fun h4 => h4 (h.2 ⟨h1, h2⟩)), h3]; rfl
theorem simple_c (w0 : World) (t : Re) (vs : List Value) (ht : ReAt w0 t vs) : Ret Try.prog 10 #[.agg vs.toArray] w0 fun r w => r = .int .i64 (simE t) ∧ Ext w0 w := by
 have ht0 := ht
 obtain ⟨sa, sc, aa, ac, rfl, _, _, _⟩ := ht.form
 refine Ret_of Try.func10 rfl Try.ntmps10 (Nat.le_of_ble_eq_true rfl) ?_
 have E : Chg none1 w0 w0 := Chg.refl _ _
 refine Wp_seq_region ?_
 refine s_box (v := (.agg (R6 t sa sc aa ac))) (c := (R6 t sa sc aa ac)) (by decide) rfl rfl ?_
 intro br wr Nr
 have Fr := Nr.ge E
 replace E := E.ext Nr.ext
 have Br := Nr.blk
 refine qA (I6 0) rfl ?_
 refine WpL_nil (Wp_seq (Wp_seq_region ?_))
 refine qV (r_loadAgg (vs := [(I6 t.kind), (.slice sa t.set.length sc), (.slice aa t.args.length ac), (I6 t.mn), (I6 t.mx), (.bool t.neg)]) rfl agg33 siz33 rfl (Br.cells rfl)) ?_
 refine WpL_enter rfl rfl (by decide) (r_callF (vs := [(.agg (R6 t sa sc aa ac))]) Try.func37 nm37 bd37 rfl) (check_c _ t _ (ReAt.ext E t ht0)) ?_
 rintro _ w9 ⟨rfl, X9⟩
 replace Br := X9.keep Br
 replace E := E.ext X9
 refine qA (I6 (fitsE t 40)) rfl ?_
 refine WpL_nil (Wp_seq_region ?_)
 refine qM (I6 (fitsE t 40)) rfl ?_
 refine qV (r_neq (k := .i64) (a := fitsE t 40) (b := 0) rfl rfl) ?_
 refine WpL_nil ?_
 refine Wp_cond (b := decide ((fitsE t 40 : Int) ≠ 0)) rfl (fun h0 => ?_) (fun h0 => ?_)
 ·have kh0 := h0
  replace h0 := of_decide_eq_true h0
  refine Wp_seq_region ?_
  refine qM (I6 (fitsE t 40)) rfl ?_
  refine qA (I6 (fitsE t 40)) rfl ?_
  refine WpL_nil (Wp_ret (thn_ret ?_))
  refine fin_tmp Try.results10 (v := (.int .i64 (fitsE t 40))) rfl ?_
  exact ⟨by unfold simE; rw [if_pos h0], E⟩
 ·have kh0 := h0
  replace h0 := of_decide_eq_false h0
  refine Wp_skip (thn_normal (Wp_seq (Wp_seq_region ?_)))
  refine qV (r_loadAgg (vs := [(I6 t.kind), (.slice sa t.set.length sc), (.slice aa t.args.length ac), (I6 t.mn), (I6 t.mx), (.bool t.neg)]) rfl agg33 siz33 rfl (Br.cells rfl)) ?_
  refine s_buildSlice (ps := [(0, (I6 7)), (1, (I6 8)), (2, (I6 10))]) (c := #[(I6 7), (I6 8), (I6 10)]) (by decide) rfl Try.underlying22 siz3 zer3 (by decide) (by decide) (by kernel_rfl) ?_
  intro bk wk Nk
  have Fk := Nk.ge E
  have Ok_br := Nk.lt Br
  replace Br := Nk.keep Br
  replace E := E.ext Nk.ext
  have Bk := Nk.blk
  refine WpL_enter rfl rfl (by decide) (r_callF (vs := [(.agg (R6 t sa sc aa ac)), (.slice (some ⟨bk, 0, none⟩) 3 3)]) Try.func38 nm38 bd38 rfl) (uses_c _ t _ [7, 8, 10] _ (ReAt.ext E t ht0) (ints_of_blk [7, 8, 10] Bk (by simp) (by simp))) ?_
  rintro _ w19 ⟨rfl, X19⟩
  replace Br := X19.keep Br
  replace Bk := X19.keep Bk
  replace E := E.ext X19
  refine WpL_nil ?_
  refine Wp_cond (b := usesB [7, 8, 10] t) rfl (fun hu => ?_) (fun hu => ?_)
  ·have khu := hu
   refine Wp_seq_region ?_
   refine qA (I6 3) rfl ?_
   refine WpL_nil (Wp_ret (thn_ret ?_))
   refine fin_tmp Try.results10 (v := (.int .i64 3)) rfl ?_
   exact ⟨by unfold simE; rw [if_neg h0, hu]; rfl, E⟩
  ·have khu := hu
   refine Wp_skip (thn_normal (Wp_seq_region ?_))
   refine qA (I6 0) rfl ?_
   refine WpL_nil (Wp_ret ?_)
   refine fin_tmp Try.results10 (v := (.int .i64 0)) rfl ?_
   exact ⟨by unfold simE; rw [if_neg h0, hu]; rfl, E⟩
def nf0 : Nf := ⟨0, 0, [], [], []⟩
def ThP (t : Re) (n : Nf) (e : Int) : Prop := (simE t ≠ 0 ∧ n = nf0 ∧ e = simE t) ∨ (simE t = 0 ∧ tmO t ⟨0, [], []⟩ = none ∧ n = nf0 ∧ e = 2) ∨ (simE t = 0 ∧ e = 0 ∧ ∃ s a b, tmO t ⟨0, [], []⟩ = some (s, a, b) ∧ n = nfT s a b)
/-- An automaton and an error. -/
def NfNew (m : Nat) (w : World) (n : Nf) (vs : List Value) : Prop := ∀ (M : Nat → Prop) w', Chg M w w' → (∀ y, M y → y < m) → NfAt w' n vs
theorem NfNew.at {m : Nat} {w : World} {n : Nf} {vs : List Value} (h : NfNew m w n vs) : NfAt w n vs := h none1 w (Chg.refl _ _) fun _ f => f.elim
theorem NfNew.chg {m : Nat} {M : Nat → Prop} {w w' : World} {n : Nf} {vs : List Value} (h : NfNew m w n vs) (c : Chg M w w') (hM : ∀ y, M y → y < m) : NfNew m w' n vs := fun M2 w2 c2 h2 =>
 h (fun b => M b ∨ M2 b) w2 (Chg.trans (c.mono fun b _ hb => .inl hb) (c2.mono fun b _ hb => .inr hb)) fun b hb => hb.elim (hM b) (h2 b)
theorem NfNew.ext {m : Nat} {w w' : World} {n : Nf} {vs : List Value} (h : NfNew m w n vs) (e : Ext w w') : NfNew m w' n vs := h.chg e fun _ f => f.elim
theorem NfNew.low {m m' : Nat} {w : World} {n : Nf} {vs : List Value} (h : NfNew m w n vs) (hm : m' ≤ m) : NfNew m' w n vs := fun M w' c hM => h M w' c fun y hy => Nat.lt_of_lt_of_le (hM y hy) hm
def NfR (m : Nat) (R : Nf → Int → Prop) (r : Value) (w : World) : Prop := ∃ (n : Nf) (ea : Option Addr) (ec : Nat) (pa : Option Addr) (pc : Nat) (xa : Option Addr) (xc : Nat) (e : Int), r = .tuple #[.agg #[.int .i64 n.states, .int .i64 n.start, .slice ea n.ends.length ec, .slice pa n.eps.length pc, .slice xa n.edges.length xc], .int .i64 e] ∧ NfNew m w n [.int .i64 n.states, .int .i64 n.start, .slice ea n.ends.length ec, .slice pa n.eps.length pc, .slice xa n.edges.length xc] ∧ R n e
theorem nf0_at (w : World) : NfAt w nf0 [.int .i64 0, .int .i64 0, .slice none 0 0, .slice none 0 0, .slice none 0 0] :=
 ⟨none, 0, none, 0, none, 0, rfl, SlAt.nil w 1 _ _, SlAt.nil w 2 _ _, [], SlAt.nil w 3 _ _, rfl, fun i e row h => by simp [nf0] at h⟩
theorem nfR_zero {m : Nat} {R : Nf → Int → Prop} {w : World} {e : Int} (h : R nf0 e) : NfR m R (.tuple #[.agg #[.int .i64 0, .int .i64 0, .slice none 0 0, .slice none 0 0, .slice none 0 0], .int .i64 e]) w := ⟨nf0, none, 0, none, 0, none, 0, e, rfl, fun _ w' _ _ => nf0_at w', h⟩
end Go.Proofs
namespace Go.Proofs
open Go Go.Eng Go.Sort
set_option maxRecDepth 100000
abbrev TNf : Nat := 26
theorem siz74 : Siz Try.prog 74 0 := by unfold Siz; kernel_rfl
theorem zer74 : Zer Try.prog 74 (.agg #[]) := by unfold Zer; kernel_rfl
theorem thom1_idle (w0 : World) (b1 b2 : Nat) : CallsD Try.prog 32 #[.pointer (some ⟨b1, 0, none⟩), .pointer (some ⟨b2, 0, none⟩)] .returning w0 fun e u1 w' => (∃ r, e = .returned r ∧ Ext w0 w') ∧ u1 = .returning := by
 refine CallsD_recover (v := .nilIface) Try.func32 rfl Try.ntmps32 (Nat.le_of_ble_eq_true rfl) rfl rfl (by decide) (fun _ _ => r_recover) (.inl ⟨rfl, rfl, rfl⟩) ?_
 have E : Chg none1 w0 w0 := Chg.refl _ _
 refine qV (r_assertNil Try.underlying74 zer74 rfl) ?_
 refine qM (.tuple #[(.agg #[]), (.bool false)]) rfl ?_
 refine qV (r_extract (vs := #[(.agg #[]), (.bool false)]) (v := (.agg #[])) rfl rfl) ?_
 refine qV (r_extract (vs := #[(.agg #[]), (.bool false)]) (v := (.bool false)) rfl rfl) ?_
 refine s_allocStore (v := (.agg #[])) (c := #[]) (n := 0) (by decide) zer74 rfl siz74 rfl rfl rfl (by simp [Value.oneCell']) ?_
 intro b1 w1 N1
 have F1 := N1.ge E
 replace E := E.ext N1.ext
 have B1 := N1.blk
 refine qA (.bool false) rfl ?_
 refine WpL_nil (Wp_seq_region ?_)
 refine qM (.bool false) rfl ?_
 refine WpL_nil ?_
 refine Wp_cond_false rfl ?_
 refine Wp_skip ?_
 refine fin_none Try.results32 ?_
 exact E
theorem thom1_panic (w0 : World) (bd be : Nat) (h1 : Blk w0 bd #[.int .i64 0, .int .i64 0, .slice none 0 0, .slice none 0 0, .slice none 0 0] TNf) (h2 : Blk w0 be #[.int .i64 0] 27) (hne : bd ≠ be) :
  CallsD Try.prog 32 #[.pointer (some ⟨bd, 0, none⟩), .pointer (some ⟨be, 0, none⟩)] (.panicking lgN) w0 fun e u1 w' => (∃ r, e = .returned r ∧ (Blk w' bd #[.int .i64 0, .int .i64 0, .slice none 0 0, .slice none 0 0, .slice none 0 0] TNf ∧ Blk w' be #[.int .i64 2] 27 ∧ Chg (fun y => y = bd ∨ y = be) w0 w')) ∧ u1 = .panicking [{ v := .iface 74 (.agg #[]), recovered := true }] := by
 have hl1 := h1.lt
 have hl2 := h2.lt
 refine CallsD_recover (v := (.iface 74 (.agg #[]))) Try.func32 rfl Try.ntmps32 (Nat.le_of_ble_eq_true rfl) rfl rfl (by decide) (fun _ _ => r_recover) (.inr ⟨[], rfl, rfl⟩) ?_
 have E : Chg (fun y => y = bd ∨ y = be) w0 w0 := Chg.refl _ _
 refine qV (r_assertYes Try.underlying74 rfl) ?_
 refine qM (.tuple #[(.agg #[]), (.bool true)]) rfl ?_
 refine qV (r_extract (vs := #[(.agg #[]), (.bool true)]) (v := (.agg #[])) rfl rfl) ?_
 refine qV (r_extract (vs := #[(.agg #[]), (.bool true)]) (v := (.bool true)) rfl rfl) ?_
 refine s_allocStore (v := (.agg #[])) (c := #[]) (n := 0) (by decide) zer74 rfl siz74 rfl rfl rfl (by simp [Value.oneCell']) ?_
 intro b1 w1 N1
 have F1 := N1.ge E
 have O1_bd := N1.lt h1
 have O1_be := N1.lt h2
 replace h1 := N1.keep h1
 replace h2 := N1.keep h2
 replace E := E.ext N1.ext
 have B1 := N1.blk
 refine qA (.bool true) rfl ?_
 refine WpL_nil (Wp_seq_region ?_)
 refine qM (.bool true) rfl ?_
 refine WpL_nil ?_
 refine Wp_cond_true rfl ?_
 refine Wp_region ?_
 refine qV (r_build (ps := []) (v := (.agg #[(I6 0), (I6 0), (.slice none 0 0), (.slice none 0 0), (.slice none 0 0)])) rfl (by kernel_rfl)) ?_
 refine s_storeAgg (b := bd) (o := 0) (c' := #[(I6 0), (I6 0), (.slice none 0 0), (.slice none 0 0), (.slice none 0 0)]) rfl rfl (by simp [Value.oneCell']) siz26 rfl h1 (by first | (simp; done) | exact Nat.le_of_ble_eq_true rfl) rfl ?_
 intro w2 S2
 replace h2 := S2.keep (by omega) h2
 replace B1 := S2.keep (by omega) B1
 replace E := S2.step E (by first | exact Or.inl (by omega) | exact Or.inr rfl | exact Or.inr (by assumption) | exact Or.inr (by simp) | exact Or.inr (by omega) | exact Or.inr (by dsimp only; omega))
 replace h1 := S2.blk
 refine s_store (b := be) (o := 0) (c' := #[(I6 2)]) (v := (I6 2)) rfl rfl rfl siz27 h2 (by simp) rfl ?_
 intro w3 S3
 replace h1 := S3.keep (by omega) h1
 replace B1 := S3.keep (by omega) B1
 replace E := S3.step E (by first | exact Or.inl (by omega) | exact Or.inr rfl | exact Or.inr (by assumption) | exact Or.inr (by simp) | exact Or.inr (by omega) | exact Or.inr (by dsimp only; omega))
 replace h2 := S3.blk
 refine WpL_nil ?_
 refine fin_none Try.results32 ?_
 exact ⟨h1, h2, E⟩
theorem hi_thom1 (w : World) (cap : Array Value) : (callFunc 32 cap).run Try.prog w = .ok (.enter 32 cap) w := run_callF Try.func32 nm32 bd32
theorem lim0 : LimT ⟨0, [], []⟩ 0 := ⟨by decide, by decide, by decide⟩
theorem tst0 {w : World} {bt : Nat} (F : Nat → Prop) (hF : ∀ y, F y → y < bt) (h : Blk w bt #[.int .i64 0, .int .i64 0, .slice none 0 0, .slice none 0 0, .slice none 0 0] TTh) : TSt F w w.heap.size bt (.slice none 0 0) (.slice none 0 0) ⟨0, [], []⟩ :=
 ⟨h, World.ownsRow_nil _ _ _ _, ⟨[], World.ownsRow_nil _ _ _ _, rfl, fun i e row h => (by simp at h)⟩, fun b h => (by cases h), fun b h => (by cases h), fun b h => (by cases h), fun h => (by have := hF _ h; omega), h.lt, Nat.le_refl _, fun y hy => by have := hF y hy; have := h.lt; omega⟩
set_option maxHeartbeats 2000000 in
theorem thom_c (w0 : World) (t : Re) (vs : List Value) (ht : ReAt w0 t vs) : Ret Try.prog 6 #[.agg vs.toArray] w0 fun r w => NfR w0.heap.size (ThP t) r w ∧ Ext w0 w := by
 have ht0 := ht
 obtain ⟨sa, sc, aa, ac, rfl, _, _, _⟩ := ht.form
 refine CallsA_of Try.func6 rfl Try.ntmps6 (Nat.le_of_ble_eq_true rfl) ?_
 have E : Chg none1 w0 w0 := Chg.refl _ _
 refine WpA_seq_region ?_
 refine s_box (v := (.agg (R6 t sa sc aa ac))) (c := (R6 t sa sc aa ac)) (by decide) rfl rfl ?_
 intro bb wb Nb
 have Fb := Nb.ge E
 replace E := E.ext Nb.ext
 have Bb := Nb.blk
 refine s_alloc (c := #[(I6 0), (I6 0), (.slice none 0 0), (.slice none 0 0), (.slice none 0 0)]) (by decide) zer26 rfl ?_
 intro br wr Nr
 have Fr := Nr.ge E
 have Or_bb := Nr.lt Bb
 replace Bb := Nr.keep Bb
 replace E := E.ext Nr.ext
 have Br := Nr.blk
 refine s_alloc (c := #[(I6 0)]) (by decide) zer27 rfl ?_
 intro be we Ne
 have Fe := Ne.ge E
 have Oe_bb := Ne.lt Bb
 have Oe_br := Ne.lt Br
 replace Bb := Ne.keep Bb
 replace Br := Ne.keep Br
 replace E := E.ext Ne.ext
 have Be := Ne.blk
 refine WpL_nil (WpA_assoc (WpA_seq_region ?_))
 refine qV (r_loadAgg (vs := [(I6 t.kind), (.slice sa t.set.length sc), (.slice aa t.args.length ac), (I6 t.mn), (I6 t.mx), (.bool t.neg)]) rfl agg33 siz33 rfl (Bb.cells rfl)) ?_
 refine WpL_enter rfl rfl (by decide) (r_callF (vs := [(.agg (R6 t sa sc aa ac))]) Try.func10 nm10 bd10 rfl) (simple_c _ t _ (ReAt.ext E t ht0)) ?_
 rintro _ w9 ⟨rfl, X9⟩
 replace Bb := X9.keep Bb
 replace Br := X9.keep Br
 replace Be := X9.keep Be
 replace E := E.ext X9
 refine qA (I6 (simE t)) rfl ?_
 refine WpL_nil (WpA_seq_region ?_)
 refine qM (I6 (simE t)) rfl ?_
 refine qV (r_neq (k := .i64) (a := simE t) (b := 0) rfl rfl) ?_
 refine WpL_nil ?_
 refine WpA_cond (b := decide ((simE t : Int) ≠ 0)) rfl (fun h0 => ?_) (fun h0 => ?_)
 ·have kh0 := h0
  replace h0 := of_decide_eq_true h0
  refine Wp_seq_region ?_
  refine qV (r_build (ps := []) (v := (.agg #[(I6 0), (I6 0), (.slice none 0 0), (.slice none 0 0), (.slice none 0 0)])) rfl (by kernel_rfl)) ?_
  refine qM (I6 (simE t)) rfl ?_
  refine s_storeAgg (b := br) (o := 0) (c' := #[(I6 0), (I6 0), (.slice none 0 0), (.slice none 0 0), (.slice none 0 0)]) rfl rfl (by simp [Value.oneCell']) siz26 rfl Br (by first | (simp; done) | exact Nat.le_of_ble_eq_true rfl) rfl ?_
  intro w1 S1
  replace Bb := S1.keep (by omega) Bb
  replace Be := S1.keep (by omega) Be
  replace E := S1.step E (by first | exact Or.inl (by omega) | exact Or.inr rfl | exact Or.inr (by assumption) | exact Or.inr (by simp) | exact Or.inr (by omega) | exact Or.inr (by dsimp only; omega))
  replace Br := S1.blk
  refine s_store (b := be) (o := 0) (c' := #[(I6 (simE t))]) (v := (I6 (simE t))) rfl rfl rfl siz27 Be (by simp) rfl ?_
  intro w2 S2
  replace Bb := S2.keep (by omega) Bb
  replace Br := S2.keep (by omega) Br
  replace E := S2.step E (by first | exact Or.inl (by omega) | exact Or.inr rfl | exact Or.inr (by assumption) | exact Or.inr (by simp) | exact Or.inr (by omega) | exact Or.inr (by dsimp only; omega))
  replace Be := S2.blk
  refine WpL_nil (Wp_ret ?_)
  exact fun a ha => ⟨_, res_agg_cell (vs := [.int .i64 0, .int .i64 0, .slice none 0 0, .slice none 0 0, .slice none 0 0]) Try.results6 rfl rfl agg26 siz26 rfl (Br.cells rfl) flat27 (Be.cell rfl) ha, _, rfl, nfR_zero (.inl ⟨h0, rfl, rfl⟩), E⟩
 ·have kh0 := h0
  replace h0 := of_decide_eq_false h0
  have hs0 : simE t = 0 := by omega
  obtain ⟨hok, hsz, hus⟩ := simE_zero.1 hs0
  refine WpA_seq_regionD ?_
  refine WpLA_val rfl rfl (by decide) (r_makeFunc (vs := []) (us := [(P6 br 0), (P6 be 0)]) rfl rfl) ?_
  refine WpLA_defer rfl rfl (r_defer rfl) ?_
  refine Wp_seq_region ?_
  refine qV (r_build (ps := []) (v := (.agg #[(I6 0), (I6 0), (.slice none 0 0), (.slice none 0 0), (.slice none 0 0)])) rfl (by kernel_rfl)) ?_
  refine s_box (v := (.agg #[(I6 0), (I6 0), (.slice none 0 0), (.slice none 0 0), (.slice none 0 0)])) (c := #[(I6 0), (I6 0), (.slice none 0 0), (.slice none 0 0), (.slice none 0 0)]) (by decide) rfl rfl ?_
  intro bt wt Nt
  have Ft := Nt.ge E
  have Ot_bb := Nt.lt Bb
  have Ot_br := Nt.lt Br
  have Ot_be := Nt.lt Be
  replace Bb := Nt.keep Bb
  replace Br := Nt.keep Br
  replace Be := Nt.keep Be
  replace E := E.ext Nt.ext
  have Bt := Nt.blk
  refine qA (P6 bt 0) rfl ?_
  refine WpL_nil (Wp_seq_region ?_)
  refine qM (P6 bt 0) rfl ?_
  refine qV (r_loadAgg (vs := [(I6 t.kind), (.slice sa t.set.length sc), (.slice aa t.args.length ac), (I6 t.mn), (I6 t.mx), (.bool t.neg)]) rfl agg33 siz33 rfl (Bb.cells rfl)) ?_
  obtain ⟨n9, hn9⟩ : ∃ n9, n9 = (wt).heap.size := ⟨_, rfl⟩
  have hlt : br < bt ∧ be < bt ∧ w0.heap.size ≤ br ∧ w0.heap.size ≤ be ∧ br ≠ be ∧ bt < n9 := ⟨by omega, by omega, by omega, by omega, by omega, by rw [hn9]; exact Bt.lt⟩
  have T0 := tst0 (fun y => y < bt) (fun _ h => h) Bt
  refine WpL_enterX rfl rfl (by decide) (r_callF (vs := [(P6 bt 0), (.agg (R6 t sa sc aa ac))]) Try.func33 nm33 bd33 rfl) (thOf_c w0 _ t (Nat.le_refl _) (by omega) hok hus _ bt _ _ _ _ _ _ ht0 E (fun y hy => by show y < bt; omega) T0 lim0) (fun w' h => fun a ha => leaves_end (X := fun w9 => Blk w9 br #[.int .i64 0, .int .i64 0, .slice none 0 0, .slice none 0 0, .slice none 0 0] TNf ∧ Blk w9 be #[.int .i64 2] 27 ∧ Chg (fun y => y = br ∨ y = be) w' w9) rfl (by intro h; cases h) (hi_thom1 _ _) ((thom1_panic _ br be (h.2.keep (fun h => by rcases h with h | h | h; omega; cases h; cases h) Br) (h.2.keep (fun h => by rcases h with h | h | h; omega; cases h; cases h) Be) hlt.2.2.2.2.1).mono fun e9 u9 w9 h9 => by obtain ⟨⟨r9, h1, h2⟩, h3⟩ := h9; exact ⟨⟨r9, h1⟩, by rw [h3]; rfl, h2⟩) (fun w9 h9 => ⟨_, res_agg_cell (vs := [.int .i64 0, .int .i64 0, .slice none 0 0, .slice none 0 0, .slice none 0 0]) Try.results6 rfl rfl agg26 siz26 rfl (h9.1.cells rfl) flat27 (h9.2.1.cell rfl) ha, _, rfl, nfR_zero (.inr (.inl ⟨hs0, h.1, rfl, rfl⟩)), (E.step h.2 (fun y hy hh => by rcases hh with hh | hh | hh; omega; cases hh; cases hh)).step h9.2.2 (fun y hy hh => by rcases hh with hh | hh <;> omega)⟩)) ?_
  rintro _ w19 ⟨s, fa, fb, F2, pv, xv, hth, rfl, G⟩
  replace Bb := G.chg.keep ((fun h => by rcases h with h | h | h; omega; cases h; cases h)) Bb
  replace Br := G.chg.keep ((fun h => by rcases h with h | h | h; omega; cases h; cases h)) Br
  replace Be := G.chg.keep ((fun h => by rcases h with h | h | h; omega; cases h; cases h)) Be
  replace E := E.step G.chg ((fun y hy hh => by rcases hh with hh | hh | hh; omega; cases hh; cases hh))
  obtain ⟨⟨pa, pc, rfl⟩, xa, xc, rfl⟩ := G.st.form
  have hblk := G.st.blk
  have hC : Chg (fun y => y < n9) w19 w19 := Chg.refl _ _
  refine qM (.tuple #[(I6 (fa : Int)), (I6 (fb : Int))]) rfl ?_
  refine qV (r_extract (vs := #[(I6 (fa : Int)), (I6 (fb : Int))]) (v := (I6 (fa : Int))) rfl rfl) ?_
  refine qV (r_extract (vs := #[(I6 (fa : Int)), (I6 (fb : Int))]) (v := (I6 (fb : Int))) rfl rfl) ?_
  refine qA (I6 (fa : Int)) rfl ?_
  refine qA (I6 (fb : Int)) rfl ?_
  refine WpL_nil (Wp_seq_region ?_)
  refine qM (P6 bt 0) rfl ?_
  refine qM (P6 bt 0) rfl ?_
  refine qM (I6 (fa : Int)) rfl ?_
  refine qM (I6 (fb : Int)) rfl ?_
  refine s_buildSlice (ps := [(0, (I6 (fb : Int)))]) (c := #[(I6 (fb : Int))]) (by decide) rfl Try.underlying22 siz3 zer3 (by decide) (by decide) (by kernel_rfl) ?_
  intro bk wk Nk
  have Fk := Nk.ge E
  have Ok_bb := Nk.lt Bb
  have Ok_br := Nk.lt Br
  have Ok_be := Nk.lt Be
  have Ok_bt := Nk.lt hblk
  replace Bb := Nk.keep Bb
  replace Br := Nk.keep Br
  replace Be := Nk.keep Be
  replace hblk := Nk.keep hblk
  replace hC := hC.ext Nk.ext
  replace E := E.ext Nk.ext
  have Bk := Nk.blk
  refine qV (r_nilCheck (a := ⟨bt, 0, none⟩) rfl) ?_
  refine qF bt 0 0 rfl Try.underlying78 rfl siz26 rfl ?_
  refine qF bt 0 1 rfl Try.underlying26 rfl siz3 rfl ?_
  refine s_store (b := bt) (o := 1) (c' := #[(I6 (s.n : Int)), (I6 (fa : Int)), (.slice none 0 0), (.slice pa s.eps.length pc), (.slice xa s.edges.length xc)]) (v := (I6 (fa : Int))) rfl rfl rfl siz3 hblk (by simp) rfl ?_
  intro w3 S3
  replace hC := hC.step S3.chg (fun y _ h => by have h' : y = _ := h; omega)
  replace Bb := S3.keep (by omega) Bb
  replace Br := S3.keep (by omega) Br
  replace Be := S3.keep (by omega) Be
  replace Bk := S3.keep (by omega) Bk
  replace E := S3.step E (by first | exact Or.inl (by omega) | exact Or.inr rfl | exact Or.inr (by assumption) | exact Or.inr (by simp) | exact Or.inr (by omega) | exact Or.inr (by dsimp only; omega))
  replace hblk := S3.blk
  refine qV (r_nilCheck (a := ⟨bt, 0, none⟩) rfl) ?_
  refine qF bt 0 0 rfl Try.underlying78 rfl siz26 rfl ?_
  refine qF bt 0 2 rfl Try.underlying26 rfl siz22 rfl ?_
  refine s_store (b := bt) (o := 2) (c' := #[(I6 (s.n : Int)), (I6 (fa : Int)), (.slice (some ⟨bk, 0, none⟩) 1 1), (.slice pa s.eps.length pc), (.slice xa s.edges.length xc)]) (v := (.slice (some ⟨bk, 0, none⟩) 1 1)) rfl rfl rfl siz22 hblk (by simp) rfl ?_
  intro w4 S4
  replace hC := hC.step S4.chg (fun y _ h => by have h' : y = _ := h; omega)
  replace Bb := S4.keep (by omega) Bb
  replace Br := S4.keep (by omega) Br
  replace Be := S4.keep (by omega) Be
  replace Bk := S4.keep (by omega) Bk
  replace E := S4.step E (by first | exact Or.inl (by omega) | exact Or.inr rfl | exact Or.inr (by assumption) | exact Or.inr (by simp) | exact Or.inr (by omega) | exact Or.inr (by dsimp only; omega))
  replace hblk := S4.blk
  refine WpL_nil (Wp_seq_region ?_)
  refine qM (P6 bt 0) rfl ?_
  refine qV (r_nilCheck (a := ⟨bt, 0, none⟩) rfl) ?_
  refine qF bt 0 0 rfl Try.underlying78 rfl siz26 rfl ?_
  refine qV (r_loadAgg (vs := [(I6 (s.n : Int)), (I6 (fa : Int)), (.slice (some ⟨bk, 0, none⟩) 1 1), (.slice pa s.eps.length pc), (.slice xa s.edges.length xc)]) rfl agg26 siz26 rfl (hblk.cells rfl)) ?_
  refine s_storeAgg (b := br) (o := 0) (c' := #[(I6 (s.n : Int)), (I6 (fa : Int)), (.slice (some ⟨bk, 0, none⟩) 1 1), (.slice pa s.eps.length pc), (.slice xa s.edges.length xc)]) rfl rfl (by simp [Value.oneCell']) siz26 rfl Br (by first | (simp; done) | exact Nat.le_of_ble_eq_true rfl) rfl ?_
  intro w5 S5
  replace hC := hC.step S5.chg (fun y _ h => by have h' : y = _ := h; omega)
  replace Bb := S5.keep (by omega) Bb
  replace Be := S5.keep (by omega) Be
  replace hblk := S5.keep (by omega) hblk
  replace Bk := S5.keep (by omega) Bk
  replace E := S5.step E (by first | exact Or.inl (by omega) | exact Or.inr rfl | exact Or.inr (by assumption) | exact Or.inr (by simp) | exact Or.inr (by omega) | exact Or.inr (by dsimp only; omega))
  replace Br := S5.blk
  refine s_store (b := be) (o := 0) (c' := #[(I6 0)]) (v := (I6 0)) rfl rfl rfl siz27 Be (by simp) rfl ?_
  intro w6 S6
  replace hC := hC.step S6.chg (fun y _ h => by have h' : y = _ := h; omega)
  replace Bb := S6.keep (by omega) Bb
  replace Br := S6.keep (by omega) Br
  replace hblk := S6.keep (by omega) hblk
  replace Bk := S6.keep (by omega) Bk
  replace E := S6.step E (by first | exact Or.inl (by omega) | exact Or.inr rfl | exact Or.inr (by assumption) | exact Or.inr (by simp) | exact Or.inr (by omega) | exact Or.inr (by dsimp only; omega))
  replace Be := S6.blk
  refine WpL_nil (Wp_ret ?_)
  have hN : NfNew w0.heap.size _ (nfT s fa fb) [.int .i64 ((s.n : Nat) : Int), .int .i64 ((fa : Nat) : Int), .slice (some ⟨bk, 0, none⟩) 1 1, .slice pa s.eps.length pc, .slice xa s.edges.length xc] := fun M w7 c hM => by
   have hD := G.st.done (hC.trans (c.mono fun y _ hy => by have := hM y hy; omega)) (fun y h => by rw [← hn9]; exact h)
   exact ⟨_, _, _, _, _, _, rfl, ints_of_blk [((fb : Nat) : Int)] (c.keep (fun h => by have := hM _ h; omega) Bk) (by simp) (by simp), hD.1, hD.2⟩
  exact fun a ha => leaves_end (X := Ext _) rfl (by intro h; cases h) (hi_thom1 _ _) ((thom1_idle _ br be).mono fun e9 u9 w9 h9 => by obtain ⟨⟨r9, h1, h2⟩, h3⟩ := h9; exact ⟨⟨r9, h1⟩, by rw [h3]; rfl, h2⟩) (fun w9 h9 => ⟨_, res_agg_cell (vs := [.int .i64 ((s.n : Nat) : Int), .int .i64 ((fa : Nat) : Int), .slice (some ⟨bk, 0, none⟩) 1 1, .slice pa s.eps.length pc, .slice xa s.edges.length xc]) Try.results6 rfl rfl agg26 siz26 rfl ((Ext.keep h9 Br).cells rfl) flat27 ((Ext.keep h9 Be).cell rfl) ha, _, rfl, ⟨nfT s fa fb, _, _, _, _, _, _, _, rfl, hN.ext h9, .inr (.inr ⟨hs0, rfl, s, fa, fb, hth, rfl⟩)⟩, E.ext h9⟩)
end Go.Proofs
namespace Go.Proofs
open Go Go.Eng
def epS (p : Int × Int) : List Int := [p.1, p.2]
def edS (e : Ed) : List Int := [e.1, e.2.1]
def stsN (n : Nf) : List Int := (n.start :: n.ends) ++ (n.eps.map epS).flatten ++ (n.edges.map edS).flatten
def badS (m s : Int) : Bool := decide (s < 0) || decide (m ≤ s)
def setsE : List Ed → Int
  | [] => 0
  | e :: l => if checkE e.2.2 = 0 then setsE l else checkE e.2.2
def chkN (n : Nf) : Int :=
 if 500 < n.states ∨ 500 < n.ends.length ∨ 20000 < n.eps.length ∨ 20000 < n.edges.length then 2
 else if (stsN n).any (badS n.states) then 1 else setsE n.edges
theorem setsE_zero : ∀ {l : List Ed}, setsE l = 0 ↔ ∀ e ∈ l, checkE e.2.2 = 0
  | [] => by simp [setsE]
  | e :: l => by
    rw [setsE]
    split
    · rename_i h
      rw [setsE_zero]
      simp [h]
    · rename_i h
      constructor
      · exact fun k => absurd k h
      · exact fun k => absurd (k e List.mem_cons_self) h
theorem any_bad {m : Int} {l : List Int} : l.any (badS m) = false ↔ ∀ s ∈ l, 0 ≤ s ∧ s < m := by
 rw [List.any_eq_false]
 constructor
 ·intro h s hs
  have := h s hs
  simp [badS] at this
  omega
 ·intro h s hs
  have := h s hs
  simp [badS]
  omega
theorem chkN_zero {n : Nf} : chkN n = 0 ↔ OkN n := by
 unfold chkN
 constructor
 ·intro h
  split at h
  ·omega
  rename_i h1
  split at h
  ·omega
  rename_i h2
  have h3 := any_bad.1 (by simpa using h2)
  have h4 := setsE_zero.1 h
  have h5 : ∀ s, s ∈ n.start :: n.ends ∨ s ∈ (n.eps.map epS).flatten ∨ s ∈ (n.edges.map edS).flatten → 0 ≤ s ∧ s < n.states := by
   intro s hs
   refine h3 s ?_
   unfold stsN
   rcases hs with hs | hs | hs
   ·exact List.mem_append_left _ (List.mem_append_left _ hs)
   ·exact List.mem_append_left _ (List.mem_append_right _ hs)
   ·exact List.mem_append_right _ hs
  refine ⟨by omega, h5 _ (.inl List.mem_cons_self), by omega, by omega, by omega, fun s hs => h5 s (.inl (List.mem_cons_of_mem _ hs)), fun p hp => ?_, fun e he => ?_⟩
  ·have hm : ∀ x ∈ epS p, 0 ≤ x ∧ x < n.states := fun x hx => h5 x (.inr (.inl (List.mem_flatten.2 ⟨_, List.mem_map.2 ⟨p, hp, rfl⟩, hx⟩)))
   exact ⟨hm p.1 (by simp [epS]), hm p.2 (by simp [epS])⟩
  ·have hm : ∀ x ∈ edS e, 0 ≤ x ∧ x < n.states := fun x hx => h5 x (.inr (.inr (List.mem_flatten.2 ⟨_, List.mem_map.2 ⟨e, he, rfl⟩, hx⟩)))
   exact ⟨hm e.1 (by simp [edS]), hm e.2.1 (by simp [edS]), h4 e he⟩
 ·intro h
  rw [if_neg (by have := h.st; have := h.el; have := h.pl; have := h.xl; omega)]
  rw [if_neg ?_]
  ·exact setsE_zero.2 fun e he => (h.ed e he).2.2
  ·rw [Bool.not_eq_true, any_bad]
   intro s hs
   unfold stsN at hs
   rcases List.mem_append.1 hs with hs | hs
   ·rcases List.mem_append.1 hs with hs | hs
    ·rcases List.mem_cons.1 hs with rfl | hs
     ·exact h.s0
     ·exact h.en s hs
    ·obtain ⟨l, hl, hx⟩ := List.mem_flatten.1 hs
     obtain ⟨p, hp, rfl⟩ := List.mem_map.1 hl
     simp [epS] at hx
     rcases hx with rfl | rfl
     ·exact (h.ep p hp).1
     ·exact (h.ep p hp).2
   ·obtain ⟨l, hl, hx⟩ := List.mem_flatten.1 hs
    obtain ⟨p, hp, rfl⟩ := List.mem_map.1 hl
    simp [edS] at hx
    rcases hx with rfl | rfl
    ·exact (h.ed p hp).1
    ·exact (h.ed p hp).2.1
theorem flat2_len (α : Type) (f : α → List Int) (hf : ∀ x, (f x).length = 2) : ∀ l : List α, (l.map f).flatten.length = 2 * l.length
  | [] => rfl
  | x :: l => by rw [List.map_cons, List.flatten_cons, List.length_append, hf, flat2_len α f hf l, List.length_cons]; omega
theorem flat_take {α : Type} (f : α → List Int) {l : List α} {k : Nat} {x : α} (h : l[k]? = some x) : ((l.take (k + 1)).map f).flatten = ((l.take k).map f).flatten ++ f x := by
 rw [List.take_add_one, h]; simp
theorem setsE_step {l : List Ed} {k : Nat} {e : Ed} (h : setsE l = setsE (l.drop k)) (he : l[k]? = some e) : (checkE e.2.2 = 0 → setsE l = setsE (l.drop (k + 1))) ∧ (checkE e.2.2 ≠ 0 → setsE l = checkE e.2.2) := by
 have hl : l.drop k = e :: l.drop (k + 1) := by
  have := lt_of_get he
  rw [List.drop_eq_getElem_cons this]
  rw [List.getElem?_eq_getElem this] at he
  rw [Option.some.inj he]
 rw [h, hl, setsE]
 exact ⟨fun h => by rw [if_pos h], fun h => by rw [if_neg h]⟩
end Go.Proofs
namespace Go.Proofs
open Go Go.Eng Go.Sort
--BEGIN
theorem set_true {M : List Bool} {i j : Nat} (h : M[j]? = some true) : (M.set i true)[j]? = some true := by
 rw [List.getElem?_set]
 split
 ·rename_i he
  subst he
  rw [if_pos (lt_of_get h)]
 ·exact h
end Go.Proofs
namespace Go.Proofs
open Go Go.Eng
set_option maxRecDepth 100000
def IntssAt (w : World) (v : Value) (ll : List (List Int)) : Prop := ∃ vs : List Value, SlAt w 1 v (vs.map fun x => [x]) ∧ vs.length = ll.length ∧ ∀ (i : Nat) (u : Value) (l : List Int), vs[i]? = some u → ll[i]? = some l → IntsAt w u l
theorem IntssAt.form {w : World} {v : Value} {ll : List (List Int)} (h : IntssAt w v ll) : ∃ a c, v = .slice a ll.length c ∧ ll.length ≤ c ∧ ll.length ≤ 9223372036854775807 := by
 obtain ⟨vs, h1, h2, _⟩ := h
 obtain ⟨a, c, rfl⟩ := h1.form
 have := h1.cap
 have := h1.le
 simp only [List.length_map] at *
 rw [h2] at *
 exact ⟨a, c, rfl, by omega, by omega⟩
theorem intss_cells {w : World} {a : Option Addr} {n c : Nat} {ll : List (List Int)} (h : IntssAt w (.slice a n c) ll) (hn : 0 < n) :
  ∃ b o, a = some ⟨b, o, none⟩ ∧ ∀ i l, ll[i]? = some l → ∃ ra rc, w.cell? ⟨b, o + i, none⟩ = some (.slice ra l.length rc) ∧ IntsAt w (.slice ra l.length rc) l := by
 obtain ⟨vs, h1, h2, h3⟩ := h
 obtain ⟨b, o, ha, hc⟩ := SlAt.at h1 hn
 refine ⟨b, o, ha, fun i l hl => ?_⟩
 have hi : i < vs.length := by have := lt_of_get hl; omega
 have hu : vs[i]? = some vs[i] := List.getElem?_eq_getElem hi
 have h4 := h3 i vs[i] l hu hl
 obtain ⟨ra, rc, hf⟩ := SlAt.form h4
 simp only [List.length_map] at hf
 have h5 := hc i [vs[i]] (by simp [hu]) 0 _ rfl
 rw [Nat.mul_one, Nat.add_zero, hf] at h5
 rw [hf] at h4
 exact ⟨ra, rc, h5, h4⟩
end Go.Proofs
namespace Go.Proofs
open Go Go.Eng Go.Sort
set_option maxRecDepth 100000
abbrev TDI : Nat := 3
abbrev TDIs : Nat := 22
def iRow (l : List Int) : Nat × List Value := (l.length, l.map (Value.int .i64))
theorem iRow_rep (n : Nat) : (List.replicate n ([] : List Int)).map iRow = List.replicate n (0, []) := by simp [iRow]
theorem ints_flatD (l : List Int) : (l.map intV).flatten = l.map (Value.int .i64) := by
  induction l with
  | nil => rfl
  | cons x l ih => simp [intV]; simpa [intV] using ih
theorem own_intsD {w : World} {base n : Nat} {v : Value} {l : List Int} (h : w.ownsRow base TDI 1 v n (l.map (Value.int .i64))) (hn : n = l.length) : IntsAt w v l := by
 rw [← ints_flatD] at h
 exact own_slat h (by intro x hx; simp only [List.mem_map] at hx; obtain ⟨p, _, rfl⟩ := hx; rfl) (by simp [hn]) (by decide)
theorem bools_set {M : List Bool} {k : Nat} (b : Bool) : ((M.map Value.bool).toArray).setIfInBounds (0 + k) (.bool b) = ((M.set k b).map Value.bool).toArray := by
 apply Array.ext'
 rw [Array.toList_setIfInBounds, Nat.zero_add, ← List.map_set]
theorem snocs {α : Type} {l : List α} (h : 0 < l.length) : ∃ o c, l = o ++ [c] := ⟨l.dropLast, l.getLast (List.ne_nil_of_length_pos h), (List.dropLast_concat_getLast _).symm⟩
end Go.Proofs
namespace Go.Proofs
open Go Go.Eng Go.Sort
set_option maxRecDepth 100000
theorem growi_c (w0 : World) (n : Nat) (hn : n ≤ 8796093022208) :
  Ret Try.prog 114 #[.slice none 0 0, .int .i64 ((n : Nat) : Int)] w0 fun r w => (∃ a c, r = .slice a 0 c) ∧ w.ownsRow w0.heap.size TDI 1 r 0 [] ∧ Ext w0 w := by
 refine Ret_of Try.func114 rfl Try.ntmps114 (Nat.le_of_ble_eq_true rfl) ?_
 have E : Chg none1 w0 w0 := Chg.refl _ _
 refine Wp_seq_region ?_
 refine qA (.slice none 0 0) rfl ?_
 refine WpL_nil (Wp_seq (Wp_seq_region ?_))
 refine qM (I6 (n : Int)) rfl ?_
 refine qV (r_lss (k := .i64) (a := (n : Int)) (b := 0) rfl rfl) ?_
 refine WpL_nil ?_
 have hc1 : (decide ((((n : Nat) : Int) : Int) < 0)) = false := decide_eq_false (by omega)
 refine Wp_cond_false (congrArg Value.bool hc1) ?_
 refine Wp_skip (thn_normal (Wp_seq (Wp_seq_region ?_)))
 refine qM (I6 (n : Int)) rfl ?_
 refine qM (.slice none 0 0) rfl ?_
 refine qV (r_capSlice (n := 0) (cap := 0) Try.underlying22 rfl) ?_
 refine qM (.slice none 0 0) rfl ?_
 refine qV (r_lenSlice (ad := none) (n := 0) (cap := 0) Try.underlying22 rfl) ?_
 refine qV (r_sub (k := .i64) (a := 0) (b := 0) (c := 0) rfl rfl (by decide)) ?_
 refine qV (r_sub (k := .i64) (a := (n : Int)) (b := 0) (c := (n : Int)) rfl rfl ((wI64 (by omega)).trans (by omega))) ?_
 refine qA (I6 (n : Int)) rfl ?_
 refine WpL_nil (Wp_seq_region ?_)
 refine qM (I6 (n : Int)) rfl ?_
 refine qV (r_gtr (k := .i64) (a := (n : Int)) (b := 0) rfl rfl) ?_
 refine WpL_nil ?_
 refine Wp_cond (b := decide ((0 : Int) < (n : Int))) rfl (fun hp => ?_) (fun hp => ?_)
 ·have khp := hp
  replace hp := of_decide_eq_true hp
  refine Wp_region ?_
  refine qM (.slice none 0 0) rfl ?_
  refine qM (.slice none 0 0) rfl ?_
  refine qV (r_capSlice (n := 0) (cap := 0) Try.underlying22 rfl) ?_
  obtain ⟨a1, ha1⟩ : ∃ a' : Option Addr, (if 0 = 0 then none else Option.map (fun q : Addr => q.add (0 * 1)) none) = a' := ⟨_, rfl⟩
  refine qV (r_sliceHi (a := none) (len := 0) (cap := 0) (hi := 0) (l := 0) Try.underlying22 siz3 rfl rfl (by omega) (by omega) ha1) ?_
  refine qM (I6 (n : Int)) rfl ?_
  simp at ha1
  subst ha1
  refine s_appendZ (base := w0.heap.size) (n := n) (size := 1) (bytes := 8) (by decide) Try.underlying22 Try.underlying3 siz3 byt3 zer3 rfl (by decide) rfl rfl (by omega) (by omega) (by omega) ?_
  intro cc w9 X9 O9 H9
  replace E := E.ext X9
  refine qM (.slice none 0 0) rfl ?_
  refine qV (r_lenSlice (ad := none) (n := 0) (cap := 0) Try.underlying22 rfl) ?_
  obtain ⟨a2, ha2⟩ : ∃ a' : Option Addr, (if cc = 0 then (some ⟨w0.heap.size, 0, none⟩) else Option.map (fun q : Addr => q.add (0 * 1)) (some ⟨w0.heap.size, 0, none⟩)) = a' := ⟨_, rfl⟩
  refine qV (r_sliceHi (a := (some ⟨w0.heap.size, 0, none⟩)) (len := n) (cap := cc) (hi := 0) (l := 0) Try.underlying22 siz3 rfl rfl (by omega) (by omega) ha2) ?_
  have ha3 : a2 = some ⟨w0.heap.size, 0, none⟩ := by rw [← ha2, if_neg (by omega)]; simp [Addr.add_lit]
  subst ha3
  refine qA (.slice (some ⟨w0.heap.size, 0, none⟩) 0 cc) rfl ?_
  refine WpL_nil (thn_normal (Wp_seq_region ?_))
  refine qM (.slice (some ⟨w0.heap.size, 0, none⟩) 0 cc) rfl ?_
  refine qA (.slice (some ⟨w0.heap.size, 0, none⟩) 0 cc) rfl ?_
  refine WpL_nil (Wp_ret ?_)
  refine fin_tmp Try.results114 (v := (.slice (some ⟨w0.heap.size, 0, none⟩) 0 cc)) rfl ?_
  exact ⟨⟨_, _, rfl⟩, O9, E⟩
 ·have khp := hp
  replace hp := of_decide_eq_false hp
  refine Wp_skip (thn_normal (Wp_seq_region ?_))
  refine qM (.slice none 0 0) rfl ?_
  refine qA (.slice none 0 0) rfl ?_
  refine WpL_nil (Wp_ret ?_)
  refine fin_tmp Try.results114 (v := (.slice none 0 0)) rfl ?_
  exact ⟨⟨none, 0, rfl⟩, World.ownsRow_nil _ _ _ _, E⟩
theorem ilens_take {ll : List (List Int)} {k : Nat} {l : List Int} (h : ll[k]? = some l) : (ll.take (k + 1)).flatten = (ll.take k).flatten ++ l := by
 rw [List.take_add_one, h]; simp
theorem ilens_le (ll : List (List Int)) (k : Nat) : (ll.take k).flatten.length ≤ ll.flatten.length := by
 have h : ll.flatten = (ll.take k).flatten ++ (ll.drop k).flatten := by rw [← List.flatten_append, List.take_append_drop]
 rw [h, List.length_append]; omega
theorem ints_one (l : List Int) : ∀ x ∈ l.map (Value.int .i64), x.oneCell' = true := by
 intro x hx
 obtain ⟨y, _, rfl⟩ := List.mem_map.1 hx
 rfl
set_option maxHeartbeats 1000000 in
theorem concati_c (w0 : World) (v : Value) (ll : List (List Int)) (h : IntssAt w0 v ll) (hl : ll.flatten.length ≤ 8796093022208) :
  Ret Try.prog 79 #[v] w0 fun r w => (∃ a c, r = .slice a ll.flatten.length c) ∧ w.ownsRow w0.heap.size TDI 1 r ll.flatten.length (ll.flatten.map (Value.int .i64)) ∧ Ext w0 w := by
 obtain ⟨a, c, rfl, _, hle⟩ := h.form
 obtain ⟨base, hbase⟩ : ∃ base, base = w0.heap.size := ⟨_, rfl⟩
 rw [← hbase]
 refine Ret_of Try.func79 rfl Try.ntmps79 (Nat.le_of_ble_eq_true rfl) ?_
 have E : Chg none1 w0 w0 := Chg.refl _ _
 refine Wp_seq_region ?_
 refine qA (.slice none 0 0) rfl ?_
 refine WpL_nil (Wp_seq_region ?_)
 refine qA (I6 0) rfl ?_
 refine WpL_nil (Wp_seq (Wp_seq_region ?_))
 refine qM (.slice a ll.length c) rfl ?_
 refine qV (r_lenSlice (ad := a) (n := ll.length) (cap := c) Try.underlying55 rfl) ?_
 refine qM (I6 0) rfl ?_
 refine WpL_nil (Wp_block ?_)
 refine Wp_loop (fun nn_ σ W1 => ∃ (k : Nat) (n : Nat), (∃ jj_, σ = upds jj_ [(0, (.slice a ll.length c)), (9, (.slice a ll.length c)), (10, (I6 (ll.length : Int))), (11, (I6 (k : Int))), (3, (I6 (n : Int)))]) ∧ Chg none1 w0 W1 ∧ (k ≤ ll.length) ∧ (n = (ll.take k).flatten.length) ∧ nn_ = ll.length - k) (n := ll.length - 0) ?_ ?_
 ·exact ⟨0, 0, Fits.out ⟨rfl, rfl, rfl, rfl, rfl, trivial⟩, E, Nat.zero_le _, rfl, rfl⟩
 ·clear E
  rintro _ _ W1 ⟨k, n, ⟨j1, rfl⟩, E, hk, hn, rfl⟩
  refine Wp_seq_region ?_
  refine qV (r_lss (k := .i64) (a := (k : Int)) (b := (ll.length : Int)) rfl rfl) ?_
  refine WpL_nil (Wp_seq ?_)
  refine Wp_cond (b := decide (((k : Int) : Int) < (ll.length : Int))) rfl (fun hlt => ?_) (fun hlt => ?_)
  ·have khlt := hlt
   replace hlt := of_decide_eq_true hlt
   obtain ⟨l, hx⟩ := get_of_lt (l := ll) (i := k) (by omega)
   obtain ⟨b, o, rfl, hcl⟩ := intss_cells h (by omega)
   obtain ⟨ra, rc, hcell, hsp⟩ := hcl k l hx
   have hn1 := ilens_le ll (k + 1)
   rw [ilens_take hx, List.length_append] at hn1
   refine Wp_skip (thn_normal (Wp_seq (Wp_block (Wp_seq_region ?_))))
   refine qV (r_indexSlice (b := b) (o := o) (len := ll.length) (cap := c) (i := k) (o' := o + k) rfl rfl rfl Try.underlying55 siz22 (by omega) (by omega)) ?_
   refine qV (r_load (v := (.slice ra l.length rc)) rfl flat22 (E.cell (fun f => f) hcell)) ?_
   refine qA (.slice ra l.length rc) rfl ?_
   refine WpL_nil (Wp_seq_region ?_)
   refine qM (I6 (n : Int)) rfl ?_
   refine qM (.slice ra l.length rc) rfl ?_
   refine qV (r_lenSlice (ad := ra) (n := l.length) (cap := rc) Try.underlying22 rfl) ?_
   refine qV (r_add (k := .i64) (a := (n : Int)) (b := (l.length : Int)) (c := ((n + l.length : Nat) : Int)) rfl rfl ((wI64 (by omega)).trans (by omega))) ?_
   refine qA (I6 ((n + l.length : Nat) : Int)) rfl ?_
   refine WpL_nil (Wp_seq_region ?_)
   refine qM (I6 ((n + l.length : Nat) : Int)) rfl ?_
   refine qV (r_lss (k := .i64) (a := ((n + l.length : Nat) : Int)) (b := 0) rfl rfl) ?_
   refine WpL_nil ?_
   have hc3 : (decide ((((n + l.length : Nat) : Int) : Int) < 0)) = false := decide_eq_false (by omega)
   refine Wp_cond_false (congrArg Value.bool hc3) ?_
   refine Wp_skip (inB_normal (thn_normal (Wp_region ?_)))
   refine qV (r_add (k := .i64) (a := (k : Int)) (b := 1) (c := (k : Int) + 1) rfl rfl (wI64 (by omega))) ?_
   refine qM (I6 ((k : Int) + 1)) rfl ?_
   refine WpL_nil (thn_normal ?_)
   exact ⟨ll.length - (k + 1), by omega, k + 1, n + l.length, Fits.out ⟨rfl, rfl, rfl, rfl, rfl, trivial⟩, E, (by omega), (by rw [ilens_take hx, List.length_append, hn]), rfl⟩
  ·have khlt := hlt
   replace hlt := of_decide_eq_false hlt
   have hkk : k = ll.length := by omega
   have hn2 := ilens_le ll k
   have hs0 := E.size
   refine Wp_exit (thn_exit (thn_exit (inB_here (thn_normal (Wp_seq_region ?_)))))
   refine qM (I6 (n : Int)) rfl ?_
   refine WpL_enter rfl rfl (by decide) (r_callF (vs := [(.slice none 0 0), (I6 (n : Int))]) Try.func114 nm114 bd114 rfl) (growi_c _ n (by omega)) ?_
   rintro _ w9 ⟨⟨ga, gc, rfl⟩, O9, X9⟩
   replace E := E.ext X9
   have hO9 : w9.ownsRow base TDI 1 (.slice ga 0 gc) 0 [] := own_low O9 (by omega)
   refine qA (.slice ga 0 gc) rfl ?_
   refine WpL_nil (Wp_seq (Wp_seq_region ?_))
   refine qM (.slice a ll.length c) rfl ?_
   refine qV (r_lenSlice (ad := a) (n := ll.length) (cap := c) Try.underlying55 rfl) ?_
   refine qM (I6 0) rfl ?_
   refine WpL_nil (Wp_block ?_)
   refine Wp_loop (fun nn_ σ W4 => ∃ (i : Nat) (la : Option Addr) (lc : Nat) (m : Nat), (∃ jj_, σ = upds jj_ [(25, (.slice a ll.length c)), (26, (I6 (ll.length : Int))), (27, (I6 (i : Int))), (6, (.slice la m lc))]) ∧ Chg none1 w0 W4 ∧ (i ≤ ll.length) ∧ (m = (ll.take i).flatten.length) ∧ (W4.ownsRow base TDI 1 (.slice la m lc) m (((ll.take i).flatten).map (Value.int .i64))) ∧ (base ≤ W4.heap.size) ∧ nn_ = ll.length - i) (n := ll.length - 0) ?_ ?_
   ·exact ⟨0, ga, gc, 0, Fits.out ⟨rfl, rfl, rfl, rfl, trivial⟩, E, Nat.zero_le _, rfl, hO9, (by have := E.size; omega), rfl⟩
   ·clear E
    rintro _ _ W4 ⟨i, la, lc, m, ⟨j4, rfl⟩, E, hi, hm, hown, hbs, rfl⟩
    refine Wp_seq_region ?_
    refine qV (r_lss (k := .i64) (a := (i : Int)) (b := (ll.length : Int)) rfl rfl) ?_
    refine WpL_nil (Wp_seq ?_)
    refine Wp_cond (b := decide (((i : Int) : Int) < (ll.length : Int))) rfl (fun hlt2 => ?_) (fun hlt2 => ?_)
    ·have khlt2 := hlt2
     replace hlt2 := of_decide_eq_true hlt2
     obtain ⟨l, hx⟩ := get_of_lt (l := ll) (i := i) (by omega)
     obtain ⟨b, o, rfl, hcl⟩ := intss_cells h (by omega)
     obtain ⟨ra, rc, hcell, hsp⟩ := hcl i l hx
     have hn1 := ilens_le ll (i + 1)
     rw [ilens_take hx, List.length_append] at hn1
     have hmc : m ≤ lc := own_le hown
     rcases Bool.eq_false_or_eq_true (decide (l.length = 0)) with hz | hz
     ·have khz := hz
      replace khz := of_decide_eq_true khz
      refine Wp_skip (thn_normal (Wp_seq (Wp_block (Wp_seq_region ?_))))
      refine qV (r_indexSlice (b := b) (o := o) (len := ll.length) (cap := c) (i := i) (o' := o + i) rfl rfl rfl Try.underlying55 siz22 (by omega) (by omega)) ?_
      refine qV (r_load (v := (.slice ra l.length rc)) rfl flat22 (E.cell (fun f => f) hcell)) ?_
      refine qA (.slice ra l.length rc) rfl ?_
      refine WpL_nil (Wp_region ?_)
      refine qM (.slice la m lc) rfl ?_
      refine qM (.slice ra l.length rc) rfl ?_
      refine qV (r_append0 Try.underlying22 siz3 (a' := ra) (c' := rc) rfl hmc (by show Value.slice ra l.length rc = _; rw [khz])) ?_
      refine qA (.slice la m lc) rfl ?_
      refine WpL_nil (inB_normal (thn_normal (Wp_region ?_)))
      refine qV (r_add (k := .i64) (a := (i : Int)) (b := 1) (c := (i : Int) + 1) rfl rfl (wI64 (by omega))) ?_
      refine qM (I6 ((i : Int) + 1)) rfl ?_
      refine WpL_nil (thn_normal ?_)
      have hl0 : l = [] := List.eq_nil_of_length_eq_zero khz
      exact ⟨ll.length - (i + 1), by omega, i + 1, la, lc, m, Fits.out ⟨rfl, rfl, rfl, rfl, trivial⟩, E, (by omega), (by rw [ilens_take hx, hl0, List.append_nil, hm]), (by rw [ilens_take hx, hl0, List.append_nil]; exact hown), hbs, rfl⟩
     ·have khz := hz
      replace khz := of_decide_eq_false khz
      obtain ⟨rb, ro, rfl, hrc⟩ := ints_cells hsp (by omega)
      have hrc2 : CellsAt w0 rb ro (l.map (Value.int .i64)) := fun j u hu => by rw [List.getElem?_map, Option.map_eq_some_iff] at hu; obtain ⟨y, hy, rfl⟩ := hu; exact hrc j y hy
      refine Wp_skip (thn_normal (Wp_seq (Wp_block (Wp_seq_region ?_))))
      refine qV (r_indexSlice (b := b) (o := o) (len := ll.length) (cap := c) (i := i) (o' := o + i) rfl rfl rfl Try.underlying55 siz22 (by omega) (by omega)) ?_
      refine qV (r_load (v := (.slice (some ⟨rb, ro, none⟩) l.length rc)) rfl flat22 (E.cell (fun f => f) hcell)) ?_
      refine qA (.slice (some ⟨rb, ro, none⟩) l.length rc) rfl ?_
      refine WpL_nil (Wp_region ?_)
      refine qM (.slice la m lc) rfl ?_
      refine qM (.slice (some ⟨rb, ro, none⟩) l.length rc) rfl ?_
      refine s_append (base := base) (n := m) (m := l.length) (xs := (((ll.take i).flatten).map (Value.int .i64))) (news := l.map (Value.int .i64)) (size := 1) (bytes := 8) (v := (.slice la m lc)) (by decide) Try.underlying22 siz3 byt3 zer3 rfl (by decide) rfl hown rfl (by simp) (hrc2.ext E) (ints_one l) (by unfold maxLen; omega) (by omega) (hbs) ?_
      intro v9 w29 Ov9 Cv9 Dv9
      replace E := E.step Cv9 (fun x hx h => absurd (hown.lt x h).1 (by omega))
      obtain ⟨la2, lc2, rfl⟩ := own_form Ov9
      refine qA (.slice la2 (m + l.length) lc2) rfl ?_
      refine WpL_nil (inB_normal (thn_normal (Wp_region ?_)))
      refine qV (r_add (k := .i64) (a := (i : Int)) (b := 1) (c := (i : Int) + 1) rfl rfl (wI64 (by omega))) ?_
      refine qM (I6 ((i : Int) + 1)) rfl ?_
      refine WpL_nil (thn_normal ?_)
      exact ⟨ll.length - (i + 1), by omega, i + 1, la2, lc2, m + l.length, Fits.out ⟨rfl, rfl, rfl, rfl, trivial⟩, E, (by omega), (by rw [ilens_take hx, List.length_append, hm]), (by rw [ilens_take hx, List.map_append]; exact Ov9), Nat.le_trans hbs Cv9.size, rfl⟩
    ·have khlt2 := hlt2
     replace hlt2 := of_decide_eq_false hlt2
     have hii : i = ll.length := by omega
     refine Wp_exit (thn_exit (thn_exit (inB_here (thn_normal (Wp_seq_region ?_)))))
     refine qM (.slice la m lc) rfl ?_
     refine qA (.slice la m lc) rfl ?_
     refine WpL_nil (Wp_ret ?_)
     refine fin_tmp Try.results79 (v := (.slice la m lc)) rfl ?_
     rw [hii, List.take_length] at hown hm
     subst hm
     exact ⟨⟨la, lc, rfl⟩, hown, E⟩
theorem revo_c (w0 : World) (base c : Nat) (a : Option Addr) (l : List Int) (n : Nat) (hn : n = l.length) (h : w0.ownsRow base TDI 1 (.slice a n c) n (l.map (Value.int .i64))) (hl : l.length ≤ 1000000000) :
  Ret Try.prog 13 #[.slice a n c] w0 fun _ w => w.ownsRow base TDI 1 (.slice a n c) n (l.reverse.map (Value.int .i64)) ∧ Chg (fun x => (Value.slice a n c).ownBlock = some x) w0 w := by
 subst hn
 rcases h.2 with ⟨h1, h2⟩ | ⟨g, cap, cur, hv, hb, hg, hnc, hcm, hcs, htake⟩
 ·have hl0 : l = [] := by simpa using h2
  subst hl0
  exact (revi0_c w0 a c).mono fun v w h3 => ⟨own_ext h h3, Ext.chg h3⟩
 ·simp only [Value.slice.injEq] at hv
  obtain ⟨rfl, _, rfl⟩ := hv
  have e9 : (l.map (Value.int .i64) ++ cur.toList.drop (l.length * 1)).toArray = cur := by rw [← htake, List.take_append_drop]
  refine (revi_c w0 g c TDI l (cur.toList.drop (l.length * 1)) (by rw [e9]; exact hg) hl).mono fun v w h3 => ⟨⟨by simp, .inr ⟨g, c, _, rfl, hb, h3.1, hnc, hcm, ?_, ?_⟩⟩, h3.2.mono fun y _ hy => by subst hy; rfl⟩
  ·have := congrArg Array.size e9
   simp at this ⊢; omega
  ·simp [List.take_append_of_le_length]
theorem intss_blk {w : World} {b T n : Nat} {vs : List Value} {ll : List (List Int)} (hB : Blk w b vs.toArray T) (hl : vs.length = ll.length) (hn : vs.length = n) (hm : n ≤ 1000000) (h : ∀ (i : Nat) u l, vs[i]? = some u → ll[i]? = some l → IntsAt w u l) : IntssAt w (.slice (some ⟨b, 0, none⟩) n n) ll := by
 refine ⟨vs, ?_, hl, h⟩
 subst hn
 have := slat_of_blk (w := w) (b := b) (t := T) (k := 1) (cap := vs.length) (rows := vs.map fun x => [x]) (by rw [show (vs.map fun x => [x]).flatten = vs by simp [List.flatten_eq_flatMap, List.flatMap_map]]; exact hB) (by intro r hr; simp only [List.mem_map] at hr; obtain ⟨x, _, rfl⟩ := hr; rfl) (by simp; omega) (by simp)
 simpa using this
end Go.Proofs
namespace Go.Proofs
open Go Go.Eng Go.Sort
set_option maxRecDepth 100000
theorem ncheck1_c (w0 : World) (x st : Int) (b : Nat) (v1 v2 v3 v4 : Value) (hB : Blk w0 b #[.int .i64 st, v1, v2, v3, v4] 26) : Ret Try.prog 92 #[.int .i64 x, .pointer (some ⟨b, 0, none⟩)] w0 fun r w => r = .bool (badS st x) ∧ Ext w0 w := by
 refine Ret_of Try.func92 rfl Try.ntmps92 (Nat.le_of_ble_eq_true rfl) ?_
 have E : Chg none1 w0 w0 := Chg.refl _ _
 refine Wp_seq_region ?_
 refine qA (.bool false) rfl ?_
 refine WpL_nil (Wp_seq_region ?_)
 refine qM (I6 x) rfl ?_
 obtain ⟨e1, he1⟩ : ∃ e, (decide ((x : Int) < 0)) = e := ⟨_, rfl⟩
 refine qV ((r_lss (k := .i64) (a := x) (b := 0) rfl rfl).trans (by rw [he1]; try rfl)) ?_
 refine qM (.bool e1) rfl ?_
 refine qG (.bool e1) (nU e1 (I6 x)) (by cases e1 <;> first | exact gA | exact gB | exact .inl ⟨rfl, r_move (v := (I6 x)) rfl⟩) ?_
 refine qG (.bool e1) (nU e1 (P6 b 0)) (by cases e1 <;> first | exact gA | exact gB | exact .inl ⟨rfl, r_fieldAddr (b := b) (o := 0) (o' := 0) rfl Try.underlying26 rfl siz3 rfl⟩) ?_
 refine qG (.bool e1) (nU e1 (I6 st)) (by cases e1 <;> first | exact gA | exact gB | exact .inl ⟨rfl, r_load (v := (I6 st)) rfl flat3 (hB.cell rfl)⟩) ?_
 obtain ⟨e2, he2⟩ : ∃ e, (decide ((st : Int) ≤ x)) = e := ⟨_, rfl⟩
 refine qG (.bool e1) (nU e1 (.bool e2)) (by cases e1 <;> first | exact gA | exact gB | exact .inl ⟨rfl, (r_geq (k := .i64) (a := x) (b := st) rfl rfl).trans (by rw [he2]; try rfl)⟩) ?_
 obtain ⟨e3, he3⟩ : ∃ e, (e1 || e2) = e := ⟨_, rfl⟩
 refine qV (r_pick (b := e1) (v := .bool e3) rfl (by rw [← he3]; cases e1 <;> rfl)) ?_
 refine qA (.bool e3) rfl ?_
 refine WpL_nil ?_
 subst he3
 subst he2
 subst he1
 refine Wp_ret ?_
 refine fin_tmp Try.results92 (v := (.bool ((decide ((x : Int) < 0)) || (decide ((st : Int) ≤ x))))) rfl ?_
 exact ⟨bool_eq rfl, E⟩
theorem two_lists {w : World} {a b : Value} {la lb : List Int} (h1 : IntsAt w a la) (h2 : IntsAt w b lb) : ∀ (i : Nat) u l, [a, b][i]? = some u → [la, lb][i]? = some l → IntsAt w u l := by
  intro i u l hu hl
  match i, hu, hl with
  | 0, hu, hl => simp at hu hl; subst hu; subst hl; exact h1
  | 1, hu, hl => simp at hu hl; subst hu; subst hl; exact h2
  | i + 2, hu, hl => simp at hu
theorem concat2_c (w0 : World) (base : Nat) (v : Value) (ll : List (List Int)) (L : List Int) (h : IntssAt w0 v ll) (e : ll.flatten = L) (hl : L.length ≤ 8796093022208) (hb : base = (w0 : World).heap.size ∨ base ≤ w0.heap.size) :
  Ret Try.prog 79 #[v] w0 fun r w => (∃ a c, r = .slice a L.length c) ∧ w.ownsRow base TDI 1 r L.length (L.map (Value.int .i64)) ∧ Ext w0 w := by
 subst e
 exact (concati_c w0 v ll h hl).mono fun r w h9 => ⟨h9.1, own_low h9.2.1 (by omega), h9.2.2⟩
set_option maxHeartbeats 2000000 in
theorem ncheck_c (w0 : World) (n : Nf) (vs : List Value) (h : NfAt w0 n vs) : Ret Try.prog 39 #[.agg vs.toArray] w0 fun r w => r = .int .i64 (chkN n) ∧ Ext w0 w := by
 obtain ⟨ea, ec, pa, pc, xa, xc, rfl, hen, hep, hed⟩ := h
 refine Ret_of Try.func39 rfl Try.ntmps39 (Nat.le_of_ble_eq_true rfl) ?_
 have E : Chg none1 w0 w0 := Chg.refl _ _
 refine Wp_seq_region ?_
 refine s_box (v := (.agg #[(I6 n.states), (I6 n.start), (.slice ea n.ends.length ec), (.slice pa n.eps.length pc), (.slice xa n.edges.length xc)])) (c := #[(I6 n.states), (I6 n.start), (.slice ea n.ends.length ec), (.slice pa n.eps.length pc), (.slice xa n.edges.length xc)]) (by decide) rfl rfl ?_
 intro bn wn Nn
 have Fn := Nn.ge E
 replace E := E.ext Nn.ext
 have Bn := Nn.blk
 refine qA (I6 0) rfl ?_
 refine WpL_nil (Wp_seq (Wp_seq_region ?_))
 refine qF bn 0 0 rfl Try.underlying26 rfl siz3 rfl ?_
 refine qV (r_load (v := (I6 n.states)) rfl flat3 (Bn.cell rfl)) ?_
 obtain ⟨e1, he1⟩ : ∃ e, (decide ((500 : Int) < n.states)) = e := ⟨_, rfl⟩
 refine qV ((r_gtr (k := .i64) (a := n.states) (b := 500) rfl rfl).trans (by rw [he1]; try rfl)) ?_
 refine qM (.bool e1) rfl ?_
 refine qG (.bool e1) (nU e1 (P6 bn 2)) (by cases e1 <;> first | exact gA | exact gB | exact .inl ⟨rfl, r_fieldAddr (b := bn) (o := 0) (o' := 2) rfl Try.underlying26 rfl siz22 rfl⟩) ?_
 refine qG (.bool e1) (nU e1 (.slice ea n.ends.length ec)) (by cases e1 <;> first | exact gA | exact gB | exact .inl ⟨rfl, r_load (v := (.slice ea n.ends.length ec)) rfl flat22 (Bn.cell rfl)⟩) ?_
 refine qG (.bool e1) (nU e1 (I6 (n.ends.length : Int))) (by cases e1 <;> first | exact gA | exact gB | exact .inl ⟨rfl, r_lenSlice (ad := ea) (n := n.ends.length) (cap := ec) Try.underlying22 rfl⟩) ?_
 obtain ⟨e2, he2⟩ : ∃ e, (decide ((500 : Int) < ((n.ends.length : Nat) : Int))) = e := ⟨_, rfl⟩
 refine qG (.bool e1) (nU e1 (.bool e2)) (by cases e1 <;> first | exact gA | exact gB | exact .inl ⟨rfl, (r_gtr (k := .i64) (a := (n.ends.length : Int)) (b := 500) rfl rfl).trans (by rw [he2]; try rfl)⟩) ?_
 obtain ⟨e3, he3⟩ : ∃ e, (e1 || e2) = e := ⟨_, rfl⟩
 refine qV (r_pick (b := e1) (v := .bool e3) rfl (by rw [← he3]; cases e1 <;> rfl)) ?_
 refine qM (.bool e3) rfl ?_
 refine qG (.bool e3) (nU e3 (P6 bn 3)) (by cases e3 <;> first | exact gA | exact gB | exact .inl ⟨rfl, r_fieldAddr (b := bn) (o := 0) (o' := 3) rfl Try.underlying26 rfl siz23 rfl⟩) ?_
 refine qG (.bool e3) (nU e3 (.slice pa n.eps.length pc)) (by cases e3 <;> first | exact gA | exact gB | exact .inl ⟨rfl, r_load (v := (.slice pa n.eps.length pc)) rfl flat23 (Bn.cell rfl)⟩) ?_
 refine qG (.bool e3) (nU e3 (I6 (n.eps.length : Int))) (by cases e3 <;> first | exact gA | exact gB | exact .inl ⟨rfl, r_lenSlice (ad := pa) (n := n.eps.length) (cap := pc) Try.underlying23 rfl⟩) ?_
 obtain ⟨e4, he4⟩ : ∃ e, (decide ((20000 : Int) < ((n.eps.length : Nat) : Int))) = e := ⟨_, rfl⟩
 refine qG (.bool e3) (nU e3 (.bool e4)) (by cases e3 <;> first | exact gA | exact gB | exact .inl ⟨rfl, (r_gtr (k := .i64) (a := (n.eps.length : Int)) (b := 20000) rfl rfl).trans (by rw [he4]; try rfl)⟩) ?_
 obtain ⟨e5, he5⟩ : ∃ e, (e3 || e4) = e := ⟨_, rfl⟩
 refine qV (r_pick (b := e3) (v := .bool e5) rfl (by rw [← he5]; cases e3 <;> rfl)) ?_
 refine qM (.bool e5) rfl ?_
 refine qG (.bool e5) (nU e5 (P6 bn 4)) (by cases e5 <;> first | exact gA | exact gB | exact .inl ⟨rfl, r_fieldAddr (b := bn) (o := 0) (o' := 4) rfl Try.underlying26 rfl siz24 rfl⟩) ?_
 refine qG (.bool e5) (nU e5 (.slice xa n.edges.length xc)) (by cases e5 <;> first | exact gA | exact gB | exact .inl ⟨rfl, r_load (v := (.slice xa n.edges.length xc)) rfl flat24 (Bn.cell rfl)⟩) ?_
 refine qG (.bool e5) (nU e5 (I6 (n.edges.length : Int))) (by cases e5 <;> first | exact gA | exact gB | exact .inl ⟨rfl, r_lenSlice (ad := xa) (n := n.edges.length) (cap := xc) Try.underlying24 rfl⟩) ?_
 obtain ⟨e6, he6⟩ : ∃ e, (decide ((20000 : Int) < ((n.edges.length : Nat) : Int))) = e := ⟨_, rfl⟩
 refine qG (.bool e5) (nU e5 (.bool e6)) (by cases e5 <;> first | exact gA | exact gB | exact .inl ⟨rfl, (r_gtr (k := .i64) (a := (n.edges.length : Int)) (b := 20000) rfl rfl).trans (by rw [he6]; try rfl)⟩) ?_
 obtain ⟨e7, he7⟩ : ∃ e, (e5 || e6) = e := ⟨_, rfl⟩
 refine qV (r_pick (b := e5) (v := .bool e7) rfl (by rw [← he7]; cases e5 <;> rfl)) ?_
 refine WpL_nil ?_
 subst he7
 subst he6
 subst he5
 subst he4
 subst he3
 subst he2
 subst he1
 refine Wp_cond (b := ((((decide ((500 : Int) < n.states)) || (decide ((500 : Int) < (n.ends.length : Int)))) || (decide ((20000 : Int) < (n.eps.length : Int)))) || (decide ((20000 : Int) < (n.edges.length : Int))))) rfl (fun h0 => ?_) (fun h0 => ?_)
 ·have kh0 := h0
  refine Wp_seq_region ?_
  refine qA (I6 2) rfl ?_
  refine WpL_nil (Wp_ret (thn_ret ?_))
  refine fin_tmp Try.results39 (v := (.int .i64 2)) rfl ?_
  exact ⟨by unfold chkN; rw [if_pos (by simp only [Bool.or_eq_true, decide_eq_true_eq] at h0; omega)], E⟩
 ·have kh0 := h0
  have h0 : ¬ (500 < n.states ∨ 500 < n.ends.length ∨ 20000 < n.eps.length ∨ 20000 < n.edges.length) := by simp only [Bool.or_eq_false_iff, decide_eq_false_iff_not] at h0; omega
  obtain ⟨L0, hL0⟩ : ∃ L0, L0 = n.start :: n.ends := ⟨_, rfl⟩
  have hL0l : L0.length = n.ends.length + 1 := by rw [hL0]; rfl
  refine Wp_skip (thn_normal (Wp_seq_region ?_))
  refine qF bn 0 1 rfl Try.underlying26 rfl siz3 rfl ?_
  refine qV (r_load (v := (I6 n.start)) rfl flat3 (Bn.cell rfl)) ?_
  refine s_buildSlice (ps := [(0, (I6 n.start))]) (c := #[(I6 n.start)]) (by decide) rfl Try.underlying22 siz3 zer3 (by decide) (by decide) (by kernel_rfl) ?_
  intro bs ws Ns
  have Fs := Ns.ge E
  have Os_bn := Ns.lt Bn
  replace Bn := Ns.keep Bn
  replace E := E.ext Ns.ext
  have Bs := Ns.blk
  refine qF bn 0 2 rfl Try.underlying26 rfl siz22 rfl ?_
  refine qV (r_load (v := (.slice ea n.ends.length ec)) rfl flat22 (Bn.cell rfl)) ?_
  refine s_buildSlice (ps := [(0, (.slice (some ⟨bs, 0, none⟩) 1 1)), (1, (.slice ea n.ends.length ec))]) (c := #[(.slice (some ⟨bs, 0, none⟩) 1 1), (.slice ea n.ends.length ec)]) (by decide) rfl Try.underlying55 siz22 zer22 (by decide) (by decide) (by kernel_rfl) ?_
  intro bq wq Nq
  have Fq := Nq.ge E
  have Oq_bn := Nq.lt Bn
  have Oq_bs := Nq.lt Bs
  replace Bn := Nq.keep Bn
  replace Bs := Nq.keep Bs
  replace E := E.ext Nq.ext
  have Bq := Nq.blk
  obtain ⟨base, hbase⟩ : ∃ base, base = (wq).heap.size := ⟨_, rfl⟩
  have hb0 : w0.heap.size ≤ base ∧ bn < base := ⟨by rw [hbase]; exact E.size, by rw [hbase]; exact Bn.lt⟩
  refine WpL_enter rfl rfl (by decide) (r_callF (vs := [(.slice (some ⟨bq, 0, none⟩) 2 2)]) Try.func79 nm79 bd79 rfl) (concat2_c _ base _ [[n.start], n.ends] L0 (intss_blk Bq rfl rfl (by omega) (two_lists (ints_of_blk [n.start] Bs (by simp) (by simp)) (hen.ext E))) (by rw [hL0]; simp) (by omega) (.inr (by have := E.size; omega))) ?_
  rintro _ w9 ⟨⟨ja, jc, rfl⟩, hO, X9⟩
  replace Bn := X9.keep Bn
  replace Bs := X9.keep Bs
  replace Bq := X9.keep Bq
  replace E := E.ext X9
  have hs9 : base ≤ w9.heap.size := by rw [hbase]; exact X9.size
  refine qA (.slice ja L0.length jc) rfl ?_
  refine WpL_nil (Wp_seq (Wp_seq_region ?_))
  refine qF bn 0 3 rfl Try.underlying26 rfl siz23 rfl ?_
  refine qV (r_load (v := (.slice pa n.eps.length pc)) rfl flat23 (Bn.cell rfl)) ?_
  refine qV (r_lenSlice (ad := pa) (n := n.eps.length) (cap := pc) Try.underlying23 rfl) ?_
  refine qM (I6 0) rfl ?_
  refine WpL_nil (Wp_block ?_)
  refine Wp_loop (fun nn_ σ W9 => ∃ (k : Nat) (la : Option Addr) (lc : Nat) (m : Nat), (∃ jj_, σ = upds jj_ [(1, (P6 bn 0)), (40, (.slice pa n.eps.length pc)), (41, (I6 (n.eps.length : Int))), (42, (I6 (k : Int))), (3, (.slice la m lc))]) ∧ Chg none1 w0 W9 ∧ Blk W9 bn #[(I6 n.states), (I6 n.start), (.slice ea n.ends.length ec), (.slice pa n.eps.length pc), (.slice xa n.edges.length xc)] 26 ∧ (k ≤ n.eps.length) ∧ (m = L0.length + 2 * k) ∧ (W9.ownsRow base TDI 1 (.slice la m lc) m ((L0 ++ ((n.eps.take k).map epS).flatten).map (Value.int .i64))) ∧ (base ≤ W9.heap.size) ∧ nn_ = n.eps.length - k) (n := n.eps.length - 0) ?_ ?_
  ·exact ⟨0, ja, jc, L0.length, Fits.out ⟨rfl, rfl, rfl, rfl, rfl, trivial⟩, E, Bn, Nat.zero_le _, rfl, (by simpa using hO), hs9, rfl⟩
  ·clear E Bn
   rintro _ _ W9 ⟨k, la, lc, m, ⟨j9, rfl⟩, E, Bn, hk, hm, hown, hbs, rfl⟩
   refine Wp_seq_region ?_
   refine qV (r_lss (k := .i64) (a := (k : Int)) (b := (n.eps.length : Int)) rfl rfl) ?_
   refine WpL_nil (Wp_seq ?_)
   refine Wp_cond (b := decide (((k : Int) : Int) < (n.eps.length : Int))) rfl (fun hlt => ?_) (fun hlt => ?_)
   ·have khlt := hlt
    replace hlt := of_decide_eq_true hlt
    obtain ⟨p, hp⟩ := get_of_lt (l := n.eps) (i := k) (by omega)
    obtain ⟨pb, po, rfl, hpc⟩ := spans_cells hep (by omega)
    refine Wp_skip (thn_normal (Wp_seq (Wp_block (Wp_seq_region ?_))))
    refine qV (r_indexSlice (b := pb) (o := po) (len := n.eps.length) (cap := pc) (i := k) (o' := po + k * 2) rfl rfl rfl Try.underlying23 siz41 (by omega) (by omega)) ?_
    refine qV (r_loadAgg (vs := [(I6 p.1), (I6 p.2)]) rfl agg41 siz41 rfl ((hpc k p hp).ext E)) ?_
    refine s_allocStore (v := (.agg #[(I6 p.1), (I6 p.2)])) (c := #[(I6 p.1), (I6 p.2)]) (n := 2) (by decide) zer41 rfl siz41 rfl rfl rfl (by simp [Value.oneCell']) ?_
    intro bx wx Nx
    have Fx := Nx.ge E
    have Ox_bn := Nx.lt Bn
    replace Bn := Nx.keep Bn
    replace hown := own_ext hown Nx.ext
    replace hbs := Nat.le_trans hbs Nx.ext.size
    replace E := E.ext Nx.ext
    have Bx := Nx.blk
    refine WpL_nil (Wp_region ?_)
    refine qM (.slice la m lc) rfl ?_
    refine qV (r_indexArr (b := bx) (o := 0) (i := 0) (o' := 0) rfl rfl rfl Try.underlying41 siz3 (by omega) (by omega)) ?_
    refine qV (r_load (v := (I6 p.1)) rfl flat3 (Bx.cell rfl)) ?_
    refine qV (r_indexArr (b := bx) (o := 0) (i := 1) (o' := 1) rfl rfl rfl Try.underlying41 siz3 (by omega) (by omega)) ?_
    refine qV (r_load (v := (I6 p.2)) rfl flat3 (Bx.cell rfl)) ?_
    refine s_buildSlice (ps := [(0, (I6 p.1)), (1, (I6 p.2))]) (c := #[(I6 p.1), (I6 p.2)]) (by decide) rfl Try.underlying22 siz3 zer3 (by decide) (by decide) (by kernel_rfl) ?_
    intro by2 wy2 Ny2
    have Fy2 := Ny2.ge E
    have Oy2_bn := Ny2.lt Bn
    have Oy2_bx := Ny2.lt Bx
    replace Bn := Ny2.keep Bn
    replace Bx := Ny2.keep Bx
    replace hown := own_ext hown Ny2.ext
    replace hbs := Nat.le_trans hbs Ny2.ext.size
    replace E := E.ext Ny2.ext
    have By2 := Ny2.blk
    refine s_append (base := base) (n := m) (m := 2) (xs := ((L0 ++ ((n.eps.take k).map epS).flatten).map (Value.int .i64))) (news := [(I6 p.1), (I6 p.2)]) (size := 1) (bytes := 8) (v := (.slice la m lc)) (by decide) Try.underlying22 siz3 byt3 zer3 rfl (by decide) rfl hown rfl (rfl) (By2.cells rfl) (by simp [Value.oneCell']) (by unfold maxLen; omega) (by omega) (hbs) ?_
    intro v7 w59 Ov7 Cv7 Dv7
    replace Bn := Cv7.keep (fun h => by have := (hown.lt _ h).1; omega) Bn
    replace E := E.step Cv7 (fun x hx h => absurd (hown.lt x h).1 (by omega))
    obtain ⟨la2, lc2, rfl⟩ := own_form Ov7
    refine qA (.slice la2 (m + 2) lc2) rfl ?_
    refine WpL_nil (inB_normal (thn_normal (Wp_region ?_)))
    refine qV (r_add (k := .i64) (a := (k : Int)) (b := 1) (c := (k : Int) + 1) rfl rfl (wI64 (by omega))) ?_
    refine qM (I6 ((k : Int) + 1)) rfl ?_
    refine WpL_nil (thn_normal ?_)
    exact ⟨n.eps.length - (k + 1), by omega, k + 1, la2, lc2, m + 2, Fits.out ⟨rfl, rfl, rfl, rfl, rfl, trivial⟩, E, Bn, (by omega), (by omega), (by rw [flat_take epS hp]; simpa [epS] using Ov7), Nat.le_trans hbs Cv7.size, rfl⟩
   ·have khlt := hlt
    replace hlt := of_decide_eq_false hlt
    have hkk : k = n.eps.length := by omega
    obtain ⟨L1, hL1⟩ : ∃ L1, L1 = L0 ++ (n.eps.map epS).flatten := ⟨_, rfl⟩
    have hL1l : L1.length = m := by rw [hL1, List.length_append, flat2_len _ epS (fun _ => rfl)]; omega
    rw [hkk, List.take_length, ← hL1] at hown
    refine Wp_exit (thn_exit (thn_exit (inB_here (thn_normal (Wp_seq (Wp_seq_region ?_))))))
    refine qF bn 0 4 rfl Try.underlying26 rfl siz24 rfl ?_
    refine qV (r_load (v := (.slice xa n.edges.length xc)) rfl flat24 (Bn.cell rfl)) ?_
    refine qV (r_lenSlice (ad := xa) (n := n.edges.length) (cap := xc) Try.underlying24 rfl) ?_
    refine qM (I6 0) rfl ?_
    refine WpL_nil (Wp_block ?_)
    refine Wp_loop (fun nn_ σ W11 => ∃ (k2 : Nat) (la2 : Option Addr) (lc2 : Nat) (m2 : Nat), (∃ jj_, σ = upds jj_ [(1, (P6 bn 0)), (55, (.slice xa n.edges.length xc)), (56, (I6 (n.edges.length : Int))), (57, (I6 (k2 : Int))), (3, (.slice la2 m2 lc2))]) ∧ Chg none1 w0 W11 ∧ Blk W11 bn #[(I6 n.states), (I6 n.start), (.slice ea n.ends.length ec), (.slice pa n.eps.length pc), (.slice xa n.edges.length xc)] 26 ∧ (k2 ≤ n.edges.length) ∧ (m2 = L1.length + 2 * k2) ∧ (W11.ownsRow base TDI 1 (.slice la2 m2 lc2) m2 ((L1 ++ ((n.edges.take k2).map edS).flatten).map (Value.int .i64))) ∧ (base ≤ W11.heap.size) ∧ nn_ = n.edges.length - k2) (n := n.edges.length - 0) ?_ ?_
    ·exact ⟨0, la, lc, m, Fits.out ⟨rfl, rfl, rfl, rfl, rfl, trivial⟩, E, Bn, Nat.zero_le _, (by omega), (by simpa using hown), hbs, rfl⟩
    ·clear E Bn
     rintro _ _ W11 ⟨k2, la2, lc2, m2, ⟨j11, rfl⟩, E, Bn, hk2, hm2, hown2, hbs2, rfl⟩
     refine Wp_seq_region ?_
     refine qV (r_lss (k := .i64) (a := (k2 : Int)) (b := (n.edges.length : Int)) rfl rfl) ?_
     refine WpL_nil (Wp_seq ?_)
     refine Wp_cond (b := decide (((k2 : Int) : Int) < (n.edges.length : Int))) rfl (fun hlt2 => ?_) (fun hlt2 => ?_)
     ·have khlt2 := hlt2
      replace hlt2 := of_decide_eq_true hlt2
      obtain ⟨e, he⟩ := get_of_lt (l := n.edges) (i := k2) (by omega)
      obtain ⟨xb, xo, rfl, hxc⟩ := edges_cells hed (by omega)
      obtain ⟨ra, rc, hcell, hsp⟩ := hxc k2 e he
      refine Wp_skip (thn_normal (Wp_seq (Wp_block (Wp_seq_region ?_))))
      refine qV (r_indexSlice (b := xb) (o := xo) (len := n.edges.length) (cap := xc) (i := k2) (o' := xo + k2 * 3) rfl rfl rfl Try.underlying24 siz40 (by omega) (by omega)) ?_
      refine qV (r_loadAgg (vs := [(I6 e.1), (I6 e.2.1), (.slice ra e.2.2.length rc)]) rfl agg40 siz40 rfl (hcell.ext E)) ?_
      refine s_allocStore (v := (.agg #[(I6 e.1), (I6 e.2.1), (.slice ra e.2.2.length rc)])) (c := #[(I6 e.1), (I6 e.2.1), (.slice ra e.2.2.length rc)]) (n := 3) (by decide) zer40 rfl siz40 rfl rfl rfl (by simp [Value.oneCell']) ?_
      intro bx wx Nx
      have Fx := Nx.ge E
      have Ox_bn := Nx.lt Bn
      replace Bn := Nx.keep Bn
      replace hown2 := own_ext hown2 Nx.ext
      replace hbs2 := Nat.le_trans hbs2 Nx.ext.size
      replace E := E.ext Nx.ext
      have Bx := Nx.blk
      refine WpL_nil (Wp_region ?_)
      refine qM (.slice la2 m2 lc2) rfl ?_
      refine qF bx 0 0 rfl Try.underlying40 rfl siz3 rfl ?_
      refine qV (r_load (v := (I6 e.1)) rfl flat3 (Bx.cell rfl)) ?_
      refine qF bx 0 1 rfl Try.underlying40 rfl siz3 rfl ?_
      refine qV (r_load (v := (I6 e.2.1)) rfl flat3 (Bx.cell rfl)) ?_
      refine s_buildSlice (ps := [(0, (I6 e.1)), (1, (I6 e.2.1))]) (c := #[(I6 e.1), (I6 e.2.1)]) (by decide) rfl Try.underlying22 siz3 zer3 (by decide) (by decide) (by kernel_rfl) ?_
      intro by2 wy2 Ny2
      have Fy2 := Ny2.ge E
      have Oy2_bn := Ny2.lt Bn
      have Oy2_bx := Ny2.lt Bx
      replace Bn := Ny2.keep Bn
      replace Bx := Ny2.keep Bx
      replace hown2 := own_ext hown2 Ny2.ext
      replace hbs2 := Nat.le_trans hbs2 Ny2.ext.size
      replace E := E.ext Ny2.ext
      have By2 := Ny2.blk
      refine s_append (base := base) (n := m2) (m := 2) (xs := ((L1 ++ ((n.edges.take k2).map edS).flatten).map (Value.int .i64))) (news := [(I6 e.1), (I6 e.2.1)]) (size := 1) (bytes := 8) (v := (.slice la2 m2 lc2)) (by decide) Try.underlying22 siz3 byt3 zer3 rfl (by decide) rfl hown2 rfl (rfl) (By2.cells rfl) (by simp [Value.oneCell']) (by unfold maxLen; omega) (by omega) (hbs2) ?_
      intro v7 w59 Ov7 Cv7 Dv7
      replace Bn := Cv7.keep (fun h => by have := (hown2.lt _ h).1; omega) Bn
      replace E := E.step Cv7 (fun x hx h => absurd (hown2.lt x h).1 (by omega))
      obtain ⟨la3, lc3, rfl⟩ := own_form Ov7
      refine qA (.slice la3 (m2 + 2) lc3) rfl ?_
      refine WpL_nil (inB_normal (thn_normal (Wp_region ?_)))
      refine qV (r_add (k := .i64) (a := (k2 : Int)) (b := 1) (c := (k2 : Int) + 1) rfl rfl (wI64 (by omega))) ?_
      refine qM (I6 ((k2 : Int) + 1)) rfl ?_
      refine WpL_nil (thn_normal ?_)
      exact ⟨n.edges.length - (k2 + 1), by omega, k2 + 1, la3, lc3, m2 + 2, Fits.out ⟨rfl, rfl, rfl, rfl, rfl, trivial⟩, E, Bn, (by omega), (by omega), (by rw [flat_take edS he]; simpa [edS] using Ov7), Nat.le_trans hbs2 Cv7.size, rfl⟩
     ·have khlt2 := hlt2
      replace hlt2 := of_decide_eq_false hlt2
      have hkk2 : k2 = n.edges.length := by omega
      rw [hkk2, List.take_length, hL1, hL0] at hown2
      have hst : IntsAt _ (.slice la2 m2 lc2) (stsN n) := own_intsD hown2 (by unfold stsN; rw [hm2, hL1, hL0, hkk2, List.length_append (bs := (n.edges.map edS).flatten), flat2_len _ edS (fun _ => rfl)])
      refine Wp_exit (thn_exit (thn_exit (inB_here (thn_normal (Wp_seq (Wp_seq_region ?_))))))
      refine qM (.slice la2 m2 lc2) rfl ?_
      refine qV (r_makeFunc (vs := []) (us := [(P6 bn 0)]) rfl rfl) ?_
      refine WpL_enter rfl rfl (by decide) (r_callF (vs := [(.slice la2 m2 lc2), (.func (.func 92) #[] #[(P6 bn 0)])]) Try.func45 nm45 bd45 rfl) (ints_has_c _ _ _ (stsN n) (badS n.states) hst (fun w x hE _ => CallV.mk (first := #[]) (cap := #[.pointer (some ⟨bn, 0, none⟩)]) Try.func92 nm92 bd92 rfl (ncheck1_c w x n.states bn _ _ _ _ (hE.keep Bn)))) ?_
      rintro _ w19 ⟨rfl, X19⟩
      replace Bn := X19.keep Bn
      replace E := E.ext X19
      refine WpL_nil ?_
      refine Wp_cond (b := (stsN n).any (badS n.states)) rfl (fun h1 => ?_) (fun h1 => ?_)
      ·have kh1 := h1
       refine Wp_seq_region ?_
       refine qA (I6 1) rfl ?_
       refine WpL_nil (Wp_ret (thn_ret ?_))
       refine fin_tmp Try.results39 (v := (.int .i64 1)) rfl ?_
       exact ⟨by unfold chkN; rw [if_neg h0, if_pos h1], E⟩
      ·have kh1 := h1
       refine Wp_skip (thn_normal (Wp_seq (Wp_seq_region ?_)))
       refine qF bn 0 4 rfl Try.underlying26 rfl siz24 rfl ?_
       refine qV (r_load (v := (.slice xa n.edges.length xc)) rfl flat24 (Bn.cell rfl)) ?_
       refine qV (r_lenSlice (ad := xa) (n := n.edges.length) (cap := xc) Try.underlying24 rfl) ?_
       refine qM (I6 0) rfl ?_
       refine WpL_nil (Wp_block ?_)
       refine Wp_loop (fun nn_ σ W14 => ∃ (k3 : Nat), (∃ jj_, σ = upds jj_ [(73, (.slice xa n.edges.length xc)), (74, (I6 (n.edges.length : Int))), (75, (I6 (k3 : Int)))]) ∧ Chg none1 w0 W14 ∧ Blk W14 bn #[(I6 n.states), (I6 n.start), (.slice ea n.ends.length ec), (.slice pa n.eps.length pc), (.slice xa n.edges.length xc)] 26 ∧ (k3 ≤ n.edges.length) ∧ (setsE n.edges = setsE (n.edges.drop k3)) ∧ nn_ = n.edges.length - k3) (n := n.edges.length - 0) ?_ ?_
       ·exact ⟨0, Fits.out ⟨rfl, rfl, rfl, trivial⟩, E, Bn, Nat.zero_le _, (by rw [List.drop_zero]), rfl⟩
       ·clear E Bn
        rintro _ _ W14 ⟨k3, ⟨j14, rfl⟩, E, Bn, hk3, hz, rfl⟩
        refine Wp_seq_region ?_
        refine qV (r_lss (k := .i64) (a := (k3 : Int)) (b := (n.edges.length : Int)) rfl rfl) ?_
        refine WpL_nil (Wp_seq ?_)
        refine Wp_cond (b := decide (((k3 : Int) : Int) < (n.edges.length : Int))) rfl (fun hlt3 => ?_) (fun hlt3 => ?_)
        ·have khlt3 := hlt3
         replace hlt3 := of_decide_eq_true hlt3
         obtain ⟨e, he⟩ := get_of_lt (l := n.edges) (i := k3) (by omega)
         obtain ⟨xb, xo, rfl, hxc⟩ := edges_cells hed (by omega)
         obtain ⟨ra, rc, hcell, hsp⟩ := hxc k3 e he
         have hz2 := setsE_step hz he
         refine Wp_skip (thn_normal (Wp_seq (Wp_block (Wp_seq_region ?_))))
         refine qV (r_indexSlice (b := xb) (o := xo) (len := n.edges.length) (cap := xc) (i := k3) (o' := xo + k3 * 3) rfl rfl rfl Try.underlying24 siz40 (by omega) (by omega)) ?_
         refine qV (r_loadAgg (vs := [(I6 e.1), (I6 e.2.1), (.slice ra e.2.2.length rc)]) rfl agg40 siz40 rfl (hcell.ext E)) ?_
         refine s_allocStore (v := (.agg #[(I6 e.1), (I6 e.2.1), (.slice ra e.2.2.length rc)])) (c := #[(I6 e.1), (I6 e.2.1), (.slice ra e.2.2.length rc)]) (n := 3) (by decide) zer40 rfl siz40 rfl rfl rfl (by simp [Value.oneCell']) ?_
         intro bx wx Nx
         have Fx := Nx.ge E
         have Ox_bn := Nx.lt Bn
         replace Bn := Nx.keep Bn
         replace E := E.ext Nx.ext
         have Bx := Nx.blk
         refine WpL_nil (Wp_seq_region ?_)
         refine qF bx 0 2 rfl Try.underlying40 rfl siz30 rfl ?_
         refine qV (r_load (v := (.slice ra e.2.2.length rc)) rfl flat30 (Bx.cell rfl)) ?_
         refine WpL_enter rfl rfl (by decide) (r_callF (vs := [(.slice ra e.2.2.length rc)]) Try.func93 nm93 bd93 rfl) (rcheck_c _ _ e.2.2 (hsp.ext E)) ?_
         rintro _ w29 ⟨rfl, X29⟩
         replace Bn := X29.keep Bn
         replace Bx := X29.keep Bx
         replace E := E.ext X29
         refine qA (I6 (checkE e.2.2)) rfl ?_
         refine WpL_nil (Wp_seq_region ?_)
         refine qM (I6 (checkE e.2.2)) rfl ?_
         refine qV (r_neq (k := .i64) (a := checkE e.2.2) (b := 0) rfl rfl) ?_
         refine WpL_nil ?_
         refine Wp_cond (b := decide ((checkE e.2.2 : Int) ≠ 0)) rfl (fun h2 => ?_) (fun h2 => ?_)
         ·have kh2 := h2
          replace h2 := of_decide_eq_true h2
          refine Wp_seq_region ?_
          refine qM (I6 (checkE e.2.2)) rfl ?_
          refine qA (I6 (checkE e.2.2)) rfl ?_
          refine WpL_nil (Wp_ret (inB_ret (thn_ret (thn_ret (inB_ret (thn_ret ?_))))))
          refine fin_tmp Try.results39 (v := (.int .i64 (checkE e.2.2))) rfl ?_
          exact ⟨by unfold chkN; rw [if_neg h0, h1, hz2.2 h2]; rfl, E⟩
         ·have kh2 := h2
          replace h2 := of_decide_eq_false h2
          refine Wp_skip (inB_normal (thn_normal (Wp_region ?_)))
          refine qV (r_add (k := .i64) (a := (k3 : Int)) (b := 1) (c := (k3 : Int) + 1) rfl rfl (wI64 (by omega))) ?_
          refine qM (I6 ((k3 : Int) + 1)) rfl ?_
          refine WpL_nil (thn_normal ?_)
          exact ⟨n.edges.length - (k3 + 1), by omega, k3 + 1, Fits.out ⟨rfl, rfl, rfl, trivial⟩, E, Bn, (by omega), hz2.1 (by omega), rfl⟩
        ·have khlt3 := hlt3
         replace hlt3 := of_decide_eq_false hlt3
         have hkk3 : k3 = n.edges.length := by omega
         refine Wp_exit (thn_exit (thn_exit (inB_here (thn_normal (Wp_seq_region ?_)))))
         refine qA (I6 0) rfl ?_
         refine WpL_nil (Wp_ret ?_)
         refine fin_tmp Try.results39 (v := (.int .i64 0)) rfl ?_
         exact ⟨by unfold chkN; rw [if_neg h0, h1, hz, hkk3, List.drop_length]; rfl, E⟩
end Go.Proofs
