/- The engine of the walks: memory relations and one rule an operation. Generic: no program is named. -/
import Derived.Test.YtncmfkibflogkaaEng
import Derived.Laws.Entries
import Derived.Laws.Build
import Derived.Below
import Derived.RowKit3
import Derived.StillTail
import Derived.Sort.Grow
import Derived.Deep.Draws
namespace Go.Eng
open Go

/-! Worlds. -/
/-- From w to w' only blocks in M may have changed, and blocks may have been made. -/
structure Chg (M : Nat → Prop) (w w' : World) : Prop where
  os : w'.os = w.os
  tape : w'.tape = w.tape
  output : w'.output = w.output
  drw : w.drawn ≤ w'.drawn
  size : w.heap.size ≤ w'.heap.size
  blk : ∀ b, b < w.heap.size → ¬ M b → w'.heap[b]? = w.heap[b]?

def none1 : Nat → Prop := fun _ => False
def Ext (w w' : World) : Prop := Chg none1 w w'
def Blk (w : World) (b : Nat) (c : Array Value) (t : TypeId) : Prop := w.heap[b]? = some (.cells c t (0, 0))

theorem Chg.refl (M : Nat → Prop) (w : World) : Chg M w w := ⟨rfl, rfl, rfl, Nat.le_refl _, Nat.le_refl _, fun _ _ _ => rfl⟩
theorem Ext.refl (w : World) : Ext w w := Chg.refl _ w
theorem Chg.step {M M' : Nat → Prop} {a b c : World} (h : Chg M a b) (k : Chg M' b c) (hm : ∀ x, x < a.heap.size → M' x → M x) : Chg M a c :=
  ⟨k.os.trans h.os, k.tape.trans h.tape, k.output.trans h.output, Nat.le_trans h.drw k.drw, Nat.le_trans h.size k.size,
    fun x hx hn => (k.blk x (Nat.lt_of_lt_of_le hx h.size) (fun hm' => hn (hm x hx hm'))).trans (h.blk x hx hn)⟩
theorem Chg.trans {M : Nat → Prop} {a b c : World} (h : Chg M a b) (k : Chg M b c) : Chg M a c := h.step k fun _ _ x => x
theorem Chg.ext {M : Nat → Prop} {a b c : World} (h : Chg M a b) (k : Ext b c) : Chg M a c := h.step k fun _ _ x => x.elim
theorem Ext.trans {a b c : World} (h : Ext a b) (k : Ext b c) : Ext a c := Chg.trans h k
theorem Ext.chg {M : Nat → Prop} {a b : World} (h : Ext a b) : Chg M a b := ⟨h.os, h.tape, h.output, h.drw, h.size, fun x hx _ => h.blk x hx (fun f => f)⟩
theorem Chg.mono {M M' : Nat → Prop} {a b : World} (h : Chg M a b) (hm : ∀ x, x < a.heap.size → M x → M' x) : Chg M' a b :=
  ⟨h.os, h.tape, h.output, h.drw, h.size, fun x hx hn => h.blk x hx fun m => hn (hm x hx m)⟩

theorem Blk.lt {w : World} {b : Nat} {c : Array Value} {t : TypeId} (h : Blk w b c t) : b < w.heap.size := (Array.getElem?_eq_some_iff.1 h).1
theorem Chg.keep {M : Nat → Prop} {w w' : World} (h : Chg M w w') {b : Nat} {c : Array Value} {t : TypeId} (hm : ¬ M b) (hb : Blk w b c t) : Blk w' b c t :=
  (h.blk b hb.lt hm).trans hb
theorem Ext.keep {w w' : World} (h : Ext w w') {b : Nat} {c : Array Value} {t : TypeId} (hb : Blk w b c t) : Blk w' b c t := Chg.keep h (fun f => f) hb
theorem Chg.cell {M : Nat → Prop} {w w' : World} (h : Chg M w w') {a : Addr} {v : Value} (hm : ¬ M a.block) (hc : w.cell? a = some v) : w'.cell? a = some v :=
  (World.cell?_of_block (w := w) (h.blk a.block (World.block_lt_of_cell? w a hc) hm)).trans hc
theorem Ext.cell {w w' : World} (h : Ext w w') {a : Addr} {v : Value} (hc : w.cell? a = some v) : w'.cell? a = some v := Chg.cell h (fun f => f) hc
theorem Blk.cell {w : World} {b : Nat} {c : Array Value} {t : TypeId} (h : Blk w b c t) {o : Nat} {v : Value} (hv : c[o]? = some v) : w.cell? ⟨b, o, none⟩ = some v := by
  unfold Blk at h
  simp [World.cell?, h, hv]
theorem Ext.below {w w' : World} (h : Ext w w') : RowKit.Below w.heap.size w w' := ⟨h.os, h.tape, h.output, h.size, fun k hk => h.blk k hk fun f => f⟩
theorem Ext.of_below {w w' : World} (h : RowKit.Below w.heap.size w w') (hd : w.drawn ≤ w'.drawn) : Ext w w' := ⟨h.os, h.tape, h.output, hd, h.size, fun k hk _ => h.block k hk⟩

/-- What only made blocks, as a world that has grown. -/
theorem Ext.grown {w w' : World} (h : Ext w w') : ∃ q os, w' = Sort.grow (w.drewN q) os := by
  refine ⟨w'.drawn - w.drawn, w'.heap.extract w.heap.size w'.heap.size, ?_⟩
  have h1 := h.os; have h2 := h.tape; have h3 := h.output; have h4 := h.drw; have h5 := h.size; have h6 := h.blk
  obtain ⟨hp, tp, dr, o, ou⟩ := w'
  obtain ⟨hp', tp', dr', o', ou'⟩ := w
  simp only at h1 h2 h3 h4 h5 h6
  subst h1; subst h2; subst h3
  simp only [Sort.grow, World.drewN, World.mk.injEq, and_true, true_and]
  refine ⟨?_, by omega⟩
  apply Array.ext_getElem?
  intro i
  rw [Array.getElem?_append]
  by_cases hi : i < hp'.size
  · rw [if_pos hi]; exact h6 i hi fun f => f
  · rw [if_neg hi, Array.getElem?_extract]
    by_cases h7 : i < hp.size
    · rw [if_pos (by omega)]; congr 1; omega
    · rw [if_neg (by omega), Array.getElem?_eq_none (by omega)]
/-- A new block. -/
structure New (w w' : World) (b : Nat) (c : Array Value) (t : TypeId) : Prop where
  blk : Blk w' b c t
  ext : Ext w w'
  eq : b = w.heap.size
  size : w'.heap.size = w.heap.size + 1

theorem New.mk' (w : World) (c : Array Value) (t : TypeId) : New w { w with heap := w.heap.push (.cells c t (0, 0)) } w.heap.size c t :=
  ⟨by unfold Blk; simp, ⟨rfl, rfl, rfl, Nat.le_refl _, by simp, fun x hx _ => by simp [Array.getElem?_push, Nat.ne_of_lt hx]⟩, rfl, by simp⟩
theorem New.keep {w w' : World} {b : Nat} {c : Array Value} {t : TypeId} (h : New w w' b c t) {b' : Nat} {c' : Array Value} {t' : TypeId} (hb : Blk w b' c' t') : Blk w' b' c' t' := h.ext.keep hb
theorem New.lt {w w' : World} {b : Nat} {c : Array Value} {t : TypeId} (h : New w w' b c t) {b' : Nat} {c' : Array Value} {t' : TypeId} (hb : Blk w b' c' t') : b' < b := by rw [h.eq]; exact hb.lt
theorem New.ge {w0 w w' : World} {b : Nat} {c : Array Value} {t : TypeId} (h : New w w' b c t) {M : Nat → Prop} (e : Chg M w0 w) : w0.heap.size ≤ b := by rw [h.eq]; exact e.size

/-- A block is written. -/
structure Put (w w' : World) (b : Nat) (c : Array Value) (t : TypeId) : Prop where
  blk : Blk w' b c t
  chg : Chg (fun x => x = b) w w'
  size : w'.heap.size = w.heap.size

theorem Put.of_setRow {w : World} {b : Nat} {c : Array Value} {t : TypeId} (h : Blk w b c t) (c' : Array Value) : Put w (w.setRow b c') b c' t :=
  ⟨setRow_heap w b c c' t _ h, ⟨rfl, rfl, rfl, Nat.le_refl _, by simp [World.setRow], fun x _ hn => setRow_other w b x c' hn⟩, by simp [World.setRow]⟩
theorem Put.keep {w w' : World} {b : Nat} {c : Array Value} {t : TypeId} (h : Put w w' b c t) {b' : Nat} {c' : Array Value} {t' : TypeId} (hne : b' ≠ b) (hb : Blk w b' c' t') : Blk w' b' c' t' := h.chg.keep hne hb
theorem Put.ext {w0 w w' : World} {b : Nat} {c : Array Value} {t : TypeId} (h : Put w w' b c t) {M : Nat → Prop} (e : Chg M w0 w) (hb : w0.heap.size ≤ b) : Chg M w0 w' :=
  e.step h.chg fun x hx hm => by subst hm; omega

theorem Put.step {w0 w w' : World} {b : Nat} {c : Array Value} {t : TypeId} (h : Put w w' b c t) {M : Nat → Prop} (e : Chg M w0 w) (hb : w0.heap.size ≤ b ∨ M b) : Chg M w0 w' :=
  e.step h.chg fun x hx hm => by subst hm; rcases hb with hb | hb; omega; exact hb

/-- Cells in a row. -/
def CellsAt (w : World) (b o : Nat) (vs : List Value) : Prop := ∀ i v, vs[i]? = some v → w.cell? ⟨b, o + i, none⟩ = some v
theorem CellsAt.chg {M : Nat → Prop} {w w' : World} {b o : Nat} {vs : List Value} (h : CellsAt w b o vs) (e : Chg M w w') (hm : ¬ M b) : CellsAt w' b o vs :=
  fun i v hv => e.cell hm (h i v hv)
theorem CellsAt.ext {w w' : World} {b o : Nat} {vs : List Value} (h : CellsAt w b o vs) (e : Ext w w') : CellsAt w' b o vs := h.chg e fun f => f
theorem Blk.cells {w : World} {b : Nat} {c : Array Value} {t : TypeId} (h : Blk w b c t) {o : Nat} {vs : List Value} (hv : (c.toList.drop o).take vs.length = vs) : CellsAt w b o vs := by
  intro i v hi
  refine h.cell ?_
  have hlt : i < vs.length := by
    rcases Nat.lt_or_ge i vs.length with h | h
    · exact h
    · simp [List.getElem?_eq_none h] at hi
  rw [← hv, List.getElem?_take_of_lt hlt, List.getElem?_drop] at hi
  simpa using hi

/-! Facts on the table of types. -/
def Siz (P : Program) (t : TypeId) (n : Nat) : Prop := (P.info? t).map (fun i => i.size) = some n
def Byt (P : Program) (t : TypeId) (n : Nat) : Prop := (P.info? t).map (fun i => i.bytes) = some n
def Zer (P : Program) (t : TypeId) (z : Value) : Prop := (P.info? t).bind (fun i => i.zero) = some z
def flatB (P : Program) (t : TypeId) : Bool := match P.underlying t with
  | some (.struct _) | some (.array _ _) | none => false
  | some _ => true
def aggB (P : Program) (t : TypeId) : Bool := match P.underlying t with
  | some (.struct _) | some (.array _ _) => true
  | _ => false

theorem Siz.run {P : Program} {t : TypeId} {n : Nat} (h : Siz P t n) (w : World) : (sizeOf t).run P w = .ok n w := by
  unfold Siz at h
  cases hi : P.info? t with
  | none => simp [hi] at h
  | some i => simp [hi] at h; simp [sizeOf, typeInfo, hi, h]
theorem Zer.run {P : Program} {t : TypeId} {z : Value} (h : Zer P t z) (w : World) : (zeroValue t).run P w = .ok z w := by
  unfold Zer at h
  cases hi : P.info? t with
  | none => simp [hi] at h
  | some i => simp [hi] at h; simp [zeroValue, typeInfo, hi, h]
theorem flatB.run {P : Program} {t : TypeId} (h : flatB P t = true) (w : World) : (isAgg t).run P w = .ok false w := by
  unfold flatB at h
  cases hi : P.underlying t with
  | none => simp [hi] at h
  | some d => cases d <;> simp [hi] at h <;> simp [isAgg, run_underlying hi]
theorem aggB.run {P : Program} {t : TypeId} (h : aggB P t = true) (w : World) : (isAgg t).run P w = .ok true w := by
  unfold aggB at h
  cases hi : P.underlying t with
  | none => simp [hi] at h
  | some d => cases d <;> simp [hi] at h <;> simp [isAgg, run_underlying hi]

/-! The runs of operations. -/
section
variable {P : Program} {σ : Env} {w : World} {dst : Option Tmp} {ty : TypeId} {pos : String} {af : Array Edge} {g : Option (Nat × Bool)}

theorem r_move {x : Operand} {v : Value} (hx : ev σ x = v) : (execOp (ev σ) ⟨dst, .move x, ty, pos, af, g⟩).run P w = .ok (.value v) w := by subst hx; rfl
theorem r_assign {x : Operand} {v : Value} (hx : ev σ x = v) : (execOp (ev σ) ⟨dst, .assign x, ty, pos, af, g⟩).run P w = .ok (.value v) w := by subst hx; rfl
theorem r_pick {c x y : Operand} {b : Bool} {v : Value} (hc : ev σ c = .bool b) (hv : (if b then ev σ x else ev σ y) = v) : (execOp (ev σ) ⟨dst, .pick c x y, ty, pos, af, g⟩).run P w = .ok (.value v) w := by
  subst hv; simp only [execOp, hc, asBool]; cases b <;> rfl
theorem r_nilCheck {x : Operand} {a : Addr} (hx : ev σ x = .pointer (some a)) : (execOp (ev σ) ⟨dst, .nilCheck x, ty, pos, af, g⟩).run P w = .ok (.value (.pointer (some a))) w := by
  simp only [execOp, hx]; rfl
theorem r_not {t : TypeId} {x : Operand} {b : Bool} (hx : ev σ x = .bool b) : (execOp (ev σ) ⟨dst, .unOp .not t x, ty, pos, af, g⟩).run P w = .ok (.value (.bool (!b))) w := by
  simp only [execOp, hx]; rfl
theorem r_neg {t : TypeId} {x : Operand} {k : IntKind} {n c : Int} (hx : ev σ x = .int k n) (hw : k.wrap (0 - n) = c) : (execOp (ev σ) ⟨dst, .unOp .neg t x, ty, pos, af, g⟩).run P w = .ok (.value (.int k c)) w := by
  subst hw; simp only [execOp, hx]; rfl
theorem r_convInt {s t : TypeId} {x : Operand} {k k' : IntKind} {n c : Int} (hs : ∃ d, P.underlying s = some d) (ht : P.underlying t = some (.int k')) (hx : ev σ x = .int k n) (hw : k'.wrap n = c) :
    (execOp (ev σ) ⟨dst, .convert s t x, ty, pos, af, g⟩).run P w = .ok (.value (.int k' c)) w := by
  obtain ⟨d, hd⟩ := hs
  subst hw; simp only [execOp, hx, convert, Sem.run_bind, run_underlying hd, run_underlying ht, Result.andThen_ok]; rfl

variable {t t' : TypeId} {x y : Operand} {k : IntKind} {a b c : Int}
theorem r_add (hx : ev σ x = .int k a) (hy : ev σ y = .int k b) (hw : k.wrap (a + b) = c) : (execOp (ev σ) ⟨dst, .binOp .add t x y t', ty, pos, af, g⟩).run P w = .ok (.value (.int k c)) w := by
  subst hw; simp only [execOp, hx, hy, eqGuard, binOp]; simp [Op.intArith]
theorem r_sub (hx : ev σ x = .int k a) (hy : ev σ y = .int k b) (hw : k.wrap (a - b) = c) : (execOp (ev σ) ⟨dst, .binOp .sub t x y t', ty, pos, af, g⟩).run P w = .ok (.value (.int k c)) w := by
  subst hw; simp only [execOp, hx, hy, eqGuard, binOp]; simp [Op.intArith]
theorem r_mul (hx : ev σ x = .int k a) (hy : ev σ y = .int k b) (hw : k.wrap (a * b) = c) : (execOp (ev σ) ⟨dst, .binOp .mul t x y t', ty, pos, af, g⟩).run P w = .ok (.value (.int k c)) w := by
  subst hw; simp only [execOp, hx, hy, eqGuard, binOp]; simp [Op.intArith]
theorem r_rem (hx : ev σ x = .int k a) (hy : ev σ y = .int k b) (h0 : b ≠ 0) (hw : a.tmod b = c) : (execOp (ev σ) ⟨dst, .binOp .rem t x y t', ty, pos, af, g⟩).run P w = .ok (.value (.int k c)) w := by
  subst hw; simp only [execOp, hx, hy, eqGuard, binOp]; simp [Op.intDiv, h0]
theorem r_quo (hx : ev σ x = .int k a) (hy : ev σ y = .int k b) (h0 : b ≠ 0) (hw : k.wrap (a.tdiv b) = c) : (execOp (ev σ) ⟨dst, .binOp .quo t x y t', ty, pos, af, g⟩).run P w = .ok (.value (.int k c)) w := by
  subst hw; simp only [execOp, hx, hy, eqGuard, binOp]; simp [Op.intDiv, h0]
theorem r_lss (hx : ev σ x = .int k a) (hy : ev σ y = .int k b) : (execOp (ev σ) ⟨dst, .binOp .lss t x y t', ty, pos, af, g⟩).run P w = .ok (.value (.bool (decide (a < b)))) w := by
  simp only [execOp, hx, hy, eqGuard, binOp]; simp [Op.intCmp]
theorem r_leq (hx : ev σ x = .int k a) (hy : ev σ y = .int k b) : (execOp (ev σ) ⟨dst, .binOp .leq t x y t', ty, pos, af, g⟩).run P w = .ok (.value (.bool (decide (a ≤ b)))) w := by
  simp only [execOp, hx, hy, eqGuard, binOp]; simp [Op.intCmp]
theorem r_gtr (hx : ev σ x = .int k a) (hy : ev σ y = .int k b) : (execOp (ev σ) ⟨dst, .binOp .gtr t x y t', ty, pos, af, g⟩).run P w = .ok (.value (.bool (decide (b < a)))) w := by
  simp only [execOp, hx, hy, eqGuard, binOp]; simp [Op.intCmp]
theorem r_geq (hx : ev σ x = .int k a) (hy : ev σ y = .int k b) : (execOp (ev σ) ⟨dst, .binOp .geq t x y t', ty, pos, af, g⟩).run P w = .ok (.value (.bool (decide (b ≤ a)))) w := by
  simp only [execOp, hx, hy, eqGuard, binOp]; simp [Op.intCmp]
theorem r_eql (hx : ev σ x = .int k a) (hy : ev σ y = .int k b) : (execOp (ev σ) ⟨dst, .binOp .eql t x y t', ty, pos, af, g⟩).run P w = .ok (.value (.bool (decide (a = b)))) w := by
  have : (a == b) = decide (a = b) := by rw [Bool.eq_iff_iff]; simp
  rw [← this]; simp only [execOp, hx, hy, eqGuard, binOp]; simp [Op.intCmp]
theorem r_neq (hx : ev σ x = .int k a) (hy : ev σ y = .int k b) : (execOp (ev σ) ⟨dst, .binOp .neq t x y t', ty, pos, af, g⟩).run P w = .ok (.value (.bool (decide (a ≠ b)))) w := by
  have : (a != b) = decide (a ≠ b) := by rw [Bool.eq_iff_iff]; simp
  rw [← this]; simp only [execOp, hx, hy, eqGuard, binOp]; simp [Op.intCmp]
theorem equalIn_bool {p q : Bool} (d : Nat) (hu : P.underlying t = some .bool) : (Op.equalIn (d + 1) t (.bool p) (.bool q)).run P w = .ok (p == q) w := by
  simp only [Op.equalIn, Sem.run_bind, run_underlying hu, Result.andThen_ok]; rfl
theorem r_eqlB {p q : Bool} (hu : P.underlying t = some .bool) (hx : ev σ x = .bool p) (hy : ev σ y = .bool q) : (execOp (ev σ) ⟨dst, .binOp .eql t x y t', ty, pos, af, g⟩).run P w = .ok (.value (.bool (p == q))) w := by
  have h := equalIn_bool (P := P) (w := w) (p := p) (q := q) 9999 hu
  simp only [execOp, hx, hy, eqGuard, binOp, Op.equal, Op.maxDepth]; simp [h]
theorem r_neqB {p q : Bool} (hu : P.underlying t = some .bool) (hx : ev σ x = .bool p) (hy : ev σ y = .bool q) : (execOp (ev σ) ⟨dst, .binOp .neq t x y t', ty, pos, af, g⟩).run P w = .ok (.value (.bool (p != q))) w := by
  have h := equalIn_bool (P := P) (w := w) (p := p) (q := q) 9999 hu
  simp only [execOp, hx, hy, eqGuard, binOp, Op.equal, Op.maxDepth]; simp [h, bne]
theorem r_bits {op : BinOp} {v : Value} (hx : ev σ x = .int k a) (hy : ev σ y = .int k b) (ho : op = .and ∨ op = .or ∨ op = .xor ∨ op = .andNot) (hv : (Op.intBits op k a b).run P w = .ok v w) :
    (execOp (ev σ) ⟨dst, .binOp op t x y t', ty, pos, af, g⟩).run P w = .ok (.value v) w := by
  rcases ho with rfl | rfl | rfl | rfl <;> (simp only [execOp, hx, hy, eqGuard, binOp]; simp [hv])
theorem r_shl {k' : IntKind} (hx : ev σ x = .int k a) (hy : ev σ y = .int k' b) (h0 : 0 ≤ b) (hw : k.wrap (a * 2 ^ (min b.toNat k.bits)) = c) :
    (execOp (ev σ) ⟨dst, .binOp .shl t x y t', ty, pos, af, g⟩).run P w = .ok (.value (.int k c)) w := by
  subst hw; simp only [execOp, hx, hy, eqGuard, binOp]; simp [Op.shift, Int.not_lt.2 h0]
theorem r_shr {k' : IntKind} (hx : ev σ x = .int k a) (hy : ev σ y = .int k' b) (h0 : 0 ≤ b) (hw : a.fdiv (2 ^ (min b.toNat k.bits)) = c) :
    (execOp (ev σ) ⟨dst, .binOp .shr t x y t', ty, pos, af, g⟩).run P w = .ok (.value (.int k c)) w := by
  subst hw; simp only [execOp, hx, hy, eqGuard, binOp]; simp [Op.shift, Int.not_lt.2 h0]

theorem r_lenSlice {e : TypeId} {ad : Option Addr} {n cap : Nat} (hu : P.underlying t = some (.slice e)) (hx : ev σ x = .slice ad n cap) :
    (execOp (ev σ) ⟨dst, .call ⟨.builtin .len, #[x], #[t]⟩, ty, pos, af, g⟩).run P w = .ok (.value (.int .i64 n)) w := by
  simp only [execOp, resolve, List.map_toArray, List.map_cons, List.map_nil, hx]
  simp [invoke, builtin, Builtin.len_, run_underlying hu, goInt]
theorem r_lenString {s : ByteArray} (hu : P.underlying t = some .string) (hx : ev σ x = .string s) :
    (execOp (ev σ) ⟨dst, .call ⟨.builtin .len, #[x], #[t]⟩, ty, pos, af, g⟩).run P w = .ok (.value (.int .i64 s.size)) w := by
  simp only [execOp, resolve, List.map_toArray, List.map_cons, List.map_nil, hx]
  simp [invoke, builtin, Builtin.len_, run_underlying hu, goInt]

theorem r_fieldAddr {fs : Array Field} {f : Field} {i n b o o' : Nat} (hx : ev σ x = .pointer (some ⟨b, o, none⟩)) (hu : P.underlying t = some (.struct fs)) (hf : fs[i]? = some f) (hs : Siz P f.type (n + 1)) (ho : o + f.offset = o') :
    (execOp (ev σ) ⟨dst, .fieldAddr t x i, ty, pos, af, g⟩).run P w = .ok (.value (.pointer (some ⟨b, o', none⟩))) w := by
  subst ho
  simp [execOp, hx, Instr.fieldAt, run_underlying hu, hf, Instr.sureAddr, fieldPlace, hs.run, Addr.add_lit]
theorem r_indexSlice {e : TypeId} {n b o o' len cap i : Nat} {k : IntKind} {a : Int} (hx : ev σ x = .slice (some ⟨b, o, none⟩) len cap) (hy : ev σ y = .int k a) (ha : a = (i : Int)) (hu : P.underlying t = some (.slice e)) (hs : Siz P e n) (hi : i < len) (ho : o + i * n = o') :
    (execOp (ev σ) ⟨dst, .indexAddr t x y, ty, pos, af, g⟩).run P w = .ok (.value (.pointer (some ⟨b, o', none⟩))) w := by
  subst ho; subst ha
  have h1 : (0 : Int) ≤ (i : Int) ∧ (i : Int) < (len : Int) := by omega
  simp [execOp, hx, hy, Instr.indexAt, asIntOf, run_underlying hu, hs.run, Addr.add_lit, hi]
theorem r_indexArr {e : TypeId} {n b o o' len i : Nat} {k : IntKind} {a : Int} (hx : ev σ x = .pointer (some ⟨b, o, none⟩)) (hy : ev σ y = .int k a) (ha : a = (i : Int)) (hu : P.underlying t = some (.array len e)) (hs : Siz P e n) (hi : i < len) (ho : o + i * n = o') :
    (execOp (ev σ) ⟨dst, .indexAddr t x y, ty, pos, af, g⟩).run P w = .ok (.value (.pointer (some ⟨b, o', none⟩))) w := by
  subst ho; subst ha
  simp [execOp, hx, hy, Instr.indexAt, Instr.sureAddr, asIntOf, run_underlying hu, hs.run, Addr.add_lit, hi]

theorem r_sliceLo {e : TypeId} {a a' : Option Addr} {n len cap lo n' c' : Nat} {k : IntKind} {l : Int} (hu : P.underlying t = some (.slice e)) (hs : Siz P e n) (hx : ev σ x = .slice a len cap) (hy : ev σ y = .int k l) (hl : l = (lo : Int)) (h1 : lo ≤ len) (ha : (if cap = lo then a else a.map (·.add (lo * n))) = a') (hn : len - lo = n') (hc : cap - lo = c') :
    (execOp (ev σ) ⟨dst, .slice t x (some y) none none, ty, pos, af, g⟩).run P w = .ok (.value (.slice a' n' c')) w := by
  subst ha; subst hn; subst hc; subst hl
  have h2 : (0 : Int) ≤ (lo : Int) ∧ (lo : Int) ≤ (len : Int) := by omega
  simp [execOp, hx, hy, Instr.sliceAt, Instr.slice, run_underlying hu, Instr.sliceBounds, Instr.sliceBound, asIntOf, h1, hs.run]
theorem r_sliceHi {e : TypeId} {a a' : Option Addr} {n len cap hi : Nat} {k : IntKind} {l : Int} (hu : P.underlying t = some (.slice e)) (hs : Siz P e n) (hx : ev σ x = .slice a len cap) (hy : ev σ y = .int k l) (hl : l = (hi : Int)) (h1 : hi ≤ cap) (ha : (if cap = 0 then a else a.map (·.add (0 * n))) = a') :
    (execOp (ev σ) ⟨dst, .slice t x none (some y) none, ty, pos, af, g⟩).run P w = .ok (.value (.slice a' hi cap)) w := by
  subst ha; subst hl
  simp [execOp, hx, hy, Instr.sliceAt, Instr.slice, run_underlying hu, Instr.sliceBounds, Instr.sliceBound, asIntOf, h1, hs.run]
theorem r_sliceLH {z : Operand} {e : TypeId} {a a' : Option Addr} {n len cap lo hi n' c' : Nat} {k k' : IntKind} {l m : Int} (hu : P.underlying t = some (.slice e)) (hs : Siz P e n) (hx : ev σ x = .slice a len cap) (hy : ev σ y = .int k l) (hz : ev σ z = .int k' m) (hl : l = (lo : Int)) (hm : m = (hi : Int)) (h0 : lo ≤ hi) (h1 : hi ≤ cap) (ha : (if cap = lo then a else a.map (·.add (lo * n))) = a') (hn : hi - lo = n') (hc : cap - lo = c') :
    (execOp (ev σ) ⟨dst, .slice t x (some y) (some z) none, ty, pos, af, g⟩).run P w = .ok (.value (.slice a' n' c')) w := by
  subst ha; subst hn; subst hc; subst hl; subst hm
  simp [execOp, hx, hy, hz, Instr.sliceAt, Instr.slice, run_underlying hu, Instr.sliceBounds, Instr.sliceBound, asIntOf, h1, h0, hs.run]
theorem r_load {ad : Addr} {v : Value} (hx : ev σ x = .pointer (some ad)) (hf : flatB P t = true) (hc : w.cell? ad = some v) :
    (execOp (ev σ) ⟨dst, .load t x, ty, pos, af, g⟩).run P w = .ok (.value v) w := by
  simp [execOp, hx, Instr.loadAt, Instr.sureAddr, loadVar, flatB.run hf, hc]
theorem r_loadAgg {b o n : Nat} {vs : List Value} (hx : ev σ x = .pointer (some ⟨b, o, none⟩)) (hf : aggB P t = true) (hs : Siz P t n) (hn : vs.length = n) (hc : CellsAt w b o vs) :
    (execOp (ev σ) ⟨dst, .load t x, ty, pos, af, g⟩).run P w = .ok (.value (.agg vs.toArray)) w := by
  subst hn
  have h1 := run_loadCells_list (P := P) w ⟨b, o, none⟩ vs (fun j v hj => by rw [Addr.add_lit]; exact hc j v hj)
  simp [execOp, hx, Instr.loadAt, Instr.sureAddr, loadVar, aggB.run hf, hs.run, h1]

theorem r_makeFunc {fn : Fn} {first captured : List Operand} {vs us : List Value} (h1 : first.map (ev σ) = vs) (h2 : captured.map (ev σ) = us) :
    (execOp (ev σ) ⟨dst, .makeFunc fn first.toArray captured.toArray, ty, pos, af, g⟩).run P w = .ok (.value (.func fn vs.toArray us.toArray)) w := by
  subst h1; subst h2; simp [execOp, Instr.makeFunc]
theorem r_extract {i : Nat} {vs : Array Value} {v : Value} (hx : ev σ x = .tuple vs) (hv : vs[i]? = some v) :
    (execOp (ev σ) ⟨dst, .extract x i, ty, pos, af, g⟩).run P w = .ok (.value v) w := by
  simp [execOp, hx, Instr.extract, hv]
theorem r_build {parts : List (Nat × Operand)} {ps : List (Nat × Value)} {v : Value} (hp : (parts.map fun (i, x) => (i, ev σ x)) = ps) (hb : (Instr.build t ps.toArray).run P w = .ok v w) :
    (execOp (ev σ) ⟨dst, .build t parts.toArray, ty, pos, af, g⟩).run P w = .ok (.value v) w := by
  subst hp; simp [execOp, hb]

theorem run_callF {f : FuncId} {fn : Func} {vs : Array Value} (hf : P.funcs[f]? = some fn) (hn : (fn.name == "runtime.NumGoroutine") = false) (hb : fn.body.isNone = false) :
    (callFunc f vs).run P w = .ok (.enter f vs) w := by
  simp only [callFunc, Sem.run_bind, run_program, Result.andThen_ok, hf, hn, hb, Bool.false_eq_true, if_false]; rfl
/-- The call of a function of the program by its number. -/
theorem r_callF {f : FuncId} {fn : Func} {args : List Operand} {tys : Array TypeId} {vs : List Value} (hf : P.funcs[f]? = some fn) (hn : (fn.name == "runtime.NumGoroutine") = false) (hb : fn.body.isNone = false) (ha : args.map (ev σ) = vs) :
    (execOp (ev σ) ⟨dst, .call ⟨.value (.func f), args.toArray, tys⟩, ty, pos, af, g⟩).run P w = .ok (.enter f vs.toArray) w := by
  subst ha; simp [execOp, resolve, ev, Deferred.ofValue, invoke, run_callF hf hn hb]
/-- The call of a function value. -/
theorem r_callV {f : FuncId} {fn : Func} {z : Operand} {args : List Operand} {tys : Array TypeId} {first cap ws : Array Value} {vs : List Value} (hz : ev σ z = .func (.func f) first cap) (hf : P.funcs[f]? = some fn) (hn : (fn.name == "runtime.NumGoroutine") = false) (hb : fn.body.isNone = false) (ha : args.map (ev σ) = vs) (hws : first ++ vs.toArray ++ cap = ws) :
    (execOp (ev σ) ⟨dst, .call ⟨.value z, args.toArray, tys⟩, ty, pos, af, g⟩).run P w = .ok (.enter f ws) w := by
  subst ha; subst hws; simp [execOp, resolve, hz, Deferred.ofValue, invoke, run_callF hf hn hb]
end

/-! Rules for operations that change the world. -/
section
variable {P : Program} {N : Nat} {Q : Post} {σ : Env} {w : World} {K : Env → World → Prop} {ops : Array Oper} {rest : List Oper} {d : Nat} {ty : TypeId} {pos : String} {af : Array Edge} {t : TypeId} {x y : Operand}

theorem s_box {v : Value} {c : Array Value} (hN : d < N) (hx : ev σ x = v) (hc : v.cells = c) (k : ∀ b w', New w w' b c t → WpL P N ops K Q rest (upd σ d (.pointer (some ⟨b, 0, none⟩))) w') :
    WpL P N ops K Q (⟨some d, .box t x, ty, pos, af, none⟩ :: rest) σ w := by
  subst hc
  refine WpL_val (v := .pointer (some ⟨w.heap.size, 0, none⟩)) (w' := { w with heap := w.heap.push (.cells v.cells t (0, 0)) }) rfl rfl hN ?_ (k _ _ (New.mk' w v.cells t))
  simp [execOp, hx, Instr.box, newVar, newRow]

theorem s_alloc {z : Value} {c : Array Value} (hN : d < N) (hz : Zer P t z) (hc : z.cells = c) (k : ∀ b w', New w w' b c t → WpL P N ops K Q rest (upd σ d (.pointer (some ⟨b, 0, none⟩))) w') :
    WpL P N ops K Q (⟨some d, .alloc t, ty, pos, af, none⟩ :: rest) σ w := by
  subst hc
  refine WpL_val (v := .pointer (some ⟨w.heap.size, 0, none⟩)) (w' := { w with heap := w.heap.push (.cells z.cells t (0, 0)) }) rfl rfl hN ?_ (k _ _ (New.mk' w z.cells t))
  simp [execOp, Instr.alloc, hz.run, newVar, newRow]

theorem s_store {b o : Nat} {v : Value} {c c' : Array Value} {e : TypeId} (hx : ev σ x = .pointer (some ⟨b, o, none⟩)) (hy : ev σ y = v) (h1 : v.oneCell' = true) (hs : Siz P t 1) (hB : Blk w b c e) (ho : o < c.size) (hc : c.setIfInBounds o v = c')
    (k : ∀ w', Put w w' b c' e → WpL P N ops K Q rest σ w') : WpL P N ops K Q (⟨none, .store t x y, ty, pos, af, none⟩ :: rest) σ w := by
  subst hc
  refine WpL_skip (w' := w.setRow b (c.setIfInBounds o v)) rfl rfl ?_ (k _ (Put.of_setRow hB _))
  have hcs : v.cells = #[v] := by cases v <;> first | rfl | (simp [Value.oneCell'] at h1; done)
  have hst := run_storeCells_at P b o e [v] 0 c w hB (by simp; omega) (by simpa using h1)
  have he : (c.toList.take (o + 0) ++ [v] ++ c.toList.drop (o + 0 + [v].length)).toArray = c.setIfInBounds o v := by
    apply Array.ext'
    simp only [Nat.add_zero, List.length_singleton, Array.toList_setIfInBounds]
    rw [List.set_eq_take_append_cons_drop, if_pos (by simpa using ho)]
    simp
  rw [he] at hst
  simp [execOp, hx, hy, Instr.storeAt, Instr.sureAddr, storeVar, hs.run, hcs, hst]

theorem s_storeAgg {b o n : Nat} {vs c c' : Array Value} {e : TypeId} (hx : ev σ x = .pointer (some ⟨b, o, none⟩)) (hy : ev σ y = .agg vs) (h1 : ∀ v ∈ vs.toList, v.oneCell' = true) (hs : Siz P t n) (hn : vs.size = n) (hB : Blk w b c e) (ho : o + n ≤ c.size) (hc : (c.toList.take o ++ vs.toList ++ c.toList.drop (o + n)).toArray = c')
    (k : ∀ w', Put w w' b c' e → WpL P N ops K Q rest σ w') : WpL P N ops K Q (⟨none, .store t x y, ty, pos, af, none⟩ :: rest) σ w := by
  subst hc; subst hn
  refine WpL_skip (w' := w.setRow b _) rfl rfl ?_ (k _ (Put.of_setRow hB _))
  have hst := run_storeCells_at P b o e vs.toList 0 c w hB (by simpa using ho) h1
  simp only [Nat.add_zero, Array.length_toList] at hst
  simp [execOp, hx, hy, Instr.storeAt, Instr.sureAddr, storeVar, hs.run, Value.cells, hst]

/-- A variable is made and stored into at once. -/
theorem s_allocStore {z v : Value} {n : Nat} {c : Array Value} {ty' : TypeId} {pos' : String} {af' : Array Edge} (hN : d < N) (hz : Zer P t z) (hzs : z.cells.size = n) (hs : Siz P t n) (hy : ev (upd σ d (.pointer (some ⟨w.heap.size, 0, none⟩))) y = v) (hc : v.cells = c) (hn : c.size = n) (h1 : ∀ u ∈ c.toList, u.oneCell' = true)
    (k : ∀ b w', New w w' b c t → WpL P N ops K Q rest (upd σ d (.pointer (some ⟨b, 0, none⟩))) w') :
    WpL P N ops K Q (⟨some d, .alloc t, ty, pos, af, none⟩ :: ⟨none, .store t (.tmp d) y, ty', pos', af', none⟩ :: rest) σ w := by
  subst hc
  refine WpL_val (v := .pointer (some ⟨w.heap.size, 0, none⟩)) (w' := { w with heap := w.heap.push (.cells z.cells t (0, 0)) }) rfl rfl hN ?_ ?_
  · simp [execOp, Instr.alloc, hz.run, newVar, newRow]
  · refine WpL_skip (w' := { w with heap := w.heap.push (.cells v.cells t (0, 0)) }) rfl rfl ?_ (k _ _ (New.mk' w v.cells t))
    have hB : Blk { w with heap := w.heap.push (.cells z.cells t (0, 0)) } w.heap.size z.cells t := (New.mk' w z.cells t).blk
    have hst := run_storeCells_at P w.heap.size 0 t v.cells.toList 0 z.cells _ hB (by simp [hn, hzs]) h1
    have hd : ev (upd σ d (.pointer (some ⟨w.heap.size, 0, none⟩))) (.tmp d) = .pointer (some ⟨w.heap.size, 0, none⟩) := by simp [ev, upd]
    have hw : World.setRow { w with heap := w.heap.push (.cells z.cells t (0, 0)) } w.heap.size (z.cells.toList.take (0 + 0) ++ v.cells.toList ++ z.cells.toList.drop (0 + 0 + v.cells.toList.length)).toArray = { w with heap := w.heap.push (.cells v.cells t (0, 0)) } := by
      have e : (z.cells.toList.take (0 + 0) ++ v.cells.toList ++ z.cells.toList.drop (0 + 0 + v.cells.toList.length)).toArray = v.cells := by
        apply Array.ext'
        simp [hn, ← hzs]
      rw [e]
      simp only [World.setRow]
      congr 1
      apply Array.ext
      · simp
      · intro i h1 h2
        simp only [Array.getElem_modify, Array.getElem_push]
        by_cases hi : i < w.heap.size
        · simp [hi, Nat.ne_of_gt hi]
        · have : i = w.heap.size := by simp at h2; omega
          simp [this]
    rw [hw] at hst
    have hst' : (storeCells ⟨w.heap.size, 0, none⟩ v.cells.toList).run P (w.alloc (.cells z.cells t)) = .ok () (w.alloc (.cells v.cells t)) := hst
    simp [execOp, hd, hy, Instr.storeAt, Instr.sureAddr, storeVar, hs.run, hn, hst']

theorem s_buildSlice {e : TypeId} {len n : Nat} {z : Value} {parts : List (Nat × Operand)} {ps : List (Nat × Value)} {c : Array Value} (hN : d < N) (hp : (parts.map fun (i, x) => (i, ev σ x)) = ps) (hu : P.underlying t = some (.slice e)) (hs : Siz P e n) (hz : Zer P e z) (hl : ¬ (len * n > 2 ^ 24)) (h0 : len * n ≠ 0)
    (hc : Instr.fill (fun i => some (i * n, n)) ((Array.range (len * n)).map (z.cells[· % z.cells.size]!)) ps = some c)
    (k : ∀ b w', New w w' b c e → WpL P N ops K Q rest (upd σ d (.slice (some ⟨b, 0, none⟩) len len)) w') : WpL P N ops K Q (⟨some d, .buildSlice t len parts.toArray, ty, pos, af, none⟩ :: rest) σ w := by
  subst hp
  refine WpL_val (v := .slice (some ⟨w.heap.size, 0, none⟩) len len) (w' := { w with heap := w.heap.push (.cells c e (0, 0)) }) rfl rfl hN ?_ (k _ _ (New.mk' w c e))
  simp only [execOp, Instr.buildSlice, List.map_toArray, Sem.run_bind, run_underlying hu, Result.andThen_ok, hs.run, hl, h0, if_false, Sem.run_pure, hz.run, hc]
  simp [newRow]
end

theorem wpStill_post {P : Program} {ops : Array Oper} {w : World} {R R' : Act → Prop} (h : ∀ a, R a → R' a) : ∀ (l : List Oper) (a : Act), wpStill P ops w R l a → wpStill P ops w R' l a
  | [], a, hr => h a hr
  | o :: rest, a, hr => by
    unfold wpStill at hr ⊢
    split
    · rename_i hw
      rw [if_pos hw] at hr
      exact Oper.still_mono (fun a' => wpStill_post h rest a') hr
    · rename_i hw
      rw [if_neg hw] at hr
      exact wpStill_post h rest _ hr
/-! A region whose order is open: the first n operations leave the world as it is, the others have one order. -/
def WpS (P : Program) (N : Nat) (ops : Array Oper) (w : World) (K : Env → Prop) (l : List Oper) (σ : Env) : Prop :=
  ∀ a, Ok N a → env a = σ → wpStill P ops w (fun a' => Ok N a' ∧ K (env a')) l a
def WpT (P : Program) (N : Nat) (ops : Array Oper) (w : World) (K : Env → World → Prop) (Q : Post) : Nat → List Oper → Env → Prop
  | n, l, σ => WpS P N ops w (fun σ' => WpL P N ops K Q (l.drop n) σ' w) (l.take n) σ
section
variable {P : Program} {N : Nat} {Q : Post} {σ : Env} {w : World} {K : Env → World → Prop} {ops : Array Oper} {rest : List Oper} {n : Nat}
theorem WpT_zero {l : List Oper} (h : WpL P N ops K Q l σ w) : WpT P N ops w K Q 0 l σ := fun a ha he => by
  simp only [List.take_zero, List.drop_zero]; exact ⟨ha, he ▸ h⟩
theorem WpT_val {o : Oper} (hg : o.guard = none) {d : Nat} (hd : o.dst = some d) (hN : d < N) {v : Value}
    (hr : (execOp (ev σ) o).run P w = .ok (.value v) w) (k : WpT P N ops w K Q n rest (upd σ d v)) : WpT P N ops w K Q (n + 1) (o :: rest) σ := by
  intro a ha he
  simp only [List.take_succ_cons, List.drop_succ_cons]
  unfold wpStill
  rw [if_pos (by simp [Region.wanted, hg])]
  unfold Oper.still
  rw [eval_env, he, hr]
  refine ⟨rfl, ?_⟩
  rw [hd]
  exact k _ (ha.put _ _) (by rw [env_put ha hN, he])
theorem WpT_enter {o : Oper} (hg : o.guard = none) {d : Nat} (hd : o.dst = some d) (hN : d < N) {f : FuncId} {args : Array Value} {v : Value}
    (hr : (execOp (ev σ) o).run P w = .ok (.enter f args) w) (hc : Ret P f args w fun v' w' => v' = v ∧ w' = w) (k : WpT P N ops w K Q n rest (upd σ d v)) : WpT P N ops w K Q (n + 1) (o :: rest) σ := by
  intro a ha he
  simp only [List.take_succ_cons, List.drop_succ_cons]
  unfold wpStill
  rw [if_pos (by simp [Region.wanted, hg])]
  unfold Oper.still
  rw [eval_env, he, hr]
  refine ⟨rfl, v, Calls.mono hc ?_, ?_⟩
  · rintro e w' ⟨v', rfl, rfl, rfl⟩; exact ⟨rfl, rfl⟩
  · rw [hd]
    exact k _ (ha.put _ _) (by rw [env_put ha hN, he])
theorem WpT_guard_any {d : Nat} {op : Op} {ty : TypeId} {pos : String} {af : Array Edge} {j : Nat} {b : Bool} {oj : Oper} {dj : Nat} {gv u : Value}
    (hj : ops[j]? = some oj) (hdj : oj.dst = some dj) (hN : dj < N) (hd : d < N) (hy : σ dj = gv)
    (h : (gv = .bool b ∧ (execOp (ev σ) ⟨some d, op, ty, pos, af, none⟩).run P w = .ok (.value u) w) ∨ ((gv = .bool (!b) ∨ gv = undef) ∧ u = undef))
    (k : WpT P N ops w K Q n rest (upd σ d u)) : WpT P N ops w K Q (n + 1) (⟨some d, op, ty, pos, af, some (j, b)⟩ :: rest) σ := by
  intro a ha he
  simp only [List.take_succ_cons, List.drop_succ_cons]
  have hk := k _ (ha.put (some d) u) (by rw [env_put ha hd, he])
  have h2 : a.tmps.getD dj undef = gv := by rw [← hy, ← he]; rfl
  have hlt : dj < a.tmps.size := by rw [ha.size]; exact hN
  have h3 : a.tmps[dj]? = some gv := by rw [Array.getElem?_eq_getElem hlt]; simpa [hlt] using h2
  unfold wpStill
  rcases h with ⟨h1, h4⟩ | ⟨h1, rfl⟩
  · subst h1
    rw [if_pos (by simp [Region.wanted, yielded, hj, hdj, h3])]
    unfold Oper.still
    have h5 : (execOp a.eval ⟨some d, op, ty, pos, af, some (j, b)⟩).run P w = .ok (.value u) w := by rw [eval_env, he]; exact h4
    rw [h5]
    exact ⟨rfl, hk⟩
  · rw [if_neg]
    · exact hk
    · rcases h1 with rfl | rfl
      · cases b <;> simp [Region.wanted, yielded, hj, hdj, h3]
      · simp [Region.wanted, yielded, hj, hdj, h3, undef]
theorem WpT_guard_yes {dst : Option Tmp} {op : Op} {ty : TypeId} {pos : String} {af : Array Edge} {j : Nat} {b : Bool} {oj : Oper} {dj : Nat}
    (hj : ops[j]? = some oj) (hdj : oj.dst = some dj) (hN : dj < N) (hy : σ dj = .bool b)
    (k : WpT P N ops w K Q (n + 1) (⟨dst, op, ty, pos, af, none⟩ :: rest) σ) : WpT P N ops w K Q (n + 1) (⟨dst, op, ty, pos, af, some (j, b)⟩ :: rest) σ := by
  intro a ha he
  have h1 := k a ha he
  simp only [List.take_succ_cons, List.drop_succ_cons] at h1 ⊢
  have h2 : a.tmps.getD dj undef = .bool b := by rw [← hy, ← he]; rfl
  have hlt : dj < a.tmps.size := by rw [ha.size]; exact hN
  have h3 : a.tmps[dj]? = some (.bool b) := by rw [Array.getElem?_eq_getElem hlt]; simpa [hlt] using h2
  unfold wpStill at h1 ⊢
  rw [if_pos (by simp [Region.wanted, yielded, hj, hdj, h3])]
  rw [if_pos (by rfl)] at h1
  exact h1
theorem WpT_guard_no {d : Nat} {op : Op} {ty : TypeId} {pos : String} {af : Array Edge} {j : Nat} {b : Bool} {oj : Oper} {dj : Nat} {v : Value}
    (hj : ops[j]? = some oj) (hdj : oj.dst = some dj) (hd : d < N ∧ dj < N) (hy : σ dj = v) (hv : v = .bool (!b) ∨ v = undef)
    (k : WpT P N ops w K Q n rest (upd σ d undef)) : WpT P N ops w K Q (n + 1) (⟨some d, op, ty, pos, af, some (j, b)⟩ :: rest) σ :=
  WpT_guard_any hj hdj hd.2 hd.1 hy (.inr ⟨hv, rfl⟩) k
theorem drew_ext (w : World) : Ext w { w with drawn := w.drawn + 1 } := ⟨rfl, rfl, rfl, Nat.le_succ _, Nat.le_refl _, fun _ _ _ => rfl⟩
theorem Wp_draw {id : Nat} {l : List Oper} (n : Nat) (hm : P.follows .mixedOrders = true) (hB : Region.lexTailB .any l.toArray n = true)
    (h : ∀ w', Ext w w' → w'.heap = w.heap → WpT P N l.toArray w' (Q .normal) Q n l σ) : Wp P N (.region id l.toArray true) Q σ w := by
  intro a ha he
  have e : lift N (thn (Q .normal) Q) = lift N Q := by funext e a w; cases e <;> rfl
  refine wp_region_still_tail n hm hB ?_
  have h1 := h _ (drew_ext w) rfl a ha he
  have : (fun a' => Ok N a' ∧ WpL P N l.toArray (Q .normal) Q (l.drop n) (env a') { w with drawn := w.drawn + 1 }) = (fun a' => Ok N a' ∧ WpL P N l.toArray (Q .normal) Q (l.drop n) (env a') { w with drawn := w.drawn + 1 }) := rfl
  refine wpStill_post ?_ _ _ h1
  rintro a' ⟨ha', hk⟩
  have := hk a' ha' rfl
  rwa [e] at this
theorem Wp_seq_draw {id : Nat} {l : List Oper} {y : Code} (n : Nat) (hm : P.follows .mixedOrders = true) (hB : Region.lexTailB .any l.toArray n = true)
    (h : ∀ w', Ext w w' → w'.heap = w.heap → WpT P N l.toArray w' (Wp P N y Q) Q n l σ) : Wp P N (.seq (.region id l.toArray true) y) Q σ w := by
  refine Wp_seq ?_
  refine Wp_draw n hm hB fun w' e he => ?_
  have : thn (Wp P N y Q) Q .normal = Wp P N y Q := rfl
  intro a ha hae
  have h1 := h w' e he a ha hae
  refine wpStill_post ?_ _ _ h1
  rintro a' ⟨ha', hk⟩
  refine ⟨ha', fun a2 h2 h3 => ?_⟩
  have h4 := hk a2 h2 h3
  have e2 : lift N (thn (thn (Wp P N y Q) Q .normal) (thn (Wp P N y Q) Q)) = lift N (thn (Wp P N y Q) Q) := by funext e a w; cases e <;> rfl
  rw [e2]
  exact h4
end

/-! Wraps that do nothing. -/
theorem wI64 {n : Int} (h : -9223372036854775808 ≤ n ∧ n ≤ 9223372036854775807) : IntKind.i64.wrap n = n := by
  simp only [IntKind.wrap, IntKind.bits, IntKind.signed, Bool.true_and, Bool.false_and, decide_eq_true_eq, ge_iff_le, Int.reducePow, Nat.reduceSub, Bool.false_eq_true, if_false]
  split <;> omega
theorem wU64 {n : Int} (h : 0 ≤ n ∧ n ≤ 18446744073709551615) : IntKind.u64.wrap n = n := by
  simp only [IntKind.wrap, IntKind.bits, IntKind.signed, Bool.true_and, Bool.false_and, decide_eq_true_eq, ge_iff_le, Int.reducePow, Nat.reduceSub, Bool.false_eq_true, if_false]
  omega
theorem wU32 {n : Int} (h : 0 ≤ n ∧ n ≤ 4294967295) : IntKind.u32.wrap n = n := by
  simp only [IntKind.wrap, IntKind.bits, IntKind.signed, Bool.true_and, Bool.false_and, decide_eq_true_eq, ge_iff_le, Int.reducePow, Nat.reduceSub, Bool.false_eq_true, if_false]
  omega
theorem wU8 {n : Int} (h : 0 ≤ n ∧ n ≤ 255) : IntKind.u8.wrap n = n := by
  simp only [IntKind.wrap, IntKind.bits, IntKind.signed, Bool.true_and, Bool.false_and, decide_eq_true_eq, ge_iff_le, Int.reducePow, Nat.reduceSub, Bool.false_eq_true, if_false]
  omega
theorem wI32 {n : Int} (h : -2147483648 ≤ n ∧ n ≤ 2147483647) : IntKind.i32.wrap n = n := by
  simp only [IntKind.wrap, IntKind.bits, IntKind.signed, Bool.true_and, Bool.false_and, decide_eq_true_eq, ge_iff_le, Int.reducePow, Nat.reduceSub, Bool.false_eq_true, if_false]
  split <;> omega

theorem Wp_cut {P : Program} {N : Nat} {Q : Post} {σ : Env} {w : World} {x y : Code} (J : Env → World → Prop) (h : Wp P N x (thn J Q) σ w) (k : ∀ σ' w', J σ' w' → Wp P N y Q σ' w') : Wp P N (.seq x y) Q σ w :=
  Wp_seq (Wp_mono h fun e σ' w' q => by cases e <;> first | exact k _ _ q | exact q)

/-! Results that lie in memory. -/
theorem fin_tmp3 {P : Program} {fn : Func} {R : Value → World → Prop} {t u s : Nat} (hr : fn.results = #[.tmp t, .tmp u, .tmp s]) {σ : Env} {w : World} {v v' v'' : Value} (hv : σ t = v) (hv' : σ u = v') (hv'' : σ s = v'') (h : R (.tuple #[v, v', v'']) w) : fin P fn R .ret σ w :=
  ⟨.tuple #[v, v', v''], fun a ha => by subst ha; rw [← hv, ← hv', ← hv'']; simp [results, hr, env], h⟩
theorem run_loadVar {P : Program} {w : World} {b o n : Nat} {t : TypeId} {vs : List Value} (hf : aggB P t = true) (hs : Siz P t n) (hn : vs.length = n) (hc : CellsAt w b o vs) : (loadVar t ⟨b, o, none⟩).run P w = .ok (.agg vs.toArray) w := by
  subst hn
  have h1 := run_loadCells_list (P := P) w ⟨b, o, none⟩ vs (fun j v hj => by rw [Addr.add_lit]; exact hc j v hj)
  simp [loadVar, aggB.run hf, hs.run, h1]
theorem fin_agg {P : Program} {fn : Func} {R : Value → World → Prop} {a0 t b n : Nat} (hr : fn.results = #[.cell a0 t]) {σ : Env} {w : World} {vs : List Value} (hv : σ a0 = .pointer (some ⟨b, 0, none⟩)) (hf : aggB P t = true) (hs : Siz P t n) (hn : vs.length = n) (hc : CellsAt w b 0 vs) (h : R (.agg vs.toArray) w) : fin P fn R .ret σ w :=
  ⟨.agg vs.toArray, fun a ha => by
    subst ha
    have hv' : a.tmps.getD a0 undef = .pointer (some ⟨b, 0, none⟩) := hv
    simp only [Array.getD_eq_getD_getElem?] at hv'
    simp [results, hr, hv', asAddr, run_loadVar hf hs hn hc], h⟩
theorem fin_agg_tmp {P : Program} {fn : Func} {R : Value → World → Prop} {a0 t b n u : Nat} (hr : fn.results = #[.cell a0 t, .tmp u]) {σ : Env} {w : World} {vs : List Value} {v' : Value} (hv : σ a0 = .pointer (some ⟨b, 0, none⟩)) (hf : aggB P t = true) (hs : Siz P t n) (hn : vs.length = n) (hc : CellsAt w b 0 vs) (hv' : σ u = v') (h : R (.tuple #[.agg vs.toArray, v']) w) : fin P fn R .ret σ w :=
  ⟨.tuple #[.agg vs.toArray, v'], fun a ha => by
    subst ha
    have h0 : a.tmps.getD a0 undef = .pointer (some ⟨b, 0, none⟩) := hv
    have h1 : a.tmps.getD u undef = v' := hv'
    simp only [Array.getD_eq_getD_getElem?] at h0 h1
    simp [results, hr, h0, h1, asAddr, run_loadVar hf hs hn hc], h⟩
theorem fin_cell {P : Program} {fn : Func} {R : Value → World → Prop} {a0 t b : Nat} (hr : fn.results = #[.cell a0 t]) {σ : Env} {w : World} {v : Value} (hv : σ a0 = .pointer (some ⟨b, 0, none⟩)) (hf : flatB P t = true) (hc : w.cell? ⟨b, 0, none⟩ = some v) (h : R v w) : fin P fn R .ret σ w :=
  ⟨v, fun a ha => by
    subst ha
    have hv' : a.tmps.getD a0 undef = .pointer (some ⟨b, 0, none⟩) := hv
    simp only [Array.getD_eq_getD_getElem?] at hv'
    simp [results, hr, hv', asAddr, loadVar, flatB.run hf, hc], h⟩
end Go.Eng
