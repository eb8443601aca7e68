/- Contracts and plain lemmas, part 5. -/
import Derived.Tactics
import Derived.Deep.Quiet
import Derived.Laws.AppendOwn
import Derived.KernelRfl
import Derived.Laws.Entries
import Derived.Laws.Build
import Derived.Below
import Derived.RowKit3
import Derived.StillTail
import Derived.Sort.Grow
import Derived.Deep.Draws
import Derived.Test.YtllhcafmcbibbaaChecked
import Derived.Laws.StructEq
import Derived.MapKept
import Derived.Laws.BytesArg
import Derived.DeepKeys3
import Derived.Defers
import Derived.Recover
import Derived.Shelf.Sort.Plain
import Derived.Shelf.Slices.CompactI
import Derived.Test.YtllhcafmcbibbaaProg
import Derived.Shelf.Small.Bits
import Derived.OpenShut
import Derived.ChangeSlices
import Derived.Test.YtllhcafmcbibbaaRows
import Derived.Test.YtllhcafmcbibbaaZm4
namespace Go.Proofs
open Go Go.Eng
set_option maxRecDepth 100000
def rowA (f : List (List Nat)) (a : Nat) : List Nat := f.getD a []
theorem rowA_some {f : List (List Nat)} {a : Nat} {l : List Nat} (h : f[a]? = some l) : rowA f a = l := by unfold rowA; rw [List.getD_eq_getElem?_getD, h]; rfl
theorem rowA_none {f : List (List Nat)} {a : Nat} (h : f[a]? = none) : rowA f a = [] := by unfold rowA; rw [List.getD_eq_getElem?_getD, h]; rfl
theorem rowA_congr {f f' : List (List Nat)} {a : Nat} (h : f[a]? = f'[a]?) : rowA f a = rowA f' a := by unfold rowA; rw [List.getD_eq_getElem?_getD, List.getD_eq_getElem?_getD, h]
theorem rowA_lnk {f : List (List Nat)} {src to : List Nat} (hd : src.Nodup) {a b : Nat} (ha : a < f.length) : b ∈ rowA (lnk f src to) a ↔ b ∈ rowA f a ∨ (a ∈ src ∧ b ∈ to) := by
 have h := lnk_get src f to a hd
 obtain ⟨l, hl⟩ := get_of_lt (l := f) (i := a) ha
 rw [hl, Option.map_some] at h
 rw [rowA_some h, rowA_some hl]
 by_cases hs : a ∈ src
 ·rw [if_pos hs, List.mem_append]; simp [hs]
 ·rw [if_neg hs]; simp [hs]
theorem rowA_out {f : List (List Nat)} {a : Nat} (h : f.length ≤ a) : rowA f a = [] := rowA_none (List.getElem?_eq_none h)
/-- The meaning of what was added. -/
structure MnG (g0 g : GS) (p : Pt) (c : Bool) (F L : List Int) (T : List (Int × Int)) : Prop where
 nul : p.nul = c
 fst : ∀ t : Nat, t ∈ p.fst ↔ (t : Int) ∈ F
 lst : ∀ t : Nat, t ∈ p.lst ↔ (t : Int) ∈ L
 row : ∀ a b : Nat, g0.sets.length < a → (b ∈ rowA g.fol a ↔ ((a : Int), (b : Int)) ∈ T)
 low : ∀ a b : Int, (a, b) ∈ T → (g0.sets.length : Int) < a
 lowL : ∀ a : Int, a ∈ L → (g0.sets.length : Int) < a
theorem MnG.up {g0 g : GS} {p : Pt} {c : Bool} {F L : List Int} {T : List (Int × Int)} (h : MnG g0 g p c F L T) {a b : Nat} (hab : ((a : Int), (b : Int)) ∈ T) : a < g.fol.length := by
 have h1 := h.low _ _ hab
 have h2 := (h.row a b (by omega)).2 hab
 rcases Nat.lt_or_ge a g.fol.length with h3 | h3
 ·exact h3
 ·rw [rowA_out h3] at h2; cases h2
theorem MnG.cat {c C : Nat} {g0 g g1 : GS} {o p : Pt} {n1 n2 : Bool} {F1 F2 L1 L2 : List Int} {T1 T2 : List (Int × Int)} (h : MnG g0 g o n1 F1 L1 T1) (k : MnG g g1 p n2 F2 L2 T2) (hg : GSt1 c g0 g o) (kg : GSt1 C g g1 p)
  {F L : List Int} {T : List (Int × Int)} (hF : ∀ x, x ∈ F ↔ x ∈ F1 ∨ (n1 = true ∧ x ∈ F2)) (hL : ∀ x, x ∈ L ↔ (n2 = true ∧ x ∈ L1) ∨ x ∈ L2) (hT : ∀ q, q ∈ T ↔ q ∈ T1 ∨ q ∈ T2 ∨ (q.1 ∈ L1 ∧ q.2 ∈ F2)) : MnG g0 (catG g1 o p) (catP o p) (n1 && n2) F L T := by
 have hle := hg.le
 have kle := kg.le
 have hgi := hg.inv.1
 have kgi := kg.inv.1
 refine ⟨by show (o.nul && p.nul) = _; rw [h.nul, k.nul], fun t => ?_, fun t => ?_, fun a b ha => ?_, fun a b hab => ?_, fun a ha => ?_⟩
 ·rw [hF]
  show t ∈ (if o.nul then o.fst ++ p.fst else o.fst) ↔ _
  rw [h.nul]
  cases n1
  ·simp [h.fst]
  ·simp [h.fst, k.fst]
 ·rw [hL]
  show t ∈ (if p.nul then o.lst ++ p.lst else p.lst) ↔ _
  rw [k.nul]
  cases n2
  ·simp [k.lst]
  ·simp [h.lst, k.lst]
 ·rw [hT]
  show b ∈ rowA (lnk g1.fol o.lst p.fst) a ↔ _
  rcases Nat.lt_or_ge g.sets.length a with h1 | h1
  ·have hno : ¬ ((a : Int), (b : Int)) ∈ T1 := fun hm => by have := h.up hm; omega
   have hnl : a ∉ o.lst := fun hm => by have := (hg.lst.2.1 a hm).2; omega
   have hnL : ¬ (a : Int) ∈ L1 := fun hm => hnl ((h.lst a).2 hm)
   rcases Nat.lt_or_ge a g1.fol.length with h2 | h2
   ·rw [rowA_lnk hg.lst.nodup h2, k.row a b h1]
    constructor
    ·rintro (h3 | h3)
     ·exact .inr (.inl h3)
     ·exact absurd h3.1 hnl
    ·rintro (h3 | h3 | h3)
     ·exact absurd h3 hno
     ·exact .inl h3
     ·exact absurd h3.1 hnL
   ·rw [rowA_out (by rw [lnk_len]; exact h2)]
    refine ⟨fun h => (by cases h), ?_⟩
    rintro (h3 | h3 | h3)
    ·exact absurd h3 hno
    ·have := k.up h3; omega
    ·exact absurd h3.1 hnL
  ·have hno : ¬ ((a : Int), (b : Int)) ∈ T2 := fun hm => by have := k.low _ _ hm; omega
   rw [rowA_lnk hg.lst.nodup (by omega), rowA_congr (kg.old a h1), h.row a b ha]
   constructor
   ·rintro (h3 | h3)
    ·exact .inl h3
    ·exact .inr (.inr ⟨(h.lst a).1 h3.1, (k.fst b).1 h3.2⟩)
   ·rintro (h3 | h3 | h3)
    ·exact .inl h3
    ·exact absurd h3 hno
    ·exact .inr ⟨(h.lst a).2 h3.1, (k.fst b).2 h3.2⟩
 ·rcases (hT _).1 hab with h3 | h3 | h3
  ·exact h.low a b h3
  ·have := k.low a b h3; omega
  ·exact h.lowL a h3.1
 ·rcases (hL _).1 ha with h3 | h3
  ·exact h.lowL a h3.2
  ·have := k.lowL a h3; omega
theorem MnG.alt {c C : Nat} {g0 g g1 : GS} {o p : Pt} {n1 n2 : Bool} {F1 F2 L1 L2 : List Int} {T1 T2 : List (Int × Int)} (h : MnG g0 g o n1 F1 L1 T1) (k : MnG g g1 p n2 F2 L2 T2) (hg : GSt1 c g0 g o) (kg : GSt1 C g g1 p)
  {F L : List Int} {T : List (Int × Int)} (hF : ∀ x, x ∈ F ↔ x ∈ F1 ∨ x ∈ F2) (hL : ∀ x, x ∈ L ↔ x ∈ L1 ∨ x ∈ L2) (hT : ∀ q, q ∈ T ↔ q ∈ T1 ∨ q ∈ T2) : MnG g0 g1 (altP o p) (n1 || n2) F L T := by
 have hle := hg.le
 have hgi := hg.inv.1
 refine ⟨by show (o.nul || p.nul) = _; rw [h.nul, k.nul], fun t => ?_, fun t => ?_, fun a b ha => ?_, fun a b hab => ?_, fun a ha => ?_⟩
 ·rw [hF]; show t ∈ o.fst ++ p.fst ↔ _; rw [List.mem_append, h.fst, k.fst]
 ·rw [hL]; show t ∈ o.lst ++ p.lst ↔ _; rw [List.mem_append, h.lst, k.lst]
 ·rw [hT]
  rcases Nat.lt_or_ge g.sets.length a with h1 | h1
  ·have hno : ¬ ((a : Int), (b : Int)) ∈ T1 := fun hm => by have := h.up hm; omega
   rw [k.row a b h1]
   exact ⟨.inr, fun h3 => h3.resolve_left hno⟩
  ·have hno : ¬ ((a : Int), (b : Int)) ∈ T2 := fun hm => by have := k.low _ _ hm; omega
   rw [rowA_congr (kg.old a h1), h.row a b ha]
   exact ⟨.inl, fun h3 => h3.resolve_right hno⟩
 ·rcases (hT _).1 hab with h3 | h3
  ·exact h.low a b h3
  ·have := k.low a b h3; omega
 ·rcases (hL _).1 ha with h3 | h3
  ·exact h.lowL a h3
  ·have := k.lowL a h3; omega
theorem MnG.star {C : Nat} {g0 g : GS} {p : Pt} {n1 : Bool} {F1 L1 : List Int} {T1 : List (Int × Int)} (h : MnG g0 g p n1 F1 L1 T1) (hg : GSt1 C g0 g p)
  {F L : List Int} {T : List (Int × Int)} (hF : ∀ x, x ∈ F ↔ x ∈ F1) (hL : ∀ x, x ∈ L ↔ x ∈ L1) (hT : ∀ q, q ∈ T ↔ q ∈ T1 ∨ (q.1 ∈ L1 ∧ q.2 ∈ F1)) : MnG g0 (catG g p p) ⟨true, p.fst, p.lst⟩ true F L T := by
 have hgi := hg.inv.1
 refine ⟨rfl, fun t => by rw [hF]; exact h.fst t, fun t => by rw [hL]; exact h.lst t, fun a b ha => ?_, fun a b hab => ?_, fun a ha => h.lowL a ((hL a).1 ha)⟩
 ·rw [hT]
  show b ∈ rowA (lnk g.fol p.lst p.fst) a ↔ _
  rcases Nat.lt_or_ge a g.fol.length with h2 | h2
  ·rw [rowA_lnk hg.lst.nodup h2, h.row a b ha, h.lst, h.fst]
  ·rw [rowA_out (by rw [lnk_len]; exact h2)]
   refine ⟨fun h => (by cases h), ?_⟩
   rintro (h3 | h3)
   ·have := h.up h3; omega
   ·have h4 := (h.lst a).2 h3.1
    have := (hg.lst.2.1 a h4).2; omega
 ·rcases (hT _).1 hab with h3 | h3
  ·exact h.low a b h3
  ·exact h.lowL a h3.1
theorem MnG.nil (g : GS) (hg : GI g) (b : Bool) : MnG g g ⟨b, [], []⟩ b [] [] [] := by
 refine ⟨rfl, fun t => by simp, fun t => by simp, fun a b ha => ?_, fun a b h => (by cases h), fun a h => (by cases h)⟩
 rw [rowA_out (by have := hg.1; omega)]
 simp
theorem catB_all (last : Bool) : ∀ (ns : List Re) (m : List (Bool × List Int)) (x : Int), x ∈ catB (ns.map (prB last) ++ m) ↔ x ∈ catB (ns.map (prB last)) ∨ (ns.all canR = true ∧ x ∈ catB m)
  | [], m, x => by simp [catB]
  | y :: ns, m, x => by
    simp only [List.map_cons, List.cons_append, catB, List.all_cons, Bool.and_eq_true]
    cases hc : canR y
    · simp [prB, hc]
    · have h := catB_all last ns m x
      simp only [prB, hc, if_true, List.mem_append, h, true_and, or_assoc]
theorem folB_app (b : List Int) : ∀ (ns : List Re) (z : Re) (q : Int × Int), q ∈ folB b (ns ++ [z]) ↔ q ∈ folB b ns ∨ (ns.all canR = true ∧ q.1 ∈ b ∧ q.2 ∈ bordR false z)
  | [], z, q => by
    simp only [List.nil_append, folB, List.all_nil, true_and]
    cases canR z <;> simp [prodI_mem]
  | y :: ns, z, q => by
    simp only [List.cons_append, folB, List.all_cons, Bool.and_eq_true, List.mem_append]
    cases hc : canR y
    · simp
    · have h := folB_app b ns z q
      simp only [if_true, h, true_and, or_assoc]
theorem lastB_cons (ns : List Re) (y : Re) (x : Int) : x ∈ catB ((y :: ns).reverse.map (prB true)) ↔ x ∈ catB (ns.reverse.map (prB true)) ∨ (ns.all canR = true ∧ x ∈ bordR true y) := by
 rw [List.reverse_cons, List.map_append, catB_all]
 have h1 : ns.reverse.all canR = ns.all canR := List.all_reverse
 rw [h1]
 have h2 : catB ([y].map (prB true)) = bordR true y := by
  simp only [List.map_cons, List.map_nil, catB, prB]
  cases canR y <;> simp
 rw [h2]
theorem stL_app (z : Re) : ∀ (ns : List Re) (q : Int × Int), q ∈ stL 3 (ns ++ [z]) ↔ q ∈ stL 3 ns ∨ q ∈ stR z ∨ (q.1 ∈ catB (ns.reverse.map (prB true)) ∧ q.2 ∈ bordR false z)
  | [], q => by simp [stL, stN, folB, catB]
  | y :: ns, q => by
    have h := stL_app z ns q
    have h2 := folB_app (bordR true y) ns z q
    have h3 := lastB_cons ns y q.1
    have e : ∀ l, stN 3 y l = folB (bordR true y) l := fun l => by unfold stN; rw [if_neg (by decide), if_pos rfl]
    rw [h3]
    simp only [List.cons_append, stL, e, List.mem_append, h, h2]
    constructor
    · rintro (h4 | (h4 | ⟨h4, h5, h6⟩) | h4 | h4 | h4)
      · exact .inl (.inl h4)
      · exact .inl (.inr (.inl h4))
      · exact .inr (.inr ⟨.inr ⟨h4, h5⟩, h6⟩)
      · exact .inl (.inr (.inr h4))
      · exact .inr (.inl h4)
      · exact .inr (.inr ⟨.inl h4.1, h4.2⟩)
    · rintro ((h4 | h4 | h4) | h4 | ⟨h4 | h4, h5⟩)
      · exact .inl h4
      · exact .inr (.inl (.inl h4))
      · exact .inr (.inr (.inl h4))
      · exact .inr (.inr (.inr (.inl h4)))
      · exact .inr (.inr (.inr (.inr ⟨h4, h5⟩)))
      · exact .inr (.inl (.inr ⟨h4.1, h4.2, h5⟩))
theorem st4_app (z : Re) : ∀ (ns : List Re) (q : Int × Int), q ∈ stL 4 (ns ++ [z]) ↔ q ∈ stL 4 ns ∨ q ∈ stR z
  | [], q => by simp [stL, stN]
  | y :: ns, q => by
    have h := st4_app z ns q
    have e : ∀ l, stN 4 y l = [] := fun l => by unfold stN; rw [if_neg (by decide), if_neg (by decide)]
    simp only [List.cons_append, stL, e, List.mem_append, h, List.not_mem_nil, false_or, or_assoc]
end Go.Proofs
namespace Go.Proofs
open Go Go.Eng Go.Sort
set_option maxRecDepth 100000
theorem own_other {w : World} {base e sz n base' e' sz' n' : Nat} {v v' : Value} {xs xs' : List Value} (h : w.ownsRow base e sz v n xs) (h' : w.ownsRow base' e' sz' v' n' xs') (he : e ≠ e') {k : Nat} (hk : v.ownBlock = some k) : v'.ownBlock ≠ some k := by
 intro hk'
 rcases h.2 with ⟨rfl, _⟩ | ⟨g, cap, cur, rfl, _, hg, _⟩
 ·cases hk
 rcases h'.2 with ⟨rfl, _⟩ | ⟨g', cap', cur', rfl, _, hg', _⟩
 ·cases hk'
 ·cases hk; cases hk'
  rw [hg] at hg'
  simp only [Option.some.injEq] at hg'
  injection hg' with h1 h2
  exact he (by first | exact h1 | exact h2)
theorem own_some {w : World} {base e sz n : Nat} {v : Value} {xs : List Value} (h : w.ownsRow base e sz v n xs) : n = 0 ∨ ∃ b, v.ownBlock = some b := by
 rcases h.2 with ⟨rfl, _⟩ | ⟨g, cap, cur, rfl, _⟩
 ·left; have := h.1; simp_all
 ·exact .inr ⟨g, rfl⟩
def cloG (l : List Sp) (z : Nat) : Fct := fun v w => OwnS w z v l
theorem cloG_chg {U : Nat → Prop} {l : List Sp} {z : Nat} (h : ∀ y, U y → y < z) : ∀ v w w', Chg U w w' → cloG l z v w → cloG l z v w' := by
 rintro v w w' c ⟨h1, h2⟩
 exact ⟨h1, own_chg h2 c fun k hk hu => by have := (h2.lt k hk).1; have := h k hu; omega⟩
def edG (a b : Int) (l : List Sp) (z : Nat) : Fct := fun v w => ∃ ra rc, v = .agg #[.int .i64 a, .int .i64 b, .slice ra l.length rc] ∧ cloG l z (.slice ra l.length rc) w
theorem edG_chg {U : Nat → Prop} {a b : Int} {l : List Sp} {z : Nat} (h : ∀ y, U y → y < z) : ∀ v w w', Chg U w w' → edG a b l z v w → edG a b l z v w' := by
 rintro v w w' c ⟨ra, rc, h1, h2⟩
 exact ⟨ra, rc, h1, cloG_chg h _ _ _ c h2⟩
def elG (a b : Int) (l : List Sp) (z : Nat) : Fct := fun v w => ∃ q ra rc, v = .slice (some ⟨q, 0, none⟩) 1 1 ∧ Blk w q #[.int .i64 a, .int .i64 b, .slice ra l.length rc] TEd ∧ z ≤ q ∧ cloG l z (.slice ra l.length rc) w
theorem elG_chg {U : Nat → Prop} {a b : Int} {l : List Sp} {z : Nat} (h : ∀ y, U y → y < z) : ∀ v w w', Chg U w w' → elG a b l z v w → elG a b l z v w' := by
 rintro v w w' c ⟨q, ra, rc, h1, h2, h3, h4⟩
 exact ⟨q, ra, rc, h1, c.keep (fun hu => by have := h q hu; omega) h2, h3, cloG_chg h _ _ _ c h4⟩
theorem DoesT_litE {M : Nat → Prop} {N : Nat} {σ : Env} {w : World} {dst : Option Tmp} {ty : TypeId} {pos : String} {af : Array Edge} {g : Option (Nat × Bool)} {x : Operand} {a b : Int} {ra : Option Addr} {rc z : Nat} {l : List Sp} (hx : ev σ x = .agg #[.int .i64 a, .int .i64 b, .slice ra l.length rc]) (hb : z ≤ w.heap.size) (hO : cloG l z (.slice ra l.length rc) w) :
  DoesT M Try.prog N ⟨dst, .buildSlice 28 1 #[(0, x)], ty, pos, af, g⟩ (elG a b l z) σ w := by
 have hn := New.mk' w #[.int .i64 a, .int .i64 b, .slice ra l.length rc] TEd
 exact DoesT_val (run_buildSlice (parts := [(0, x)]) (ps := [(0, .agg #[.int .i64 a, .int .i64 b, .slice ra l.length rc])]) (by simp only [List.map, hx]) Try.underlying28 siz76 zer76 (by decide) (by decide) (by kernel_rfl)) (Ext.chg hn.ext) ⟨_, _, _, rfl, hn.blk, hb, OwnS.ext hO hn.ext⟩
def apG (base m : Nat) (xs : List Value) (old : Value) (z : Nat) (a b : Int) (l : List Sp) : Fct := fun v w => ∃ ra rc, appF base TEd 3 (m + 1) (xs ++ [.int .i64 a, .int .i64 b, .slice ra l.length rc]) old z v w ∧ cloG l z (.slice ra l.length rc) w
theorem apG_ext (base m : Nat) (xs : List Value) (old : Value) (z : Nat) (a b : Int) (l : List Sp) : ∀ v w w', Ext w w' → apG base m xs old z a b l v w → apG base m xs old z a b l v w' := by
 rintro v w w' e ⟨ra, rc, h1, h2⟩
 exact ⟨ra, rc, appF_ext _ _ _ _ _ _ _ _ _ _ e h1, OwnS.ext h2 e⟩
theorem DoesT_appE {M : Nat → Prop} {N : Nat} {σ : Env} {w : World} {dst : Option Tmp} {ty : TypeId} {pos : String} {af : Array Edge} {g : Option (Nat × Bool)} {s x : Operand} {base n q z : Nat} {a b : Int} {ra : Option Addr} {rc : Nat} {l : List Sp} {v : Value} {xs : List Value}
  (he : ev σ s = v) (hown : w.ownsRow base TEd 3 v n xs) (hx : ev σ x = .slice (some ⟨q, 0, none⟩) 1 1) (hB : Blk w q #[.int .i64 a, .int .i64 b, .slice ra l.length rc] TEd) (hO : cloG l z (.slice ra l.length rc) w) (hn : n ≤ 1000000) (hbase : base ≤ w.heap.size) (hM : ∀ y, v.ownBlock = some y → M y) (hMz : ∀ y, M y → y < z) (hz : z ≤ w.heap.size) :
  DoesT M Try.prog N ⟨dst, .call ⟨.builtin .append, #[s, x], #[28, 28]⟩, ty, pos, af, g⟩ (apG base n xs v z a b l) σ w := by
 have h1 : DoesT M Try.prog N ⟨dst, .call ⟨.builtin .append, #[s, x], #[28, 28]⟩, ty, pos, af, g⟩ (appF base TEd 3 (n + 1) (xs ++ [.int .i64 a, .int .i64 b, .slice ra l.length rc]) v z) σ w :=
  DoesT_append Try.underlying28 siz76 byt76 zer76 rfl (by decide) he hown hx rfl (hB.cells rfl) (by intro u hu; simp only [List.mem_cons, List.not_mem_nil, or_false] at hu; rcases hu with rfl | rfl | rfl <;> rfl) (by unfold maxLen; omega) (by omega) hbase hM hz
 exact fun dz a9 ha he9 Q K hK => h1 dz a9 ha he9 Q K fun v9 w9 hx9 hR => hK v9 w9 hx9 ⟨ra, rc, hR, cloG_chg hMz _ _ _ hx9 hO⟩
/-- The edge is the automaton's. -/
theorem TSt.addEdge {F : Nat → Prop} {w0 w w2 : World} {base pb z c1 c2 rc : Nat} {pv : Value} {xa ua ra : Option Addr} {s : ThS} {a b : Int} {l : List Sp} {rows : List (List Value)} (h : TSt F w0 base pb pv (.slice xa s.edges.length c1) s) (c : Chg (fun q => (Value.slice xa s.edges.length c1).ownBlock = some q) w0 w) (hz : z = w0.heap.size) (hrows : EdsF (fun y => F y ∧ base ≤ y) w0 s.edges rows)
  (ho : w.ownsRow base TEd 3 (.slice ua (s.edges.length + 1) c2) (s.edges.length + 1) (rows.flatten ++ [.int .i64 a, .int .i64 b, .slice ra l.length rc])) (hd : ∀ k, (Value.slice ua (s.edges.length + 1) c2).ownBlock = some k → (Value.slice xa s.edges.length c1).ownBlock = some k ∨ z ≤ k) (hK : cloG l z (.slice ra l.length rc) w) (p : Put w w2 pb #[nI s.n, .int .i64 0, .slice none 0 0, pv, .slice ua (s.edges.length + 1) c2] TTh) :
  GrT F w0 base pb pv (.slice xa s.edges.length c1) (fun y => F y ∨ (Value.slice ra l.length rc).ownBlock = some y) pv (.slice ua (s.edges.length + 1) c2) ⟨s.n, s.eps, s.edges ++ [(a, b, l)]⟩ w2 := by
 subst hz
 have hlk := hK.2.lt
 have hbs := h.bs
 refine GrT.edgPut (es := s.edges ++ [(a, b, l)]) (rows := rows ++ [edRow (a, b, l) (.slice ra l.length rc)]) h c (by simpa [edRow, List.flatten_append] using ho) ?_ (fun y hy => .inl hy) (fun y hy => ?_) hd p
 ·refine ((hrows.chg c fun y hy e => h.hxF y e hy.1).mono fun y hy => ⟨.inl hy.1, hy.2⟩).snoc ⟨_, rfl, OwnS.at hK, ?_⟩
  rcases own_some hK.2 with h1 | ⟨k, hk⟩
  ·exact .inl (List.eq_nil_of_length_eq_zero h1)
  ·exact .inr ⟨k, hk, .inr hk, by have := (hlk k hk).1; omega⟩
 ·rcases hy with hy | hy
  ·exact .inl hy
  ·exact .inr ⟨(hlk y hy).1, (hlk y hy).2, own_other hK.2 ho (by decide) hy⟩
end Go.Proofs
namespace Go.Proofs
open Go Go.Eng Go.Sort
set_option maxRecDepth 100000
section
variable {x y : Re} {s s1 : ThS}
theorem tmO_eq (x : Re) (s : ThS) : tmO x s = nodeT x.kind x.set x.mn x.mx (tmL x.args) s := by cases x; rw [tmO]; rfl
theorem tmL_one (ha : x.args = [y]) : tmL x.args = [tmO y] := by rw [ha]; rfl
theorem tm_no (h : newT s = none) : tmO x s = none := by rw [tmO_eq, nodeT, h]; rfl
theorem tm_0 (h : newT s = some (s1, s.n)) (hk : x.kind = 0) : tmO x s = (newT s1).bind fun (s2, b) => some (s2, s.n, b) := by rw [tmO_eq, nodeT, h, Option.bind_some, hk]; rfl
theorem tm_1 (h : newT s = some (s1, s.n)) (hk : x.kind = 1) : tmO x s = some (s1, s.n, s.n) := by rw [tmO_eq, nodeT, h, Option.bind_some, hk]; rfl
theorem tm_2 (h : newT s = some (s1, s.n)) (hk : x.kind = 2) : tmO x s = (newT s1).bind fun (s2, b) => some (edgeT s2 s.n b x.set, s.n, b) := by rw [tmO_eq, nodeT, h, Option.bind_some, hk]; rfl
theorem tm_3 (h : newT s = some (s1, s.n)) (hk : x.kind = 3) : tmO x s = (catT (tmL x.args) s1 s.n).bind fun (s2, b) => some (s2, s.n, b) := by rw [tmO_eq, nodeT, h, Option.bind_some, hk]; rfl
theorem tm_4 (h : newT s = some (s1, s.n)) (hk : x.kind = 4) : tmO x s = (altA (tmL x.args) s1 s.n).bind fun (s2, b) => some (s2, s.n, b) := by
  rw [tmO_eq, nodeT, h, Option.bind_some, hk, altA]
  show ((newT s1).bind fun (s2, e) => (altT e (tmL x.args) s2 s.n).bind fun s3 => some (s3, s.n, e)) = _
  cases h1 : newT s1 with
  | none => rfl
  | some p =>
    simp only [Option.bind_some]
    cases h2 : altT p.2 (tmL x.args) p.1 s.n with
    | none => rfl
    | some q => rfl
theorem tm_9 (h : newT s = some (s1, s.n)) (hk : x.kind = 9) (ha : x.args = [y]) : tmO x s = (tmO y s1).bind fun (s2, a, b) => some (epsT s2 s.n a, s.n, b) := by rw [tmO_eq, nodeT, h, Option.bind_some, hk, tmL_one ha]; rfl
theorem tm_5 (h : newT s = some (s1, s.n)) (hk : x.kind = 5) (ha : x.args = [y]) : tmO x s = (starF (tmO y) s1 s.n).bind fun (s2, e) => some (s2, s.n, e) := by
  rw [tmO_eq, nodeT, h, Option.bind_some, hk, tmL_one ha, starF]
  show ((tmO y s1).bind fun (s2, a, b) => (newT s2).bind fun (s3, e) => some (epsT (epsT (epsT s3 s.n a) s.n e) b s.n, s.n, e)) = _
  cases h1 : tmO y s1 with
  | none => rfl
  | some p =>
    obtain ⟨s2, a, b⟩ := p
    simp only [Option.bind_some]
    cases h2 : newT s2 with
    | none => rfl
    | some q => rfl
theorem tm_6 (h : newT s = some (s1, s.n)) (hk : x.kind = 6) (ha : x.args = [y]) : tmO x s = (repT (tmO y) x.mn s1 s.n x.mx.toNat).bind fun (s2, b) => some (s2, s.n, b) := by rw [tmO_eq, nodeT, h, Option.bind_some, hk, tmL_one ha]; rfl
end
theorem args_one9 {t : Re} (h : t.args.length = 1) : ∃ y, t.args = [y] := by
  match t.args, h with
  | [a], _ => exact ⟨a, rfl⟩
set_option maxHeartbeats 2000000 in
theorem tof0_c (wb : World) (x : Re) (hk : x.kind = 0) : ThOf wb x := by
 intro base pb F w0 pv xv s vs hxt hE hF hP hL
 have hxt0 := hxt
 obtain ⟨sa, sc, aa, ac, rfl, hset, hlen, hargs⟩ := hxt.form
 refine RetX_of Try.func31 rfl Try.ntmps31 (Nat.le_of_ble_eq_true rfl) ?_
 have E : Chg (fun _ => True) w0 w0 := Chg.refl _ _
 refine Wp_seq_region ?_
 refine s_box (v := (.agg (R6 x sa sc aa ac))) (c := (R6 x sa sc aa ac)) (by decide) rfl rfl ?_
 intro br wr Nr
 have Fr := Nr.ge E
 replace E := E.ext Nr.ext
 have Br := Nr.blk
 refine qA _ rfl ?_
 refine qA _ rfl ?_
 refine WpL_nil (Wp_seq_region ?_)
 refine qM _ rfl ?_
 have G1 := (GrT.start hP).frz Nr.ext (b := br) (by rw [Nr.eq]; exact Nat.le_refl _) Br.lt
 refine WpL_enterX rfl rfl (by decide) (r_callF Try.func68 kQ kQ rfl) (tstate_c _ _ base pb _ _ s G1.st hL.2.2) (fun w' h => And.intro rfl ⟨tm_no h.1, G1.pan h.2⟩) ?_
 rintro _ w19 ⟨s1, h1, rfl, G2⟩
 replace Br := G2.chg.keep (G1.st.kept (.inr rfl)) Br
 replace E := E.step G2.chg (fun _ _ _ => trivial)
 have hL1 := hL.new h1
 replace G2 := G1.comp G2
 refine qA _ rfl ?_
 refine WpL_nil (Wp_seq (Wp_seq_region ?_))
 refine qF br 0 0 rfl Try.underlying25 rfl siz3 rfl ?_
 refine qV (r_load rfl flat3 (Br.cell rfl)) ?_
 refine WpL_nil (Wp_block (Wp_seq_region ?_))
 refine qV (r_eql rfl rfl) ?_
 refine qA _ rfl ?_
 refine WpL_nil ?_
 have hc1 : (decide ((x.kind : Int) = 0)) = true := decide_eq_true hk
 refine Wp_cond_true (congrArg Value.bool hc1) ?_
 refine Wp_seq_region ?_
 refine qM _ rfl ?_
 refine qM _ rfl ?_
 refine WpL_enterX rfl rfl (by decide) (r_callF Try.func68 kQ kQ rfl) (tstate_c _ _ base pb _ _ s1 G2.st hL1.2.2) (fun w' h => And.intro rfl ⟨by rw [tm_0 h1 hk, h.1]; rfl, G2.pan h.2⟩) ?_
 rintro _ w29 ⟨s2, h2, rfl, G3⟩
 replace Br := G3.chg.keep (G2.st.kept (.inr rfl)) Br
 replace E := E.step G3.chg (fun _ _ _ => trivial)
 refine qA _ rfl ?_
 refine qA _ rfl ?_
 refine WpL_nil (Wp_ret (inB_ret (thn_ret (finX_ret ?_))))
 refine fin_tmp2 Try.results31 (v := (.int .i64 ((s.n : Nat) : Int))) (v' := (.int .i64 ((s1.n : Nat) : Int))) rfl rfl ?_
 exact ⟨_, _, _, _, _, _, by rw [tm_0 h1 hk, h2]; rfl, rfl, G2.comp G3⟩
set_option maxHeartbeats 2000000 in
theorem tof1_c (wb : World) (x : Re) (hk : x.kind = 1) : ThOf wb x := by
 intro base pb F w0 pv xv s vs hxt hE hF hP hL
 have hxt0 := hxt
 obtain ⟨sa, sc, aa, ac, rfl, hset, hlen, hargs⟩ := hxt.form
 refine RetX_of Try.func31 rfl Try.ntmps31 (Nat.le_of_ble_eq_true rfl) ?_
 have E : Chg (fun _ => True) w0 w0 := Chg.refl _ _
 refine Wp_seq_region ?_
 refine s_box (v := (.agg (R6 x sa sc aa ac))) (c := (R6 x sa sc aa ac)) (by decide) rfl rfl ?_
 intro br wr Nr
 have Fr := Nr.ge E
 replace E := E.ext Nr.ext
 have Br := Nr.blk
 refine qA _ rfl ?_
 refine qA _ rfl ?_
 refine WpL_nil (Wp_seq_region ?_)
 refine qM _ rfl ?_
 have G1 := (GrT.start hP).frz Nr.ext (b := br) (by rw [Nr.eq]; exact Nat.le_refl _) Br.lt
 refine WpL_enterX rfl rfl (by decide) (r_callF Try.func68 kQ kQ rfl) (tstate_c _ _ base pb _ _ s G1.st hL.2.2) (fun w' h => And.intro rfl ⟨tm_no h.1, G1.pan h.2⟩) ?_
 rintro _ w19 ⟨s1, h1, rfl, G2⟩
 replace Br := G2.chg.keep (G1.st.kept (.inr rfl)) Br
 replace E := E.step G2.chg (fun _ _ _ => trivial)
 have hL1 := hL.new h1
 replace G2 := G1.comp G2
 refine qA _ rfl ?_
 refine WpL_nil (Wp_seq (Wp_seq_region ?_))
 refine qF br 0 0 rfl Try.underlying25 rfl siz3 rfl ?_
 refine qV (r_load rfl flat3 (Br.cell rfl)) ?_
 refine WpL_nil (Wp_block (Wp_seq_region ?_))
 refine qV (r_eql rfl rfl) ?_
 refine qA _ rfl ?_
 refine WpL_nil ?_
 have hc1 : (decide ((x.kind : Int) = 0)) = false := decide_eq_false (by omega)
 refine Wp_cond_false (congrArg Value.bool hc1) ?_
 refine Wp_seq_region ?_
 refine qV (r_eql rfl rfl) ?_
 refine qA _ rfl ?_
 refine WpL_nil ?_
 have hc2 : (decide ((x.kind : Int) = 1)) = true := decide_eq_true hk
 refine Wp_cond_true (congrArg Value.bool hc2) ?_
 refine Wp_seq_region ?_
 refine qM _ rfl ?_
 refine qM _ rfl ?_
 refine qA _ rfl ?_
 refine qA _ rfl ?_
 refine WpL_nil (Wp_ret (inB_ret (thn_ret (finX_ret ?_))))
 refine fin_tmp2 Try.results31 (v := (.int .i64 ((s.n : Nat) : Int))) (v' := (.int .i64 ((s.n : Nat) : Int))) rfl rfl ?_
 exact ⟨_, _, _, _, _, _, tm_1 h1 hk, rfl, G2⟩
set_option maxHeartbeats 2000000 in
theorem tof9_c (wb : World) (x : Re) (hk : x.kind = 9) (ha : x.args.length = 1) (hof : ∀ y ∈ x.args, ThOf wb y) : ThOf wb x := by
 intro base pb F w0 pv xv s vs hxt hE hF hP hL
 have hxt0 := hxt
 obtain ⟨sa, sc, aa, ac, rfl, hset, hlen, hargs⟩ := hxt.form
 obtain ⟨y, hy⟩ := args_one9 ha
 have hym : y ∈ x.args := by rw [hy]; exact List.mem_singleton_self y
 obtain ⟨ab, ao, rfl, hres⟩ := args_at hargs (by omega)
 obtain ⟨us, hus, hyt⟩ := hres.get (i := 0) (t := y) (by rw [hy]; rfl)
 have hyt0 := hyt
 obtain ⟨ysa, ysc, yaa, yac, rfl, _, _, _⟩ := hyt.form
 refine RetX_of Try.func31 rfl Try.ntmps31 (Nat.le_of_ble_eq_true rfl) ?_
 have E : Chg (fun _ => True) w0 w0 := Chg.refl _ _
 refine Wp_seq_region ?_
 refine s_box (v := (.agg (R6 x sa sc (some ⟨ab, ao, none⟩) ac))) (c := (R6 x sa sc (some ⟨ab, ao, none⟩) ac)) (by decide) rfl rfl ?_
 intro br wr Nr
 have Fr := Nr.ge E
 replace E := E.ext Nr.ext
 have Br := Nr.blk
 refine qA _ rfl ?_
 refine qA _ rfl ?_
 refine WpL_nil (Wp_seq_region ?_)
 refine qM _ rfl ?_
 have G1 := (GrT.start hP).frz Nr.ext (b := br) (by rw [Nr.eq]; exact Nat.le_refl _) Br.lt
 refine WpL_enterX rfl rfl (by decide) (r_callF Try.func68 kQ kQ rfl) (tstate_c _ _ base pb _ _ s G1.st hL.2.2) (fun w' h => And.intro rfl ⟨tm_no h.1, G1.pan h.2⟩) ?_
 rintro _ w19 ⟨s1, h1, rfl, G2⟩
 replace Br := G2.chg.keep (G1.st.kept (.inr rfl)) Br
 replace E := E.step G2.chg (fun _ _ _ => trivial)
 have hL1 := hL.new h1
 replace G2 := G1.comp G2
 refine qA _ rfl ?_
 refine WpL_nil (Wp_seq (Wp_seq_region ?_))
 refine qF br 0 0 rfl Try.underlying25 rfl siz3 rfl ?_
 refine qV (r_load rfl flat3 (Br.cell rfl)) ?_
 refine WpL_nil (Wp_block (Wp_seq_region ?_))
 refine qV (r_eql rfl rfl) ?_
 refine qA _ rfl ?_
 refine WpL_nil ?_
 have hc1 : (decide ((x.kind : Int) = 0)) = false := decide_eq_false (by omega)
 refine Wp_cond_false (congrArg Value.bool hc1) ?_
 refine Wp_seq_region ?_
 refine qV (r_eql rfl rfl) ?_
 refine qA _ rfl ?_
 refine WpL_nil ?_
 have hc2 : (decide ((x.kind : Int) = 1)) = false := decide_eq_false (by omega)
 refine Wp_cond_false (congrArg Value.bool hc2) ?_
 refine Wp_seq_region ?_
 refine qV (r_eql rfl rfl) ?_
 refine qA _ rfl ?_
 refine WpL_nil ?_
 have hc3 : (decide ((x.kind : Int) = 2)) = false := decide_eq_false (by omega)
 refine Wp_cond_false (congrArg Value.bool hc3) ?_
 refine Wp_seq_region ?_
 refine qV (r_eql rfl rfl) ?_
 refine qA _ rfl ?_
 refine WpL_nil ?_
 have hc4 : (decide ((x.kind : Int) = 3)) = false := decide_eq_false (by omega)
 refine Wp_cond_false (congrArg Value.bool hc4) ?_
 refine Wp_seq_region ?_
 refine qV (r_eql rfl rfl) ?_
 refine qA _ rfl ?_
 refine WpL_nil ?_
 have hc5 : (decide ((x.kind : Int) = 4)) = false := decide_eq_false (by omega)
 refine Wp_cond_false (congrArg Value.bool hc5) ?_
 refine Wp_seq_region ?_
 refine qV (r_eql rfl rfl) ?_
 refine qA _ rfl ?_
 refine WpL_nil ?_
 have hc6 : (decide ((x.kind : Int) = 9)) = true := decide_eq_true hk
 refine Wp_cond_true (congrArg Value.bool hc6) ?_
 refine Wp_seq_region ?_
 refine qM _ rfl ?_
 refine qF br 0 2 rfl Try.underlying25 rfl siz23 rfl ?_
 refine qV (r_load rfl flat23 (Br.cell rfl)) ?_
 refine qV (r_indexSlice (b := ab) (o := ao) (len := x.args.length) (cap := ac) (i := 0) (o' := ao + 0 * 6) rfl rfl rfl Try.underlying23 siz25 (by omega) (by omega)) ?_
 refine qV (r_loadAgg rfl agg25 siz25 rfl (by simpa using hus.ext (G2.base' hP hF hE))) ?_
 refine WpL_enterX rfl rfl (by decide) (r_callF Try.func31 kQ kQ rfl) (hof y hym base pb _ _ _ _ s1 _ hyt0 (G2.base' hP hF hE) (fun q hq => G2.sub q (hF q hq)) G2.st (hL1.le (Nat.zero_le _))) (fun w' h => And.intro rfl ⟨by rw [tm_9 h1 hk hy, h.1]; rfl, G2.pan h.2⟩) ?_
 rintro _ w29 ⟨s2, fx, fy, F2, p2, x2, h2, rfl, G3⟩
 replace Br := G3.chg.keep (G2.st.kept (.inr rfl)) Br
 replace E := E.step G3.chg (fun _ _ _ => trivial)
 have hL2 := (hL1.le (Nat.zero_le _) : LimT s1 0).step (lim_all y _ _ _ _ h2)
 replace G3 := G2.comp G3
 refine qM _ rfl ?_
 refine qV (r_extract rfl rfl) ?_
 refine qV (r_extract rfl rfl) ?_
 refine qA _ rfl ?_
 refine qA _ rfl ?_
 refine WpL_nil (Wp_seq_region ?_)
 refine qM _ rfl ?_
 refine qM _ rfl ?_
 refine qM _ rfl ?_
 refine WpL_enter rfl rfl (by decide) (r_callF Try.func69 kQ kQ rfl) (teps_c _ _ base pb _ _ s2 s.n fx G3.st hL2.small.1) ?_
 rintro _ w39 ⟨p4, G4⟩
 replace E := E.step G4.chg (fun _ _ _ => trivial)
 refine WpL_nil (Wp_seq_region ?_)
 refine qM _ rfl ?_
 refine qM _ rfl ?_
 refine qA _ rfl ?_
 refine qA _ rfl ?_
 refine WpL_nil (Wp_ret (inB_ret (thn_ret (finX_ret ?_))))
 refine fin_tmp2 Try.results31 (v := (.int .i64 ((s.n : Nat) : Int))) (v' := (.int .i64 ((fy : Nat) : Int))) rfl rfl ?_
 exact ⟨_, _, _, _, _, _, by rw [tm_9 h1 hk hy, h2]; rfl, rfl, G3.comp G4⟩
set_option maxHeartbeats 2000000 in
theorem tof5_c (wb : World) (x : Re) (hk : x.kind = 5) (ha : x.args.length = 1) (hof : ∀ y ∈ x.args, ThOf wb y) : ThOf wb x := by
 intro base pb F w0 pv xv s vs hxt hE hF hP hL
 have hxt0 := hxt
 obtain ⟨sa, sc, aa, ac, rfl, hset, hlen, hargs⟩ := hxt.form
 obtain ⟨y, hy⟩ := args_one9 ha
 have hym : y ∈ x.args := by rw [hy]; exact List.mem_singleton_self y
 obtain ⟨ab, ao, rfl, hres⟩ := args_at hargs (by omega)
 obtain ⟨us, hus, hyt⟩ := hres.get (i := 0) (t := y) (by rw [hy]; rfl)
 have hyt0 := hyt
 obtain ⟨ysa, ysc, yaa, yac, rfl, _, _, _⟩ := hyt.form
 refine RetX_of Try.func31 rfl Try.ntmps31 (Nat.le_of_ble_eq_true rfl) ?_
 have E : Chg (fun _ => True) w0 w0 := Chg.refl _ _
 refine Wp_seq_region ?_
 refine s_box (v := (.agg (R6 x sa sc (some ⟨ab, ao, none⟩) ac))) (c := (R6 x sa sc (some ⟨ab, ao, none⟩) ac)) (by decide) rfl rfl ?_
 intro br wr Nr
 have Fr := Nr.ge E
 replace E := E.ext Nr.ext
 have Br := Nr.blk
 refine qA _ rfl ?_
 refine qA _ rfl ?_
 refine WpL_nil (Wp_seq_region ?_)
 refine qM _ rfl ?_
 have G1 := (GrT.start hP).frz Nr.ext (b := br) (by rw [Nr.eq]; exact Nat.le_refl _) Br.lt
 refine WpL_enterX rfl rfl (by decide) (r_callF Try.func68 kQ kQ rfl) (tstate_c _ _ base pb _ _ s G1.st hL.2.2) (fun w' h => And.intro rfl ⟨tm_no h.1, G1.pan h.2⟩) ?_
 rintro _ w19 ⟨s1, h1, rfl, G2⟩
 replace Br := G2.chg.keep (G1.st.kept (.inr rfl)) Br
 replace E := E.step G2.chg (fun _ _ _ => trivial)
 have hL1 := hL.new h1
 replace G2 := G1.comp G2
 refine qA _ rfl ?_
 refine WpL_nil (Wp_seq (Wp_seq_region ?_))
 refine qF br 0 0 rfl Try.underlying25 rfl siz3 rfl ?_
 refine qV (r_load rfl flat3 (Br.cell rfl)) ?_
 refine WpL_nil (Wp_block (Wp_seq_region ?_))
 refine qV (r_eql rfl rfl) ?_
 refine qA _ rfl ?_
 refine WpL_nil ?_
 have hc1 : (decide ((x.kind : Int) = 0)) = false := decide_eq_false (by omega)
 refine Wp_cond_false (congrArg Value.bool hc1) ?_
 refine Wp_seq_region ?_
 refine qV (r_eql rfl rfl) ?_
 refine qA _ rfl ?_
 refine WpL_nil ?_
 have hc2 : (decide ((x.kind : Int) = 1)) = false := decide_eq_false (by omega)
 refine Wp_cond_false (congrArg Value.bool hc2) ?_
 refine Wp_seq_region ?_
 refine qV (r_eql rfl rfl) ?_
 refine qA _ rfl ?_
 refine WpL_nil ?_
 have hc3 : (decide ((x.kind : Int) = 2)) = false := decide_eq_false (by omega)
 refine Wp_cond_false (congrArg Value.bool hc3) ?_
 refine Wp_seq_region ?_
 refine qV (r_eql rfl rfl) ?_
 refine qA _ rfl ?_
 refine WpL_nil ?_
 have hc4 : (decide ((x.kind : Int) = 3)) = false := decide_eq_false (by omega)
 refine Wp_cond_false (congrArg Value.bool hc4) ?_
 refine Wp_seq_region ?_
 refine qV (r_eql rfl rfl) ?_
 refine qA _ rfl ?_
 refine WpL_nil ?_
 have hc5 : (decide ((x.kind : Int) = 4)) = false := decide_eq_false (by omega)
 refine Wp_cond_false (congrArg Value.bool hc5) ?_
 refine Wp_seq_region ?_
 refine qV (r_eql rfl rfl) ?_
 refine qA _ rfl ?_
 refine WpL_nil ?_
 have hc6 : (decide ((x.kind : Int) = 9)) = false := decide_eq_false (by omega)
 refine Wp_cond_false (congrArg Value.bool hc6) ?_
 refine Wp_seq_region ?_
 refine qV (r_eql rfl rfl) ?_
 refine qA _ rfl ?_
 refine WpL_nil ?_
 have hc7 : (decide ((x.kind : Int) = 5)) = true := decide_eq_true hk
 refine Wp_cond_true (congrArg Value.bool hc7) ?_
 refine Wp_seq_region ?_
 refine qM _ rfl ?_
 refine qM _ rfl ?_
 refine qM _ rfl ?_
 refine qF br 0 2 rfl Try.underlying25 rfl siz23 rfl ?_
 refine qV (r_load rfl flat23 (Br.cell rfl)) ?_
 refine qV (r_indexSlice (b := ab) (o := ao) (len := x.args.length) (cap := ac) (i := 0) (o' := ao + 0 * 6) rfl rfl rfl Try.underlying23 siz25 (by omega) (by omega)) ?_
 refine qV (r_loadAgg rfl agg25 siz25 rfl (by simpa using hus.ext (G2.base' hP hF hE))) ?_
 refine WpL_enterX rfl rfl (by decide) (r_callF Try.func71 kQ kQ rfl) (tstar_c wb y (hof y hym) base pb _ _ _ _ s1 s.n _ hyt0 (G2.base' hP hF hE) (fun q hq => G2.sub q (hF q hq)) G2.st (hL1.le (Nat.zero_le _))) (fun w' h => And.intro rfl ⟨by rw [tm_5 h1 hk hy, h.1]; rfl, G2.pan h.2⟩) ?_
 rintro _ w29 ⟨s2, fx, F2, p2, x2, h2, rfl, G3⟩
 replace Br := G3.chg.keep (G2.st.kept (.inr rfl)) Br
 replace E := E.step G3.chg (fun _ _ _ => trivial)
 refine qA _ rfl ?_
 refine qA _ rfl ?_
 refine WpL_nil (Wp_ret (inB_ret (thn_ret (finX_ret ?_))))
 refine fin_tmp2 Try.results31 (v := (.int .i64 ((s.n : Nat) : Int))) (v' := (.int .i64 ((fx : Nat) : Int))) rfl rfl ?_
 exact ⟨_, _, _, _, _, _, by rw [tm_5 h1 hk hy, h2]; rfl, rfl, G2.comp G3⟩
set_option maxHeartbeats 2000000 in
theorem tof4_c (wb : World) (x : Re) (hk : x.kind = 4) (hof : ∀ y ∈ x.args, ThOf wb y) (hsz : x.args.length ≤ 1000000) : ThOf wb x := by
 intro base pb F w0 pv xv s vs hxt hE hF hP hL
 have hxt0 := hxt
 obtain ⟨sa, sc, aa, ac, rfl, hset, hlen, hargs⟩ := hxt.form
 refine RetX_of Try.func31 rfl Try.ntmps31 (Nat.le_of_ble_eq_true rfl) ?_
 have E : Chg (fun _ => True) w0 w0 := Chg.refl _ _
 refine Wp_seq_region ?_
 refine s_box (v := (.agg (R6 x sa sc aa ac))) (c := (R6 x sa sc aa ac)) (by decide) rfl rfl ?_
 intro br wr Nr
 have Fr := Nr.ge E
 replace E := E.ext Nr.ext
 have Br := Nr.blk
 refine qA _ rfl ?_
 refine qA _ rfl ?_
 refine WpL_nil (Wp_seq_region ?_)
 refine qM _ rfl ?_
 have G1 := (GrT.start hP).frz Nr.ext (b := br) (by rw [Nr.eq]; exact Nat.le_refl _) Br.lt
 refine WpL_enterX rfl rfl (by decide) (r_callF Try.func68 kQ kQ rfl) (tstate_c _ _ base pb _ _ s G1.st hL.2.2) (fun w' h => And.intro rfl ⟨tm_no h.1, G1.pan h.2⟩) ?_
 rintro _ w19 ⟨s1, h1, rfl, G2⟩
 replace Br := G2.chg.keep (G1.st.kept (.inr rfl)) Br
 replace E := E.step G2.chg (fun _ _ _ => trivial)
 have hL1 := hL.new h1
 replace G2 := G1.comp G2
 refine qA _ rfl ?_
 refine WpL_nil (Wp_seq (Wp_seq_region ?_))
 refine qF br 0 0 rfl Try.underlying25 rfl siz3 rfl ?_
 refine qV (r_load rfl flat3 (Br.cell rfl)) ?_
 refine WpL_nil (Wp_block (Wp_seq_region ?_))
 refine qV (r_eql rfl rfl) ?_
 refine qA _ rfl ?_
 refine WpL_nil ?_
 have hc1 : (decide ((x.kind : Int) = 0)) = false := decide_eq_false (by omega)
 refine Wp_cond_false (congrArg Value.bool hc1) ?_
 refine Wp_seq_region ?_
 refine qV (r_eql rfl rfl) ?_
 refine qA _ rfl ?_
 refine WpL_nil ?_
 have hc2 : (decide ((x.kind : Int) = 1)) = false := decide_eq_false (by omega)
 refine Wp_cond_false (congrArg Value.bool hc2) ?_
 refine Wp_seq_region ?_
 refine qV (r_eql rfl rfl) ?_
 refine qA _ rfl ?_
 refine WpL_nil ?_
 have hc3 : (decide ((x.kind : Int) = 2)) = false := decide_eq_false (by omega)
 refine Wp_cond_false (congrArg Value.bool hc3) ?_
 refine Wp_seq_region ?_
 refine qV (r_eql rfl rfl) ?_
 refine qA _ rfl ?_
 refine WpL_nil ?_
 have hc4 : (decide ((x.kind : Int) = 3)) = false := decide_eq_false (by omega)
 refine Wp_cond_false (congrArg Value.bool hc4) ?_
 refine Wp_seq_region ?_
 refine qV (r_eql rfl rfl) ?_
 refine qA _ rfl ?_
 refine WpL_nil ?_
 have hc5 : (decide ((x.kind : Int) = 4)) = true := decide_eq_true hk
 refine Wp_cond_true (congrArg Value.bool hc5) ?_
 refine Wp_seq_region ?_
 refine qM _ rfl ?_
 refine qM _ rfl ?_
 refine qM _ rfl ?_
 refine qF br 0 2 rfl Try.underlying25 rfl siz23 rfl ?_
 refine qV (r_load rfl flat23 (Br.cell rfl)) ?_
 refine WpL_enterX rfl rfl (by decide) (r_callF Try.func70 kQ kQ rfl) (talt_c wb x.args hof base pb _ _ _ _ s1 s.n aa ac hlen hargs hsz (G2.base' hP hF hE) (fun q hq => G2.sub q (hF q hq)) G2.st (hL1.le (Nat.zero_le _))) (fun w' h => And.intro rfl ⟨by rw [tm_4 h1 hk, h.1]; rfl, G2.pan h.2⟩) ?_
 rintro _ w29 ⟨s2, fx, F2, p2, x2, h2, rfl, G3⟩
 replace Br := G3.chg.keep (G2.st.kept (.inr rfl)) Br
 replace E := E.step G3.chg (fun _ _ _ => trivial)
 refine qA _ rfl ?_
 refine qA _ rfl ?_
 refine WpL_nil (Wp_ret (inB_ret (thn_ret (finX_ret ?_))))
 refine fin_tmp2 Try.results31 (v := (.int .i64 ((s.n : Nat) : Int))) (v' := (.int .i64 ((fx : Nat) : Int))) rfl rfl ?_
 exact ⟨_, _, _, _, _, _, by rw [tm_4 h1 hk, h2]; rfl, rfl, G2.comp G3⟩
set_option maxHeartbeats 2000000 in
theorem tof3_c (wb : World) (x : Re) (hk : x.kind = 3) (hof : ∀ y ∈ x.args, ThOf wb y) : ThOf wb x := by
 intro base pb F w0 pv xv s vs hxt hE hF hP hL
 have hxt0 := hxt
 obtain ⟨sa, sc, aa, ac, rfl, hset, hlen, hargs⟩ := hxt.form
 refine RetX_of Try.func31 rfl Try.ntmps31 (Nat.le_of_ble_eq_true rfl) ?_
 have E : Chg (fun _ => True) w0 w0 := Chg.refl _ _
 refine Wp_seq_region ?_
 refine s_box (v := (.agg (R6 x sa sc aa ac))) (c := (R6 x sa sc aa ac)) (by decide) rfl rfl ?_
 intro br wr Nr
 have Fr := Nr.ge E
 replace E := E.ext Nr.ext
 have Br := Nr.blk
 refine qA _ rfl ?_
 refine qA _ rfl ?_
 refine WpL_nil (Wp_seq_region ?_)
 refine qM _ rfl ?_
 have G1 := (GrT.start hP).frz Nr.ext (b := br) (by rw [Nr.eq]; exact Nat.le_refl _) Br.lt
 refine WpL_enterX rfl rfl (by decide) (r_callF Try.func68 kQ kQ rfl) (tstate_c _ _ base pb _ _ s G1.st hL.2.2) (fun w' h => And.intro rfl ⟨tm_no h.1, G1.pan h.2⟩) ?_
 rintro _ w19 ⟨s1, h1, rfl, G2⟩
 replace Br := G2.chg.keep (G1.st.kept (.inr rfl)) Br
 replace E := E.step G2.chg (fun _ _ _ => trivial)
 have hL1 := hL.new h1
 replace G2 := G1.comp G2
 refine qA _ rfl ?_
 refine WpL_nil (Wp_seq (Wp_seq_region ?_))
 refine qF br 0 0 rfl Try.underlying25 rfl siz3 rfl ?_
 refine qV (r_load rfl flat3 (Br.cell rfl)) ?_
 refine WpL_nil (Wp_block (Wp_seq_region ?_))
 refine qV (r_eql rfl rfl) ?_
 refine qA _ rfl ?_
 refine WpL_nil ?_
 have hc1 : (decide ((x.kind : Int) = 0)) = false := decide_eq_false (by omega)
 refine Wp_cond_false (congrArg Value.bool hc1) ?_
 refine Wp_seq_region ?_
 refine qV (r_eql rfl rfl) ?_
 refine qA _ rfl ?_
 refine WpL_nil ?_
 have hc2 : (decide ((x.kind : Int) = 1)) = false := decide_eq_false (by omega)
 refine Wp_cond_false (congrArg Value.bool hc2) ?_
 refine Wp_seq_region ?_
 refine qV (r_eql rfl rfl) ?_
 refine qA _ rfl ?_
 refine WpL_nil ?_
 have hc3 : (decide ((x.kind : Int) = 2)) = false := decide_eq_false (by omega)
 refine Wp_cond_false (congrArg Value.bool hc3) ?_
 refine Wp_seq_region ?_
 refine qV (r_eql rfl rfl) ?_
 refine qA _ rfl ?_
 refine WpL_nil ?_
 have hc4 : (decide ((x.kind : Int) = 3)) = true := decide_eq_true hk
 refine Wp_cond_true (congrArg Value.bool hc4) ?_
 refine Wp_seq_region ?_
 refine qM _ rfl ?_
 refine qA _ rfl ?_
 refine WpL_nil (Wp_seq (Wp_seq_region ?_))
 refine qF br 0 2 rfl Try.underlying25 rfl siz23 rfl ?_
 refine qV (r_load rfl flat23 (Br.cell rfl)) ?_
 refine qV (r_lenSlice Try.underlying23 rfl) ?_
 refine qM _ rfl ?_
 refine WpL_nil (Wp_block ?_)
 refine Wp_loop (fun nn_ σ W5 => ∃ (k : Nat) (sk : ThS) (ak : Nat) (Fk : Nat → Prop) (pk : Value) (xk : Value), (∃ jj_, σ = upds jj_ [(0, (P6 pb 0)), (6, (I6 (s.n : Int))), (57, (.slice aa x.args.length ac)), (58, (I6 (x.args.length : Int))), (59, (I6 (k : Int))), (8, (I6 (ak : Int)))]) ∧ Chg (fun _ => True) w0 W5 ∧ (k ≤ x.args.length) ∧ (catT (tmL x.args) s1 s.n = catT (tmL (x.args.drop k)) sk ak) ∧ (GrT F w0 base pb pv xv Fk pk xk sk W5) ∧ (LimT sk 0) ∧ nn_ = x.args.length - k) (n := x.args.length - 0) ?_ ?_
 ·exact ⟨0, s1, s.n, _, pv, xv, Fits.out ⟨rfl, rfl, rfl, rfl, rfl, rfl, trivial⟩, E, Nat.zero_le _, (by rw [List.drop_zero]), G2, hL1.le (Nat.zero_le _), rfl⟩
 ·clear E
  rintro _ _ W5 ⟨k, sk, ak, Fk, pk, xk, ⟨j5, rfl⟩, E, hk2, hQ, hG, hLk, rfl⟩
  refine Wp_seq_region ?_
  refine qV (r_lss rfl rfl) ?_
  refine WpL_nil (Wp_seq ?_)
  refine Wp_cond rfl (fun hlt => ?_) (fun hlt => ?_)
  ·have khlt := hlt
   replace hlt := of_decide_eq_true hlt
   obtain ⟨y, hy⟩ := get_of_lt (l := x.args) (i := k) (by omega)
   obtain ⟨ab, ao, rfl, hres⟩ := args_at hargs (by omega)
   obtain ⟨us, hus, hyt⟩ := hres.get hy
   have hyt0 := hyt
   obtain ⟨ysa, ysc, yaa, yac, rfl, _, _, _⟩ := hyt.form
   rw [drop_at hy, tmL, catT] at hQ
   refine Wp_skip (thn_normal (Wp_seq (Wp_block (Wp_seq_region ?_))))
   refine qV (r_indexSlice (b := ab) (o := ao) (len := x.args.length) (cap := ac) (i := k) (o' := ao + k * 6) rfl rfl rfl Try.underlying23 siz25 (by omega) (by omega)) ?_
   refine qV (r_loadAgg rfl agg25 siz25 rfl (hus.ext (hG.base' hP hF hE))) ?_
   have E1 : Chg none1 W5 W5 := Chg.refl _ _
   refine s_allocStore (v := (.agg (R6 y ysa ysc yaa yac))) (c := (R6 y ysa ysc yaa yac)) (n := 6) (by decide) zer25 rfl siz25 rfl rfl rfl (by simp [Value.oneCell']) ?_
   intro bu wu Nu
   have Fu := Nu.ge E
   have Fu_E1 := Nu.ge E1
   replace E := E.ext Nu.ext
   have Bu := Nu.blk
   replace E1 := E1.ext Nu.ext
   refine WpL_nil (Wp_seq_region ?_)
   refine qM _ rfl ?_
   refine qV (r_loadAgg (vs := [(I6 y.kind), (.slice ysa y.set.length ysc), (.slice yaa y.args.length yac), (I6 y.mn), (I6 y.mx), (.bool y.neg)]) rfl agg25 siz25 rfl (Bu.cells rfl)) ?_
   replace hG := hG.ext E1
   refine WpL_enterX rfl rfl (by decide) (r_callF Try.func31 kQ kQ rfl) (hof y (List.mem_of_getElem? hy) base pb _ _ _ _ sk _ hyt0 (hG.base' hP hF hE) (fun q hq => hG.sub q (hF q hq)) hG.st hLk) (fun w' h => And.intro rfl ⟨by rw [tm_3 h1 hk, hQ, h.1]; rfl, hG.pan h.2⟩) ?_
   rintro _ w29 ⟨s2, fx, fy, F2, p2, x2, h2, rfl, G3⟩
   replace E := E.step G3.chg (fun _ _ _ => trivial)
   have hL2 := hLk.step (lim_all y _ _ _ _ h2)
   rw [h2, Option.bind_some] at hQ
   replace G3 := hG.comp G3
   refine qM _ rfl ?_
   refine qV (r_extract rfl rfl) ?_
   refine qV (r_extract rfl rfl) ?_
   refine qA _ rfl ?_
   refine qA _ rfl ?_
   refine WpL_nil (Wp_seq_region ?_)
   refine qM _ rfl ?_
   refine qM _ rfl ?_
   refine qM _ rfl ?_
   refine WpL_enter rfl rfl (by decide) (r_callF Try.func69 kQ kQ rfl) (teps_c _ _ base pb _ _ s2 ak fx G3.st hL2.small.1) ?_
   rintro _ w39 ⟨p3, G4⟩
   replace E := E.step G4.chg (fun _ _ _ => trivial)
   have hL3 : LimT (epsT s2 ak fx) 2 := hL2.eps _ _
   replace G4 := G3.comp G4
   refine WpL_nil (Wp_region ?_)
   refine qM _ rfl ?_
   refine qA _ rfl ?_
   refine WpL_nil (inB_normal (thn_normal (Wp_region ?_)))
   refine qV (r_add rfl rfl (wI64 (by omega))) ?_
   refine qM _ rfl ?_
   refine WpL_nil (thn_normal ?_)
   exact ⟨x.args.length - (k + 1), by omega, k + 1, _, _, F2, p3, x2, Fits.out ⟨rfl, rfl, rfl, rfl, rfl, rfl, trivial⟩, E, (by omega), hQ, G4, hL3.le (Nat.zero_le _), rfl⟩
  ·have khlt := hlt
   replace hlt := of_decide_eq_false hlt
   have hkk : k = x.args.length := by omega
   rw [hkk, List.drop_length] at hQ
   refine Wp_exit (thn_exit (thn_exit (inB_here (thn_normal (Wp_seq_region ?_)))))
   refine qM _ rfl ?_
   refine qM _ rfl ?_
   refine qA _ rfl ?_
   refine qA _ rfl ?_
   refine WpL_nil (Wp_ret (inB_ret (thn_ret (finX_ret ?_))))
   refine fin_tmp2 Try.results31 (v := (.int .i64 ((s.n : Nat) : Int))) (v' := (.int .i64 ((ak : Nat) : Int))) rfl rfl ?_
   exact ⟨_, _, _, _, _, _, by rw [tm_3 h1 hk, hQ]; rfl, rfl, hG⟩
end Go.Proofs
namespace Go.Eng
open Go
section
variable {Ms : Nat → Nat → Prop} {Rs : Nat → World → World → Prop} {cl : List (List Nat)} {i : Nat} {ws ds : List Nat}
theorem StabG.eq {u : Value} : StabG Ms Rs cl i ws (fun _ _ v _ => v = u) := fun _ _ _ _ _ _ _ _ _ _ _ _ _ h => h
theorem StabG.chg {F : Fct} {U : Nat → Prop} (hF : ∀ v w w', Chg U w w' → F v w → F v w') (hM : ∀ p y, p ≠ i → ws.contains p = false → Ms p y → U y) : StabG Ms Rs cl i ws (fun _ _ => F) :=
 fun p h1 h2 _ _ v w w' _ _ _ x _ h => hF v w w' (x.mono fun y _ hy => hM p y h1 h2 hy) h
end
def RsL : List (Nat × (World → World → Prop)) → Nat → World → World → Prop
  | [], _, _, _ => True
  | p :: r, j, w, w' => (j = p.1 → p.2 w w') ∧ RsL r j w w'
section
variable {M : Nat → Prop} {ch : List PanicEntry} {X : World → Prop} {P : Program} {N : Nat} {o : Oper} {R : Fct} {σ : Env} {w : World} {c i : Nat} {T : World → World → Prop}
theorem gX0 (h : DoesT M P N o R σ w) : DoesX M ch X P N o (fun v w2 => R v w2 ∧ RsL [] i w w2) σ w := (DoesT.x h).weak fun _ _ _ h => ⟨h, trivial⟩
theorem gX0x (h : DoesX M ch X P N o R σ w) : DoesX M ch X P N o (fun v w2 => R v w2 ∧ RsL [] i w w2) σ w := h.weak fun _ _ _ h => ⟨h, trivial⟩
end
end Go.Eng
namespace Go.Proofs
open Go Go.Eng Go.Sort
set_option maxRecDepth 100000
def cpF (F : Nat → Prop) (w0 : World) (base pb : Nat) (pv xv : Value) (f : TF) (s : ThS) (a : Nat) (out : Bool) : Fct := fun v w => ∃ s' e F' pv' xv', copyT f s a out = some (s', e) ∧ v = nI e ∧ GrT F w0 base pb pv xv F' pv' xv' s' w
theorem cpF_ext {F : Nat → Prop} {w0 : World} {base pb : Nat} {pv xv : Value} {f : TF} {s : ThS} {a : Nat} {out : Bool} : ∀ v w w', Ext w w' → cpF F w0 base pb pv xv f s a out v w → cpF F w0 base pb pv xv f s a out v w' := by
 rintro v w w' e ⟨s', e', F', pv', xv', h1, h2, h3⟩
 exact ⟨s', e', F', pv', xv', h1, h2, h3.ext e⟩
theorem cp_of {F : Nat → Prop} {w0 w1 w : World} {base pb : Nat} {pv xv v : Value} {f : TF} {s s0 : ThS} {a : Nat} {out : Bool} (h : TSt F w0 base pb pv xv s0) (e : Ext w0 w1) (g : cpF F w1 base pb pv xv f s a out v w) : cpF F w0 base pb pv xv f s a out v w := by
 obtain ⟨s', e', F', pv', xv', h1, h2, h3⟩ := g
 exact ⟨s', e', F', pv', xv', h1, h2, ((GrT.start h).ext e).comp h3⟩
set_option maxHeartbeats 2000000 in
theorem tof6_c (wb : World) (x : Re) (hk : x.kind = 6) (ha : x.args.length = 1) (hmx : x.mx ≤ 1000) (hof : ∀ y ∈ x.args, ThOf wb y) : ThOf wb x := by
 intro base pb F w0 pv xv s vs hxt hE hF hP hL
 have hxt0 := hxt
 obtain ⟨sa, sc, aa, ac, rfl, hset, hlen, hargs⟩ := hxt.form
 obtain ⟨y, hy⟩ := args_one9 ha
 have hym : y ∈ x.args := by rw [hy]; exact List.mem_singleton_self y
 obtain ⟨ab, ao, rfl, hres⟩ := args_at hargs (by omega)
 obtain ⟨us, hus, hyt⟩ := hres.get (i := 0) (t := y) (by rw [hy]; rfl)
 have hyt0 := hyt
 obtain ⟨ysa, ysc, yaa, yac, rfl, _, _, _⟩ := hyt.form
 refine RetX_of Try.func31 rfl Try.ntmps31 (Nat.le_of_ble_eq_true rfl) ?_
 have E : Chg (fun _ => True) w0 w0 := Chg.refl _ _
 refine Wp_seq_region ?_
 refine s_box (v := (.agg (R6 x sa sc (some ⟨ab, ao, none⟩) ac))) (c := (R6 x sa sc (some ⟨ab, ao, none⟩) ac)) (by decide) rfl rfl ?_
 intro br wr Nr
 have Fr := Nr.ge E
 replace E := E.ext Nr.ext
 have Br := Nr.blk
 refine qA _ rfl ?_
 refine qA _ rfl ?_
 refine WpL_nil (Wp_seq_region ?_)
 refine qM _ rfl ?_
 have G1 := (GrT.start hP).frz Nr.ext (b := br) (by rw [Nr.eq]; exact Nat.le_refl _) Br.lt
 refine WpL_enterX rfl rfl (by decide) (r_callF Try.func68 kQ kQ rfl) (tstate_c _ _ base pb _ _ s G1.st hL.2.2) (fun w' h => And.intro rfl ⟨tm_no h.1, G1.pan h.2⟩) ?_
 rintro _ w19 ⟨s1, h1, rfl, G2⟩
 replace Br := G2.chg.keep (G1.st.kept (.inr rfl)) Br
 replace E := E.step G2.chg (fun _ _ _ => trivial)
 have hL1 := hL.new h1
 replace G2 := G1.comp G2
 refine qA _ rfl ?_
 refine WpL_nil (Wp_seq (Wp_seq_region ?_))
 refine qF br 0 0 rfl Try.underlying25 rfl siz3 rfl ?_
 refine qV (r_load rfl flat3 (Br.cell rfl)) ?_
 refine WpL_nil (Wp_block (Wp_seq_region ?_))
 refine qV (r_eql rfl rfl) ?_
 refine qA _ rfl ?_
 refine WpL_nil ?_
 have hc1 : (decide ((x.kind : Int) = 0)) = false := decide_eq_false (by omega)
 refine Wp_cond_false (congrArg Value.bool hc1) ?_
 refine Wp_seq_region ?_
 refine qV (r_eql rfl rfl) ?_
 refine qA _ rfl ?_
 refine WpL_nil ?_
 have hc2 : (decide ((x.kind : Int) = 1)) = false := decide_eq_false (by omega)
 refine Wp_cond_false (congrArg Value.bool hc2) ?_
 refine Wp_seq_region ?_
 refine qV (r_eql rfl rfl) ?_
 refine qA _ rfl ?_
 refine WpL_nil ?_
 have hc3 : (decide ((x.kind : Int) = 2)) = false := decide_eq_false (by omega)
 refine Wp_cond_false (congrArg Value.bool hc3) ?_
 refine Wp_seq_region ?_
 refine qV (r_eql rfl rfl) ?_
 refine qA _ rfl ?_
 refine WpL_nil ?_
 have hc4 : (decide ((x.kind : Int) = 3)) = false := decide_eq_false (by omega)
 refine Wp_cond_false (congrArg Value.bool hc4) ?_
 refine Wp_seq_region ?_
 refine qV (r_eql rfl rfl) ?_
 refine qA _ rfl ?_
 refine WpL_nil ?_
 have hc5 : (decide ((x.kind : Int) = 4)) = false := decide_eq_false (by omega)
 refine Wp_cond_false (congrArg Value.bool hc5) ?_
 refine Wp_seq_region ?_
 refine qV (r_eql rfl rfl) ?_
 refine qA _ rfl ?_
 refine WpL_nil ?_
 have hc6 : (decide ((x.kind : Int) = 9)) = false := decide_eq_false (by omega)
 refine Wp_cond_false (congrArg Value.bool hc6) ?_
 refine Wp_seq_region ?_
 refine qV (r_eql rfl rfl) ?_
 refine qA _ rfl ?_
 refine WpL_nil ?_
 have hc7 : (decide ((x.kind : Int) = 5)) = false := decide_eq_false (by omega)
 refine Wp_cond_false (congrArg Value.bool hc7) ?_
 refine Wp_skip (inB_normal (thn_normal (Wp_seq_region ?_)))
 refine qM _ rfl ?_
 refine qA _ rfl ?_
 refine WpL_nil (Wp_seq (Wp_seq_region ?_))
 refine qF br 0 4 rfl Try.underlying25 rfl siz3 rfl ?_
 refine qV (r_load rfl flat3 (Br.cell rfl)) ?_
 refine qM _ rfl ?_
 refine WpL_nil (Wp_block ?_)
 refine Wp_loop (fun nn_ σ W8 => ∃ (k : Nat) (sk : ThS) (ak : Nat) (Fk : Nat → Prop) (pk : Value) (xk : Value), (∃ jj_, σ = upds jj_ [(0, (P6 pb 0)), (3, (P6 br 0)), (6, (I6 (s.n : Int))), (114, (I6 x.mx)), (115, (I6 (k : Int))), (15, (I6 (ak : Int)))]) ∧ Chg (fun _ => True) w0 W8 ∧ Blk W8 br (R6 x sa sc (some ⟨ab, ao, none⟩) ac) 25 ∧ (k ≤ x.mx.toNat) ∧ (repT (tmO y) x.mn s1 s.n k = some (sk, ak)) ∧ (GrT F w0 base pb pv xv Fk pk xk sk W8) ∧ (LimT sk 0) ∧ (Fk br) ∧ nn_ = x.mx.toNat - k) (n := x.mx.toNat - 0) ?_ ?_
 ·exact ⟨0, s1, s.n, _, pv, xv, Fits.out ⟨rfl, rfl, rfl, rfl, rfl, rfl, trivial⟩, E, Br, Nat.zero_le _, rfl, G2, hL1.le (Nat.zero_le _), .inr rfl, rfl⟩
 ·clear E Br
  rintro _ _ W8 ⟨k, sk, ak, Fk, pk, xk, ⟨j8, rfl⟩, E, Br, hk2, hQ, hG, hLk, hbr, rfl⟩
  refine Wp_seq_region ?_
  refine qV (r_lss rfl rfl) ?_
  refine WpL_nil (Wp_seq ?_)
  refine Wp_cond rfl (fun hlt => ?_) (fun hlt => ?_)
  ·have khlt := hlt
   replace hlt := of_decide_eq_true hlt
   have hus2 := hus.ext (hG.base' hP hF hE)
   refine Wp_skip (thn_normal (Wp_seq (Wp_block (Wp_seq_region ?_))))
   refine qM _ rfl ?_
   refine qA _ rfl ?_
   refine WpL_nil ?_
   have hz_10 : w0.heap.size ≤ W8.heap.size := E.size
   have lz_10_br : br < W8.heap.size := Br.lt
   obtain ⟨Fs10, hFs10⟩ : ∃ Fs : List FctS, Fs = [(eF (P6 pb 0)), (eF (I6 (ak : Int))), (eF (P6 br 2)), (eF (.slice (some ⟨ab, ao, none⟩) x.args.length ac)), (eF (.pointer (some ⟨ab, ao + 0 * 6, none⟩))), (eF (.agg (R6 y ysa ysc yaa yac))), (eF (I6 (k : Int))), (eF (P6 br 3)), (eF (I6 x.mn)), (eF (.bool (decide ((x.mn : Int) ≤ (k : Int))))), (fun _ _ => cpF Fk W8 base pb pk xk (tmO y) sk ak (decide (x.mn ≤ (k : Int)))), (eF undef)] := ⟨_, rfl⟩
   refine Wp_dagG (MsL [(10, (fun q => q = pb ∨ pk.ownBlock = some q ∨ xk.ownBlock = some q))]) (RsL []) (lgN) ((fun _ => copyT (tmO y) sk ak (decide (x.mn ≤ (k : Int))) = none)) [true, true, true, true, true, true, true, true, true, true, true, false] [11] [118, 119, 120, 121, 122, 123, 124, 125, 126, 127, 128, 143] [[], [], [], [2], [3], [4], [], [], [7], [6, 8], [0, 1, 5, 9], []] [[], [], [], [2], [3, 2], [4, 3, 2], [], [], [7], [6, 8, 7], [0, 1, 5, 4, 3, 2, 9, 6, 8, 7], []] Fs10 hFs10 (by kernel_rfl) mixed (by kernel_rfl) (by kernel_rfl) (by kernel_rfl) (by kernel_rfl) ?_ ((fun σ' w1 w' X0 X hx => And.intro rfl ⟨by rw [tm_6 h1 hk hy, repT_none (k := k + 1) (by rw [repT, hQ]; exact hx) _ (by omega)]; rfl, hG.pan ((Ext.chg X0).trans (X.mono fun q _ h => by obtain ⟨j, h⟩ := h; rcases h with h | h; exact h.2; exact h.elim))⟩)) ?_
   ·intro wd X0
    refine DagStepsG.cons (StabG.eq) (LocS.const) (fun S s' w' hi hN X U V H => Or.inl ⟨Guarded_none rfl, ?_⟩) ?_
    ·replace X := xN1 (hN 10 rfl) X
     exact gX0 (DoesT_pure (r_move (v := (.pointer (some ⟨pb, 0, none⟩))) (U 0 rfl)) rfl)
    refine DagStepsG.cons (StabG.eq) (LocS.const) (fun S s' w' hi hN X U V H => Or.inl ⟨Guarded_none rfl, ?_⟩) ?_
    ·replace X := xN1 (hN 10 rfl) X
     exact gX0 (DoesT_pure (r_move (v := (.int .i64 ((ak : Nat) : Int))) (U 15 rfl)) rfl)
    refine DagStepsG.cons (StabG.eq) (LocS.const) (fun S s' w' hi hN X U V H => Or.inl ⟨Guarded_none rfl, ?_⟩) ?_
    ·replace X := xN1 (hN 10 rfl) X
     exact gX0 (DoesT_pure (r_fieldAddr (b := br) (o := 0) (o' := 2) (U 3 rfl) Try.underlying25 rfl siz23 rfl) rfl)
    refine DagStepsG.cons (StabG.eq) (LocS.const) (fun S s' w' hi hN X U V H => Or.inl ⟨Guarded_none rfl, ?_⟩) ?_
    ·replace X := xN1 (hN 10 rfl) X
     have e120 := (H 2 rfl).2 120 _ rfl (by rw [hFs10]; rfl)
     exact gX0 (DoesT_pure (r_load (v := (.slice (some ⟨ab, ao, none⟩) x.args.length ac)) e120 flat23 (((X0.trans X).keep Br).cell rfl)) rfl)
    refine DagStepsG.cons (StabG.eq) (LocS.const) (fun S s' w' hi hN X U V H => Or.inl ⟨Guarded_none rfl, ?_⟩) ?_
    ·replace X := xN1 (hN 10 rfl) X
     have e121 := (H 3 rfl).2 121 _ rfl (by rw [hFs10]; rfl)
     exact gX0 (DoesT_pure (r_indexSlice (b := ab) (o := ao) (len := x.args.length) (cap := ac) (i := 0) (o' := ao + 0 * 6) e121 rfl rfl Try.underlying23 siz25 (by omega) (by omega)) rfl)
    refine DagStepsG.cons (StabG.eq) (LocS.const) (fun S s' w' hi hN X U V H => Or.inl ⟨Guarded_none rfl, ?_⟩) ?_
    ·replace X := xN1 (hN 10 rfl) X
     have e122 := (H 4 rfl).2 122 _ rfl (by rw [hFs10]; rfl)
     exact gX0 (DoesT_pure (r_loadAgg (vs := [(.int .i64 y.kind), (.slice ysa y.set.length ysc), (.slice yaa y.args.length yac), (.int .i64 y.mn), (.int .i64 y.mx), (.bool y.neg)]) e122 agg25 siz25 rfl (by simpa using hus2.ext (X0.trans X))) rfl)
    refine DagStepsG.cons (StabG.eq) (LocS.const) (fun S s' w' hi hN X U V H => Or.inl ⟨Guarded_none rfl, ?_⟩) ?_
    ·replace X := xN1 (hN 10 rfl) X
     exact gX0 (DoesT_pure (r_move (v := (.int .i64 ((k : Nat) : Int))) (U 16 rfl)) rfl)
    refine DagStepsG.cons (StabG.eq) (LocS.const) (fun S s' w' hi hN X U V H => Or.inl ⟨Guarded_none rfl, ?_⟩) ?_
    ·replace X := xN1 (hN 10 rfl) X
     exact gX0 (DoesT_pure (r_fieldAddr (b := br) (o := 0) (o' := 3) (U 3 rfl) Try.underlying25 rfl siz3 rfl) rfl)
    refine DagStepsG.cons (StabG.eq) (LocS.const) (fun S s' w' hi hN X U V H => Or.inl ⟨Guarded_none rfl, ?_⟩) ?_
    ·replace X := xN1 (hN 10 rfl) X
     have e125 := (H 7 rfl).2 125 _ rfl (by rw [hFs10]; rfl)
     exact gX0 (DoesT_pure (r_load (v := (.int .i64 x.mn)) e125 flat3 (((X0.trans X).keep Br).cell rfl)) rfl)
    refine DagStepsG.cons (StabG.eq) (LocS.const) (fun S s' w' hi hN X U V H => Or.inl ⟨Guarded_none rfl, ?_⟩) ?_
    ·replace X := xN1 (hN 10 rfl) X
     have e124 := (H 6 rfl).2 124 _ rfl (by rw [hFs10]; rfl)
     have e126 := (H 8 rfl).2 126 _ rfl (by rw [hFs10]; rfl)
     exact gX0 (DoesT_pure (r_geq (k := .i64) (a := ((k : Nat) : Int)) (b := x.mn) e124 e126) rfl)
    refine DagStepsG.cons (StabG.chg (U := none1) (cpF_ext) (fun p y hp hw h => by
       rcases MsL_or h with ⟨rfl, h0⟩ | h0
       ·exact absurd rfl hp
       exact h0.elim)) (LocS.const) (fun S s' w' hi hN X U V H => Or.inl ⟨Guarded_none rfl, ?_⟩) ?_
    ·replace X := xN1 hi X
     have e118 := (H 0 rfl).2 118 _ rfl (by rw [hFs10]; rfl)
     have e119 := (H 1 rfl).2 119 _ rfl (by rw [hFs10]; rfl)
     have e123 := (H 5 rfl).2 123 _ rfl (by rw [hFs10]; rfl)
     have e127 := (H 9 rfl).2 127 _ rfl (by rw [hFs10]; rfl)
     exact gX0x (DoesX_enter (r_callF (vs := [(.pointer (some ⟨pb, 0, none⟩)), (.int .i64 ((ak : Nat) : Int)), (.agg #[(.int .i64 y.kind), (.slice ysa y.set.length ysc), (.slice yaa y.args.length yac), (.int .i64 y.mn), (.int .i64 y.mx), (.bool y.neg)]), (.bool (decide ((x.mn : Int) ≤ ((k : Nat) : Int))))]) Try.func72 kQ kQ (lst4 e118 e119 e123 e127)) ((tcopy_c wb y (hof y hym) base pb _ _ _ _ sk ak (decide (x.mn ≤ ((k : Nat) : Int))) _ hyt0 (Ext.trans (hG.base' hP hF hE) (X0.trans X)) (fun q hq => hG.sub q (hF q hq)) (hG.st.ext (X0.trans X)) hLk).mono (fun v w h => ⟨cp_of hG.st (X0.trans X) h, by obtain ⟨_, _, _, _, _, _, _, g⟩ := h; exact g.chg.mono fun q _ h => .inl ⟨rfl, h⟩⟩) (fun w h => ⟨h.1, h.2.mono fun q _ h => .inl ⟨rfl, h⟩⟩)))
    refine DagStepsG.tail ?_
    exact DagStepsG.nil
   ·intro s' wd10 w10 X0 X10 U H
    replace X10 := X10.mono (M' := (fun y => (fun q => q = pb ∨ pk.ownBlock = some q ∨ xk.ownBlock = some q) y)) (fun y _ h => by
      obtain ⟨j, hj, h⟩ := h
      rcases MsL_or h with ⟨rfl, h0⟩ | h0
      ·exact h0
      exact h0.elim)
    obtain ⟨s128, f128, F128, p128, x128, h128, e128, g128⟩ := (show ((fun _ _ => cpF Fk W8 base pb pk xk (tmO y) sk ak (decide (x.mn ≤ ((k : Nat) : Int)))) : FctS) (allS [true, true, true, true, true, true, true, true, true, true, true, false]) s' (s' 128) w10 from H 10 rfl 128 (fun _ _ => cpF Fk W8 base pb pk xk (tmO y) sk ak (decide (x.mn ≤ ((k : Nat) : Int)))) rfl (by rw [hFs10]; rfl))
    obtain ⟨j10, rfl⟩ := Fits.out (σ := s') (l := [(0, (.pointer (some ⟨pb, 0, none⟩))), (3, (.pointer (some ⟨br, 0, none⟩))), (6, (.int .i64 ((s.n : Nat) : Int))), (114, (.int .i64 x.mx)), (115, (.int .i64 ((k : Nat) : Int))), (128, (.int .i64 ((f128 : Nat) : Int)))]) ⟨U 0 rfl, U 3 rfl, U 6 rfl, U 114 rfl, U 115 rfl, e128, trivial⟩
    clear U H
    replace Br := Chg.keep X10 (fun h => hG.st.kept hbr h) (X0.keep Br)
    replace E := (E.ext X0).step X10 (fun q hq h => trivial)
    have hL2 := hLk.step (copy_lim (lim_all y) h128)
    refine qA _ rfl ?_
    refine WpL_nil (inB_normal (thn_normal (Wp_region ?_)))
    refine qV (r_add rfl rfl (wI64 (by omega))) ?_
    refine qM _ rfl ?_
    refine WpL_nil (thn_normal ?_)
    exact ⟨x.mx.toNat - (k + 1), by omega, k + 1, s128, f128, F128, p128, x128, Fits.out ⟨rfl, rfl, rfl, rfl, rfl, rfl, trivial⟩, E, Br, (by omega), (by rw [repT, hQ]; exact h128), hG.comp g128, hL2, g128.sub _ hbr, rfl⟩
  ·have khlt := hlt
   replace hlt := of_decide_eq_false hlt
   have hkk : x.mx.toNat = k := by omega
   refine Wp_exit (thn_exit (thn_exit (inB_here (thn_normal (Wp_seq_region ?_)))))
   refine qM _ rfl ?_
   refine qM _ rfl ?_
   refine qA _ rfl ?_
   refine qA _ rfl ?_
   refine WpL_nil (Wp_ret (finX_ret ?_))
   refine fin_tmp2 Try.results31 (v := (.int .i64 ((s.n : Nat) : Int))) (v' := (.int .i64 ((ak : Nat) : Int))) rfl rfl ?_
   exact ⟨_, _, _, _, _, _, by rw [tm_6 h1 hk hy, hkk, hQ]; rfl, rfl, hG⟩
set_option maxHeartbeats 2000000 in
theorem tof2_c (wb : World) (x : Re) (hk : x.kind = 2) (hsl : x.set.length ≤ 1000000) : ThOf wb x := by
 intro base pb F w0 pv xv s vs hxt hE hF hP hL
 have hxt0 := hxt
 obtain ⟨sa, sc, aa, ac, rfl, hset, hlen, hargs⟩ := hxt.form
 refine RetX_of Try.func31 rfl Try.ntmps31 (Nat.le_of_ble_eq_true rfl) ?_
 have E : Chg (fun _ => True) w0 w0 := Chg.refl _ _
 refine Wp_seq_region ?_
 refine s_box (v := (.agg (R6 x sa sc aa ac))) (c := (R6 x sa sc aa ac)) (by decide) rfl rfl ?_
 intro br wr Nr
 have Fr := Nr.ge E
 replace E := E.ext Nr.ext
 have Br := Nr.blk
 refine qA _ rfl ?_
 refine qA _ rfl ?_
 refine WpL_nil (Wp_seq_region ?_)
 refine qM _ rfl ?_
 have G1 := (GrT.start hP).frz Nr.ext (b := br) (by rw [Nr.eq]; exact Nat.le_refl _) Br.lt
 have hbrp : pb < br := by have := hP.blk.lt; have := Nr.eq; omega
 refine WpL_enterX rfl rfl (by decide) (r_callF Try.func68 kQ kQ rfl) (tstate_c _ _ base pb _ _ s G1.st hL.2.2) (fun w' h => And.intro rfl ⟨tm_no h.1, G1.pan h.2⟩) ?_
 rintro _ w19 ⟨s1, h1, rfl, G2⟩
 replace Br := G2.chg.keep (G1.st.kept (.inr rfl)) Br
 replace E := E.step G2.chg (fun _ _ _ => trivial)
 have hL1 := hL.new h1
 replace G2 := G1.comp G2
 refine qA _ rfl ?_
 refine WpL_nil (Wp_seq (Wp_seq_region ?_))
 refine qF br 0 0 rfl Try.underlying25 rfl siz3 rfl ?_
 refine qV (r_load rfl flat3 (Br.cell rfl)) ?_
 refine WpL_nil (Wp_block (Wp_seq_region ?_))
 refine qV (r_eql rfl rfl) ?_
 refine qA _ rfl ?_
 refine WpL_nil ?_
 have hc1 : (decide ((x.kind : Int) = 0)) = false := decide_eq_false (by omega)
 refine Wp_cond_false (congrArg Value.bool hc1) ?_
 refine Wp_seq_region ?_
 refine qV (r_eql rfl rfl) ?_
 refine qA _ rfl ?_
 refine WpL_nil ?_
 have hc2 : (decide ((x.kind : Int) = 1)) = false := decide_eq_false (by omega)
 refine Wp_cond_false (congrArg Value.bool hc2) ?_
 refine Wp_seq_region ?_
 refine qV (r_eql rfl rfl) ?_
 refine qA _ rfl ?_
 refine WpL_nil ?_
 have hc3 : (decide ((x.kind : Int) = 2)) = true := decide_eq_true hk
 refine Wp_cond_true (congrArg Value.bool hc3) ?_
 refine Wp_seq_region ?_
 refine qM _ rfl ?_
 refine WpL_enterX rfl rfl (by decide) (r_callF Try.func68 kQ kQ rfl) (tstate_c _ _ base pb _ _ s1 G2.st hL1.2.2) (fun w' h => And.intro rfl ⟨by rw [tm_2 h1 hk, h.1]; rfl, G2.pan h.2⟩) ?_
 rintro _ w29 ⟨s2, h2, rfl, G3⟩
 replace Br := G3.chg.keep (G2.st.kept (.inr rfl)) Br
 replace E := E.step G3.chg (fun _ _ _ => trivial)
 have htm : tmO x s = some (edgeT s2 s.n s1.n x.set, s.n, s1.n) := by rw [tm_2 h1 hk, h2]; rfl
 have hL2 := hL1.new h2
 replace G3 := G2.comp G3
 obtain ⟨⟨pa, pc, rfl⟩, xa, xc, rfl⟩ := G3.st.form
 obtain ⟨rows, hown, hrows⟩ := G3.st.edg
 have hblk := G3.st.blk
 have hpb := G3.st.pb
 have hbs := G3.st.bs
 obtain ⟨z0, hz0⟩ : ∃ z0, z0 = (w29).heap.size := ⟨_, rfl⟩
 have hset2 := SlAt.ext hset (G3.base' hP hF hE)
 have hel := hL2.small.2
 refine qA _ rfl ?_
 refine WpL_nil ?_
 have hz_4 : w0.heap.size ≤ w29.heap.size := E.size
 have lz_4_br : br < w29.heap.size := Br.lt
 have lz_4_pb : pb < w29.heap.size := hblk.lt
 refine Wp_seq ?_
 obtain ⟨Fs4, hFs4⟩ : ∃ Fs : List FctS, Fs = [(eF (P6 pb 0)), (eF (P6 pb 0)), (eF (P6 pb 0)), (eF (P6 pb 0)), (eF (P6 pb 4)), (eF (.slice xa s2.edges.length xc)), (eF (I6 (s.n : Int))), (eF (I6 (s1.n : Int))), (eF (P6 br 1)), (eF (.slice sa x.set.length sc)), (fun _ _ => cloG x.set z0), (fun _ _ => edG (s.n : Int) (s1.n : Int) x.set z0), (fun _ _ => elG (s.n : Int) (s1.n : Int) x.set z0), (fun _ _ => apG base s2.edges.length rows.flatten (.slice xa s2.edges.length xc) z0 (s.n : Int) (s1.n : Int) x.set), (eF undef), (eF undef), (eF undef), (eF undef)] := ⟨_, rfl⟩
 refine Wp_dagS (MsL [(13, (fun q => (Value.slice xa s2.edges.length xc).ownBlock = some q))]) [true, true, true, true, true, true, true, true, true, true, true, true, true, true, false, false, false, false] [14, 15, 16, 17] [34, 35, 36, 37, 38, 39, 40, 41, 42, 43, 44, 45, 46, 47, 146, 147, 148, 149] [[], [], [1], [2], [3], [4], [], [], [], [8], [9], [6, 7, 10], [11], [5, 10, 12], [], [], [], []] [[], [], [1], [2, 1], [3, 2, 1], [4, 3, 2, 1], [], [], [], [8], [9, 8], [6, 7, 10, 9, 8], [11, 6, 7, 10, 9, 8], [5, 4, 3, 2, 1, 10, 9, 8, 12, 11, 6, 7], [], [], [], []] Fs4 hFs4 (by kernel_rfl) mixed (by kernel_rfl) (by kernel_rfl) (by kernel_rfl) (by kernel_rfl) ?_ ?_
 ·intro wd X0
  refine qZ (fun S s' w' hi hN X U V H => ?_) ?_
  ·replace X := xM1 X
   exact DoesT_pure (r_move (U 0 rfl)) rfl
  refine qZ (fun S s' w' hi hN X U V H => ?_) ?_
  ·replace X := xN1 (hN 13 rfl) X
   exact DoesT_pure (r_move (U 0 rfl)) rfl
  refine qZ (fun S s' w' hi hN X U V H => ?_) ?_
  ·replace X := xN1 (hN 13 rfl) X
   have e35 := (H 1 rfl).2 35 _ rfl (by rw [hFs4]; rfl)
   exact DoesT_pure (r_nilCheck e35) rfl
  refine qZ (fun S s' w' hi hN X U V H => ?_) ?_
  ·replace X := xN1 (hN 13 rfl) X
   have e36 := (H 2 rfl).2 36 _ rfl (by rw [hFs4]; rfl)
   exact DoesT_pure (r_fieldAddr e36 Try.underlying79 rfl siz30 rfl) rfl
  refine qZ (fun S s' w' hi hN X U V H => ?_) ?_
  ·replace X := xN1 (hN 13 rfl) X
   have e37 := (H 3 rfl).2 37 _ rfl (by rw [hFs4]; rfl)
   exact DoesT_pure (r_fieldAddr e37 Try.underlying30 rfl siz28 rfl) rfl
  refine qZ (fun S s' w' hi hN X U V H => ?_) ?_
  ·replace X := xN1 (hN 13 rfl) X
   have e38 := (H 4 rfl).2 38 _ rfl (by rw [hFs4]; rfl)
   exact DoesT_pure (r_load e38 flat28 (((X0.trans X).keep hblk).cell rfl)) rfl
  refine qZ (fun S s' w' hi hN X U V H => ?_) ?_
  ·replace X := xN1 (hN 13 rfl) X
   exact DoesT_pure (r_move (U 6 rfl)) rfl
  refine qZ (fun S s' w' hi hN X U V H => ?_) ?_
  ·replace X := xN1 (hN 13 rfl) X
   exact DoesT_pure (r_move (U 7 rfl)) rfl
  refine qZ (fun S s' w' hi hN X U V H => ?_) ?_
  ·replace X := xN1 (hN 13 rfl) X
   exact DoesT_pure (r_fieldAddr (U 3 rfl) Try.underlying25 rfl siz22 rfl) rfl
  refine qZ (fun S s' w' hi hN X U V H => ?_) ?_
  ·replace X := xN1 (hN 13 rfl) X
   have e42 := (H 8 rfl).2 42 _ rfl (by rw [hFs4]; rfl)
   exact DoesT_pure (r_load e42 flat22 (((X0.trans X).keep Br).cell rfl)) rfl
  refine DagStepsS.cons (StabS.chg (U := (fun y => (fun q => (Value.slice xa s2.edges.length xc).ownBlock = some q) y)) (cloG_chg (fun q h => by have := (hown.lt q h).2; omega)) (fun p y hp hw h => by
     rcases MsL_or h with ⟨rfl, h0⟩ | h0
     ·exact h0
     exact h0.elim)) (LocS.const) (fun S s' w' hi hN X U V H => Or.inl ⟨Guarded_none rfl, ?_⟩) ?_
  ·replace X := xN1 (hN 13 rfl) X
   have e43 := (H 9 rfl).2 43 _ rfl (by rw [hFs4]; rfl)
   exact DoesT_callE (r_callF Try.func29 kQ kQ (lst1 e43)) ((clones_c _ _ x.set (SlAt.ext hset2 (X0.trans X)) (by omega)).mono (fun v w h => ⟨(⟨h.1.1, own_low h.1.2 (by have := X0.size; have := X.size; omega)⟩ : cloG x.set z0 v w), h.2⟩))
  refine DagStepsS.cons (StabS.chg (U := (fun y => (fun q => (Value.slice xa s2.edges.length xc).ownBlock = some q) y)) (edG_chg (fun q h => by have := (hown.lt q h).2; omega)) (fun p y hp hw h => by
     rcases MsL_or h with ⟨rfl, h0⟩ | h0
     ·exact h0
     exact h0.elim)) (LocS.const) (fun S s' w' hi hN X U V H => Or.inl ⟨Guarded_none rfl, ?_⟩) ?_
  ·replace X := xN1 (hN 13 rfl) X
   have e40 := (H 6 rfl).2 40 _ rfl (by rw [hFs4]; rfl)
   have e41 := (H 7 rfl).2 41 _ rfl (by rw [hFs4]; rfl)
   obtain ⟨⟨a44, c44, e44⟩, O44⟩ := (show ((fun _ _ => cloG x.set z0) : FctS) S s' (s' 44) w' from (H 10 rfl).2 44 (fun _ _ => cloG x.set z0) rfl (by rw [hFs4]; rfl))
   exact DoesT_pure (r_build (ps := [(0, .int .i64 (s.n : Int)), (1, .int .i64 (s1.n : Int)), (2, .slice a44 x.set.length c44)]) (v := .agg #[.int .i64 (s.n : Int), .int .i64 (s1.n : Int), .slice a44 x.set.length c44]) (bld3 e40 e41 e44) (by kernel_rfl)) ⟨a44, c44, rfl, ⟨a44, c44, rfl⟩, e44 ▸ O44⟩
  refine DagStepsS.cons (StabS.chg (U := (fun y => (fun q => (Value.slice xa s2.edges.length xc).ownBlock = some q) y)) (elG_chg (fun q h => by have := (hown.lt q h).2; omega)) (fun p y hp hw h => by
     rcases MsL_or h with ⟨rfl, h0⟩ | h0
     ·exact h0
     exact h0.elim)) (LocS.const) (fun S s' w' hi hN X U V H => Or.inl ⟨Guarded_none rfl, ?_⟩) ?_
  ·replace X := xN1 (hN 13 rfl) X
   obtain ⟨a45, c45, e45, O45⟩ := (show ((fun _ _ => edG ((s.n : Nat) : Int) ((s1.n : Nat) : Int) x.set z0) : FctS) S s' (s' 45) w' from (H 11 rfl).2 45 (fun _ _ => edG ((s.n : Nat) : Int) ((s1.n : Nat) : Int) x.set z0) rfl (by rw [hFs4]; rfl))
   exact DoesT_litE e45 (by have := X0.size; have := X.size; omega) O45
  refine DagStepsS.cons (StabS.chg (U := none1) (apG_ext _ _ _ _ _ _ _ _) (fun p y hp hw h => by
     rcases MsL_or h with ⟨rfl, h0⟩ | h0
     ·exact absurd rfl hp
     exact h0.elim)) (LocS.const) (fun S s' w' hi hN X U V H => Or.inl ⟨Guarded_none rfl, ?_⟩) ?_
  ·replace X := xN1 hi X
   have e39 := (H 5 rfl).2 39 _ rfl (by rw [hFs4]; rfl)
   obtain ⟨b46, a46, c46, e46, B46, g46, O46⟩ := (show ((fun _ _ => elG ((s.n : Nat) : Int) ((s1.n : Nat) : Int) x.set z0) : FctS) S s' (s' 46) w' from (H 12 rfl).2 46 (fun _ _ => elG ((s.n : Nat) : Int) ((s1.n : Nat) : Int) x.set z0) rfl (by rw [hFs4]; rfl))
   exact DoesT_appE e39 (own_ext (own_ext hown X0) X) e46 B46 O46 (by omega) (by have := X0.size; have := X.size; omega) (fun q h => .inl ⟨rfl, h⟩) (fun q h => by rcases h with h | h; exact (by have := (hown.lt q h.2).2; omega); exact h.elim) (by have := X0.size; have := X.size; omega)
  refine DagStepsS.tail (DagStepsS.tail (DagStepsS.tail (DagStepsS.tail ?_)))
  exact DagStepsS.nil
 ·intro s' wd4 w4 X0 X4 U H
  replace X4 := X4.mono (M' := (fun y => (fun q => (Value.slice xa s2.edges.length xc).ownBlock = some q) y)) (fun y _ h => by
    obtain ⟨j, hj, h⟩ := h
    rcases MsL_or h with ⟨rfl, h0⟩ | h0
    ·exact h0
    exact h0.elim)
  have e34 := H 0 rfl 34 _ rfl (by rw [hFs4]; rfl)
  obtain ⟨a47, c47, ⟨⟨u47, v47, e47⟩, O47, D47⟩, K47⟩ := (show ((fun _ _ => apG base s2.edges.length rows.flatten (.slice xa s2.edges.length xc) z0 ((s.n : Nat) : Int) ((s1.n : Nat) : Int) x.set) : FctS) (allS [true, true, true, true, true, true, true, true, true, true, true, true, true, true, false, false, false, false]) s' (s' 47) w4 from H 13 rfl 47 (fun _ _ => apG base s2.edges.length rows.flatten (.slice xa s2.edges.length xc) z0 ((s.n : Nat) : Int) ((s1.n : Nat) : Int) x.set) rfl (by rw [hFs4]; rfl))
  obtain ⟨j4, rfl⟩ := Fits.out (σ := s') (l := [(6, (.int .i64 ((s.n : Nat) : Int))), (7, (.int .i64 ((s1.n : Nat) : Int))), (34, (.pointer (some ⟨pb, 0, none⟩))), (47, (.slice u47 (s2.edges.length + 1) v47))]) ⟨U 6 rfl, U 7 rfl, e34, e47, trivial⟩
  clear U H
  replace Br := Chg.keep X4 (fun h => G3.st.hxF br h (.inr rfl)) (X0.keep Br)
  replace hblk := Chg.keep X4 (fun h => by have := (hown.lt _ h).1; omega) (X0.keep hblk)
  have hXm := Chg.trans (Ext.chg X0) X4
  replace E := (E.ext X0).step X4 (fun q hq h => trivial)
  rw [e47] at O47 D47
  have hK := K47
  have hPx : True := trivial
  refine qV (r_nilCheck rfl) ?_
  refine qF pb 0 0 rfl Try.underlying79 rfl siz30 rfl ?_
  refine qF pb 0 4 rfl Try.underlying30 rfl siz28 rfl ?_
  refine s_store (b := pb) (o := 4) (c' := #[(I6 (s2.n : Int)), (I6 0), (.slice none 0 0), (.slice pa s2.eps.length pc), (.slice u47 (s2.edges.length + 1) v47)]) (v := (.slice u47 (s2.edges.length + 1) v47)) rfl rfl rfl siz28 hblk (by simp) rfl ?_
  intro w5 S5
  replace hPx := G3.comp (G3.st.addEdge hXm hz0 hrows O47 D47 hK S5)
  replace Br := S5.keep (by omega) Br
  replace E := S5.step E (by first | exact Or.inl (by omega) | exact Or.inr rfl | exact Or.inr (by assumption) | exact Or.inr (by simp) | exact Or.inr (by omega) | exact Or.inr (by dsimp only; omega))
  replace hblk := S5.blk
  refine WpL_nil (thn_normal (Wp_seq_region ?_))
  refine qM _ rfl ?_
  refine qM _ rfl ?_
  refine qA _ rfl ?_
  refine qA _ rfl ?_
  refine WpL_nil (Wp_ret (inB_ret (thn_ret (finX_ret ?_))))
  refine fin_tmp2 Try.results31 (v := (.int .i64 ((s.n : Nat) : Int))) (v' := (.int .i64 ((s1.n : Nat) : Int))) rfl rfl ?_
  exact ⟨_, _, _, _, _, _, htm, rfl, hPx⟩
end Go.Proofs
namespace Go.Eng
open Go
section
variable {P : Program} {N : Nat} {σ : Env} {w : World} {y : Code}
/-- Where the body ends with no deferred call. -/
def finE (P : Program) (fn : Func) (R : Ending → World → Prop) : Post
  | .ret, σ, w => ∀ a : Act, env a = σ → Leaves P fn a.tmps R [] .returning w
  | _, _, _ => False
theorem WpA_assoc {QA : Exit → Act → World → Prop} {x : Code} (h : WpA P N x (Exit.then (y.wp P QA) QA) σ w) : WpA P N (.seq x y) QA σ w := fun a ha he => wp_seq (h a ha he)
theorem WpA_cond {fn : Func} {R : Ending → World → Prop} {x : Operand} {c1 : Code} {b : Bool} (hx : ev σ x = .bool b) (ht : b = true → Wp P N c1 (finE P fn R) σ w) (hf : b = false → WpA P N y (bodyPostD P fn R) σ w) : WpA P N (.cond x c1 .skip) (Exit.then (y.wp P (bodyPostD P fn R)) (bodyPostD P fn R)) σ w := by
 intro a ha he
 refine wp_cond_split (t := b) (by rw [eval_env, he]; exact hx) (fun h => ?_) (fun h => wp_skip (hf h a ha he))
 refine Code.wp_mono ?_ (ht h [] a ha he)
 rintro e a' w' ⟨o', q⟩
 have ho := o'.defers
 cases e <;> simp only [finE] at q
 show Leaves P fn a'.tmps R a'.defers .returning w'
 rw [ho]
 exact q a' rfl
end
end Go.Eng
namespace Go.Proofs
open Go Go.Eng Go.Sort
set_option maxRecDepth 100000
theorem usesB_arg {ks : List Int} {x : Re} (h : usesB ks x = false) : ks.contains x.kind = false ∧ ∀ y ∈ x.args, usesB ks y = false := by
  have hs : ∀ l : List Re, usesBs ks l = false → ∀ y ∈ l, usesB ks y = false := by
    intro l
    induction l with
    | nil => intro _ y hy; cases hy
    | cons z l ih =>
      intro h y hy
      simp only [usesBs, Bool.or_eq_false_iff] at h
      rcases List.mem_cons.1 hy with rfl | h1
      · exact h.1
      · exact ih h.2 y h1
  cases x
  simp only [usesB, Bool.or_eq_false_iff] at h
  exact ⟨h.1, hs _ h.2⟩
theorem thOf_c (wb : World) : ∀ (n : Nat) (x : Re), x.size ≤ n → n ≤ 1000000 → okRe x → usesB [7, 8, 10] x = false → ThOf wb x := by
  intro n
  induction n with
  | zero => intro x h; have := x.size_pos; omega
  | succ n ih =>
  intro x hn hb hok hu
  have hN := node_inv (okRe_node hok)
  have hla := len_lt_size x
  obtain ⟨hk0, hua⟩ := usesB_arg hu
  have hof : ∀ y ∈ x.args, ThOf wb y := fun y hy => by
    obtain ⟨i, hi⟩ := List.getElem?_of_mem hy
    have h1 := Re.size_arg hi
    exact ih y (by omega) (by omega) (okRes_get (okRe_args hok) hi) (hua y hy)
  have hk := hN.k
  have hk7 : x.kind ≠ 7 ∧ x.kind ≠ 8 ∧ x.kind ≠ 10 := by
    simp at hk0
    exact ⟨hk0.1, hk0.2.1, hk0.2.2⟩
  by_cases h0 : x.kind = 0
  · exact tof0_c wb x h0
  by_cases h1 : x.kind = 1
  · exact tof1_c wb x h1
  by_cases h2 : x.kind = 2
  · refine tof2_c wb x h2 ?_
    have := node_chk (okRe_node hok) h2
    unfold checkE at this
    split at this
    · cases this
    · omega
  by_cases h3 : x.kind = 3
  · exact tof3_c wb x h3 hof
  by_cases h4 : x.kind = 4
  · exact tof4_c wb x h4 hof (by omega)
  by_cases h5 : x.kind = 5
  · exact tof5_c wb x h5 (hN.one (by omega)) hof
  by_cases h6 : x.kind = 6
  · exact tof6_c wb x h6 (hN.one (by omega)) (by have := (hN.rep h6).2.2; omega) hof
  · exact tof9_c wb x (by omega) (hN.one (by omega)) hof
/-- What Simple says. -/
def simE (t : Re) : Int := if fitsE t 40 ≠ 0 then fitsE t 40 else if usesB [7, 8, 10] t then 3 else 0
theorem simE_zero {t : Re} : simE t = 0 ↔ okRe t ∧ (t.size : Int) ≤ 40 ∧ usesB [7, 8, 10] t = false := by
 unfold simE
 have h := fitsE_zero (t := t) (most := 40) (by decide) (by decide)
 constructor
 ·intro h1
  split at h1
  ·rename_i h2; exact absurd h1 h2
  ·rename_i h2
   have h3 := h.1 (Classical.not_not.1 h2)
   split at h1
   ·cases h1
   ·rename_i h4
    exact ⟨h3.1, h3.2, by simpa using h4⟩
 ·rintro ⟨h1, h2, h3⟩
  rw [if_neg (fun h4 => h4 (h.2 ⟨h1, h2⟩)), h3]; rfl
theorem simple_c (w0 : World) (t : Re) (vs : List Value) (ht : ReAt w0 t vs) : Ret Try.prog 10 #[.agg vs.toArray] w0 fun r w => r = .int .i64 (simE t) ∧ Ext w0 w := by
 have ht0 := ht
 obtain ⟨sa, sc, aa, ac, rfl, _, _, _⟩ := ht.form
 refine Ret_of Try.func10 rfl Try.ntmps10 (Nat.le_of_ble_eq_true rfl) ?_
 have E : Chg none1 w0 w0 := Chg.refl _ _
 refine Wp_seq_region ?_
 refine s_box (v := (.agg (R6 t sa sc aa ac))) (c := (R6 t sa sc aa ac)) (by decide) rfl rfl ?_
 intro br wr Nr
 have Fr := Nr.ge E
 replace E := E.ext Nr.ext
 have Br := Nr.blk
 refine qA _ rfl ?_
 refine WpL_nil (Wp_seq (Wp_seq_region ?_))
 refine qV (r_loadAgg (vs := [(I6 t.kind), (.slice sa t.set.length sc), (.slice aa t.args.length ac), (I6 t.mn), (I6 t.mx), (.bool t.neg)]) rfl agg25 siz25 rfl (Br.cells rfl)) ?_
 refine WpL_enter rfl rfl (by decide) (r_callF Try.func37 kQ kQ rfl) (check_c _ t _ (ReAt.ext E t ht0)) ?_
 rintro _ w9 ⟨rfl, X9⟩
 replace Br := X9.keep Br
 replace E := E.ext X9
 refine qA _ rfl ?_
 refine WpL_nil (Wp_seq_region ?_)
 refine qM _ rfl ?_
 refine qV (r_neq rfl rfl) ?_
 refine WpL_nil ?_
 refine Wp_cond rfl (fun h0 => ?_) (fun h0 => ?_)
 ·have kh0 := h0
  replace h0 := of_decide_eq_true h0
  refine Wp_seq_region ?_
  refine qM _ rfl ?_
  refine qA _ rfl ?_
  refine WpL_nil (Wp_ret (thn_ret ?_))
  refine fin_tmp Try.results10 (v := (.int .i64 (fitsE t 40))) rfl ?_
  exact ⟨by unfold simE; rw [if_pos h0], E⟩
 ·have kh0 := h0
  replace h0 := of_decide_eq_false h0
  refine Wp_skip (thn_normal (Wp_seq (Wp_seq_region ?_)))
  refine qV (r_loadAgg (vs := [(I6 t.kind), (.slice sa t.set.length sc), (.slice aa t.args.length ac), (I6 t.mn), (I6 t.mx), (.bool t.neg)]) rfl agg25 siz25 rfl (Br.cells rfl)) ?_
  refine s_buildSlice (ps := [(0, (I6 7)), (1, (I6 8)), (2, (I6 10))]) (c := #[(I6 7), (I6 8), (I6 10)]) (by decide) rfl Try.underlying26 siz3 zer3 (by decide) (by decide) (by kernel_rfl) ?_
  intro bk wk Nk
  have Fk := Nk.ge E
  have Ok_br := Nk.lt Br
  replace Br := Nk.keep Br
  replace E := E.ext Nk.ext
  have Bk := Nk.blk
  refine WpL_enter rfl rfl (by decide) (r_callF Try.func38 kQ kQ rfl) (uses_c _ t _ [7, 8, 10] _ (ReAt.ext E t ht0) (ints_of_blk [7, 8, 10] Bk (by simp) (by simp))) ?_
  rintro _ w19 ⟨rfl, X19⟩
  replace Br := X19.keep Br
  replace Bk := X19.keep Bk
  replace E := E.ext X19
  refine WpL_nil ?_
  refine Wp_cond rfl (fun hu => ?_) (fun hu => ?_)
  ·have khu := hu
   refine Wp_seq_region ?_
   refine qA _ rfl ?_
   refine WpL_nil (Wp_ret (thn_ret ?_))
   refine fin_tmp Try.results10 (v := (.int .i64 3)) rfl ?_
   exact ⟨by unfold simE; rw [if_neg h0, hu]; rfl, E⟩
  ·have khu := hu
   refine Wp_skip (thn_normal (Wp_seq_region ?_))
   refine qA _ rfl ?_
   refine WpL_nil (Wp_ret ?_)
   refine fin_tmp Try.results10 (v := (.int .i64 0)) rfl ?_
   exact ⟨by unfold simE; rw [if_neg h0, hu]; rfl, E⟩
def nf0 : Nf := ⟨0, 0, [], [], []⟩
def ThP (t : Re) (n : Nf) (e : Int) : Prop := (simE t ≠ 0 ∧ n = nf0 ∧ e = simE t) ∨ (simE t = 0 ∧ tmO t ⟨0, [], []⟩ = none ∧ n = nf0 ∧ e = 2) ∨ (simE t = 0 ∧ e = 0 ∧ ∃ s a b, tmO t ⟨0, [], []⟩ = some (s, a, b) ∧ n = nfT s a b)
/-- An automaton and an error. -/
def NfNew (m : Nat) (w : World) (n : Nf) (vs : List Value) : Prop := ∀ (M : Nat → Prop) w', Chg M w w' → (∀ y, M y → y < m) → NfAt w' n vs
theorem NfNew.at {m : Nat} {w : World} {n : Nf} {vs : List Value} (h : NfNew m w n vs) : NfAt w n vs := h none1 w (Chg.refl _ _) fun _ f => f.elim
theorem NfNew.chg {m : Nat} {M : Nat → Prop} {w w' : World} {n : Nf} {vs : List Value} (h : NfNew m w n vs) (c : Chg M w w') (hM : ∀ y, M y → y < m) : NfNew m w' n vs := fun M2 w2 c2 h2 =>
 h (fun b => M b ∨ M2 b) w2 (Chg.trans (c.mono fun b _ hb => .inl hb) (c2.mono fun b _ hb => .inr hb)) fun b hb => hb.elim (hM b) (h2 b)
theorem NfNew.ext {m : Nat} {w w' : World} {n : Nf} {vs : List Value} (h : NfNew m w n vs) (e : Ext w w') : NfNew m w' n vs := h.chg e fun _ f => f.elim
def NfR (m : Nat) (R : Nf → Int → Prop) (r : Value) (w : World) : Prop := ∃ (n : Nf) (ea : Option Addr) (ec : Nat) (pa : Option Addr) (pc : Nat) (xa : Option Addr) (xc : Nat) (e : Int), r = .tuple #[.agg #[.int .i64 n.states, .int .i64 n.start, .slice ea n.ends.length ec, .slice pa n.eps.length pc, .slice xa n.edges.length xc], .int .i64 e] ∧ NfNew m w n [.int .i64 n.states, .int .i64 n.start, .slice ea n.ends.length ec, .slice pa n.eps.length pc, .slice xa n.edges.length xc] ∧ R n e
theorem nf0_at (w : World) : NfAt w nf0 [.int .i64 0, .int .i64 0, .slice none 0 0, .slice none 0 0, .slice none 0 0] :=
 ⟨none, 0, none, 0, none, 0, rfl, SlAt.nil w 1 _ _, SlAt.nil w 2 _ _, [], SlAt.nil w 3 _ _, rfl, fun i e row h => by simp [nf0] at h⟩
theorem nfR_zero {m : Nat} {R : Nf → Int → Prop} {w : World} {e : Int} (h : R nf0 e) : NfR m R (.tuple #[.agg #[.int .i64 0, .int .i64 0, .slice none 0 0, .slice none 0 0, .slice none 0 0], .int .i64 e]) w := ⟨nf0, none, 0, none, 0, none, 0, e, rfl, fun _ w' _ _ => nf0_at w', h⟩
end Go.Proofs
namespace Go.Proofs
open Go Go.Eng
set_option maxRecDepth 100000
theorem catGs_snoc (f : GF) : ∀ (fs : List GF) (g : GS) (o : Pt), catGs (fs ++ [f]) g o = (catGs fs g o).bind fun (g1, o1) => (f g1).bind fun (g2, p) => some (catG g2 o1 p, catP o1 p)
  | [], g, o => by
    simp only [List.nil_append, catGs, Option.bind_some]
  | h :: fs, g, o => by
    simp only [List.cons_append, catGs]
    cases h g with
    | none => rfl
    | some q => obtain ⟨g1, p⟩ := q; simp only [Option.bind_some]; exact catGs_snoc f fs _ _
theorem gkO_mk (k : Int) (z : List Sp) (a : List Re) (mn mx : Int) (b : Bool) : gkO (.mk k z a mn mx b) = gnode k z mn mx (a.map gkO) := by rw [gkO, gkL_map]
theorem gkO_eqE (x : Re) : gkO x = gnode x.kind x.set x.mn x.mx (x.args.map gkO) := by cases x; exact gkO_mk _ _ _ _ _ _
theorem gk_empty (g : GS) : gkO emptyR g = some (g, ⟨true, [], []⟩) := rfl
theorem catG_nil (g : GS) (o p : Pt) (h : o.lst = []) : catG g o p = g := by unfold catG; rw [h]; rfl
theorem gk_itE (mn : Int) (b : Re) (j : Nat) (g : GS) : gkO (itE mn b j) g = (gkO b g).bind fun (g1, p) => some (g1, orP p (decide (mn ≤ (j : Int)))) := by
  unfold itE
  split
  · rename_i h
    rw [decide_eq_false (by omega)]
    cases gkO b g with
    | none => rfl
    | some q => obtain ⟨g1, p⟩ := q; simp [orP]
  · rename_i h
    rw [decide_eq_true (by omega), gkO_mk]
    show altGs [gkO b, gkO emptyR] g ⟨false, [], []⟩ = _
    rw [altGs]
    cases gkO b g with
    | none => rfl
    | some q =>
      obtain ⟨g1, p⟩ := q
      simp only [Option.bind_some, altGs, gk_empty]
      simp [altP, orP]
theorem gk_its (mn : Int) (b : Re) (g : GS) : ∀ k : Nat, catGs (((List.range k).map (itE mn b)).map gkO) g ⟨true, [], []⟩ = repGs (gkO b) mn g k
  | 0 => rfl
  | k + 1 => by
    rw [List.range_succ, List.map_append, List.map_append, List.map_cons, List.map_nil, List.map_cons, List.map_nil, catGs_snoc, gk_its mn b g k, repGs]
    cases repGs (gkO b) mn g k with
    | none => rfl
    | some q =>
      obtain ⟨g1, o⟩ := q
      simp only [Option.bind_some]
      rw [gk_itE]
      cases gkO b g1 with
      | none => rfl
      | some r => rfl
theorem gk_exp : ∀ (n : Nat) (x : Re), x.size ≤ n → okRe x → gkO (expT x) = gkO x := by
  intro n
  induction n with
  | zero => intro x h; have := x.size_pos; omega
  | succ n ih =>
  intro x hn hok
  have hN := node_inv (okRe_node hok)
  have hof : ∀ y ∈ x.args, gkO (expT y) = gkO y := fun y hy => by
    obtain ⟨i, hi⟩ := List.getElem?_of_mem hy
    have h1 := Re.size_arg hi
    exact ih y (by omega) (okRes_get (okRe_args hok) hi)
  rw [expT_eq, expE]
  by_cases h9 : x.kind = 9
  · obtain ⟨y, hy⟩ := kids1 (hN.one (by omega))
    rw [if_pos h9, gkO_eqE x, hy, h9]
    show gkO (expT y) = gnode 9 x.set x.mn x.mx [gkO y]
    rw [hof y (by rw [hy]; exact List.mem_singleton.2 rfl)]; rfl
  rw [if_neg h9]
  by_cases h6 : x.kind = 6
  · obtain ⟨y, hy⟩ := kids1 (hN.one (by omega))
    have h1 := hof y (by rw [hy]; exact List.mem_singleton.2 rfl)
    rw [if_pos h6, gkO_eqE x, hy, h6, gkO_mk]
    funext g
    show catGs (gkO emptyR :: ((List.range x.mx.toNat).map (itE x.mn (expT y))).map gkO) g ⟨true, [], []⟩ = repGs (gkO y) x.mn g x.mx.toNat
    rw [catGs, gk_empty, Option.bind_some]
    show catGs _ (catG g ⟨true, [], []⟩ ⟨true, [], []⟩) (catP ⟨true, [], []⟩ ⟨true, [], []⟩) = _
    rw [catG_nil _ _ _ rfl]
    show catGs _ g ⟨true, [], []⟩ = _
    rw [gk_its, h1]
  · rw [if_neg h6, gkO_mk, gkO_eqE x, List.map_map]
    congr 1
    exact List.map_congr_left fun y hy => hof y hy
mutual
def ex5 : Re → Bool
  | .mk k _ a _ _ _ => decide (0 ≤ k) && decide (k ≤ 5) && (decide (3 ≤ k) || a.isEmpty) && (decide (k ≠ 5) || a.length == 1) && ex5s a
def ex5s : List Re → Bool
  | [] => true
  | x :: l => ex5 x && ex5s l
end
theorem ex5s_iff : ∀ l : List Re, ex5s l = true ↔ ∀ x ∈ l, ex5 x = true
  | [] => by simp [ex5s]
  | x :: l => by simp [ex5s, ex5s_iff l]
theorem ex5_iff {x : Re} : ex5 x = true ↔ (0 ≤ x.kind ∧ x.kind ≤ 5) ∧ (x.kind < 3 → x.args = []) ∧ (x.kind = 5 → x.args.length = 1) ∧ ∀ y ∈ x.args, ex5 y = true := by
 cases x
 rename_i k z a mn mx g
 rw [ex5]
 simp only [Bool.and_eq_true, Bool.or_eq_true, decide_eq_true_eq, ex5s_iff, List.isEmpty_iff, beq_iff_eq]
 show _ ↔ (0 ≤ k ∧ k ≤ 5) ∧ (k < 3 → a = []) ∧ (k = 5 → a.length = 1) ∧ ∀ y ∈ a, ex5 y = true
 constructor
 ·rintro ⟨⟨⟨h1, h2⟩, h3⟩, h4⟩
  exact ⟨h1, fun h => h2.resolve_left (by omega), fun h => h3.resolve_left (by omega), h4⟩
 ·rintro ⟨h1, h2, h3, h4⟩
  refine ⟨⟨⟨h1, ?_⟩, ?_⟩, h4⟩
  ·rcases Classical.em (3 ≤ k) with h | h
   ·exact .inl h
   ·exact .inr (h2 (by omega))
  ·rcases Classical.em (k = 5) with h | h
   ·exact .inr (h3 h)
   ·exact .inl h
theorem node_no {t : Re} (h : nodeE t = 0) (hk : t.kind < 3) (hk0 : 0 ≤ t.kind) : t.args = [] := by
 unfold nodeE at h
 split at h
 ·cases h
 split at h
 ·cases h
 rename_i h2
 have h3 : formB t = true := by simpa using h2
 unfold formB at h3
 simp only [Bool.and_eq_true] at h3
 have h4 := h3.1.1.1.1
 unfold okB at h4
 rw [if_neg (by omega), if_neg (by omega)] at h4
 have := of_decide_eq_true h4
 exact List.eq_nil_of_length_eq_zero (by omega)
theorem ex5_exp : ∀ (n : Nat) (x : Re), x.size ≤ n → okRe x → usesB [7, 8, 10] x = false → ex5 (expT x) = true := by
  intro n
  induction n with
  | zero => intro x h; have := x.size_pos; omega
  | succ n ih =>
  intro x hn hok hu
  have hN := node_inv (okRe_node hok)
  obtain ⟨hk0, hua⟩ := usesB_arg hu
  have hk7 : x.kind ≠ 7 ∧ x.kind ≠ 8 ∧ x.kind ≠ 10 := by
    simp at hk0
    exact ⟨hk0.1, hk0.2.1, hk0.2.2⟩
  have hof : ∀ y ∈ x.args, ex5 (expT y) = true := fun y hy => by
    obtain ⟨i, hi⟩ := List.getElem?_of_mem hy
    have h1 := Re.size_arg hi
    exact ih y (by omega) (okRes_get (okRe_args hok) hi) (hua y hy)
  rw [expT_eq, expE]
  by_cases h9 : x.kind = 9
  · obtain ⟨y, hy⟩ := kids1 (hN.one (by omega))
    rw [if_pos h9, hy]
    exact hof y (by rw [hy]; exact List.mem_singleton.2 rfl)
  rw [if_neg h9]
  by_cases h6 : x.kind = 6
  · obtain ⟨y, hy⟩ := kids1 (hN.one (by omega))
    have h1 := hof y (by rw [hy]; exact List.mem_singleton.2 rfl)
    rw [if_pos h6, hy]
    refine ex5_iff.2 ⟨by show (0 : Int) ≤ 3 ∧ (3 : Int) ≤ 5; decide, fun h => absurd (show (3 : Int) < 3 from h) (by decide), fun h => absurd (show (3 : Int) = 5 from h) (by decide), fun z hz => ?_⟩
    rcases List.mem_cons.1 hz with rfl | hz
    · rfl
    · obtain ⟨j, _, rfl⟩ := List.mem_map.1 hz
      show ex5 (itE x.mn (expT y) j) = true
      unfold itE
      split
      · exact h1
      · refine ex5_iff.2 ⟨by show (0 : Int) ≤ 4 ∧ (4 : Int) ≤ 5; decide, fun h => absurd (show (4 : Int) < 3 from h) (by decide), fun h => absurd (show (4 : Int) = 5 from h) (by decide), fun w hw => ?_⟩
        rcases List.mem_cons.1 hw with rfl | hw
        · exact h1
        · rw [List.mem_singleton.1 hw]; rfl
  · rw [if_neg h6]
    have hk := hN.k
    refine ex5_iff.2 ⟨by show 0 ≤ x.kind ∧ x.kind ≤ 5; omega, fun h => ?_, fun h => ?_, fun z hz => ?_⟩
    · show x.args.map expT = []
      rw [node_no (okRe_node hok) h hk.1]; rfl
    · show (x.args.map expT).length = 1
      rw [List.length_map]; exact hN.one (.inl h)
    · obtain ⟨y, hy, rfl⟩ := List.mem_map.1 (show z ∈ x.args.map expT from hz)
      exact hof y hy
def SemR (x : Re) : Prop := ∀ (g g' : GS) (p : Pt), GI g → gkO x g = some (g', p) → g'.sets = g.sets ++ setsR x ∧ MnG g g' p (canR (numR x g.sets.length).1) (bordR false (numR x g.sets.length).1) (bordR true (numR x g.sets.length).1) (stR (numR x g.sets.length).1)
theorem sem_cat {C : Nat} : ∀ (l : List Re), (∀ x ∈ l, SemR x ∧ GOk C (gkO x)) → ∀ (ns : List Re) (g0 g g' : GS) (o p : Pt), GSt1 (C + 1) g0 g o → MnG g0 g o (ns.all canR) (catB (ns.map (prB false))) (catB (ns.reverse.map (prB true))) (stL 3 ns) → catGs (l.map gkO) g o = some (g', p) →
    g'.sets = g.sets ++ setsRs l ∧ MnG g0 g' p ((ns ++ (numRs l g.sets.length).1).all canR) (catB ((ns ++ (numRs l g.sets.length).1).map (prB false))) (catB ((ns ++ (numRs l g.sets.length).1).reverse.map (prB true))) (stL 3 (ns ++ (numRs l g.sets.length).1))
  | [], _, ns, g0, g, g', o, p, hs, hm, e => by
    simp only [List.map_nil, catGs, Option.some.injEq, Prod.mk.injEq] at e
    obtain ⟨rfl, rfl⟩ := e
    exact ⟨by simp [setsRs], by simpa [numRs] using hm⟩
  | x :: l, hl, ns, g0, g, g', o, p, hs, hm, e => by
    rw [List.map_cons, catGs] at e
    obtain ⟨⟨g1, p1⟩, e1, e2⟩ := Option.bind_eq_some_iff.1 e
    obtain ⟨hx, hgx⟩ := hl x List.mem_cons_self
    obtain ⟨h1, h2⟩ := hx g g1 p1 hs.inv e1
    have h3 := hgx g g1 p1 hs.inv e1
    obtain ⟨Z, hZ⟩ : ∃ Z, Z = (numR x g.sets.length).1 := ⟨_, rfl⟩
    rw [← hZ] at h2
    have hlen : (catG g1 o p1).sets.length = (numR x g.sets.length).2 := by
      show g1.sets.length = _
      rw [h1, List.length_append, numR_cnt]
    have hm2 : MnG g0 (catG g1 o p1) (catP o p1) ((ns ++ [Z]).all canR) (catB ((ns ++ [Z]).map (prB false))) (catB ((ns ++ [Z]).reverse.map (prB true))) (stL 3 (ns ++ [Z])) := by
      have := MnG.cat hm h2 hs h3 (F := catB ((ns ++ [Z]).map (prB false))) (L := catB ((ns ++ [Z]).reverse.map (prB true))) (T := stL 3 (ns ++ [Z])) (fun y => ?_) (fun y => ?_) (fun q => ?_)
      · rw [List.all_append]; simpa using this
      · rw [List.map_append, catB_all]
        have e9 : catB ([Z].map (prB false)) = bordR false Z := by
          simp only [List.map_cons, List.map_nil, catB, prB]
          cases canR Z <;> simp
        rw [e9]
      · rw [List.reverse_append, List.map_append]
        show y ∈ catB (prB true Z :: ns.reverse.map (prB true)) ↔ _
        rw [catB]
        show y ∈ (if canR Z then bordR true Z ++ catB (ns.reverse.map (prB true)) else bordR true Z) ↔ _
        cases canR Z
        · simp
        · simp [or_comm]
      · exact stL_app Z ns q
    have h9 := sem_cat l (fun y hy => hl y (List.mem_cons_of_mem _ hy)) (ns ++ [Z]) g0 (catG g1 o p1) g' (catP o p1) p (hs.cat h3 (Nat.le_refl _)) hm2 e2
    rw [hlen] at h9
    rw [numRs]
    refine ⟨?_, ?_⟩
    · rw [h9.1, setsRs]
      show g1.sets ++ setsRs l = _
      rw [h1, List.append_assoc]
    · have h10 := h9.2
      rw [List.append_assoc] at h10
      rw [← hZ]
      exact h10
theorem sem_alt {C : Nat} : ∀ (l : List Re), (∀ x ∈ l, SemR x ∧ GOk C (gkO x)) → ∀ (ns : List Re) (g0 g g' : GS) (o p : Pt), GSt1 C g0 g o → MnG g0 g o (ns.any canR) ((ns.map (bordR false)).flatten) ((ns.map (bordR true)).flatten) (stL 4 ns) → altGs (l.map gkO) g o = some (g', p) →
    g'.sets = g.sets ++ setsRs l ∧ MnG g0 g' p ((ns ++ (numRs l g.sets.length).1).any canR) (((ns ++ (numRs l g.sets.length).1).map (bordR false)).flatten) (((ns ++ (numRs l g.sets.length).1).map (bordR true)).flatten) (stL 4 (ns ++ (numRs l g.sets.length).1))
  | [], _, ns, g0, g, g', o, p, hs, hm, e => by
    simp only [List.map_nil, altGs, Option.some.injEq, Prod.mk.injEq] at e
    obtain ⟨rfl, rfl⟩ := e
    exact ⟨by simp [setsRs], by simpa [numRs] using hm⟩
  | x :: l, hl, ns, g0, g, g', o, p, hs, hm, e => by
    rw [List.map_cons, altGs] at e
    obtain ⟨⟨g1, p1⟩, e1, e2⟩ := Option.bind_eq_some_iff.1 e
    obtain ⟨hx, hgx⟩ := hl x List.mem_cons_self
    obtain ⟨h1, h2⟩ := hx g g1 p1 hs.inv e1
    have h3 := hgx g g1 p1 hs.inv e1
    obtain ⟨Z, hZ⟩ : ∃ Z, Z = (numR x g.sets.length).1 := ⟨_, rfl⟩
    rw [← hZ] at h2
    have hlen : g1.sets.length = (numR x g.sets.length).2 := by rw [h1, List.length_append, numR_cnt]
    have hm2 : MnG g0 g1 (altP o p1) ((ns ++ [Z]).any canR) (((ns ++ [Z]).map (bordR false)).flatten) (((ns ++ [Z]).map (bordR true)).flatten) (stL 4 (ns ++ [Z])) := by
      have := MnG.alt hm h2 hs h3 (F := ((ns ++ [Z]).map (bordR false)).flatten) (L := ((ns ++ [Z]).map (bordR true)).flatten) (T := stL 4 (ns ++ [Z])) (fun y => ?_) (fun y => ?_) (fun q => ?_)
      · rw [List.any_append]; simpa using this
      · simp
      · simp
      · exact st4_app Z ns q
    have h9 := sem_alt l (fun y hy => hl y (List.mem_cons_of_mem _ hy)) (ns ++ [Z]) g0 g1 g' (altP o p1) p (hs.alt h3 (Nat.le_refl _)) hm2 e2
    rw [hlen] at h9
    rw [numRs]
    refine ⟨?_, ?_⟩
    · rw [h9.1, setsRs, h1, List.append_assoc]
    · have h10 := h9.2
      rw [List.append_assoc] at h10
      rw [← hZ]
      exact h10
theorem sem_all : ∀ (n : Nat) (x : Re), x.size ≤ n → ex5 x = true → SemR x := by
  intro n
  induction n with
  | zero => intro x h; have := x.size_pos; omega
  | succ n ih =>
  intro x hn hx g g' p hg e
  obtain ⟨hk, h2a, h5a, hxa⟩ := ex5_iff.1 hx
  have hof : ∀ y ∈ x.args, SemR y := fun y hy => by
    obtain ⟨i, hi⟩ := List.getElem?_of_mem hy
    have h1 := Re.size_arg hi
    exact ih y (by omega) (hxa y hy)
  have hgo : ∀ y ∈ x.args, GOk (Re.sizes x.args) (gkO y) := fun y hy => by
    refine gkL_ok x.args (gkO y) ?_
    rw [gkL_map]; exact List.mem_map.2 ⟨y, hy, rfl⟩
  cases x
  rename_i k z a mn mx b
  have hk' : 0 ≤ k ∧ k ≤ 5 := hk
  rw [gkO_mk] at e
  unfold gnode at e
  have hall : ∀ y ∈ a, SemR y ∧ GOk (Re.sizes a) (gkO y) := fun y hy => ⟨hof y hy, hgo y hy⟩
  by_cases h1 : k = 1
  · have ha : a = [] := h2a (by show k < 3; omega)
    rw [if_pos h1] at e
    simp only [Option.some.injEq, Prod.mk.injEq] at e
    obtain ⟨rfl, rfl⟩ := e
    subst h1; subst ha
    exact ⟨by simp [setsR, setsRs], MnG.nil g hg true⟩
  rw [if_neg h1] at e
  by_cases h2 : k = 2
  · have ha : a = [] := h2a (by show k < 3; omega)
    rw [if_pos h2] at e
    unfold setG at e
    split at e
    · cases e
    simp only [Option.some.injEq, Prod.mk.injEq] at e
    obtain ⟨rfl, rfl⟩ := e
    subst h2; subst ha
    refine ⟨by simp [setsR], ⟨rfl, fun t => ?_, fun t => ?_, fun c d hc => ?_, fun c d hcd => ?_, fun c hc => ?_⟩⟩
    · show t ∈ [g.sets.length + 1] ↔ (t : Int) ∈ [((g.sets.length + 1 : Nat) : Int)]
      rw [List.mem_singleton, List.mem_singleton]; omega
    · show t ∈ [g.sets.length + 1] ↔ (t : Int) ∈ [((g.sets.length + 1 : Nat) : Int)]
      rw [List.mem_singleton, List.mem_singleton]; omega
    · show d ∈ rowA (g.fol ++ [[]]) c ↔ ((c : Int), (d : Int)) ∈ ([] : List (Int × Int))
      have hgl := hg.1
      have hr : rowA (g.fol ++ [[]]) c = [] := by
        by_cases hcc : c = g.sets.length + 1
        · exact rowA_some (by rw [hcc, ← hgl]; simp)
        · exact rowA_out (by simp; omega)
      rw [hr]; simp
    · exact absurd (show (c, d) ∈ ([] : List (Int × Int)) from hcd) (by simp)
    · have hc' : c ∈ [((g.sets.length + 1 : Nat) : Int)] := hc
      rw [List.mem_singleton] at hc'
      omega
  rw [if_neg h2] at e
  have hnum : (numR (.mk k z a mn mx b) g.sets.length).1 = .mk k z (numRs a g.sets.length).1 mn mx b := by rw [numR, if_neg h2]
  rw [hnum, setsR, if_neg h2]
  by_cases h3 : k = 3
  · rw [if_pos h3] at e
    have h9 := sem_cat a hall [] g g g' _ p (GSt1.refl _ hg true) (MnG.nil g hg true) e
    refine ⟨h9.1, ?_⟩
    have h10 := h9.2
    rw [List.nil_append] at h10
    subst h3
    rw [canR_eq, bordR_cat (by rfl), bordR_cat (by rfl), stR_eq]
    show MnG g g' p (canE 3 ((numRs a g.sets.length).1.map canR)) (catB ((numRs a g.sets.length).1.map (prB false))) (catB ((numRs a g.sets.length).1.reverse.map (prB true))) (stL 3 (numRs a g.sets.length).1)
    rw [show canE 3 ((numRs a g.sets.length).1.map canR) = (numRs a g.sets.length).1.all canR from by rw [canE, if_neg (by decide), if_pos rfl, List.all_map]; rfl]
    exact h10
  rw [if_neg h3] at e
  by_cases h4 : k = 4
  · rw [if_pos h4] at e
    have h9 := sem_alt a hall [] g g g' _ p (GSt1.refl _ hg false) (MnG.nil g hg false) e
    refine ⟨h9.1, ?_⟩
    have h10 := h9.2
    rw [List.nil_append] at h10
    subst h4
    rw [canR_eq, bordR_eq, bordR_eq, stR_eq]
    show MnG g g' p (canE 4 ((numRs a g.sets.length).1.map canR)) (bordE false 4 mn ((numRs a g.sets.length).1.map (prB false))) (bordE true 4 mn ((numRs a g.sets.length).1.map (prB true))) (stL 4 (numRs a g.sets.length).1)
    rw [show canE 4 ((numRs a g.sets.length).1.map canR) = (numRs a g.sets.length).1.any canR from by rw [canE, if_neg (by decide), if_neg (by decide), if_pos rfl, List.any_map]; rfl]
    rw [bordE, if_neg (by decide), if_pos (.inl rfl), bordE, if_neg (by decide), if_pos (.inl rfl), List.map_map, List.map_map]
    exact h10
  rw [if_neg h4] at e
  by_cases h5 : k = 5
  · obtain ⟨y, hy⟩ := kids1 (h5a h5)
    have hy' : a = [y] := hy
    subst hy'
    rw [if_pos h5] at e
    simp only [List.map_cons, List.map_nil] at e
    obtain ⟨⟨g1, p1⟩, e1, e2⟩ := Option.bind_eq_some_iff.1 e
    simp only [Option.some.injEq, Prod.mk.injEq] at e2
    obtain ⟨rfl, rfl⟩ := e2
    obtain ⟨h6, h7⟩ := (hall y (List.mem_singleton.2 rfl)).1 g g1 p1 hg e1
    have h8 := (hall y (List.mem_singleton.2 rfl)).2 g g1 p1 hg e1
    subst h5
    refine ⟨by show g1.sets = _; rw [h6]; simp [setsRs], ?_⟩
    rw [canR_eq, bordR_eq, bordR_eq, stR_eq]
    show MnG g (catG g1 p1 p1) ⟨true, p1.fst, p1.lst⟩ true (([(canR (numR y g.sets.length).1, bordR false (numR y g.sets.length).1)].map (·.2)).flatten) (([(canR (numR y g.sets.length).1, bordR true (numR y g.sets.length).1)].map (·.2)).flatten) (stR (numR y g.sets.length).1 ++ (prodI (bordR true (numR y g.sets.length).1) (bordR false (numR y g.sets.length).1) ++ []))
    exact MnG.star h7 h8 (fun c => by simp) (fun c => by simp) (fun q => by simp [prodI_mem])
  · have h0 : k = 0 := by omega
    have ha : a = [] := h2a (by show k < 3; omega)
    rw [if_neg h5, if_neg (by omega), if_neg (by omega)] at e
    simp only [Option.some.injEq, Prod.mk.injEq] at e
    obtain ⟨rfl, rfl⟩ := e
    subst h0; subst ha
    exact ⟨by simp [setsRs], MnG.nil g hg false⟩
end Go.Proofs
namespace Go.Proofs
open Go Go.Eng Go.Sort
set_option maxRecDepth 100000
abbrev TGk : Nat := 66
abbrev TSl : Nat := 22
def nZ (l : List Nat) : List Int := l.map fun n => ((n : Nat) : Int)
theorem nZ_len (l : List Nat) : (nZ l).length = l.length := by unfold nZ; rw [List.length_map]
theorem nZ_app (a b : List Nat) : nZ (a ++ b) = nZ a ++ nZ b := by unfold nZ; rw [List.map_append]
def nRow (l : List Nat) : Nat × List Value := (l.length, (nZ l).map (Value.int .i64))
/-- The blocks of a list of lists. -/
def LsQ (vo : Value) (vs : List Value) (b : Nat) : Prop := vo.ownBlock = some b ∨ ∃ (i : Nat) (v : Value), vs[i]? = some v ∧ v.ownBlock = some b
theorem GSt.lt {To e sz base : Nat} {w : World} {vo : Value} {vs : List Value} {ns : List (Nat × List Value)} (h : GSt To e sz w base vo vs ns) {b : Nat} (hb : LsQ vo vs b) : base ≤ b ∧ b < w.heap.size := by
 rcases hb with h1 | ⟨i, v, h1, h2⟩
 ·exact h.l.o.lt b h1
 ·obtain ⟨p, hp⟩ := get_of_lt (l := ns) (i := i) (by have := lt_of_get h1; have := h.l.len; omega)
  exact (h.l.inn i v p h1 hp).lt b h2
theorem GSt.chgQ {M : Nat → Prop} {To e sz base : Nat} {w w' : World} {vo : Value} {vs : List Value} {ns : List (Nat × List Value)} (h : GSt To e sz w base vo vs ns) (c : Chg M w w') (hM : ∀ b, LsQ vo vs b → ¬ M b) : GSt To e sz w' base vo vs ns :=
 ⟨⟨own_chg h.l.o c fun b hb => hM b (.inl hb), h.l.len, fun i v p hv hp => own_chg (h.l.inn i v p hv hp) c fun b hb => hM b (.inr ⟨i, v, hv, hb⟩), h.l.apo⟩, h.ap⟩
/-- A list of numbers that is not written again. -/
def FrI (F : Nat → Prop) (w : World) (v : Value) (l : List Nat) : Prop := IntsAt w v (nZ l) ∧ (l = [] ∨ ∃ b, v.ownBlock = some b ∧ F b)
theorem FrI.chg {F M : Nat → Prop} {w w' : World} {v : Value} {l : List Nat} (h : FrI F w v l) (c : Chg M w w') (hM : ∀ y, F y → ¬ M y) : FrI F w' v l := by
 refine ⟨slAt_keep h.1 c ?_, h.2⟩
 rcases h.2 with h1 | ⟨b, h1, h2⟩
 ·exact .inl (by rw [h1]; rfl)
 ·exact .inr ⟨b, h1, hM b h2⟩
theorem FrI.ext {F : Nat → Prop} {w w' : World} {v : Value} {l : List Nat} (h : FrI F w v l) (e : Ext w w') : FrI F w' v l := h.chg e fun _ _ f => f
theorem FrI.mono {F F' : Nat → Prop} {w : World} {v : Value} {l : List Nat} (h : FrI F w v l) (hF : ∀ y, F y → F' y) : FrI F' w v l := ⟨h.1, h.2.imp id fun ⟨b, h1, h2⟩ => ⟨b, h1, hF b h2⟩⟩
theorem FrI.nil (F : Nat → Prop) (w : World) : FrI F w (.slice none 0 0) [] := ⟨SlAt.nil w 1 _ _, .inl rfl⟩
/-- What is known of a part of an expression, as a value. -/
def PtAt (F : Nat → Prop) (w : World) (p : Pt) (v : Value) : Prop := ∃ a c a2 c2, v = .agg #[.bool p.nul, .slice a p.fst.length c, .slice a2 p.lst.length c2] ∧ FrI F w (.slice a p.fst.length c) p.fst ∧ FrI F w (.slice a2 p.lst.length c2) p.lst
theorem PtAt.chg {F M : Nat → Prop} {w w' : World} {p : Pt} {v : Value} (h : PtAt F w p v) (c : Chg M w w') (hM : ∀ y, F y → ¬ M y) : PtAt F w' p v := by
 obtain ⟨a, d, a2, c2, h1, h2, h3⟩ := h
 exact ⟨a, d, a2, c2, h1, h2.chg c hM, h3.chg c hM⟩
theorem PtAt.ext {F : Nat → Prop} {w w' : World} {p : Pt} {v : Value} (h : PtAt F w p v) (e : Ext w w') : PtAt F w' p v := h.chg e fun _ _ f => f
def SetF (F : Nat → Prop) (w : World) (zs : List (List Sp)) (us : List Value) : Prop := us.length = zs.length ∧ ∀ (i : Nat) u z, us[i]? = some u → zs[i]? = some z → SpansAt w u z ∧ (z = [] ∨ ∃ b, u.ownBlock = some b ∧ F b)
theorem SetF.chg {F M : Nat → Prop} {w w' : World} {zs : List (List Sp)} {us : List Value} (h : SetF F w zs us) (c : Chg M w w') (hM : ∀ y, F y → ¬ M y) : SetF F w' zs us := by
 refine ⟨h.1, fun i u z hu hz => ?_⟩
 obtain ⟨h1, h2⟩ := h.2 i u z hu hz
 refine ⟨slAt_keep h1 c ?_, h2⟩
 rcases h2 with h2 | ⟨b, h2, h3⟩
 ·exact .inl (by rw [h2]; rfl)
 ·exact .inr ⟨b, h2, hM b h3⟩
theorem SetF.mono {F F' : Nat → Prop} {w : World} {zs : List (List Sp)} {us : List Value} (h : SetF F w zs us) (hF : ∀ y, F y → F' y) : SetF F' w zs us := ⟨h.1, fun i u z hu hz => by obtain ⟨h1, h2⟩ := h.2 i u z hu hz; exact ⟨h1, h2.imp id fun ⟨b, h3, h4⟩ => ⟨b, h3, hF b h4⟩⟩⟩
theorem SetF.snoc {F : Nat → Prop} {w : World} {zs : List (List Sp)} {us : List Value} {u : Value} {z : List Sp} (h : SetF F w zs us) (h1 : SpansAt w u z) (h2 : z = [] ∨ ∃ b, u.ownBlock = some b ∧ F b) : SetF F w (zs ++ [z]) (us ++ [u]) := by
 refine ⟨by simp [h.1], fun i x y hx hy => ?_⟩
 rcases Nat.lt_or_ge i us.length with hi | hi
 ·rw [List.getElem?_append_left hi] at hx
  rw [List.getElem?_append_left (by have := h.1; omega)] at hy
  exact h.2 i x y hx hy
 ·have := lt_of_get hx
  simp at this
  obtain rfl : i = us.length := by omega
  rw [List.getElem?_append_right (Nat.le_refl _), Nat.sub_self] at hx
  rw [h.1, List.getElem?_append_right (Nat.le_refl _), Nat.sub_self] at hy
  simp at hx hy
  subst hx; subst hy
  exact ⟨h1, h2⟩
structure GkSt (F : Nat → Prop) (w : World) (base pb : Nat) (sv fv : Value) (vs : List Value) (g : GS) : Prop where
 blk : Blk w pb #[sv, fv] TGk
 sets : ∃ us, w.ownsRow base TSl 1 sv g.sets.length us ∧ SetF F w g.sets us
 fol : GSt TDIs TDI 1 w base fv vs (g.fol.map nRow)
 hsF : ∀ b, sv.ownBlock = some b → ¬ F b
 hfF : ∀ b, LsQ fv vs b → ¬ F b
 apt : ∀ b, sv.ownBlock = some b → ¬ LsQ fv vs b
 hp : ¬ F pb
 aps : sv.ownBlock ≠ some pb ∧ ¬ LsQ fv vs pb
 bs : base ≤ w.heap.size
 fl : ∀ y, F y → y < w.heap.size
def GM (pb : Nat) (sv fv : Value) (vs : List Value) (y : Nat) : Prop := y = pb ∨ sv.ownBlock = some y ∨ LsQ fv vs y
section
variable {F F' F2 M : Nat → Prop} {w0 w w' w2 wb : World} {base pb : Nat} {sv fv sv' fv' sv2 fv2 : Value} {vs vs' vs2 : List Value} {g g' g2 : GS}
theorem GkSt.chg (h : GkSt F w base pb sv fv vs g) (c : Chg M w w') (hM : ∀ y, F y → ¬ M y) (h1 : ∀ y, GM pb sv fv vs y → ¬ M y) : GkSt F w' base pb sv fv vs g := by
 obtain ⟨us, h4, h5⟩ := h.sets
 exact ⟨c.keep (h1 pb (.inl rfl)) h.blk, ⟨us, own_chg h4 c fun k hk => h1 k (.inr (.inl hk)), h5.chg c hM⟩, h.fol.chgQ c fun b hb => h1 b (.inr (.inr hb)), h.hsF, h.hfF, h.apt, h.hp, h.aps, Nat.le_trans h.bs c.size, fun y hy => Nat.lt_of_lt_of_le (h.fl y hy) c.size⟩
theorem GkSt.ext (h : GkSt F w base pb sv fv vs g) (c : Ext w w') : GkSt F w' base pb sv fv vs g := h.chg c (fun _ _ f => f) fun _ _ f => f
theorem GkSt.low (h : GkSt F w base pb sv fv vs g) : ∀ y, GM pb sv fv vs y → y < w.heap.size := fun y hy => by
 obtain ⟨us, h3, _⟩ := h.sets
 rcases hy with h1 | h1 | h1
 ·rw [h1]; exact h.blk.lt
 ·exact (h3.lt y h1).2
 ·exact (h.fol.lt h1).2
theorem GkSt.kept (h : GkSt F w base pb sv fv vs g) {b : Nat} (hb : F b) : ¬ GM pb sv fv vs b := fun hm => hm.elim (fun e => h.hp (e ▸ hb)) fun e => e.elim (fun e => h.hsF b e hb) fun e => h.hfF b e hb
structure GrG (F : Nat → Prop) (w0 : World) (base pb : Nat) (sv fv : Value) (vs : List Value) (F' : Nat → Prop) (sv' fv' : Value) (vs' : List Value) (g' : GS) (w : World) : Prop where
 sub : ∀ y, F y → F' y
 new : ∀ y, F' y → F y ∨ w0.heap.size ≤ y
 st : GkSt F' w base pb sv' fv' vs' g'
 chg : Chg (GM pb sv fv vs) w0 w
 os : ∀ k, sv'.ownBlock = some k → sv.ownBlock = some k ∨ w0.heap.size ≤ k
 of : ∀ k, LsQ fv' vs' k → LsQ fv vs k ∨ w0.heap.size ≤ k
theorem GrG.start (h : GkSt F w0 base pb sv fv vs g) : GrG F w0 base pb sv fv vs F sv fv vs g w0 := ⟨fun _ h => h, fun _ h => .inl h, h, Chg.refl _ _, fun _ h => .inl h, fun _ h => .inl h⟩
theorem GrG.ext (h : GrG F w0 base pb sv fv vs F' sv' fv' vs' g' w) (e : Ext w w2) : GrG F w0 base pb sv fv vs F' sv' fv' vs' g' w2 := ⟨h.sub, h.new, h.st.ext e, h.chg.ext e, h.os, h.of⟩
theorem GrG.olds (h : GrG F w0 base pb sv fv vs F' sv' fv' vs' g' w) : ∀ y, GM pb sv' fv' vs' y → GM pb sv fv vs y ∨ w0.heap.size ≤ y := fun y hy => by
 rcases hy with h1 | h1 | h1
 ·exact .inl (.inl h1)
 ·exact (h.os y h1).imp (fun h => .inr (.inl h)) id
 ·exact (h.of y h1).imp (fun h => .inr (.inr h)) id
theorem GrG.comp (h : GrG F w0 base pb sv fv vs F' sv' fv' vs' g' w) (b : GrG F' w base pb sv' fv' vs' F2 sv2 fv2 vs2 g2 w2) : GrG F w0 base pb sv fv vs F2 sv2 fv2 vs2 g2 w2 := by
 have hs := h.chg.size
 refine ⟨fun y hy => b.sub y (h.sub y hy), fun y hy => ?_, b.st, h.chg.step b.chg fun x hx hm => ?_, fun k hk => ?_, fun k hk => ?_⟩
 ·rcases b.new y hy with h1 | h1
  ·exact h.new y h1
  ·exact .inr (by omega)
 ·rcases h.olds x hm with h1 | h1
  ·exact h1
  ·omega
 ·rcases b.os k hk with h1 | h1
  ·exact h.os k h1
  ·exact .inr (by omega)
 ·rcases b.of k hk with h1 | h1
  ·exact h.of k h1
  ·exact .inr (by omega)
theorem GrG.base' (h : GrG F w0 base pb sv fv vs F' sv' fv' vs' g' w) (h0 : GkSt F w0 base pb sv fv vs g) (hF : ∀ y, y < wb.heap.size → F y) (hE : Ext wb w0) : Ext wb w :=
 hE.step h.chg fun x hx hm => h0.kept (hF x hx) hm
theorem GrG.pan (h : GrG F w0 base pb sv fv vs F' sv' fv' vs' g' w) (c : Chg (GM pb sv' fv' vs') w w2) : Chg (GM pb sv fv vs) w0 w2 :=
 h.chg.step c fun x hx hm => by
  rcases h.olds x hm with h1 | h1
  ·exact h1
  ·omega
/-- A row has grown. -/
theorem GrG.row {gb n cap m' p : Nat} {v v' : Value} {l to : List Nat} {cur : Array Value} (h : GkSt F w base pb sv (.slice (some ⟨gb, 0, none⟩) n cap) vs g) (hn : n = g.fol.length) (hv : vs[p]? = some v) (hl : g.fol[p]? = some l)
  (Ov : w'.ownsRow base TDI 1 v' m' ((nZ (l ++ to)).map (Value.int .i64))) (hm : m' = (l ++ to).length) (Cv : Chg (fun x => v.ownBlock = some x) w w') (Wv : ∀ k, v'.ownBlock = some k → v.ownBlock = some k ∨ w.heap.size ≤ k) (hB : Blk w' gb cur TDIs) (P : Put w' w2 gb (cur.setIfInBounds p v') TDIs) :
  GrG F w base pb sv (.slice (some ⟨gb, 0, none⟩) n cap) vs F sv (.slice (some ⟨gb, 0, none⟩) n cap) (vs.set p v') ⟨g.sets, lnk1 g.fol to p⟩ w2 := by
 have hp1 : (g.fol.map nRow)[p]? = some (l.length, (nZ l).map (Value.int .i64)) := by rw [List.getElem?_map, hl]; rfl
 have hG := h.fol.grow (by rw [List.length_map]; exact hn) hv hp1 (m' := m') (xs' := (nZ (l ++ to)).map (Value.int .i64)) Ov Cv Wv hB P
 have he : (g.fol.map nRow).set p (m', (nZ (l ++ to)).map (Value.int .i64)) = (lnk1 g.fol to p).map nRow := by
  unfold lnk1
  rw [List.map_set, List.getD_eq_getElem?_getD, hl, hm]; rfl
 rw [he] at hG
 have hold : ∀ k, LsQ (.slice (some ⟨gb, 0, none⟩) n cap) (vs.set p v') k → LsQ (.slice (some ⟨gb, 0, none⟩) n cap) vs k ∨ w.heap.size ≤ k := fun k hk => by
  rcases hk with h1 | ⟨i, u, h1, h2⟩
  ·exact .inl (.inl h1)
  ·rw [List.getElem?_set] at h1
   split at h1
   ·rename_i e
    split at h1
    ·cases h1
     rcases Wv k h2 with h3 | h3
     ·exact .inl (.inr ⟨p, v, hv, h3⟩)
     ·exact .inr h3
    ·cases h1
   ·exact .inl (.inr ⟨i, u, h1, h2⟩)
 have hgb : LsQ (.slice (some ⟨gb, 0, none⟩) n cap) vs gb := .inl rfl
 have hvb : ∀ y, v.ownBlock = some y → LsQ (.slice (some ⟨gb, 0, none⟩) n cap) vs y := fun y hy => .inr ⟨p, v, hv, hy⟩
 obtain ⟨us, h3, h4⟩ := h.sets
 have hC : Chg (GM pb sv (.slice (some ⟨gb, 0, none⟩) n cap) vs) w w2 := (Cv.mono fun y _ hy => .inr (.inr (hvb y hy))).step P.chg fun x hx e => .inr (.inr (by have e' : x = gb := e; rw [e']; exact hgb))
 have hlow := h.low
 refine ⟨fun _ h => h, fun _ h => .inl h, ⟨?_, ⟨us, own_chg (own_chg h3 Cv fun k hk e => h.apt k hk (hvb k e)) P.chg fun k hk e => h.apt k hk (by have e' : k = gb := e; rw [e']; exact hgb), (h4.chg Cv fun y hy e => h.hfF y (hvb y e) hy).chg P.chg fun y hy e => h.hfF y (by have e' : y = gb := e; rw [e']; exact hgb) hy⟩, hG, h.hsF, fun b hb hf => ?_, fun b hb hq => ?_, h.hp, ⟨h.aps.1, fun hq => ?_⟩, Nat.le_trans h.bs hC.size, fun y hy => Nat.lt_of_lt_of_le (h.fl y hy) hC.size⟩, hC, fun _ h => .inl h, hold⟩
 ·exact P.chg.keep (fun e => h.aps.2 (by have e' : pb = gb := e; rw [e']; exact hgb)) (Cv.keep (fun e => h.aps.2 (hvb pb e)) h.blk)
 ·rcases hold b hb with h1 | h1
  ·exact h.hfF b h1 hf
  ·have := h.fl b hf; omega
 ·rcases hold b hq with h1 | h1
  ·exact h.apt b hb h1
  ·have := (h3.lt b hb).2; omega
 ·rcases hold pb hq with h1 | h1
  ·exact h.aps.2 h1
  ·have := hlow pb (.inl rfl); omega
end
theorem DoesT_appendAny {P : Program} {N : Nat} {σ : Env} {w : World} {dst : Option Tmp} {ty : TypeId} {pos : String} {af : Array Edge} {g : Option (Nat × Bool)} {M : Nat → Prop} {t : TypeId} {s x : Operand} {base e size bytes n m c hs : Nat} {ax : Option Addr} {z v : Value} {xs news : List Value} (hu : P.underlying t = some (.slice e)) (hsz : Siz P e size) (hby : Byt P e bytes) (hz : Zer P e z) (hzs : z.cells.size = size) (h0 : 0 < size)
  (he : ev σ s = v) (hown : w.ownsRow base e size v n xs) (hx : ev σ x = .slice ax m c) (hl : news.length = m * size) (hany : (m = 0 ∧ news = []) ∨ ∃ bx ox, ax = some ⟨bx, ox, none⟩ ∧ CellsAt w bx ox news) (h1 : ∀ u ∈ news, u.oneCell' = true)
  (h63 : n + m ≤ maxLen) (hbytes : (n + m) * bytes ≤ 140737488355328) (hbase : base ≤ w.heap.size) (hM : ∀ y, v.ownBlock = some y → M y) (hhs : hs ≤ w.heap.size) :
  DoesT M P N ⟨dst, .call ⟨.builtin .append, #[s, x], #[t, t]⟩, ty, pos, af, g⟩ (appF base e size (n + m) (xs ++ news) v hs) σ w := by
 rcases hany with ⟨rfl, rfl⟩ | ⟨bx, ox, rfl, hc⟩
 ·obtain ⟨a, c', rfl⟩ := own_form hown
  exact DoesT_val (r_append0 hu hsz he (own_le hown) hx) (Chg.refl _ _) ⟨⟨a, c', rfl⟩, by simpa using hown, fun _ h => .inl h⟩
 ·exact DoesT_append hu hsz hby hz hzs h0 he hown hx hl hc h1 h63 hbytes hbase hM hhs
end Go.Proofs
namespace Go.Proofs
open Go Go.Eng
def epS (p : Int × Int) : List Int := [p.1, p.2]
def edS (e : Ed) : List Int := [e.1, e.2.1]
def stsN (n : Nf) : List Int := (n.start :: n.ends) ++ (n.eps.map epS).flatten ++ (n.edges.map edS).flatten
def badS (m s : Int) : Bool := decide (s < 0) || decide (m ≤ s)
def setsE : List Ed → Int
  | [] => 0
  | e :: l => if checkE e.2.2 = 0 then setsE l else checkE e.2.2
def chkN (n : Nf) : Int :=
 if 500 < n.states ∨ 500 < n.ends.length ∨ 20000 < n.eps.length ∨ 20000 < n.edges.length then 2
 else if (stsN n).any (badS n.states) then 1 else setsE n.edges
theorem setsE_zero : ∀ {l : List Ed}, setsE l = 0 ↔ ∀ e ∈ l, checkE e.2.2 = 0
  | [] => by simp [setsE]
  | e :: l => by
    rw [setsE]
    split
    · rename_i h
      rw [setsE_zero]
      simp [h]
    · rename_i h
      constructor
      · exact fun k => absurd k h
      · exact fun k => absurd (k e List.mem_cons_self) h
theorem any_bad {m : Int} {l : List Int} : l.any (badS m) = false ↔ ∀ s ∈ l, 0 ≤ s ∧ s < m := by
 rw [List.any_eq_false]
 constructor
 ·intro h s hs
  have := h s hs
  simp [badS] at this
  omega
 ·intro h s hs
  have := h s hs
  simp [badS]
  omega
theorem chkN_zero {n : Nf} : chkN n = 0 ↔ OkN n := by
 unfold chkN
 constructor
 ·intro h
  split at h
  ·omega
  rename_i h1
  split at h
  ·omega
  rename_i h2
  have h3 := any_bad.1 (by simpa using h2)
  have h4 := setsE_zero.1 h
  have h5 : ∀ s, s ∈ n.start :: n.ends ∨ s ∈ (n.eps.map epS).flatten ∨ s ∈ (n.edges.map edS).flatten → 0 ≤ s ∧ s < n.states := by
   intro s hs
   refine h3 s ?_
   unfold stsN
   rcases hs with hs | hs | hs
   ·exact List.mem_append_left _ (List.mem_append_left _ hs)
   ·exact List.mem_append_left _ (List.mem_append_right _ hs)
   ·exact List.mem_append_right _ hs
  refine ⟨by omega, h5 _ (.inl List.mem_cons_self), by omega, by omega, by omega, fun s hs => h5 s (.inl (List.mem_cons_of_mem _ hs)), fun p hp => ?_, fun e he => ?_⟩
  ·have hm : ∀ x ∈ epS p, 0 ≤ x ∧ x < n.states := fun x hx => h5 x (.inr (.inl (List.mem_flatten.2 ⟨_, List.mem_map.2 ⟨p, hp, rfl⟩, hx⟩)))
   exact ⟨hm p.1 (by simp [epS]), hm p.2 (by simp [epS])⟩
  ·have hm : ∀ x ∈ edS e, 0 ≤ x ∧ x < n.states := fun x hx => h5 x (.inr (.inr (List.mem_flatten.2 ⟨_, List.mem_map.2 ⟨e, he, rfl⟩, hx⟩)))
   exact ⟨hm e.1 (by simp [edS]), hm e.2.1 (by simp [edS]), h4 e he⟩
 ·intro h
  rw [if_neg (by have := h.st; have := h.el; have := h.pl; have := h.xl; omega)]
  rw [if_neg ?_]
  ·exact setsE_zero.2 fun e he => (h.ed e he).2.2
  ·rw [Bool.not_eq_true, any_bad]
   intro s hs
   unfold stsN at hs
   rcases List.mem_append.1 hs with hs | hs
   ·rcases List.mem_append.1 hs with hs | hs
    ·rcases List.mem_cons.1 hs with rfl | hs
     ·exact h.s0
     ·exact h.en s hs
    ·obtain ⟨l, hl, hx⟩ := List.mem_flatten.1 hs
     obtain ⟨p, hp, rfl⟩ := List.mem_map.1 hl
     simp [epS] at hx
     rcases hx with rfl | rfl
     ·exact (h.ep p hp).1
     ·exact (h.ep p hp).2
   ·obtain ⟨l, hl, hx⟩ := List.mem_flatten.1 hs
    obtain ⟨p, hp, rfl⟩ := List.mem_map.1 hl
    simp [edS] at hx
    rcases hx with rfl | rfl
    ·exact (h.ed p hp).1
    ·exact (h.ed p hp).2.1
theorem flat2_len (α : Type) (f : α → List Int) (hf : ∀ x, (f x).length = 2) : ∀ l : List α, (l.map f).flatten.length = 2 * l.length
  | [] => rfl
  | x :: l => by rw [List.map_cons, List.flatten_cons, List.length_append, hf, flat2_len α f hf l, List.length_cons]; omega
theorem flat_takeN {α : Type} (f : α → List Int) {l : List α} {k : Nat} {x : α} (h : l[k]? = some x) : ((l.take (k + 1)).map f).flatten = ((l.take k).map f).flatten ++ f x := by
 rw [List.take_add_one, h]; simp
theorem setsE_step {l : List Ed} {k : Nat} {e : Ed} (h : setsE l = setsE (l.drop k)) (he : l[k]? = some e) : (checkE e.2.2 = 0 → setsE l = setsE (l.drop (k + 1))) ∧ (checkE e.2.2 ≠ 0 → setsE l = checkE e.2.2) := by
 have hl : l.drop k = e :: l.drop (k + 1) := by
  have := lt_of_get he
  rw [List.drop_eq_getElem_cons this]
  rw [List.getElem?_eq_getElem this] at he
  rw [Option.some.inj he]
 rw [h, hl, setsE]
 exact ⟨fun h => by rw [if_pos h], fun h => by rw [if_neg h]⟩
end Go.Proofs
namespace Go.Proofs
open Go Go.Eng Go.Sort
set_option maxRecDepth 100000
theorem ncheck1_c (w0 : World) (x st : Int) (b : Nat) (v1 v2 v3 v4 : Value) (hB : Blk w0 b #[.int .i64 st, v1, v2, v3, v4] 30) : Ret Try.prog 106 #[.int .i64 x, .pointer (some ⟨b, 0, none⟩)] w0 fun r w => r = .bool (badS st x) ∧ Ext w0 w := by
 refine Ret_of Try.func106 rfl Try.ntmps106 (Nat.le_of_ble_eq_true rfl) ?_
 have E : Chg none1 w0 w0 := Chg.refl _ _
 refine Wp_seq_region ?_
 refine qA _ rfl ?_
 refine WpL_nil (Wp_seq_region ?_)
 refine qM _ rfl ?_
 obtain ⟨e1, he1⟩ : ∃ e, (decide ((x : Int) < 0)) = e := ⟨_, rfl⟩
 refine qV ((r_lss rfl rfl).trans (by rw [he1]; try rfl)) ?_
 refine qM _ rfl ?_
 refine qG (.bool e1) (nU e1 (I6 x)) (by cases e1 <;> first | exact gA | exact gB | exact .inl ⟨rfl, r_move rfl⟩) ?_
 refine qG (.bool e1) (nU e1 (P6 b 0)) (by cases e1 <;> first | exact gA | exact gB | exact .inl ⟨rfl, r_fieldAddr rfl Try.underlying30 rfl siz3 rfl⟩) ?_
 refine qG (.bool e1) (nU e1 (I6 st)) (by cases e1 <;> first | exact gA | exact gB | exact .inl ⟨rfl, r_load rfl flat3 (hB.cell rfl)⟩) ?_
 obtain ⟨e2, he2⟩ : ∃ e, (decide ((st : Int) ≤ x)) = e := ⟨_, rfl⟩
 refine qG (.bool e1) (nU e1 (.bool e2)) (by cases e1 <;> first | exact gA | exact gB | exact .inl ⟨rfl, (r_geq rfl rfl).trans (by rw [he2]; try rfl)⟩) ?_
 obtain ⟨e3, he3⟩ : ∃ e, (e1 || e2) = e := ⟨_, rfl⟩
 refine qV (r_pick (v := .bool e3) rfl (by rw [← he3]; cases e1 <;> rfl)) ?_
 refine qA _ rfl ?_
 refine WpL_nil ?_
 subst he3
 subst he2
 subst he1
 refine Wp_ret ?_
 refine fin_tmp Try.results106 (v := (.bool ((decide ((x : Int) < 0)) || (decide ((st : Int) ≤ x))))) rfl ?_
 exact ⟨bool_eq rfl, E⟩
theorem two_lists {w : World} {a b : Value} {la lb : List Int} (h1 : IntsAt w a la) (h2 : IntsAt w b lb) : ∀ (i : Nat) u l, [a, b][i]? = some u → [la, lb][i]? = some l → IntsAt w u l := by
  intro i u l hu hl
  match i, hu, hl with
  | 0, hu, hl => simp at hu hl; subst hu; subst hl; exact h1
  | 1, hu, hl => simp at hu hl; subst hu; subst hl; exact h2
  | i + 2, hu, hl => simp at hu
theorem concat2_c (w0 : World) (base : Nat) (v : Value) (ll : List (List Int)) (L : List Int) (h : IntssAt w0 v ll) (e : ll.flatten = L) (hl : L.length ≤ 8796093022208) (hb : base = (w0 : World).heap.size ∨ base ≤ w0.heap.size) :
  Ret Try.prog 61 #[v] w0 fun r w => (∃ a c, r = .slice a L.length c) ∧ w.ownsRow base TDI 1 r L.length (L.map (Value.int .i64)) ∧ Ext w0 w := by
 subst e
 exact (concati_c w0 v ll h hl).mono fun r w h9 => ⟨h9.1, own_low h9.2.1 (by omega), h9.2.2⟩
set_option maxHeartbeats 2000000 in
theorem ncheck_c (w0 : World) (n : Nf) (vs : List Value) (h : NfAt w0 n vs) : Ret Try.prog 74 #[.agg vs.toArray] w0 fun r w => r = .int .i64 (chkN n) ∧ Ext w0 w := by
 obtain ⟨ea, ec, pa, pc, xa, xc, rfl, hen, hep, hed⟩ := h
 refine Ret_of Try.func74 rfl Try.ntmps74 (Nat.le_of_ble_eq_true rfl) ?_
 have E : Chg none1 w0 w0 := Chg.refl _ _
 refine Wp_seq_region ?_
 refine s_box (v := (.agg #[(I6 n.states), (I6 n.start), (.slice ea n.ends.length ec), (.slice pa n.eps.length pc), (.slice xa n.edges.length xc)])) (c := #[(I6 n.states), (I6 n.start), (.slice ea n.ends.length ec), (.slice pa n.eps.length pc), (.slice xa n.edges.length xc)]) (by decide) rfl rfl ?_
 intro bn wn Nn
 have Fn := Nn.ge E
 replace E := E.ext Nn.ext
 have Bn := Nn.blk
 refine qA _ rfl ?_
 refine WpL_nil (Wp_seq (Wp_seq_region ?_))
 refine qF bn 0 0 rfl Try.underlying30 rfl siz3 rfl ?_
 refine qV (r_load rfl flat3 (Bn.cell rfl)) ?_
 obtain ⟨e1, he1⟩ : ∃ e, (decide ((500 : Int) < n.states)) = e := ⟨_, rfl⟩
 refine qV ((r_gtr rfl rfl).trans (by rw [he1]; try rfl)) ?_
 refine qM _ rfl ?_
 refine qG (.bool e1) (nU e1 (P6 bn 2)) (by cases e1 <;> first | exact gA | exact gB | exact .inl ⟨rfl, r_fieldAddr rfl Try.underlying30 rfl siz26 rfl⟩) ?_
 refine qG (.bool e1) (nU e1 (.slice ea n.ends.length ec)) (by cases e1 <;> first | exact gA | exact gB | exact .inl ⟨rfl, r_load rfl flat26 (Bn.cell rfl)⟩) ?_
 refine qG (.bool e1) (nU e1 (I6 (n.ends.length : Int))) (by cases e1 <;> first | exact gA | exact gB | exact .inl ⟨rfl, r_lenSlice Try.underlying26 rfl⟩) ?_
 obtain ⟨e2, he2⟩ : ∃ e, (decide ((500 : Int) < ((n.ends.length : Nat) : Int))) = e := ⟨_, rfl⟩
 refine qG (.bool e1) (nU e1 (.bool e2)) (by cases e1 <;> first | exact gA | exact gB | exact .inl ⟨rfl, (r_gtr rfl rfl).trans (by rw [he2]; try rfl)⟩) ?_
 obtain ⟨e3, he3⟩ : ∃ e, (e1 || e2) = e := ⟨_, rfl⟩
 refine qV (r_pick (v := .bool e3) rfl (by rw [← he3]; cases e1 <;> rfl)) ?_
 refine qM _ rfl ?_
 refine qG (.bool e3) (nU e3 (P6 bn 3)) (by cases e3 <;> first | exact gA | exact gB | exact .inl ⟨rfl, r_fieldAddr rfl Try.underlying30 rfl siz27 rfl⟩) ?_
 refine qG (.bool e3) (nU e3 (.slice pa n.eps.length pc)) (by cases e3 <;> first | exact gA | exact gB | exact .inl ⟨rfl, r_load rfl flat27 (Bn.cell rfl)⟩) ?_
 refine qG (.bool e3) (nU e3 (I6 (n.eps.length : Int))) (by cases e3 <;> first | exact gA | exact gB | exact .inl ⟨rfl, r_lenSlice Try.underlying27 rfl⟩) ?_
 obtain ⟨e4, he4⟩ : ∃ e, (decide ((20000 : Int) < ((n.eps.length : Nat) : Int))) = e := ⟨_, rfl⟩
 refine qG (.bool e3) (nU e3 (.bool e4)) (by cases e3 <;> first | exact gA | exact gB | exact .inl ⟨rfl, (r_gtr rfl rfl).trans (by rw [he4]; try rfl)⟩) ?_
 obtain ⟨e5, he5⟩ : ∃ e, (e3 || e4) = e := ⟨_, rfl⟩
 refine qV (r_pick (v := .bool e5) rfl (by rw [← he5]; cases e3 <;> rfl)) ?_
 refine qM _ rfl ?_
 refine qG (.bool e5) (nU e5 (P6 bn 4)) (by cases e5 <;> first | exact gA | exact gB | exact .inl ⟨rfl, r_fieldAddr rfl Try.underlying30 rfl siz28 rfl⟩) ?_
 refine qG (.bool e5) (nU e5 (.slice xa n.edges.length xc)) (by cases e5 <;> first | exact gA | exact gB | exact .inl ⟨rfl, r_load rfl flat28 (Bn.cell rfl)⟩) ?_
 refine qG (.bool e5) (nU e5 (I6 (n.edges.length : Int))) (by cases e5 <;> first | exact gA | exact gB | exact .inl ⟨rfl, r_lenSlice Try.underlying28 rfl⟩) ?_
 obtain ⟨e6, he6⟩ : ∃ e, (decide ((20000 : Int) < ((n.edges.length : Nat) : Int))) = e := ⟨_, rfl⟩
 refine qG (.bool e5) (nU e5 (.bool e6)) (by cases e5 <;> first | exact gA | exact gB | exact .inl ⟨rfl, (r_gtr rfl rfl).trans (by rw [he6]; try rfl)⟩) ?_
 obtain ⟨e7, he7⟩ : ∃ e, (e5 || e6) = e := ⟨_, rfl⟩
 refine qV (r_pick (v := .bool e7) rfl (by rw [← he7]; cases e5 <;> rfl)) ?_
 refine WpL_nil ?_
 subst he7
 subst he6
 subst he5
 subst he4
 subst he3
 subst he2
 subst he1
 refine Wp_cond rfl (fun h0 => ?_) (fun h0 => ?_)
 ·have kh0 := h0
  refine Wp_seq_region ?_
  refine qA _ rfl ?_
  refine WpL_nil (Wp_ret (thn_ret ?_))
  refine fin_tmp Try.results74 (v := (.int .i64 2)) rfl ?_
  exact ⟨by unfold chkN; rw [if_pos (by simp only [Bool.or_eq_true, decide_eq_true_eq] at h0; omega)], E⟩
 ·have kh0 := h0
  have h0 : ¬ (500 < n.states ∨ 500 < n.ends.length ∨ 20000 < n.eps.length ∨ 20000 < n.edges.length) := by simp only [Bool.or_eq_false_iff, decide_eq_false_iff_not] at h0; omega
  obtain ⟨L0, hL0⟩ : ∃ L0, L0 = n.start :: n.ends := ⟨_, rfl⟩
  have hL0l : L0.length = n.ends.length + 1 := by rw [hL0]; rfl
  refine Wp_skip (thn_normal (Wp_seq_region ?_))
  refine qF bn 0 1 rfl Try.underlying30 rfl siz3 rfl ?_
  refine qV (r_load rfl flat3 (Bn.cell rfl)) ?_
  refine s_buildSlice (ps := [(0, (I6 n.start))]) (c := #[(I6 n.start)]) (by decide) rfl Try.underlying26 siz3 zer3 (by decide) (by decide) (by kernel_rfl) ?_
  intro bs ws Ns
  have Fs := Ns.ge E
  have Os_bn := Ns.lt Bn
  replace Bn := Ns.keep Bn
  replace E := E.ext Ns.ext
  have Bs := Ns.blk
  refine qF bn 0 2 rfl Try.underlying30 rfl siz26 rfl ?_
  refine qV (r_load rfl flat26 (Bn.cell rfl)) ?_
  refine s_buildSlice (ps := [(0, (.slice (some ⟨bs, 0, none⟩) 1 1)), (1, (.slice ea n.ends.length ec))]) (c := #[(.slice (some ⟨bs, 0, none⟩) 1 1), (.slice ea n.ends.length ec)]) (by decide) rfl Try.underlying42 siz26 zer26 (by decide) (by decide) (by kernel_rfl) ?_
  intro bq wq Nq
  have Fq := Nq.ge E
  have Oq_bn := Nq.lt Bn
  have Oq_bs := Nq.lt Bs
  replace Bn := Nq.keep Bn
  replace Bs := Nq.keep Bs
  replace E := E.ext Nq.ext
  have Bq := Nq.blk
  obtain ⟨base, hbase⟩ : ∃ base, base = (wq).heap.size := ⟨_, rfl⟩
  have hb0 : w0.heap.size ≤ base ∧ bn < base := ⟨by rw [hbase]; exact E.size, by rw [hbase]; exact Bn.lt⟩
  refine WpL_enter rfl rfl (by decide) (r_callF Try.func61 kQ kQ rfl) (concat2_c _ base _ [[n.start], n.ends] L0 (intss_blk Bq rfl rfl (by omega) (two_lists (ints_of_blk [n.start] Bs (by simp) (by simp)) (hen.ext E))) (by rw [hL0]; simp) (by omega) (.inr (by have := E.size; omega))) ?_
  rintro _ w9 ⟨⟨ja, jc, rfl⟩, hO, X9⟩
  replace Bn := X9.keep Bn
  replace Bs := X9.keep Bs
  replace Bq := X9.keep Bq
  replace E := E.ext X9
  have hs9 : base ≤ w9.heap.size := by rw [hbase]; exact X9.size
  refine qA _ rfl ?_
  refine WpL_nil (Wp_seq (Wp_seq_region ?_))
  refine qF bn 0 3 rfl Try.underlying30 rfl siz27 rfl ?_
  refine qV (r_load rfl flat27 (Bn.cell rfl)) ?_
  refine qV (r_lenSlice Try.underlying27 rfl) ?_
  refine qM _ rfl ?_
  refine WpL_nil (Wp_block ?_)
  refine Wp_loop (fun nn_ σ W9 => ∃ (k : Nat) (la : Option Addr) (lc : Nat) (m : Nat), (∃ jj_, σ = upds jj_ [(1, (P6 bn 0)), (40, (.slice pa n.eps.length pc)), (41, (I6 (n.eps.length : Int))), (42, (I6 (k : Int))), (3, (.slice la m lc))]) ∧ Chg none1 w0 W9 ∧ Blk W9 bn #[(I6 n.states), (I6 n.start), (.slice ea n.ends.length ec), (.slice pa n.eps.length pc), (.slice xa n.edges.length xc)] 30 ∧ (k ≤ n.eps.length) ∧ (m = L0.length + 2 * k) ∧ (W9.ownsRow base TDI 1 (.slice la m lc) m ((L0 ++ ((n.eps.take k).map epS).flatten).map (Value.int .i64))) ∧ (base ≤ W9.heap.size) ∧ nn_ = n.eps.length - k) (n := n.eps.length - 0) ?_ ?_
  ·exact ⟨0, ja, jc, L0.length, Fits.out ⟨rfl, rfl, rfl, rfl, rfl, trivial⟩, E, Bn, Nat.zero_le _, rfl, (by simpa using hO), hs9, rfl⟩
  ·clear E Bn
   rintro _ _ W9 ⟨k, la, lc, m, ⟨j9, rfl⟩, E, Bn, hk, hm, hown, hbs, rfl⟩
   refine Wp_seq_region ?_
   refine qV (r_lss rfl rfl) ?_
   refine WpL_nil (Wp_seq ?_)
   refine Wp_cond rfl (fun hlt => ?_) (fun hlt => ?_)
   ·have khlt := hlt
    replace hlt := of_decide_eq_true hlt
    obtain ⟨p, hp⟩ := get_of_lt (l := n.eps) (i := k) (by omega)
    obtain ⟨pb, po, rfl, hpc⟩ := spans_cells hep (by omega)
    refine Wp_skip (thn_normal (Wp_seq (Wp_block (Wp_seq_region ?_))))
    refine qV (r_indexSlice (b := pb) (o := po) (len := n.eps.length) (cap := pc) (i := k) (o' := po + k * 2) rfl rfl rfl Try.underlying27 siz88 (by omega) (by omega)) ?_
    refine qV (r_loadAgg rfl agg88 siz88 rfl ((hpc k p hp).ext E)) ?_
    refine s_allocStore (v := (.agg #[(I6 p.1), (I6 p.2)])) (c := #[(I6 p.1), (I6 p.2)]) (n := 2) (by decide) zer88 rfl siz88 rfl rfl rfl (by simp [Value.oneCell']) ?_
    intro bx wx Nx
    have Fx := Nx.ge E
    have Ox_bn := Nx.lt Bn
    replace Bn := Nx.keep Bn
    replace hown := own_ext hown Nx.ext
    replace hbs := Nat.le_trans hbs Nx.ext.size
    replace E := E.ext Nx.ext
    have Bx := Nx.blk
    refine WpL_nil (Wp_region ?_)
    refine qM _ rfl ?_
    refine qV (r_indexArr (b := bx) (o := 0) (i := 0) (o' := 0) rfl rfl rfl Try.underlying88 siz3 (by omega) (by omega)) ?_
    refine qV (r_load rfl flat3 (Bx.cell rfl)) ?_
    refine qV (r_indexArr (b := bx) (o := 0) (i := 1) (o' := 1) rfl rfl rfl Try.underlying88 siz3 (by omega) (by omega)) ?_
    refine qV (r_load rfl flat3 (Bx.cell rfl)) ?_
    refine s_buildSlice (ps := [(0, (I6 p.1)), (1, (I6 p.2))]) (c := #[(I6 p.1), (I6 p.2)]) (by decide) rfl Try.underlying26 siz3 zer3 (by decide) (by decide) (by kernel_rfl) ?_
    intro by2 wy2 Ny2
    have Fy2 := Ny2.ge E
    have Oy2_bn := Ny2.lt Bn
    have Oy2_bx := Ny2.lt Bx
    replace Bn := Ny2.keep Bn
    replace Bx := Ny2.keep Bx
    replace hown := own_ext hown Ny2.ext
    replace hbs := Nat.le_trans hbs Ny2.ext.size
    replace E := E.ext Ny2.ext
    have By2 := Ny2.blk
    refine s_append (base := base) (n := m) (m := 2) (xs := ((L0 ++ ((n.eps.take k).map epS).flatten).map (Value.int .i64))) (news := [(I6 p.1), (I6 p.2)]) (size := 1) (bytes := 8) (v := (.slice la m lc)) (by decide) Try.underlying26 siz3 byt3 zer3 rfl (by decide) rfl hown rfl (rfl) (By2.cells rfl) (by simp [Value.oneCell']) (by unfold maxLen; omega) (by omega) (hbs) ?_
    intro v7 w59 Ov7 Cv7 Dv7
    replace Bn := Cv7.keep (fun h => by have := (hown.lt _ h).1; omega) Bn
    replace E := E.step Cv7 (fun x hx h => absurd (hown.lt x h).1 (by omega))
    obtain ⟨la2, lc2, rfl⟩ := own_form Ov7
    refine qA _ rfl ?_
    refine WpL_nil (inB_normal (thn_normal (Wp_region ?_)))
    refine qV (r_add rfl rfl (wI64 (by omega))) ?_
    refine qM _ rfl ?_
    refine WpL_nil (thn_normal ?_)
    exact ⟨n.eps.length - (k + 1), by omega, k + 1, la2, lc2, m + 2, Fits.out ⟨rfl, rfl, rfl, rfl, rfl, trivial⟩, E, Bn, (by omega), (by omega), (by rw [flat_takeN epS hp]; simpa [epS] using Ov7), Nat.le_trans hbs Cv7.size, rfl⟩
   ·have khlt := hlt
    replace hlt := of_decide_eq_false hlt
    have hkk : k = n.eps.length := by omega
    obtain ⟨L1, hL1⟩ : ∃ L1, L1 = L0 ++ (n.eps.map epS).flatten := ⟨_, rfl⟩
    have hL1l : L1.length = m := by rw [hL1, List.length_append, flat2_len _ epS (fun _ => rfl)]; omega
    rw [hkk, List.take_length, ← hL1] at hown
    refine Wp_exit (thn_exit (thn_exit (inB_here (thn_normal (Wp_seq (Wp_seq_region ?_))))))
    refine qF bn 0 4 rfl Try.underlying30 rfl siz28 rfl ?_
    refine qV (r_load rfl flat28 (Bn.cell rfl)) ?_
    refine qV (r_lenSlice Try.underlying28 rfl) ?_
    refine qM _ rfl ?_
    refine WpL_nil (Wp_block ?_)
    refine Wp_loop (fun nn_ σ W11 => ∃ (k2 : Nat) (la2 : Option Addr) (lc2 : Nat) (m2 : Nat), (∃ jj_, σ = upds jj_ [(1, (P6 bn 0)), (55, (.slice xa n.edges.length xc)), (56, (I6 (n.edges.length : Int))), (57, (I6 (k2 : Int))), (3, (.slice la2 m2 lc2))]) ∧ Chg none1 w0 W11 ∧ Blk W11 bn #[(I6 n.states), (I6 n.start), (.slice ea n.ends.length ec), (.slice pa n.eps.length pc), (.slice xa n.edges.length xc)] 30 ∧ (k2 ≤ n.edges.length) ∧ (m2 = L1.length + 2 * k2) ∧ (W11.ownsRow base TDI 1 (.slice la2 m2 lc2) m2 ((L1 ++ ((n.edges.take k2).map edS).flatten).map (Value.int .i64))) ∧ (base ≤ W11.heap.size) ∧ nn_ = n.edges.length - k2) (n := n.edges.length - 0) ?_ ?_
    ·exact ⟨0, la, lc, m, Fits.out ⟨rfl, rfl, rfl, rfl, rfl, trivial⟩, E, Bn, Nat.zero_le _, (by omega), (by simpa using hown), hbs, rfl⟩
    ·clear E Bn
     rintro _ _ W11 ⟨k2, la2, lc2, m2, ⟨j11, rfl⟩, E, Bn, hk2, hm2, hown2, hbs2, rfl⟩
     refine Wp_seq_region ?_
     refine qV (r_lss rfl rfl) ?_
     refine WpL_nil (Wp_seq ?_)
     refine Wp_cond rfl (fun hlt2 => ?_) (fun hlt2 => ?_)
     ·have khlt2 := hlt2
      replace hlt2 := of_decide_eq_true hlt2
      obtain ⟨e, he⟩ := get_of_lt (l := n.edges) (i := k2) (by omega)
      obtain ⟨xb, xo, rfl, hxc⟩ := edges_cells hed (by omega)
      obtain ⟨ra, rc, hcell, hsp⟩ := hxc k2 e he
      refine Wp_skip (thn_normal (Wp_seq (Wp_block (Wp_seq_region ?_))))
      refine qV (r_indexSlice (b := xb) (o := xo) (len := n.edges.length) (cap := xc) (i := k2) (o' := xo + k2 * 3) rfl rfl rfl Try.underlying28 siz76 (by omega) (by omega)) ?_
      refine qV (r_loadAgg rfl agg76 siz76 rfl (hcell.ext E)) ?_
      refine s_allocStore (v := (.agg #[(I6 e.1), (I6 e.2.1), (.slice ra e.2.2.length rc)])) (c := #[(I6 e.1), (I6 e.2.1), (.slice ra e.2.2.length rc)]) (n := 3) (by decide) zer76 rfl siz76 rfl rfl rfl (by simp [Value.oneCell']) ?_
      intro bx wx Nx
      have Fx := Nx.ge E
      have Ox_bn := Nx.lt Bn
      replace Bn := Nx.keep Bn
      replace hown2 := own_ext hown2 Nx.ext
      replace hbs2 := Nat.le_trans hbs2 Nx.ext.size
      replace E := E.ext Nx.ext
      have Bx := Nx.blk
      refine WpL_nil (Wp_region ?_)
      refine qM _ rfl ?_
      refine qF bx 0 0 rfl Try.underlying76 rfl siz3 rfl ?_
      refine qV (r_load rfl flat3 (Bx.cell rfl)) ?_
      refine qF bx 0 1 rfl Try.underlying76 rfl siz3 rfl ?_
      refine qV (r_load rfl flat3 (Bx.cell rfl)) ?_
      refine s_buildSlice (ps := [(0, (I6 e.1)), (1, (I6 e.2.1))]) (c := #[(I6 e.1), (I6 e.2.1)]) (by decide) rfl Try.underlying26 siz3 zer3 (by decide) (by decide) (by kernel_rfl) ?_
      intro by2 wy2 Ny2
      have Fy2 := Ny2.ge E
      have Oy2_bn := Ny2.lt Bn
      have Oy2_bx := Ny2.lt Bx
      replace Bn := Ny2.keep Bn
      replace Bx := Ny2.keep Bx
      replace hown2 := own_ext hown2 Ny2.ext
      replace hbs2 := Nat.le_trans hbs2 Ny2.ext.size
      replace E := E.ext Ny2.ext
      have By2 := Ny2.blk
      refine s_append (base := base) (n := m2) (m := 2) (xs := ((L1 ++ ((n.edges.take k2).map edS).flatten).map (Value.int .i64))) (news := [(I6 e.1), (I6 e.2.1)]) (size := 1) (bytes := 8) (v := (.slice la2 m2 lc2)) (by decide) Try.underlying26 siz3 byt3 zer3 rfl (by decide) rfl hown2 rfl (rfl) (By2.cells rfl) (by simp [Value.oneCell']) (by unfold maxLen; omega) (by omega) (hbs2) ?_
      intro v7 w59 Ov7 Cv7 Dv7
      replace Bn := Cv7.keep (fun h => by have := (hown2.lt _ h).1; omega) Bn
      replace E := E.step Cv7 (fun x hx h => absurd (hown2.lt x h).1 (by omega))
      obtain ⟨la3, lc3, rfl⟩ := own_form Ov7
      refine qA _ rfl ?_
      refine WpL_nil (inB_normal (thn_normal (Wp_region ?_)))
      refine qV (r_add rfl rfl (wI64 (by omega))) ?_
      refine qM _ rfl ?_
      refine WpL_nil (thn_normal ?_)
      exact ⟨n.edges.length - (k2 + 1), by omega, k2 + 1, la3, lc3, m2 + 2, Fits.out ⟨rfl, rfl, rfl, rfl, rfl, trivial⟩, E, Bn, (by omega), (by omega), (by rw [flat_takeN edS he]; simpa [edS] using Ov7), Nat.le_trans hbs2 Cv7.size, rfl⟩
     ·have khlt2 := hlt2
      replace hlt2 := of_decide_eq_false hlt2
      have hkk2 : k2 = n.edges.length := by omega
      rw [hkk2, List.take_length, hL1, hL0] at hown2
      have hst : IntsAt _ (.slice la2 m2 lc2) (stsN n) := own_intsD hown2 (by unfold stsN; rw [hm2, hL1, hL0, hkk2, List.length_append (bs := (n.edges.map edS).flatten), flat2_len _ edS (fun _ => rfl)])
      refine Wp_exit (thn_exit (thn_exit (inB_here (thn_normal (Wp_seq (Wp_seq_region ?_))))))
      refine qM _ rfl ?_
      refine qV (r_makeFunc rfl rfl) ?_
      refine WpL_enter rfl rfl (by decide) (r_callF Try.func54 kQ kQ rfl) (ints_has_c _ _ _ (stsN n) (badS n.states) hst (fun w x hE _ => CallV.mk (first := #[]) (cap := #[.pointer (some ⟨bn, 0, none⟩)]) Try.func106 kQ kQ rfl (ncheck1_c w x n.states bn _ _ _ _ (hE.keep Bn)))) ?_
      rintro _ w19 ⟨rfl, X19⟩
      replace Bn := X19.keep Bn
      replace E := E.ext X19
      refine WpL_nil ?_
      refine Wp_cond rfl (fun h1 => ?_) (fun h1 => ?_)
      ·have kh1 := h1
       refine Wp_seq_region ?_
       refine qA _ rfl ?_
       refine WpL_nil (Wp_ret (thn_ret ?_))
       refine fin_tmp Try.results74 (v := (.int .i64 1)) rfl ?_
       exact ⟨by unfold chkN; rw [if_neg h0, if_pos h1], E⟩
      ·have kh1 := h1
       refine Wp_skip (thn_normal (Wp_seq (Wp_seq_region ?_)))
       refine qF bn 0 4 rfl Try.underlying30 rfl siz28 rfl ?_
       refine qV (r_load rfl flat28 (Bn.cell rfl)) ?_
       refine qV (r_lenSlice Try.underlying28 rfl) ?_
       refine qM _ rfl ?_
       refine WpL_nil (Wp_block ?_)
       refine Wp_loop (fun nn_ σ W14 => ∃ (k3 : Nat), (∃ jj_, σ = upds jj_ [(73, (.slice xa n.edges.length xc)), (74, (I6 (n.edges.length : Int))), (75, (I6 (k3 : Int)))]) ∧ Chg none1 w0 W14 ∧ Blk W14 bn #[(I6 n.states), (I6 n.start), (.slice ea n.ends.length ec), (.slice pa n.eps.length pc), (.slice xa n.edges.length xc)] 30 ∧ (k3 ≤ n.edges.length) ∧ (setsE n.edges = setsE (n.edges.drop k3)) ∧ nn_ = n.edges.length - k3) (n := n.edges.length - 0) ?_ ?_
       ·exact ⟨0, Fits.out ⟨rfl, rfl, rfl, trivial⟩, E, Bn, Nat.zero_le _, (by rw [List.drop_zero]), rfl⟩
       ·clear E Bn
        rintro _ _ W14 ⟨k3, ⟨j14, rfl⟩, E, Bn, hk3, hz, rfl⟩
        refine Wp_seq_region ?_
        refine qV (r_lss rfl rfl) ?_
        refine WpL_nil (Wp_seq ?_)
        refine Wp_cond rfl (fun hlt3 => ?_) (fun hlt3 => ?_)
        ·have khlt3 := hlt3
         replace hlt3 := of_decide_eq_true hlt3
         obtain ⟨e, he⟩ := get_of_lt (l := n.edges) (i := k3) (by omega)
         obtain ⟨xb, xo, rfl, hxc⟩ := edges_cells hed (by omega)
         obtain ⟨ra, rc, hcell, hsp⟩ := hxc k3 e he
         have hz2 := setsE_step hz he
         refine Wp_skip (thn_normal (Wp_seq (Wp_block (Wp_seq_region ?_))))
         refine qV (r_indexSlice (b := xb) (o := xo) (len := n.edges.length) (cap := xc) (i := k3) (o' := xo + k3 * 3) rfl rfl rfl Try.underlying28 siz76 (by omega) (by omega)) ?_
         refine qV (r_loadAgg rfl agg76 siz76 rfl (hcell.ext E)) ?_
         refine s_allocStore (v := (.agg #[(I6 e.1), (I6 e.2.1), (.slice ra e.2.2.length rc)])) (c := #[(I6 e.1), (I6 e.2.1), (.slice ra e.2.2.length rc)]) (n := 3) (by decide) zer76 rfl siz76 rfl rfl rfl (by simp [Value.oneCell']) ?_
         intro bx wx Nx
         have Fx := Nx.ge E
         have Ox_bn := Nx.lt Bn
         replace Bn := Nx.keep Bn
         replace E := E.ext Nx.ext
         have Bx := Nx.blk
         refine WpL_nil (Wp_seq_region ?_)
         refine qF bx 0 2 rfl Try.underlying76 rfl siz22 rfl ?_
         refine qV (r_load rfl flat22 (Bx.cell rfl)) ?_
         refine WpL_enter rfl rfl (by decide) (r_callF Try.func107 kQ kQ rfl) (rcheck_c _ _ e.2.2 (hsp.ext E)) ?_
         rintro _ w29 ⟨rfl, X29⟩
         replace Bn := X29.keep Bn
         replace Bx := X29.keep Bx
         replace E := E.ext X29
         refine qA _ rfl ?_
         refine WpL_nil (Wp_seq_region ?_)
         refine qM _ rfl ?_
         refine qV (r_neq rfl rfl) ?_
         refine WpL_nil ?_
         refine Wp_cond rfl (fun h2 => ?_) (fun h2 => ?_)
         ·have kh2 := h2
          replace h2 := of_decide_eq_true h2
          refine Wp_seq_region ?_
          refine qM _ rfl ?_
          refine qA _ rfl ?_
          refine WpL_nil (Wp_ret (inB_ret (thn_ret (thn_ret (inB_ret (thn_ret ?_))))))
          refine fin_tmp Try.results74 (v := (.int .i64 (checkE e.2.2))) rfl ?_
          exact ⟨by unfold chkN; rw [if_neg h0, h1, hz2.2 h2]; rfl, E⟩
         ·have kh2 := h2
          replace h2 := of_decide_eq_false h2
          refine Wp_skip (inB_normal (thn_normal (Wp_region ?_)))
          refine qV (r_add rfl rfl (wI64 (by omega))) ?_
          refine qM _ rfl ?_
          refine WpL_nil (thn_normal ?_)
          exact ⟨n.edges.length - (k3 + 1), by omega, k3 + 1, Fits.out ⟨rfl, rfl, rfl, trivial⟩, E, Bn, (by omega), hz2.1 (by omega), rfl⟩
        ·have khlt3 := hlt3
         replace hlt3 := of_decide_eq_false hlt3
         have hkk3 : k3 = n.edges.length := by omega
         refine Wp_exit (thn_exit (thn_exit (inB_here (thn_normal (Wp_seq_region ?_)))))
         refine qA _ rfl ?_
         refine WpL_nil (Wp_ret ?_)
         refine fin_tmp Try.results74 (v := (.int .i64 0)) rfl ?_
         exact ⟨by unfold chkN; rw [if_neg h0, h1, hz, hkk3, List.drop_length]; rfl, E⟩
end Go.Proofs
namespace Go.Proofs
open Go Go.Eng Go.Sort
set_option maxRecDepth 100000
/-- Edges in a slice of one's own, with sets in blocks of F. -/
def EdB (F : Nat → Prop) (w : World) (base : Nat) (xv : Value) (es : List Ed) : Prop := (∃ rows, w.ownsRow base TEd 3 xv es.length rows.flatten ∧ EdsF F w es rows) ∧ (∀ b, xv.ownBlock = some b → ¬ F b) ∧ ∀ y, F y → base ≤ y ∧ y < w.heap.size
theorem EdB.chg {F M : Nat → Prop} {w w' : World} {base : Nat} {xv : Value} {es : List Ed} (h : EdB F w base xv es) (c : Chg M w w') (hM : ∀ y, M y → y < base) : EdB F w' base xv es := by
 obtain ⟨⟨rows, h1, h2⟩, h3, h4⟩ := h
 exact ⟨⟨rows, own_chg h1 c fun k hk hm => by have := (h1.lt k hk).1; have := hM k hm; omega, h2.chg c fun y hy hm => by have := (h4 y hy).1; have := hM y hm; omega⟩, h3, fun y hy => ⟨(h4 y hy).1, Nat.lt_of_lt_of_le (h4 y hy).2 c.size⟩⟩
theorem EdB.ext {F : Nat → Prop} {w w' : World} {base : Nat} {xv : Value} {es : List Ed} (h : EdB F w base xv es) (c : Ext w w') : EdB F w' base xv es := h.chg c fun _ f => f.elim
theorem EdB.start (w : World) (base : Nat) : EdB (fun _ => False) w base (.slice none 0 0) [] := ⟨⟨[], World.ownsRow_nil _ _ _ _, rfl, fun i e row h => by simp at h⟩, fun b h => (by cases h), fun y h => h.elim⟩
theorem EdB.push {F : Nat → Prop} {w0 w : World} {base z rc m : Nat} {xv xv' : Value} {ra : Option Addr} {es : List Ed} {rows : List (List Value)} {a b : Int} {l : List Sp} (hown : w0.ownsRow base TEd 3 xv m rows.flatten) (hm : m = es.length) (hrows : EdsF F w0 es rows) (h3 : ∀ b, xv.ownBlock = some b → ¬ F b) (h4 : ∀ y, F y → base ≤ y ∧ y < w0.heap.size) (c : Chg (fun q => xv.ownBlock = some q) w0 w) (hz : z = w0.heap.size) (hbz : base ≤ z)
  (ho : w.ownsRow base TEd 3 xv' (m + 1) (rows.flatten ++ [.int .i64 a, .int .i64 b, .slice ra l.length rc])) (hd : ∀ k, xv'.ownBlock = some k → xv.ownBlock = some k ∨ z ≤ k) (hK : cloG l z (.slice ra l.length rc) w) : EdB (fun y => F y ∨ (Value.slice ra l.length rc).ownBlock = some y) w base xv' (es ++ [(a, b, l)]) := by
 subst hz; subst hm
 have hlk := hK.2.lt
 refine ⟨⟨rows ++ [edRow (a, b, l) (.slice ra l.length rc)], by simpa [edRow, List.flatten_append] using ho, ?_⟩, fun k hk hf => ?_, fun y hy => ?_⟩
 ·refine ((hrows.chg c fun y hy e => h3 y e hy).mono fun y hy => .inl hy).snoc ⟨_, rfl, OwnS.at hK, ?_⟩
  rcases own_some hK.2 with h1 | ⟨k, hk⟩
  ·exact .inl (List.eq_nil_of_length_eq_zero h1)
  ·exact .inr ⟨k, hk, .inr hk⟩
 ·rcases hf with hf | hf
  ·rcases hd k hk with h1 | h1
   ·exact h3 k h1 hf
   ·have := (h4 k hf).2; omega
  ·exact own_other hK.2 ho (by decide) hf hk
 ·rcases hy with hy | hy
  ·exact ⟨(h4 y hy).1, Nat.lt_of_lt_of_le (h4 y hy).2 c.size⟩
  ·have := hlk y hy; exact ⟨by omega, this.2⟩
theorem EdB.at {F : Nat → Prop} {w : World} {base : Nat} {xv : Value} {es : List Ed} (h : EdB F w base xv es) : EdgesAt w xv es := by
 obtain ⟨⟨rows, h1, h2⟩, _⟩ := h
 have h8 : ∀ r ∈ rows, r.length = 3 := fun r hr => by
  obtain ⟨i, hi⟩ := List.getElem?_of_mem hr
  obtain ⟨e, he⟩ := get_of_lt (l := es) (i := i) (by have := h2.1; have := lt_of_get hi; omega)
  obtain ⟨u, rfl, _⟩ := h2.2 i e r he hi
  rfl
 refine ⟨rows, own_slat h1 h8 h2.1 (by decide), h2.1, fun i e row h5 h6 => ?_⟩
 obtain ⟨u, h7, h9, _⟩ := h2.2 i e row h5 h6
 exact ⟨u, h7, h9⟩
theorem map_take {α β : Type} (f : α → β) {l : List α} {k : Nat} {x : α} (h : l[k]? = some x) : (l.take (k + 1)).map f = (l.take k).map f ++ [f x] := by rw [List.take_add_one, h]; simp
end Go.Proofs
namespace Go.Proofs
open Go Go.Eng Go.Sort
set_option maxRecDepth 100000
def glX (t : Re) : Re := (numR (expT t) 0).1
def glC (t : Re) : Nat := (numR (expT t) 0).2
def glP (t : Re) : List (Int × Int) := stR (glX t) ++ prodI [0] (bordR false (glX t))
def prG (t : Re) (q : Int × Int) : Bool := (getM (addM [] (glP t)) q).getD false
def glMany (t : Re) : List (List Sp) := (preL (glX t)).foldl manyF (List.replicate (glC t + 1) [])
def hitG (t : Re) (s : Nat) : Bool := (bordR true (glX t)).contains (s : Int) || (decide ((s : Int) = 0) && canR (glX t))
def endU (t : Re) : Nat → List Int
  | 0 => []
  | s + 1 => endU t s ++ if hitG t s then [(s : Int)] else []
def rowU (t : Re) (s : Nat) : Nat → List Ed
  | 0 => []
  | j + 1 => rowU t s j ++ if prG t ((s : Int), ((j + 1 : Nat) : Int)) then [((s : Int), ((j + 1 : Nat) : Int), (glMany t).getD (j + 1) [])] else []
def edU (t : Re) : Nat → List Ed
  | 0 => []
  | s + 1 => edU t s ++ rowU t s (glC t)
def glN (t : Re) : Nf := ⟨((glC t + 1 : Nat) : Int), 0, endU t (glC t + 1), [], edU t (glC t + 1)⟩
theorem glX_size (t : Re) : (glX t).size = (expT t).size := numR_size _ _
theorem glC_le (t : Re) : glC t ≤ (expT t).size := by have := numR_le (expT t) 0; unfold glC; omega
theorem SetF.set {F : Nat → Prop} {w : World} {zs : List (List Sp)} {us : List Value} {u : Value} {z : List Sp} (i : Nat) (h : SetF F w zs us) (h1 : SpansAt w u z) (h2 : z = [] ∨ ∃ b, u.ownBlock = some b ∧ F b) : SetF F w (zs.set i z) (us.set i u) := by
 refine ⟨by rw [List.length_set, List.length_set]; exact h.1, fun j x y hx hy => ?_⟩
 rw [List.getElem?_set] at hx hy
 by_cases e : i = j
 ·rw [if_pos e] at hx hy
  split at hx
  ·cases hx
   split at hy
   ·cases hy; exact ⟨h1, h2⟩
   ·cases hy
  ·cases hx
 ·rw [if_neg e] at hx hy
  exact h.2 j x y hx hy
theorem setF_start (F : Nat → Prop) (w : World) (n : Nat) : SetF F w (List.replicate n []) (List.replicate n (.slice none 0 0)) := by
 refine ⟨by simp, fun i u z hu hz => ?_⟩
 have h1 := List.eq_of_mem_replicate (List.mem_of_getElem? hu)
 have h2 := List.eq_of_mem_replicate (List.mem_of_getElem? hz)
 subst h1; subst h2
 exact ⟨SlAt.nil w 2 _ _, .inl rfl⟩
theorem cell_ne_sl {w : World} {b o bq : Nat} {k : IntKind} {i : Int} {us : List Value} {T : TypeId} (h : w.cell? ⟨b, o, none⟩ = some (.int k i)) (hq : Blk w bq us.toArray T) (hs : ∀ v ∈ us, ∃ a n c, v = .slice a n c) : b ≠ bq := by
 intro e
 subst e
 unfold Blk at hq
 unfold World.cell? at h
 simp only [hq] at h
 have h1 : us[o]? = some (.int k i) := by simpa using h
 obtain ⟨a, n, c, h2⟩ := hs _ (List.mem_of_getElem? h1)
 cases h2
theorem slin_own {S : Nat → Prop} {w : World} {xa : Option Addr} {xc n : Nat} {z : List Sp} (h : SlIn S w 2 (.slice xa n xc) (z.map spanV)) : z = [] ∨ ∃ b, (Value.slice xa n xc).ownBlock = some b ∧ S b := by
 obtain ⟨a, c, hv, _, _, h⟩ := h
 rcases h with h | ⟨b, o, hb, ha, _⟩
 ·exact .inl (by simpa using h)
 ·refine .inr ⟨b, ?_, hb⟩
  rw [hv, ha]; rfl
theorem foldl_succ {α β : Type} (f : β → α → β) (b : β) {l : List α} {k : Nat} {x : α} (h : l[k]? = some x) : (l.take (k + 1)).foldl f b = f ((l.take k).foldl f b) x := by
 rw [List.take_add_one, h, Option.toList_some, List.foldl_append]; rfl
/-- Edges in a slice of one's own, with sets in blocks of F. -/
def EdC (F : Nat → Prop) (w : World) (base : Nat) (xv : Value) (es : List Ed) : Prop := ∃ rows, w.ownsRow base TEd 3 xv es.length rows.flatten ∧ EdsF F w es rows
theorem EdC.chg {F M : Nat → Prop} {w w' : World} {base : Nat} {xv : Value} {es : List Ed} (h : EdC F w base xv es) (c : Chg M w w') (h1 : ∀ k, xv.ownBlock = some k → ¬ M k) (h2 : ∀ y, F y → ¬ M y) : EdC F w' base xv es := by
 obtain ⟨rows, h3, h4⟩ := h
 exact ⟨rows, own_chg h3 c h1, h4.chg c h2⟩
theorem EdC.ext {F : Nat → Prop} {w w' : World} {base : Nat} {xv : Value} {es : List Ed} (h : EdC F w base xv es) (c : Ext w w') : EdC F w' base xv es := h.chg c (fun _ _ f => f) (fun _ _ f => f)
theorem EdC.apart {F : Nat → Prop} {w : World} {base base' n : Nat} {xv v : Value} {es : List Ed} {xs : List Value} (h : EdC F w base xv es) (h' : w.ownsRow base' TDI 1 v n xs) : ∀ k, xv.ownBlock = some k → ¬ v.ownBlock = some k := fun k hk => by
 obtain ⟨rows, h1, _⟩ := h
 exact own_other h1 h' (by decide) hk
theorem EdC.lt {F : Nat → Prop} {w : World} {base : Nat} {xv : Value} {es : List Ed} (h : EdC F w base xv es) : ∀ k, xv.ownBlock = some k → base ≤ k ∧ k < w.heap.size := fun k hk => by
 obtain ⟨rows, h1, _⟩ := h
 exact h1.lt k hk
/-- What is only read in the loops. -/
def PasG (t X : Re) (S F : Nat → Prop) (nL : Nat) (lv : Value) (us xr : List Value) (w : World) : Prop := w.ownsRow nL TDI 1 lv (bordR true X).length ((bordR true X).map (Value.int .i64)) ∧ SetF F w (glMany t) us ∧ ReIn S w X xr
theorem PasG.chg {t X : Re} {S F M : Nat → Prop} {nL : Nat} {lv : Value} {us xr : List Value} {w w' : World} (h : PasG t X S F nL lv us xr w) (c : Chg M w w') (h1 : ∀ k, lv.ownBlock = some k → ¬ M k) (h2 : ∀ y, F y → ¬ M y) (h3 : ∀ y, S y → ¬ M y) : PasG t X S F nL lv us xr w' := ⟨own_chg h.1 c h1, h.2.1.chg c h2, ReIn.chg c h3 _ h.2.2⟩
theorem litF_chg {U : Nat → Prop} {e hs : Nat} {c : Array Value} (h : ∀ y, U y → y < hs) : ∀ v w w', Chg U w w' → litF e c hs v w → litF e c hs v w' := by
 rintro v w w' x ⟨b, h1, h2, h3⟩
 exact ⟨b, h1, Chg.keep x (fun hu => by have := h b hu; omega) h2, h3⟩
theorem endU_len (t : Re) : ∀ s : Nat, (endU t s).length ≤ s
  | 0 => Nat.le_refl _
  | s + 1 => by
    rw [endU, List.length_append]
    have := endU_len t s
    split
    · simp; omega
    · simp; omega
theorem rowU_len (t : Re) (s : Nat) : ∀ j : Nat, (rowU t s j).length ≤ j
  | 0 => Nat.le_refl _
  | j + 1 => by
    rw [rowU, List.length_append]
    have := rowU_len t s j
    split
    · simp; omega
    · simp; omega
theorem edU_len (t : Re) : ∀ s : Nat, (edU t s).length ≤ s * glC t
  | 0 => Nat.zero_le _
  | s + 1 => by
    rw [edU, List.length_append, Nat.succ_mul]
    have := edU_len t s
    have := rowU_len t s (glC t)
    omega
theorem EdC.push {F : Nat → Prop} {w0 w : World} {base m : Nat} {xv xv' : Value} {es : List Ed} {rows : List (List Value)} {a b : Int} {l : List Sp} {u : Value} (hrows : EdsF F w0 es rows) (c : Chg (fun q => xv.ownBlock = some q) w0 w) (hF : ∀ y, F y → xv.ownBlock ≠ some y) (hm : m = es.length)
  (ho : w.ownsRow base TEd 3 xv' (m + 1) (rows.flatten ++ [.int .i64 a, .int .i64 b, u])) (hu : SpansAt w0 u l) (hul : l = [] ∨ ∃ b, u.ownBlock = some b ∧ F b) : EdC F w base xv' (es ++ [(a, b, l)]) := by
 subst hm
 refine ⟨rows ++ [edRow (a, b, l) u], by simpa [edRow, List.flatten_append] using ho, (hrows.chg c fun y hy e => hF y hy e).snoc ⟨u, rfl, slAt_keep hu c ?_, hul⟩⟩
 rcases hul with h | ⟨k, h1, h2⟩
 ·exact .inl (by rw [h]; rfl)
 ·exact .inr ⟨k, h1, hF k h2⟩
theorem hit_yes {t : Re} {s : Nat} (h : (bordR true (glX t)).contains (s : Int) = true) : true = hitG t s := by unfold hitG; rw [h]; rfl
theorem hit_no {t : Re} {s : Nat} {b : Bool} (h : (bordR true (glX t)).contains (s : Int) = false) (h2 : (decide ((s : Int) = 0) && canR (glX t)) = b) : b = hitG t s := by unfold hitG; rw [h, h2]; rfl
set_option maxHeartbeats 4000000 in
theorem gluof_c (w0 : World) (t : Re) (vs : List Value) (ht : ReAt w0 t vs) (hok : okRe t) (hs : t.size ≤ 1000000) (hx : (expT t).size ≤ 2000) :
  Ret Try.prog 14 #[.agg vs.toArray] w0 fun r w => (∃ us, r = .agg us.toArray ∧ NfAt w (glN t) us) ∧ Ext w0 w := by
 have hti := ReIn.of_at t ht
 obtain ⟨sa, sc, aa, ac, rfl, _, _, _⟩ := ht.form
 have hXs := glX_size t
 have hCl := glC_le t
 obtain ⟨X, hXe⟩ : ∃ X, X = glX t := ⟨_, rfl⟩
 obtain ⟨C, hCe⟩ : ∃ C, C = glC t := ⟨_, rfl⟩
 refine Ret_of Try.func14 rfl Try.ntmps14 (Nat.le_of_ble_eq_true rfl) ?_
 have E : Chg none1 w0 w0 := Chg.refl _ _
 refine Wp_seq_region ?_
 refine s_box (v := (.agg (R6 t sa sc aa ac))) (c := (R6 t sa sc aa ac)) (by decide) rfl rfl ?_
 intro br wr Nr
 have Fr := Nr.ge E
 replace E := E.ext Nr.ext
 have Br := Nr.blk
 refine s_alloc (c := #[(I6 0), (I6 0), (.slice none 0 0), (.slice none 0 0), (.slice none 0 0)]) (by decide) zer30 rfl ?_
 intro bo wo No
 have Fo := No.ge E
 have Oo_br := No.lt Br
 replace Br := No.keep Br
 replace E := E.ext No.ext
 have Bo := No.blk
 refine WpL_nil (Wp_seq_region ?_)
 refine s_allocStore (v := (I6 0)) (c := #[(I6 0)]) (n := 1) (by decide) zer3 rfl siz3 rfl rfl rfl (by simp [Value.oneCell']) ?_
 intro bc wc Nc
 have Fc := Nc.ge E
 have Oc_br := Nc.lt Br
 have Oc_bo := Nc.lt Bo
 replace Br := Nc.keep Br
 replace Bo := Nc.keep Bo
 replace E := E.ext Nc.ext
 have Bc := Nc.blk
 refine WpL_nil (Wp_seq_region ?_)
 refine qV (r_loadAgg (vs := [(I6 t.kind), (.slice sa t.set.length sc), (.slice aa t.args.length ac), (I6 t.mn), (I6 t.mx), (.bool t.neg)]) rfl agg25 siz25 rfl (Br.cells rfl)) ?_
 obtain ⟨nA, hnA⟩ : ∃ nA, nA = (wc).heap.size := ⟨_, rfl⟩
 have hbA : br < nA ∧ bo < nA ∧ bc < nA ∧ w0.heap.size ≤ nA ∧ w0.heap.size ≤ br ∧ w0.heap.size ≤ bo ∧ w0.heap.size ≤ bc ∧ br ≠ bo ∧ br ≠ bc ∧ bo ≠ bc := ⟨by rw [hnA]; exact Br.lt, by rw [hnA]; exact Bo.lt, by rw [hnA]; exact Bc.lt, by rw [hnA]; exact E.size, by omega, by omega, by omega, by omega, by omega, by omega⟩
 refine WpL_enter rfl rfl (by decide) (r_callF Try.func42 kQ kQ rfl) (expand_c _ t (Nat.le_refl _) hok _ _ (fun b => b < w0.heap.size) (ReIn.ext E t hti) (fun b hb => by have := E.size; omega) hs hok) ?_
 rintro _ w9 ⟨us, rfl, hus, X9⟩
 replace Br := X9.keep Br
 replace Bo := X9.keep Bo
 replace Bc := X9.keep Bc
 replace E := E.ext X9
 rw [← hnA] at hus
 have hx1 := ReIn.lt _ hus
 obtain ⟨nB, hnB⟩ : ∃ nB, nB = w9.heap.size := ⟨_, rfl⟩
 rw [← hnB] at hx1
 have hAB : nA ≤ nB := by have := X9.size; omega
 obtain ⟨usa, usc, uaa, uac, rfl, _, _, _⟩ := hus.form
 refine WpL_enter rfl rfl (by decide) (r_callF Try.func41 kQ kQ rfl) (numbered_c _ (expT t) (Nat.le_refl _) _ _ (fun b => (b < w0.heap.size ∨ nA ≤ b) ∧ b < nB) bc 0 hx1 (fun b hb => by have := hb.2; omega) (fun h => by rcases h.1 with h | h <;> omega) Bc (by omega) (by omega)) ?_
 rintro _ w19 ⟨us2, rfl, hus2, X19, hBc⟩
 replace Br := X19.keep (by omega) Br
 replace Bo := X19.keep (by omega) Bo
 replace E := E.step X19 (by intro x hx hm; omega)
 rw [← hnB] at hus2
 rw [show (numR (expT t) 0).1 = X from hXe.symm] at hus2
 rw [show (numR (expT t) 0).2 = C from hCe.symm] at hBc
 obtain ⟨nD, hnD⟩ : ∃ nD, nD = w19.heap.size := ⟨_, rfl⟩
 obtain ⟨S, hS⟩ : ∃ S : Nat → Prop, S = fun b => (b < w0.heap.size ∨ nA ≤ b) ∧ b < nD := ⟨_, rfl⟩
 have hBD : nB ≤ nD := by have := X19.size; omega
 have hX : ReIn S w19 X us2 := by have h9 := ReIn.lt _ hus2; rw [hS]; exact ReIn.mono (fun b hb => ⟨by rcases hb.1 with h | h; exact h.1; exact .inr (by omega), by have := hb.2; omega⟩) _ h9
 have hSb : ∀ b, S b → b < nD ∧ b ≠ br ∧ b ≠ bo ∧ b ≠ bc := fun b hb => by rw [hS] at hb; have := hb.2; rcases hb.1 with h | h <;> omega
 obtain ⟨ysa, ysc, yaa, yac, rfl, _, _, _⟩ := hX.form
 have hX0 : nD ≤ w19.heap.size := by omega
 refine s_storeAgg (b := br) (o := 0) (c' := (R6 X ysa ysc yaa yac)) rfl rfl (by simp [Value.oneCell']) siz25 rfl Br (by first | (simp; done) | exact Nat.le_of_ble_eq_true rfl) rfl ?_
 intro w1 S1
 replace hX := ReIn.chg S1.chg (fun b hb h => by have h' : b = br := h; exact (hSb b hb).2.1 h') _ hX
 replace hX0 := Nat.le_trans hX0 S1.chg.size
 replace Bo := S1.keep (by omega) Bo
 replace hBc := S1.keep (by omega) hBc
 replace E := S1.step E (by first | exact Or.inl (by omega) | exact Or.inr rfl | exact Or.inr (by assumption) | exact Or.inr (by simp) | exact Or.inr (by omega) | exact Or.inr (by dsimp only; omega))
 replace Br := S1.blk
 refine WpL_nil (Wp_seq_region ?_)
 refine s_makeMap kPair kBool (by decide) ?_
 intro bm wm Nm
 have Fm := Nm.ge E
 have Om_br := Nm.lt Br
 have Om_bo := Nm.lt Bo
 have Om_bc := Nm.lt hBc
 replace Br := Nm.keep Br
 replace Bo := Nm.keep Bo
 replace hBc := Nm.keep hBc
 replace hX := ReIn.ext Nm.ext _ hX
 replace E := E.ext Nm.ext
 intro Mm
 refine qA _ rfl ?_
 refine WpL_nil (Wp_seq_region ?_)
 refine qV (r_loadAgg (vs := [(I6 X.kind), (.slice ysa X.set.length ysc), (.slice yaa X.args.length yac), (I6 X.mn), (I6 X.mx), (.bool X.neg)]) rfl agg25 siz25 rfl (Br.cells rfl)) ?_
 refine qM _ rfl ?_
 have hXz : X.size ≤ 2000 := by rw [hXe]; omega
 have hCz : C ≤ 2000 := by rw [hCe]; omega
 have hbmD : nD ≤ bm := by have := Nm.eq; omega
 have hbm : ¬ S bm := fun h => by have := (hSb bm h).1; have := Nm.eq; have := hX0; omega
 refine WpL_enter rfl rfl (by decide) (r_callF Try.func43 kQ kQ rfl) (steps_c _ X (Nat.le_refl _) _ _ S bm [] hX hbm (by omega) Mm) ?_
 rintro _ w29 ⟨rfl, hM29, X29⟩
 replace Br := X29.keep (by omega) Br
 replace Bo := X29.keep (by omega) Bo
 replace hBc := X29.keep (by omega) hBc
 replace E := E.step X29 (by intro x hx hm; omega)
 replace hX := ReIn.chg X29 (fun b hb h => by have h' : b = bm := h; exact hbm (h' ▸ hb)) X hX
 refine WpL_nil (Wp_seq_region ?_)
 refine s_buildSlice (ps := [(0, (I6 0))]) (c := #[(I6 0)]) (by decide) rfl Try.underlying26 siz3 zer3 (by decide) (by decide) (by kernel_rfl) ?_
 intro bz wz Nz
 have Fz := Nz.ge E
 have Oz_br := Nz.lt Br
 have Oz_bo := Nz.lt Bo
 have Oz_bc := Nz.lt hBc
 have Oz_bm := Nz.ltM hM29
 replace Br := Nz.keep Br
 replace Bo := Nz.keep Bo
 replace hBc := Nz.keep hBc
 replace hM29 := Nz.keepM hM29
 replace hX := ReIn.ext Nz.ext _ hX
 replace E := E.ext Nz.ext
 have Bz := Nz.blk
 refine qV (r_loadAgg (vs := [(I6 X.kind), (.slice ysa X.set.length ysc), (.slice yaa X.args.length yac), (I6 X.mn), (I6 X.mx), (.bool X.neg)]) rfl agg25 siz25 rfl (Br.cells rfl)) ?_
 refine WpL_enter rfl rfl (by decide) (r_callF Try.func45 kQ kQ rfl) (bord_f false (ReIn.at X hX) (by omega)) ?_
 rintro _ w39 ⟨⟨fa, fc, rfl, hF⟩, X39⟩
 replace Br := X39.keep Br
 replace Bo := X39.keep Bo
 replace hBc := X39.keep hBc
 replace hM29 := X39.keepM hM29
 replace Bz := X39.keep Bz
 replace hX := ReIn.ext X39 _ hX
 replace E := E.ext X39
 refine qM _ rfl ?_
 refine WpL_enter rfl rfl (by decide) (r_callF Try.func44 kQ kQ rfl) (cross_c _ _ _ [0] (bordR false X) bm _ (ints_of_blk [0] Bz (by simp) (by simp)) hF hM29) ?_
 rintro _ w49 ⟨rfl, hM49, X49⟩
 replace Br := X49.keep (by omega) Br
 replace Bo := X49.keep (by omega) Bo
 replace hBc := X49.keep (by omega) hBc
 replace Bz := X49.keep (by omega) Bz
 replace E := E.step X49 (by intro x hx hm; omega)
 replace hX := ReIn.chg X49 (fun b hb h => by have h' : b = bm := h; exact hbm (h' ▸ hb)) X hX
 have hM49x := hM49
 refine WpL_nil (Wp_seq_region ?_)
 refine qV (r_load rfl flat3 (hBc.cell rfl)) ?_
 refine qV (r_add (c := ((C + 1 : Nat) : Int)) rfl rfl ((wI64 (by omega)).trans (by omega))) ?_
 refine s_make (n := C + 1) (z := (.slice none 0 0)) (bytes := 24) (by decide) Try.underlying64 siz22 byt22 zer22 rfl rfl rfl (by omega) (by omega) ?_
 intro bq wq Nq
 have Fq := Nq.ge E
 have Oq_br := Nq.lt Br
 have Oq_bo := Nq.lt Bo
 have Oq_bc := Nq.lt hBc
 have Oq_bm := Nq.ltM hM49
 replace Br := Nq.keep Br
 replace Bo := Nq.keep Bo
 replace hBc := Nq.keep hBc
 replace hM49 := Nq.keepM hM49
 replace hX := ReIn.ext Nq.ext _ hX
 replace E := E.ext Nq.ext
 have Bq := Nq.blk
 refine qA _ rfl ?_
 refine WpL_nil (Wp_seq (Wp_seq_region ?_))
 refine qV (r_loadAgg (vs := [(I6 X.kind), (.slice ysa X.set.length ysc), (.slice yaa X.args.length yac), (I6 X.mn), (I6 X.mx), (.bool X.neg)]) rfl agg25 siz25 rfl (Br.cells rfl)) ?_
 refine WpL_enter rfl rfl (by decide) (r_callF Try.func35 kQ kQ rfl) (preR_c _ S X _ _ hX (by omega)) ?_
 rintro _ w59 ⟨pa, pcc, rows, rfl, hsl, hrows, X59⟩
 replace Br := X59.keep Br
 replace Bo := X59.keep Bo
 replace hBc := X59.keep hBc
 replace hM49 := X59.keepM hM49
 replace Bq := X59.keep Bq
 replace hX := ReIn.ext X59 _ hX
 replace E := E.ext X59
 obtain ⟨L, hL⟩ : ∃ L, L = preL X := ⟨_, rfl⟩
 have hLl : L.length = X.size := by rw [hL, preL_len]
 have htk : (preL X).take (1000000 : Int).toNat = L := by rw [hL]; exact List.take_of_length_le (by rw [preL_len]; omega)
 rw [htk] at hsl hrows ⊢
 obtain ⟨nP, hnP⟩ : ∃ nP, nP = w59.heap.size := ⟨_, rfl⟩
 have hfl := exp_fl2 _ t (Nat.le_refl _) (okRe_fl2 _ t (Nat.le_refl _) hok)
 have hmnX : ∀ x ∈ L, x.kind = 2 → 0 < x.mn ∧ x.mn ≤ (C : Int) := fun x hx h2 => by rw [hL, hXe] at hx; have := pre_mn (expT t) 0 hfl x hx h2; rw [hCe]; exact this
 have hLf : ∀ v ∈ List.replicate (C + 1) (Value.slice none 0 0), ∃ a n c, v = .slice a n c := fun v hv => ⟨none, 0, 0, List.eq_of_mem_replicate hv⟩
 have hBq0 := Bq
 have hbqD : nD ≤ bq := by have := Nq.ltM hM49x; omega
 have hbqP : bq < nP ∧ nD ≤ nP := ⟨by rw [hnP]; exact Bq.lt, by have := X59.size; have := hM49.lt; omega⟩
 refine qV (r_lenSlice Try.underlying23 rfl) ?_
 refine qM _ rfl ?_
 refine WpL_nil (Wp_block ?_)
 refine Wp_loop (fun nn_ σ W2 => ∃ (j : Nat) (us : List Value), (∃ jj_, σ = upds jj_ [(1, (P6 br 0)), (2, (P6 bo 0)), (3, (P6 bc 0)), (4, (.map (some bm))), (5, (.slice (some ⟨bq, 0, none⟩) (C + 1) (C + 1))), (28, (.slice pa L.length pcc)), (29, (I6 (L.length : Int))), (30, (I6 (j : Int)))]) ∧ Chg none1 w0 W2 ∧ Blk W2 br (R6 X ysa ysc yaa yac) 25 ∧ Blk W2 bo #[(I6 0), (I6 0), (.slice none 0 0), (.slice none 0 0), (.slice none 0 0)] 30 ∧ Blk W2 bc #[(I6 (C : Int))] 3 ∧ MapAt W2 bm kPair kBool (addM (addM [] (stR X)) (prodI [0] (bordR false X))) ∧ Blk W2 bq us.toArray 22 ∧ (j ≤ L.length) ∧ (SetF S W2 ((L.take j).foldl manyF (List.replicate (C + 1) [])) us) ∧ (∀ v ∈ us, ∃ a n c, v = .slice a n c) ∧ (Chg (fun y => y = bq) w59 W2) ∧ (ReIn S W2 X [.int .i64 X.kind, .slice ysa X.set.length ysc, .slice yaa X.args.length yac, .int .i64 X.mn, .int .i64 X.mx, .bool X.neg]) ∧ nn_ = L.length - j) (n := L.length - 0) ?_ ?_
 ·exact ⟨0, List.replicate (C + 1) (.slice none 0 0), Fits.out ⟨rfl, rfl, rfl, rfl, rfl, rfl, rfl, rfl, trivial⟩, E, Br, Bo, hBc, hM49, Bq, Nat.zero_le _, setF_start _ _ _, hLf, Chg.refl _ _, hX, rfl⟩
 ·clear E Br Bo hBc hM49 Bq
  rintro _ _ W2 ⟨j, us, ⟨j2, rfl⟩, E, Br, Bo, hBc, hM49, Bq, hj, hU, hUs, hC, hXW, rfl⟩
  refine Wp_seq_region ?_
  refine qV (r_lss rfl rfl) ?_
  refine WpL_nil (Wp_seq ?_)
  refine Wp_cond rfl (fun hlt => ?_) (fun hlt => ?_)
  ·have khlt := hlt
   replace hlt := of_decide_eq_true hlt
   obtain ⟨x, hx⟩ := get_of_lt (l := L) (i := j) (by omega)
   obtain ⟨r, hr, hxr0⟩ := hrows.get hx
   have hxr := ReIn.ext X59 x hxr0
   obtain ⟨pb, po, rfl, hcl⟩ := SlAt.at hsl (by omega)
   have hcr := hcl j r hr
   obtain ⟨xa, xc, ya, yc, rfl, hxset, hxlen, hxargs⟩ := hxr.form
   have hpq : pb ≠ bq := cell_ne_sl hcr.at0 hBq0 hLf
   have hcr2 := hcr.chg hC hpq
   have hoff := slin_own hxset
   have hxs2 : SpansAt (W2) (.slice xa x.set.length xc) x.set := slAt_keep (SlIn.at hxset) hC (hoff.imp (fun h => by rw [h]; rfl) fun ⟨b, h1, h2⟩ => ⟨b, h1, fun h => by have h' : b = bq := h; have := (hSb b h2).1; omega⟩)
   have hfs := foldl_succ manyF (List.replicate (C + 1) []) hx
   refine Wp_skip (thn_normal (Wp_seq (Wp_block (Wp_seq_region ?_))))
   refine qV (r_indexSlice (b := pb) (o := po) (len := L.length) (cap := pcc) (i := j) (o' := po + j * 6) rfl rfl rfl Try.underlying23 siz25 (by omega) (by omega)) ?_
   refine qV (r_loadAgg rfl agg25 siz25 rfl (hcr2)) ?_
   refine s_allocStore (v := (.agg (R6 x xa xc ya yc))) (c := (R6 x xa xc ya yc)) (n := 6) (by decide) zer25 rfl siz25 rfl rfl rfl (by simp [Value.oneCell']) ?_
   intro bu wu Nu
   have Fu := Nu.ge E
   have Ou_br := Nu.lt Br
   have Ou_bo := Nu.lt Bo
   have Ou_bc := Nu.lt hBc
   have Ou_bm := Nu.ltM hM49
   have Ou_bq := Nu.lt Bq
   replace Br := Nu.keep Br
   replace Bo := Nu.keep Bo
   replace hBc := Nu.keep hBc
   replace hM49 := Nu.keepM hM49
   replace Bq := Nu.keep Bq
   replace hU := hU.chg Nu.ext fun _ _ f => f
   replace hC := hC.ext Nu.ext
   replace hXW := ReIn.ext Nu.ext _ hXW
   replace hxs2 := SpansAt.ext hxs2 Nu.ext
   replace E := E.ext Nu.ext
   have Bu := Nu.blk
   refine WpL_nil (Wp_seq_region ?_)
   refine qF bu 0 0 rfl Try.underlying25 rfl siz3 rfl ?_
   refine qV (r_load rfl flat3 (Bu.cell rfl)) ?_
   refine qV (r_eql rfl rfl) ?_
   refine WpL_nil ?_
   refine Wp_cond rfl (fun hk2 => ?_) (fun hk2 => ?_)
   ·have khk2 := hk2
    replace hk2 := of_decide_eq_true hk2
    have hm := hmnX x (List.mem_of_getElem? hx) hk2
    have hul : us.length = C + 1 := by have := hU.1; rw [this, foldl_manyF_len, List.length_replicate]
    have hUn := hU.set x.mn.toNat hxs2 hoff
    rw [show List.set ((L.take j).foldl manyF (List.replicate (C + 1) [])) x.mn.toNat x.set = (L.take (j + 1)).foldl manyF (List.replicate (C + 1) []) from by rw [hfs, manyF, if_pos hk2]] at hUn
    refine Wp_region ?_
    refine qM _ rfl ?_
    refine qF bu 0 3 rfl Try.underlying25 rfl siz3 rfl ?_
    refine qV (r_load rfl flat3 (Bu.cell rfl)) ?_
    refine qF bu 0 1 rfl Try.underlying25 rfl siz22 rfl ?_
    refine qV (r_load rfl flat22 (Bu.cell rfl)) ?_
    refine qV (r_indexSlice (b := bq) (o := 0) (len := C + 1) (cap := C + 1) (i := x.mn.toNat) (o' := 0 + x.mn.toNat) rfl rfl (by omega) Try.underlying64 siz22 (by omega) (by omega)) ?_
    refine s_store (b := bq) (o := 0 + x.mn.toNat) (c' := (us.set x.mn.toNat (.slice xa x.set.length xc)).toArray) (v := (.slice xa x.set.length xc)) rfl rfl rfl siz22 Bq (by simp; omega) (by simp) ?_
    intro w5 S5
    replace hUn := hUn.chg S5.chg fun y hy h => by have h' : y = bq := h; have := (hSb y hy).1; omega
    replace hC := hC.step S5.chg (fun y _ h => h)
    replace hXW := ReIn.chg S5.chg (fun y hy h => by have h' : y = bq := h; have := (hSb y hy).1; have := hbqD; omega) _ hXW
    replace Br := S5.keep (by omega) Br
    replace Bo := S5.keep (by omega) Bo
    replace hBc := S5.keep (by omega) hBc
    replace hM49 := S5.keepM (by omega) hM49
    replace Bu := S5.keep (by omega) Bu
    replace E := S5.step E (by first | exact Or.inl (by omega) | exact Or.inr rfl | exact Or.inr (by assumption) | exact Or.inr (by simp) | exact Or.inr (by omega) | exact Or.inr (by dsimp only; omega))
    replace Bq := S5.blk
    refine WpL_nil (inB_normal (thn_normal (Wp_region ?_)))
    refine qV (r_add rfl rfl (wI64 (by omega))) ?_
    refine qM _ rfl ?_
    refine WpL_nil (thn_normal ?_)
    exact ⟨L.length - (j + 1), by omega, j + 1, us.set x.mn.toNat (.slice xa x.set.length xc), Fits.out ⟨rfl, rfl, rfl, rfl, rfl, rfl, rfl, rfl, trivial⟩, E, Br, Bo, hBc, hM49, Bq, (by omega), hUn, (fun v hv => by rcases List.mem_or_eq_of_mem_set hv with h | h; exact hUs v h; exact ⟨_, _, _, h⟩), hC, hXW, rfl⟩
   ·have khk2 := hk2
    replace hk2 := of_decide_eq_false hk2
    refine Wp_skip (inB_normal (thn_normal (Wp_region ?_)))
    refine qV (r_add rfl rfl (wI64 (by omega))) ?_
    refine qM _ rfl ?_
    refine WpL_nil (thn_normal ?_)
    exact ⟨L.length - (j + 1), by omega, j + 1, us, Fits.out ⟨rfl, rfl, rfl, rfl, rfl, rfl, rfl, rfl, trivial⟩, E, Br, Bo, hBc, hM49, Bq, (by omega), (by rw [hfs, manyF, if_neg (by simpa using hk2)]; exact hU), hUs, hC, hXW, rfl⟩
  ·have khlt := hlt
   replace hlt := of_decide_eq_false hlt
   have hjj : L.take j = L := List.take_of_length_le (by omega)
   rw [hjj] at hU
   have hMe : (L.foldl manyF (List.replicate (C + 1) [])) = glMany t := by rw [hL, hXe, hCe]; rfl
   rw [hMe] at hU
   obtain ⟨wL, hwL⟩ : ∃ wL, wL = (W2) := ⟨_, rfl⟩
   refine Wp_exit (thn_exit (thn_exit (inB_here (thn_normal (Wp_seq_region ?_)))))
   refine qV (r_load rfl flat3 (hBc.cell rfl)) ?_
   refine qV (r_add (c := ((C + 1 : Nat) : Int)) rfl rfl ((wI64 (by omega)).trans (by omega))) ?_
   refine qV (r_build (ps := [(0, (I6 ((C + 1 : Nat) : Int)))]) (v := (.agg #[(I6 ((C + 1 : Nat) : Int)), (I6 0), (.slice none 0 0), (.slice none 0 0), (.slice none 0 0)])) rfl (by kernel_rfl)) ?_
   refine s_allocStore (v := (.agg #[(I6 ((C + 1 : Nat) : Int)), (I6 0), (.slice none 0 0), (.slice none 0 0), (.slice none 0 0)])) (c := #[(I6 ((C + 1 : Nat) : Int)), (I6 0), (.slice none 0 0), (.slice none 0 0), (.slice none 0 0)]) (n := 5) (by decide) zer30 rfl siz30 rfl rfl rfl (by simp [Value.oneCell']) ?_
   intro bn wn Nn
   have Fn := Nn.ge E
   have On_br := Nn.lt Br
   have On_bo := Nn.lt Bo
   have On_bc := Nn.lt hBc
   have On_bm := Nn.ltM hM49
   have On_bq := Nn.lt Bq
   replace Br := Nn.keep Br
   replace Bo := Nn.keep Bo
   replace hBc := Nn.keep hBc
   replace hM49 := Nn.keepM hM49
   replace Bq := Nn.keep Bq
   replace hU := hU.chg Nn.ext fun _ _ f => f
   replace hXW := ReIn.ext Nn.ext _ hXW
   replace E := E.ext Nn.ext
   have Bn := Nn.blk
   refine WpL_nil (Wp_seq_region ?_)
   refine qV (r_loadAgg (vs := [(I6 X.kind), (.slice ysa X.set.length ysc), (.slice yaa X.args.length yac), (I6 X.mn), (I6 X.mx), (.bool X.neg)]) rfl agg25 siz25 rfl (Br.cells rfl)) ?_
   obtain ⟨nL, hnL⟩ : ∃ nL, nL = (wn).heap.size := ⟨_, rfl⟩
   have hbL : bn < nL ∧ br < nL ∧ bo < nL ∧ bc < nL ∧ bm < nL ∧ bq < nL ∧ nP ≤ nL := ⟨by rw [hnL]; exact Bn.lt, by rw [hnL]; exact Br.lt, by rw [hnL]; exact Bo.lt, by rw [hnL]; exact hBc.lt, by rw [hnL]; exact hM49.lt, by rw [hnL]; exact Bq.lt, by have := hC.size; have := Nn.ext.size; omega⟩
   refine WpL_enter rfl rfl (by decide) (r_callF Try.func45 kQ kQ rfl) (bord_c _ X (Nat.le_refl _) _ _ true (ReIn.at X hXW) (by omega)) ?_
   rintro _ w69 ⟨⟨la, lc, rfl, hLo⟩, X69⟩
   replace Br := X69.keep Br
   replace Bo := X69.keep Bo
   replace hBc := X69.keep hBc
   replace hM49 := X69.keepM hM49
   replace Bq := X69.keep Bq
   replace Bn := X69.keep Bn
   replace hU := hU.chg X69 fun _ _ f => f
   replace hXW := ReIn.ext X69 _ hXW
   replace E := E.ext X69
   rw [← hnL] at hLo
   obtain ⟨z0, hz0⟩ : ∃ z0, z0 = (w69).heap.size := ⟨_, rfl⟩
   have hLl2 : ∀ k, (Value.slice la (bordR true X).length lc).ownBlock = some k → nL ≤ k ∧ k < z0 := fun k hk => by rw [hz0]; exact hLo.lt k hk
   have hLz : nL ≤ z0 := by have := X69.size; omega
   have hbnP : nP ≤ bn := by have := Nn.eq; have := hC.size; omega
   obtain ⟨PG, hPG⟩ : ∃ PG : World → Prop, PG = PasG t X S S nL (.slice la (bordR true X).length lc) us [.int .i64 X.kind, .slice ysa X.set.length ysc, .slice yaa X.args.length yac, .int .i64 X.mn, .int .i64 X.mx, .bool X.neg] := ⟨_, rfl⟩
   have hPs : ∀ (M : Nat → Prop) (a b : World), Chg M a b → (∀ y, M y → y = bn ∨ z0 ≤ y) → PG a → PG b := fun M a b c hM h => by rw [hPG] at h ⊢; exact h.chg c (fun k hk hm => by have := hLl2 k hk; rcases hM k hm with h | h <;> omega) (fun y hy hm => by have := (hSb y hy).1; rcases hM y hm with h | h <;> omega) (fun y hy hm => by have := (hSb y hy).1; rcases hM y hm with h | h <;> omega)
   have hP0 : PG (w69) := by rw [hPG]; exact ⟨hLo, hU, hXW⟩
   refine qA _ rfl ?_
   refine WpL_nil (Wp_seq (Wp_seq_region ?_))
   refine qA _ rfl ?_
   refine WpL_nil (Wp_block ?_)
   refine Wp_loop (fun nn_ σ W6 => ∃ (s me mx : Nat) (ea : Option Addr) (ec : Nat) (xa : Option Addr) (xc : Nat), (∃ jj_, σ = upds jj_ [(1, (P6 br 0)), (2, (P6 bo 0)), (3, (P6 bc 0)), (4, (.map (some bm))), (5, (.slice (some ⟨bq, 0, none⟩) (C + 1) (C + 1))), (8, (P6 bn 0)), (9, (.slice la ((bordR true X).length) lc)), (10, (I6 (s : Int)))]) ∧ Chg none1 w0 W6 ∧ Blk W6 br (R6 X ysa ysc yaa yac) 25 ∧ Blk W6 bo #[(I6 0), (I6 0), (.slice none 0 0), (.slice none 0 0), (.slice none 0 0)] 30 ∧ Blk W6 bc #[(I6 (C : Int))] 3 ∧ MapAt W6 bm kPair kBool (addM (addM [] (stR X)) (prodI [0] (bordR false X))) ∧ Blk W6 bq us.toArray 22 ∧ Blk W6 bn (#[Value.int .i64 ((C + 1 : Nat) : Int), .int .i64 0, .slice ea me ec, .slice none 0 0, .slice xa mx xc]) 30 ∧ (s ≤ C + 1) ∧ (me = (endU t s).length) ∧ (mx = (edU t s).length) ∧ (W6.ownsRow z0 TDI 1 (.slice ea me ec) me ((endU t s).map (Value.int .i64))) ∧ (EdC S W6 z0 (.slice xa mx xc) (edU t s)) ∧ (PG W6) ∧ (z0 ≤ W6.heap.size) ∧ nn_ = C + 1 - s) (n := C + 1 - 0) ?_ ?_
   ·exact ⟨0, 0, 0, none, 0, none, 0, Fits.out ⟨rfl, rfl, rfl, rfl, rfl, rfl, rfl, rfl, trivial⟩, E, Br, Bo, hBc, hM49, Bq, Bn, Nat.zero_le _, rfl, rfl, World.ownsRow_nil _ _ _ _, ⟨[], World.ownsRow_nil _ _ _ _, rfl, fun i e row h => by simp [edU] at h⟩, hP0, Nat.le_of_eq hz0, rfl⟩
   ·clear E Br Bo hBc hM49 Bq Bn
    rintro _ _ W6 ⟨s, me, mx, ea, ec, xa, xc, ⟨j6, rfl⟩, E, Br, Bo, hBc, hM49, Bq, Bn, hs9, hme, hmx, hoe, hXE, hP, hzs, rfl⟩
    refine Wp_seq (Wp_seq_region ?_)
    refine qM _ rfl ?_
    refine qV (r_load rfl flat3 (hBc.cell rfl)) ?_
    refine qV (r_leq rfl rfl) ?_
    refine WpL_nil ?_
    refine Wp_cond rfl (fun hlt9 => ?_) (fun hlt9 => ?_)
    ·have khlt9 := hlt9
     replace hlt9 := of_decide_eq_true hlt9
     refine Wp_skip (thn_normal (Wp_seq (Wp_block (Wp_seq ?_))))
     refine Wp_cut (fun σ W8 => ∃ (hh : Bool), (∃ jj_, σ = upds jj_ [(1, (P6 br 0)), (2, (P6 bo 0)), (3, (P6 bc 0)), (4, (.map (some bm))), (5, (.slice (some ⟨bq, 0, none⟩) (C + 1) (C + 1))), (8, (P6 bn 0)), (9, (.slice la ((bordR true X).length) lc)), (10, (I6 (s : Int))), (64, (.bool hh))]) ∧ Chg none1 w0 W8 ∧ Blk W8 br (R6 X ysa ysc yaa yac) 25 ∧ Blk W8 bo #[(I6 0), (I6 0), (.slice none 0 0), (.slice none 0 0), (.slice none 0 0)] 30 ∧ Blk W8 bc #[(I6 (C : Int))] 3 ∧ MapAt W8 bm kPair kBool (addM (addM [] (stR X)) (prodI [0] (bordR false X))) ∧ Blk W8 bq us.toArray 22 ∧ Blk W8 bn (#[Value.int .i64 ((C + 1 : Nat) : Int), .int .i64 0, .slice ea me ec, .slice none 0 0, .slice xa mx xc]) 30 ∧ (hh = hitG t s) ∧ (W8.ownsRow z0 TDI 1 (.slice ea me ec) me ((endU t s).map (Value.int .i64))) ∧ (EdC S W8 z0 (.slice xa mx xc) (edU t s)) ∧ (PG W8) ∧ (z0 ≤ W8.heap.size)) ?_ ?_
     ·skip
      have hP1 := hP
      rw [hPG] at hP1
      refine Wp_region ?_
      refine qM _ rfl ?_
      refine qM _ rfl ?_
      refine WpL_enter rfl rfl (by decide) (r_callF Try.func46 kQ kQ rfl) (rhas_c _ _ (bordR true X) _ (own_intsD hP1.1 rfl)) ?_
      rintro _ w79 ⟨rfl, X79⟩
      replace Br := X79.keep Br
      replace Bo := X79.keep Bo
      replace hBc := X79.keep hBc
      replace hM49 := X79.keepM hM49
      replace Bq := X79.keep Bq
      replace Bn := X79.keep Bn
      replace hoe := own_ext hoe X79
      replace hXE := hXE.ext X79
      replace hP := hPs _ _ _ X79 (fun _ f => f.elim) hP
      replace hP1 := hP1.chg X79 (fun _ _ f => f) (fun _ _ f => f) (fun _ _ f => f)
      replace hzs := Nat.le_trans hzs X79.size
      replace E := E.ext X79
      refine qM _ rfl ?_
      rcases Bool.eq_false_or_eq_true ((bordR true X).contains ((s : Nat) : Int)) with g1 | g1
      ·have kg1 := g1
       refine WpL_guard_no rfl rfl (by decide) (v := .bool true) (congrArg Value.bool g1) (Or.inl rfl) ?_
       refine WpL_guard_no rfl rfl (by decide) (v := .bool true) (congrArg Value.bool g1) (Or.inl rfl) ?_
       refine WpL_guard_no rfl rfl (by decide) (v := .bool true) (congrArg Value.bool g1) (Or.inl rfl) ?_
       refine WpL_guard_no rfl rfl (by decide) (v := undef) rfl (Or.inr rfl) ?_
       refine WpL_guard_no rfl rfl (by decide) (v := undef) rfl (Or.inr rfl) ?_
       refine WpL_guard_no rfl rfl (by decide) (v := .bool true) (congrArg Value.bool g1) (Or.inl rfl) ?_
       refine qV (r_pick (v := (.bool true)) rfl (by rw [g1]; rfl)) ?_
       refine WpL_nil (thn_normal ?_)
       exact ⟨true, Fits.out ⟨rfl, rfl, rfl, rfl, rfl, rfl, rfl, rfl, rfl, trivial⟩, E, Br, Bo, hBc, hM49, Bq, Bn, hit_yes (by rw [← hXe]; exact kg1), hoe, hXE, hP, hzs⟩
      ·have kg1 := g1
       refine WpL_guard_yes rfl rfl (by decide) (congrArg Value.bool g1) ?_
       refine qM _ rfl ?_
       refine WpL_guard_yes rfl rfl (by decide) (congrArg Value.bool g1) ?_
       refine qV (r_eql rfl rfl) ?_
       refine WpL_guard_yes rfl rfl (by decide) (congrArg Value.bool g1) ?_
       refine qM _ rfl ?_
       rcases Bool.eq_false_or_eq_true (decide ((((s : Nat) : Int) : Int) = 0)) with g2 | g2
       ·have kg2 := g2
        replace kg2 := of_decide_eq_true kg2
        refine WpL_guard_yes rfl rfl (by decide) (congrArg Value.bool g2) ?_
        refine qV (r_loadAgg (vs := [(I6 X.kind), (.slice ysa X.set.length ysc), (.slice yaa X.args.length yac), (I6 X.mn), (I6 X.mx), (.bool X.neg)]) rfl agg25 siz25 rfl (Br.cells rfl)) ?_
        refine WpL_guard_yes rfl rfl (by decide) (congrArg Value.bool g2) ?_
        refine WpL_enter rfl rfl (by decide) (r_callF Try.func47 kQ kQ rfl) (can_c _ X (Nat.le_refl _) _ _ (ReIn.at X hP1.2.2)) ?_
        rintro _ w89 ⟨rfl, X89⟩
        replace Br := X89.keep Br
        replace Bo := X89.keep Bo
        replace hBc := X89.keep hBc
        replace hM49 := X89.keepM hM49
        replace Bq := X89.keep Bq
        replace Bn := X89.keep Bn
        replace hoe := own_ext hoe X89
        replace hXE := hXE.ext X89
        replace hP := hPs _ _ _ X89 (fun _ f => f.elim) hP
        replace hP1 := hP1.chg X89 (fun _ _ f => f) (fun _ _ f => f) (fun _ _ f => f)
        replace hzs := Nat.le_trans hzs X89.size
        replace E := E.ext X89
        refine WpL_guard_yes rfl rfl (by decide) (congrArg Value.bool g1) ?_
        refine qV (r_pick (v := (.bool (canR X))) rfl (by rw [g2]; rfl)) ?_
        refine qV (r_pick (v := (.bool (canR X))) rfl (by rw [g1]; rfl)) ?_
        refine WpL_nil (thn_normal ?_)
        exact ⟨(canR X), Fits.out ⟨rfl, rfl, rfl, rfl, rfl, rfl, rfl, rfl, rfl, trivial⟩, E, Br, Bo, hBc, hM49, Bq, Bn, hit_no (by rw [← hXe]; simpa using kg1) (by rw [← hXe, decide_eq_true kg2]; rfl), hoe, hXE, hP, hzs⟩
       ·have kg2 := g2
        replace kg2 := of_decide_eq_false kg2
        refine WpL_guard_no rfl rfl (by decide) (v := .bool false) (congrArg Value.bool g2) (Or.inl rfl) ?_
        refine WpL_guard_no rfl rfl (by decide) (v := .bool false) (congrArg Value.bool g2) (Or.inl rfl) ?_
        refine WpL_guard_yes rfl rfl (by decide) (congrArg Value.bool g1) ?_
        refine qV (r_pick (v := (.bool false)) rfl (by rw [g2]; rfl)) ?_
        refine qV (r_pick (v := (.bool false)) rfl (by rw [g1]; rfl)) ?_
        refine WpL_nil (thn_normal ?_)
        exact ⟨false, Fits.out ⟨rfl, rfl, rfl, rfl, rfl, rfl, rfl, rfl, rfl, trivial⟩, E, Br, Bo, hBc, hM49, Bq, Bn, hit_no (by rw [← hXe]; simpa using kg1) (by rw [decide_eq_false kg2]; rfl), hoe, hXE, hP, hzs⟩
     ·clear E Br Bo hBc hM49 Bq Bn
      rintro _ W8 ⟨hh, ⟨j8, rfl⟩, E, Br, Bo, hBc, hM49, Bq, Bn, hh1, hoe, hXE, hP, hzs⟩
      refine Wp_cutT (fun σ W11 => ∃ (me2 : Nat) (ea2 : Option Addr) (ec2 : Nat), (∃ jj_, σ = upds jj_ [(1, (P6 br 0)), (2, (P6 bo 0)), (3, (P6 bc 0)), (4, (.map (some bm))), (5, (.slice (some ⟨bq, 0, none⟩) (C + 1) (C + 1))), (8, (P6 bn 0)), (9, (.slice la ((bordR true X).length) lc)), (10, (I6 (s : Int)))]) ∧ Chg none1 w0 W11 ∧ Blk W11 br (R6 X ysa ysc yaa yac) 25 ∧ Blk W11 bo #[(I6 0), (I6 0), (.slice none 0 0), (.slice none 0 0), (.slice none 0 0)] 30 ∧ Blk W11 bc #[(I6 (C : Int))] 3 ∧ MapAt W11 bm kPair kBool (addM (addM [] (stR X)) (prodI [0] (bordR false X))) ∧ Blk W11 bq us.toArray 22 ∧ Blk W11 bn (#[Value.int .i64 ((C + 1 : Nat) : Int), .int .i64 0, .slice ea2 me2 ec2, .slice none 0 0, .slice xa mx xc]) 30 ∧ (me2 = (endU t (s + 1)).length) ∧ (W11.ownsRow z0 TDI 1 (.slice ea2 me2 ec2) me2 ((endU t (s + 1)).map (Value.int .i64))) ∧ (EdC S W11 z0 (.slice xa mx xc) (edU t s)) ∧ (PG W11) ∧ (z0 ≤ W11.heap.size)) ?_ ?_
      ·skip
       refine Wp_cond rfl (fun hit => ?_) (fun hit => ?_)
       ·have khit := hit
        have hel := endU_len t s
        have hU1 : endU t (s + 1) = endU t s ++ [((s : Nat) : Int)] := by rw [endU, ← hh1, hit]; rfl
        refine Wp_region ?_
        refine qF bn 0 2 rfl Try.underlying30 rfl siz26 rfl ?_
        refine qV (r_load rfl flat26 (Bn.cell rfl)) ?_
        refine qM _ rfl ?_
        refine s_buildSlice (ps := [(0, (I6 (s : Int)))]) (c := #[(I6 (s : Int))]) (by decide) rfl Try.underlying26 siz3 zer3 (by decide) (by decide) (by kernel_rfl) ?_
        intro bv wv Nv
        have Fv := Nv.ge E
        have Ov_br := Nv.lt Br
        have Ov_bo := Nv.lt Bo
        have Ov_bc := Nv.lt hBc
        have Ov_bm := Nv.ltM hM49
        have Ov_bq := Nv.lt Bq
        have Ov_bn := Nv.lt Bn
        replace Br := Nv.keep Br
        replace Bo := Nv.keep Bo
        replace hBc := Nv.keep hBc
        replace hM49 := Nv.keepM hM49
        replace Bq := Nv.keep Bq
        replace Bn := Nv.keep Bn
        replace hoe := own_ext hoe Nv.ext
        replace hXE := hXE.ext Nv.ext
        replace hP := hPs _ _ _ Nv.ext (fun _ f => f.elim) hP
        replace hzs := Nat.le_trans hzs Nv.ext.size
        replace E := E.ext Nv.ext
        have Bv := Nv.blk
        refine s_append (base := z0) (n := me) (m := 1) (xs := ((endU t s).map (Value.int .i64))) (news := [(I6 (s : Int))]) (size := 1) (bytes := 8) (v := (.slice ea me ec)) (by decide) Try.underlying26 siz3 byt3 zer3 rfl (by decide) rfl hoe rfl (rfl) (Bv.cells rfl) (by simp [Value.oneCell']) (by unfold maxLen; omega) (by omega) (hzs) ?_
        intro v7 w99 Ov7 Cv7 Dv7
        replace Br := Cv7.keep (fun h => by have := (hoe.lt _ h).1; omega) Br
        replace Bo := Cv7.keep (fun h => by have := (hoe.lt _ h).1; omega) Bo
        replace hBc := Cv7.keep (fun h => by have := (hoe.lt _ h).1; omega) hBc
        replace hM49 := Cv7.keepM (fun h => by have := (hoe.lt _ h).1; omega) hM49
        replace Bq := Cv7.keep (fun h => by have := (hoe.lt _ h).1; omega) Bq
        replace Bn := Cv7.keep (fun h => by have := (hoe.lt _ h).1; omega) Bn
        replace E := E.step Cv7 (fun x hx h => absurd (hoe.lt x h).1 (by omega))
        obtain ⟨ea3, ec3, rfl⟩ := own_form Ov7
        have hO7 : w99.ownsRow z0 TDI 1 (.slice ea3 (me + 1) ec3) (me + 1) ((endU t (s + 1)).map (Value.int .i64)) := by rw [hU1, List.map_append]; exact Ov7
        have hX7 := hXE.chg Cv7 (hXE.apart hoe) (fun y hy h => by have := (hoe.lt y h).1; have := (hSb y hy).1; omega)
        have hP7 := hPs _ _ _ Cv7 (fun y h => .inr (hoe.lt y h).1) hP
        have hz7 := Nat.le_trans hzs Cv7.size
        refine qF bn 0 2 rfl Try.underlying30 rfl siz26 rfl ?_
        refine s_store (b := bn) (o := 2) (c' := #[(I6 ((C + 1 : Nat) : Int)), (I6 0), (.slice ea3 (me + 1) ec3), (.slice none 0 0), (.slice xa mx xc)]) (v := (.slice ea3 (me + 1) ec3)) rfl rfl rfl siz26 Bn (by simp) rfl ?_
        intro w13 S13
        replace hO7 := own_chg hO7 S13.chg fun q hq h => by have h' : q = bn := h; have := (hO7.lt q hq).1; omega
        replace hX7 := hX7.chg S13.chg (fun q hq h => by have h' : q = bn := h; have := (hX7.lt q hq).1; omega) (fun y hy h => by have h' : y = bn := h; have := (hSb y hy).1; omega)
        replace hP7 := hPs _ _ _ S13.chg (fun y h => .inl h) hP7
        replace hz7 := Nat.le_trans hz7 S13.chg.size
        replace Br := S13.keep (by omega) Br
        replace Bo := S13.keep (by omega) Bo
        replace hBc := S13.keep (by omega) hBc
        replace hM49 := S13.keepM (by omega) hM49
        replace Bq := S13.keep (by omega) Bq
        replace E := S13.step E (by first | exact Or.inl (by omega) | exact Or.inr rfl | exact Or.inr (by assumption) | exact Or.inr (by simp) | exact Or.inr (by omega) | exact Or.inr (by dsimp only; omega))
        replace Bn := S13.blk
        refine WpL_nil (thn_normal ?_)
        exact ⟨me + 1, ea3, ec3, Fits.out ⟨rfl, rfl, rfl, rfl, rfl, rfl, rfl, rfl, trivial⟩, E, Br, Bo, hBc, hM49, Bq, Bn, (by rw [hU1, List.length_append, ← hme]; rfl), hO7, hX7, hP7, hz7⟩
       ·have khit := hit
        have hU1 : endU t (s + 1) = endU t s := by rw [endU, ← hh1, hit]; exact List.append_nil _
        refine Wp_skip (thn_normal ?_)
        exact ⟨me, ea, ec, Fits.out ⟨rfl, rfl, rfl, rfl, rfl, rfl, rfl, rfl, trivial⟩, E, Br, Bo, hBc, hM49, Bq, Bn, (by rw [hU1]; exact hme), (by rw [hU1]; exact hoe), hXE, hP, hzs⟩
      ·clear E Br Bo hBc hM49 Bq Bn
       rintro _ W11 ⟨me2, ea2, ec2, ⟨j11, rfl⟩, E, Br, Bo, hBc, hM49, Bq, Bn, hme2, hoe2, hXE, hP, hzs⟩
       refine Wp_seq_region ?_
       refine qA _ rfl ?_
       refine WpL_nil (Wp_block ?_)
       refine Wp_loop (fun nn_ σ W14 => ∃ (j mx2 : Nat) (xa2 : Option Addr) (xc2 : Nat), (∃ jj_, σ = upds jj_ [(1, (P6 br 0)), (2, (P6 bo 0)), (3, (P6 bc 0)), (4, (.map (some bm))), (5, (.slice (some ⟨bq, 0, none⟩) (C + 1) (C + 1))), (8, (P6 bn 0)), (9, (.slice la ((bordR true X).length) lc)), (10, (I6 (s : Int))), (11, (I6 ((j + 1 : Nat) : Int)))]) ∧ Chg none1 w0 W14 ∧ Blk W14 br (R6 X ysa ysc yaa yac) 25 ∧ Blk W14 bo #[(I6 0), (I6 0), (.slice none 0 0), (.slice none 0 0), (.slice none 0 0)] 30 ∧ Blk W14 bc #[(I6 (C : Int))] 3 ∧ MapAt W14 bm kPair kBool (addM (addM [] (stR X)) (prodI [0] (bordR false X))) ∧ Blk W14 bq us.toArray 22 ∧ Blk W14 bn (#[Value.int .i64 ((C + 1 : Nat) : Int), .int .i64 0, .slice ea2 me2 ec2, .slice none 0 0, .slice xa2 mx2 xc2]) 30 ∧ (j ≤ C) ∧ (mx2 = (edU t s ++ rowU t s j).length) ∧ (W14.ownsRow z0 TDI 1 (.slice ea2 me2 ec2) me2 ((endU t (s + 1)).map (Value.int .i64))) ∧ (EdC S W14 z0 (.slice xa2 mx2 xc2) (edU t s ++ rowU t s j)) ∧ (PG W14) ∧ (z0 ≤ W14.heap.size) ∧ nn_ = C - j) (n := C - 0) ?_ ?_
       ·exact ⟨0, mx, xa, xc, Fits.out ⟨rfl, rfl, rfl, rfl, rfl, rfl, rfl, rfl, rfl, trivial⟩, E, Br, Bo, hBc, hM49, Bq, Bn, Nat.zero_le _, (by simpa [rowU] using hmx), hoe2, (by simpa [rowU] using hXE), hP, hzs, rfl⟩
       ·clear E Br Bo hBc hM49 Bq Bn
        rintro _ _ W14 ⟨j, mx2, xa2, xc2, ⟨j14, rfl⟩, E, Br, Bo, hBc, hM49, Bq, Bn, hj9, hmx2, hoe3, hXE2, hP2, hzs2, rfl⟩
        refine Wp_seq (Wp_seq_region ?_)
        refine qM _ rfl ?_
        refine qV (r_load rfl flat3 (hBc.cell rfl)) ?_
        refine qV (r_leq rfl rfl) ?_
        refine WpL_nil ?_
        refine Wp_cond rfl (fun hlt10 => ?_) (fun hlt10 => ?_)
        ·have khlt10 := hlt10
         replace hlt10 := of_decide_eq_true hlt10
         have hpe : prG t (((s : Nat) : Int), ((j + 1 : Nat) : Int)) = (getM (addM (addM [] (stR X)) (prodI [0] (bordR false X))) (((s : Nat) : Int), ((j + 1 : Nat) : Int))).getD false := by unfold prG glP; rw [addM_app, hXe]
         refine Wp_skip (thn_normal (Wp_seq (Wp_block (Wp_seq_region ?_))))
         refine qM _ rfl ?_
         refine qM _ rfl ?_
         refine qM _ rfl ?_
         refine qV (r_build (ps := [(0, (I6 (s : Int))), (1, (I6 ((j + 1 : Nat) : Int)))]) (v := (.agg #[(I6 (s : Int)), (I6 ((j + 1 : Nat) : Int))])) rfl (by kernel_rfl)) ?_
         refine WpL_val (v := (.bool ((getM (addM (addM [] (stR X)) (prodI [0] (bordR false X))) ((s : Int), ((j + 1 : Nat) : Int))).getD false))) rfl rfl (by decide) (r_lookup (k := ((s : Int), ((j + 1 : Nat) : Int))) (z := false) Try.underlying92 (key88) zer4 hM49 rfl rfl) ?_
         refine WpL_nil ?_
         refine Wp_cond rfl (fun hpr => ?_) (fun hpr => ?_)
         ·have khpr := hpr
          have hPP := hP2
          rw [hPG] at hPP
          have hgl : (glMany t).length = C + 1 := by unfold glMany; rw [foldl_manyF_len, List.length_replicate, ← hCe]
          obtain ⟨z, hz⟩ := get_of_lt (l := glMany t) (i := j + 1) (by omega)
          obtain ⟨u, hu⟩ := get_of_lt (l := us) (i := j + 1) (by have := hPP.2.1.1; omega)
          obtain ⟨hsp, hso⟩ := hPP.2.1.2 (j + 1) u z hu hz
          obtain ⟨za, zc, rfl⟩ := SlAt.form hsp
          rw [List.length_map] at hu hsp hso
          have hxl := edU_len t s
          have hrl := rowU_len t s j
          have hsc : s * glC t ≤ 2001 * 2000 := Nat.mul_le_mul (by omega) (by omega)
          have hmb : mx2 ≤ 5000000 := by rw [hmx2, List.length_append]; omega
          obtain ⟨rows9, hownX, hrowsX⟩ := hXE2
          rw [← hmx2] at hownX
          obtain ⟨z1, hz1⟩ : ∃ z1, z1 = (W14).heap.size := ⟨_, rfl⟩
          have hz_17 : w0.heap.size ≤ W14.heap.size := E.size
          have lz_17_br : br < W14.heap.size := Br.lt
          have lz_17_bo : bo < W14.heap.size := Bo.lt
          have lz_17_bc : bc < W14.heap.size := hBc.lt
          have lz_17_bm : bm < W14.heap.size := hM49.lt
          have lz_17_bq : bq < W14.heap.size := Bq.lt
          have lz_17_bn : bn < W14.heap.size := Bn.lt
          obtain ⟨Fs17, hFs17⟩ : ∃ Fs : List FctS, Fs = [(eF (P6 bn 4)), (eF (.slice xa2 mx2 xc2)), (eF (I6 (s : Int))), (eF (I6 ((j + 1 : Nat) : Int))), (eF (.slice (some ⟨bq, 0, none⟩) (C + 1) (C + 1))), (eF (I6 ((j + 1 : Nat) : Int))), (eF (.pointer (some ⟨bq, 0 + (j + 1), none⟩))), (eF (.slice za z.length zc)), (eF (.agg #[(I6 (s : Int)), (I6 ((j + 1 : Nat) : Int)), (.slice za z.length zc)])), (fun _ _ => litF TEd #[.int .i64 (s : Int), .int .i64 ((j + 1 : Nat) : Int), .slice za z.length zc] z1), (fun _ _ => appF z0 TEd 3 (mx2 + 1) (rows9.flatten ++ [.int .i64 (s : Int), .int .i64 ((j + 1 : Nat) : Int), .slice za z.length zc]) (.slice xa2 mx2 xc2) z1), (eF undef), (eF undef)] := ⟨_, rfl⟩
          refine Wp_dagS (MsL [(10, (fun q => (Value.slice xa2 mx2 xc2).ownBlock = some q))]) [true, true, true, true, true, true, true, true, true, true, true, false, false] [11, 12] [81, 82, 83, 84, 85, 86, 87, 88, 89, 90, 91, 105, 106] [[], [0], [], [], [], [], [4, 5], [6], [2, 3, 7], [8], [1, 9], [], []] [[], [0], [], [], [], [], [4, 5], [6, 4, 5], [2, 3, 7, 6, 4, 5], [8, 2, 3, 7, 6, 4, 5], [1, 0, 9, 8, 2, 3, 7, 6, 4, 5], [], []] Fs17 hFs17 (by kernel_rfl) mixed (by kernel_rfl) (by kernel_rfl) (by kernel_rfl) (by kernel_rfl) ?_ ?_
          ·intro wd X0
           refine qZ (fun S s' w' hi hN X U V H => ?_) ?_
           ·replace X := xN1 (hN 10 rfl) X
            exact DoesT_pure (r_fieldAddr (U 8 rfl) Try.underlying30 rfl siz28 rfl) rfl
           refine qZ (fun S s' w' hi hN X U V H => ?_) ?_
           ·replace X := xN1 (hN 10 rfl) X
            have e81 := (H 0 rfl).2 81 _ rfl (by rw [hFs17]; rfl)
            exact DoesT_pure (r_load e81 flat28 (((X0.trans X).keep Bn).cell rfl)) rfl
           refine qZ (fun S s' w' hi hN X U V H => ?_) ?_
           ·replace X := xN1 (hN 10 rfl) X
            exact DoesT_pure (r_move (U 10 rfl)) rfl
           refine qZ (fun S s' w' hi hN X U V H => ?_) ?_
           ·replace X := xN1 (hN 10 rfl) X
            exact DoesT_pure (r_move (U 11 rfl)) rfl
           refine qZ (fun S s' w' hi hN X U V H => ?_) ?_
           ·replace X := xN1 (hN 10 rfl) X
            exact DoesT_pure (r_move (U 5 rfl)) rfl
           refine qZ (fun S s' w' hi hN X U V H => ?_) ?_
           ·replace X := xN1 (hN 10 rfl) X
            exact DoesT_pure (r_move (U 11 rfl)) rfl
           refine qZ (fun S s' w' hi hN X U V H => ?_) ?_
           ·replace X := xN1 (hN 10 rfl) X
            have e85 := (H 4 rfl).2 85 _ rfl (by rw [hFs17]; rfl)
            have e86 := (H 5 rfl).2 86 _ rfl (by rw [hFs17]; rfl)
            exact DoesT_pure (r_indexSlice (i := j + 1) e85 e86 rfl Try.underlying64 siz22 (by omega) (by omega)) rfl
           refine qZ (fun S s' w' hi hN X U V H => ?_) ?_
           ·replace X := xN1 (hN 10 rfl) X
            have e87 := (H 6 rfl).2 87 _ rfl (by rw [hFs17]; rfl)
            exact DoesT_pure (r_load e87 flat22 (((X0.trans X).keep Bq).cell (by simpa using hu))) rfl
           refine qZ (fun S s' w' hi hN X U V H => ?_) ?_
           ·replace X := xN1 (hN 10 rfl) X
            have e83 := (H 2 rfl).2 83 _ rfl (by rw [hFs17]; rfl)
            have e84 := (H 3 rfl).2 84 _ rfl (by rw [hFs17]; rfl)
            have e88 := (H 7 rfl).2 88 _ rfl (by rw [hFs17]; rfl)
            exact DoesT_pure (r_build (ps := [(0, (I6 (s : Int))), (1, (I6 ((j + 1 : Nat) : Int))), (2, (.slice za z.length zc))]) (v := (.agg #[(I6 (s : Int)), (I6 ((j + 1 : Nat) : Int)), (.slice za z.length zc)])) (bld3 e83 e84 e88) (by kernel_rfl)) rfl
           refine DagStepsS.cons (StabS.chg (U := (fun y => (fun q => (Value.slice xa2 mx2 xc2).ownBlock = some q) y)) (litF_chg (fun q h => by have := (hownX.lt q h).2; omega)) (fun p y hp hw h => by
              rcases MsL_or h with ⟨rfl, h0⟩ | h0
              ·exact h0
              exact h0.elim)) (LocS.const) (fun S s' w' hi hN X U V H => Or.inl ⟨Guarded_none rfl, ?_⟩) ?_
           ·replace X := xN1 (hN 10 rfl) X
            have e89 := (H 8 rfl).2 89 _ rfl (by rw [hFs17]; rfl)
            exact DoesT_lit (hs := z1) Try.underlying28 siz76 zer76 e89 (by decide) (by decide) (by kernel_rfl) (by have := X0.size; have := X.size; omega)
           refine DagStepsS.cons (StabS.chg (U := none1) (appF_ext _ _ _ _ _ _ _) (fun p y hp hw h => by
              rcases MsL_or h with ⟨rfl, h0⟩ | h0
              ·exact absurd rfl hp
              exact h0.elim)) (LocS.const) (fun S s' w' hi hN X U V H => Or.inl ⟨Guarded_none rfl, ?_⟩) ?_
           ·replace X := xN1 hi X
            have e82 := (H 1 rfl).2 82 _ rfl (by rw [hFs17]; rfl)
            obtain ⟨b90, e90, B90, g90⟩ := (show ((fun _ _ => litF TEd #[.int .i64 ((s : Nat) : Int), .int .i64 ((j + 1 : Nat) : Int), .slice za z.length zc] z1) : FctS) S s' (s' 90) w' from (H 9 rfl).2 90 (fun _ _ => litF TEd #[.int .i64 ((s : Nat) : Int), .int .i64 ((j + 1 : Nat) : Int), .slice za z.length zc] z1) rfl (by rw [hFs17]; rfl))
            exact DoesT_append (hs := z1) Try.underlying28 siz76 byt76 zer76 rfl (by decide) e82 (own_ext (own_ext hownX X0) X) e90 rfl (B90.cells rfl) (by simp [Value.oneCell']) (by unfold maxLen; omega) (by omega) (by have := X0.size; have := X.size; omega) (fun y h => .inl ⟨rfl, h⟩) (by have := X0.size; have := X.size; omega)
           refine DagStepsS.tail (DagStepsS.tail ?_)
           exact DagStepsS.nil
          ·intro s' wd17 w17 X0 X17 U H
           replace X17 := X17.mono (M' := (fun y => (fun q => (Value.slice xa2 mx2 xc2).ownBlock = some q) y)) (fun y _ h => by
             obtain ⟨j, hj, h⟩ := h
             rcases MsL_or h with ⟨rfl, h0⟩ | h0
             ·exact h0
             exact h0.elim)
           obtain ⟨⟨u91, v91, e91⟩, O91, D91⟩ := (show ((fun _ _ => appF z0 TEd 3 (mx2 + 1) (rows9.flatten ++ [.int .i64 ((s : Nat) : Int), .int .i64 ((j + 1 : Nat) : Int), .slice za z.length zc]) (.slice xa2 mx2 xc2) z1) : FctS) (allS [true, true, true, true, true, true, true, true, true, true, true, false, false]) s' (s' 91) w17 from H 10 rfl 91 (fun _ _ => appF z0 TEd 3 (mx2 + 1) (rows9.flatten ++ [.int .i64 ((s : Nat) : Int), .int .i64 ((j + 1 : Nat) : Int), .slice za z.length zc]) (.slice xa2 mx2 xc2) z1) rfl (by rw [hFs17]; rfl))
           obtain ⟨j17, rfl⟩ := Fits.out (σ := s') (l := [(1, (.pointer (some ⟨br, 0, none⟩))), (2, (.pointer (some ⟨bo, 0, none⟩))), (3, (.pointer (some ⟨bc, 0, none⟩))), (4, (.map (some bm))), (5, (.slice (some ⟨bq, 0, none⟩) (C + 1) (C + 1))), (8, (.pointer (some ⟨bn, 0, none⟩))), (9, (.slice la ((bordR true X).length) lc)), (10, (.int .i64 ((s : Nat) : Int))), (11, (.int .i64 ((j + 1 : Nat) : Int))), (91, (.slice u91 (mx2 + 1) v91))]) ⟨U 1 rfl, U 2 rfl, U 3 rfl, U 4 rfl, U 5 rfl, U 8 rfl, U 9 rfl, U 10 rfl, U 11 rfl, e91, trivial⟩
           clear U H
           replace Br := Chg.keep X17 (fun h => by have := (hownX.lt _ h).1; omega) (X0.keep Br)
           replace Bo := Chg.keep X17 (fun h => by have := (hownX.lt _ h).1; omega) (X0.keep Bo)
           replace hBc := Chg.keep X17 (fun h => by have := (hownX.lt _ h).1; omega) (X0.keep hBc)
           replace hM49 := Chg.keepM X17 (fun h => by have := (hownX.lt _ h).1; omega) (X0.keepM hM49)
           replace Bq := Chg.keep X17 (fun h => by have := (hownX.lt _ h).1; omega) (X0.keep Bq)
           replace Bn := Chg.keep X17 (fun h => by have := (hownX.lt _ h).1; omega) (X0.keep Bn)
           have hXm7 := Chg.trans (Ext.chg X0) X17
           replace E := (E.ext X0).step X17 (fun q hq h => by have := (hownX.lt q h).1; omega)
           rw [e91] at O91 D91
           have hrU : rowU t s (j + 1) = rowU t s j ++ [(((s : Nat) : Int), ((j + 1 : Nat) : Int), z)] := by rw [rowU, hpe, hpr, List.getD_eq_getElem?_getD, hz]; rfl
           have hX9 : EdC S (w17) z0 (.slice u91 (mx2 + 1) v91) (edU t s ++ rowU t s (j + 1)) := by rw [hrU, ← List.append_assoc]; exact EdC.push hrowsX hXm7 (fun y hy h => by have := (hownX.lt y h).1; have := (hSb y hy).1; omega) hmx2 O91 hsp hso
           have hm9 : mx2 + 1 = (edU t s ++ rowU t s (j + 1)).length := by rw [hrU, ← List.append_assoc, List.length_append, ← hmx2]; rfl
           have hO9 := own_chg hoe3 hXm7 (fun q hq h => own_other hownX hoe3 (by decide) h hq)
           have hP9 := hPs _ _ _ hXm7 (fun y h => .inr (hownX.lt y h).1) hP2
           have hz9 := Nat.le_trans hzs2 hXm7.size
           refine qF bn 0 4 rfl Try.underlying30 rfl siz28 rfl ?_
           refine s_store (b := bn) (o := 4) (c' := #[(I6 ((C + 1 : Nat) : Int)), (I6 0), (.slice ea2 me2 ec2), (.slice none 0 0), (.slice u91 (mx2 + 1) v91)]) (v := (.slice u91 (mx2 + 1) v91)) rfl rfl rfl siz28 Bn (by simp) rfl ?_
           intro w18 S18
           replace hO9 := own_chg hO9 S18.chg fun q hq h => by have h' : q = bn := h; have := (hO9.lt q hq).1; omega
           replace hX9 := hX9.chg S18.chg (fun q hq h => by have h' : q = bn := h; have := (hX9.lt q hq).1; omega) (fun y hy h => by have h' : y = bn := h; have := (hSb y hy).1; omega)
           replace hP9 := hPs _ _ _ S18.chg (fun y h => .inl h) hP9
           replace hz9 := Nat.le_trans hz9 S18.chg.size
           replace Br := S18.keep (by omega) Br
           replace Bo := S18.keep (by omega) Bo
           replace hBc := S18.keep (by omega) hBc
           replace hM49 := S18.keepM (by omega) hM49
           replace Bq := S18.keep (by omega) Bq
           replace E := S18.step E (by first | exact Or.inl (by omega) | exact Or.inr rfl | exact Or.inr (by assumption) | exact Or.inr (by simp) | exact Or.inr (by omega) | exact Or.inr (by dsimp only; omega))
           replace Bn := S18.blk
           refine WpL_nil (inB_normal (thn_normal (Wp_region ?_)))
           refine qM _ rfl ?_
           refine qV (r_add rfl rfl (wI64 (by omega))) ?_
           refine qA _ rfl ?_
           refine WpL_nil (thn_normal ?_)
           exact ⟨C - (j + 1), by omega, j + 1, mx2 + 1, u91, v91, Fits.out ⟨rfl, rfl, rfl, rfl, rfl, rfl, rfl, rfl, rfl, trivial⟩, E, Br, Bo, hBc, hM49, Bq, Bn, (by omega), hm9, hO9, hX9, hP9, hz9, rfl⟩
         ·have khpr := hpr
          have hrU : rowU t s (j + 1) = rowU t s j := by rw [rowU, hpe, hpr]; exact List.append_nil _
          refine Wp_skip (inB_normal (thn_normal (Wp_region ?_)))
          refine qM _ rfl ?_
          refine qV (r_add rfl rfl (wI64 (by omega))) ?_
          refine qA _ rfl ?_
          refine WpL_nil (thn_normal ?_)
          exact ⟨C - (j + 1), by omega, j + 1, mx2, xa2, xc2, Fits.out ⟨rfl, rfl, rfl, rfl, rfl, rfl, rfl, rfl, rfl, trivial⟩, E, Br, Bo, hBc, hM49, Bq, Bn, (by omega), (by rw [hrU]; exact hmx2), hoe3, (by rw [hrU]; exact hXE2), hP2, hzs2, rfl⟩
        ·have khlt10 := hlt10
         replace hlt10 := of_decide_eq_false hlt10
         have hjj : j = C := by omega
         have heU : edU t (s + 1) = edU t s ++ rowU t s j := by rw [edU, hjj, hCe]
         rw [← heU] at hmx2 hXE2
         refine Wp_exit (thn_exit (thn_exit (inB_here (inB_normal (thn_normal (Wp_region ?_))))))
         refine qM _ rfl ?_
         refine qV (r_add rfl rfl (wI64 (by omega))) ?_
         refine qA _ rfl ?_
         refine WpL_nil (thn_normal ?_)
         exact ⟨C + 1 - (s + 1), by omega, s + 1, me2, mx2, ea2, ec2, xa2, xc2, Fits.out ⟨rfl, rfl, rfl, rfl, rfl, rfl, rfl, rfl, trivial⟩, E, Br, Bo, hBc, hM49, Bq, Bn, (by omega), hme2, hmx2, hoe3, hXE2, hP2, hzs2, rfl⟩
    ·have khlt9 := hlt9
     replace hlt9 := of_decide_eq_false hlt9
     have hss : s = C + 1 := by omega
     subst hss
     refine Wp_exit (thn_exit (thn_exit (inB_here (thn_normal (Wp_seq_region ?_)))))
     refine qV (r_loadAgg (vs := [(I6 ((C + 1 : Nat) : Int)), (I6 0), (.slice ea me ec), (.slice none 0 0), (.slice xa mx xc)]) rfl agg30 siz30 rfl (Bn.cells rfl)) ?_
     refine s_storeAgg (b := bo) (o := 0) (c' := #[(I6 ((C + 1 : Nat) : Int)), (I6 0), (.slice ea me ec), (.slice none 0 0), (.slice xa mx xc)]) rfl rfl (by simp [Value.oneCell']) siz30 rfl Bo (by first | (simp; done) | exact Nat.le_of_ble_eq_true rfl) rfl ?_
     intro w19 S19
     replace hoe := own_chg hoe S19.chg fun q hq h => by have h' : q = bo := h; have := (hoe.lt q hq).1; omega
     replace hXE := hXE.chg S19.chg (fun q hq h => by have h' : q = bo := h; have := (hXE.lt q hq).1; omega) (fun y hy h => by have h' : y = bo := h; exact (hSb y hy).2.2.1 h')
     replace Br := S19.keep (by omega) Br
     replace hBc := S19.keep (by omega) hBc
     replace hM49 := S19.keepM (by omega) hM49
     replace Bq := S19.keep (by omega) Bq
     replace Bn := S19.keep (by omega) Bn
     replace E := S19.step E (by first | exact Or.inl (by omega) | exact Or.inr rfl | exact Or.inr (by assumption) | exact Or.inr (by simp) | exact Or.inr (by omega) | exact Or.inr (by dsimp only; omega))
     replace Bo := S19.blk
     refine WpL_nil (Wp_ret ?_)
     refine fin_agg Try.results14 (vs := [(.int .i64 ((C + 1 : Nat) : Int)), (.int .i64 0), (.slice ea me ec), (.slice none 0 0), (.slice xa mx xc)]) (b := bo) rfl agg30 siz30 rfl (Bo.cells rfl) ?_
     refine ⟨⟨[.int .i64 ((C + 1 : Nat) : Int), .int .i64 0, .slice ea me ec, .slice none 0 0, .slice xa mx xc], rfl, ?_⟩, E⟩
     obtain ⟨rows9, h1, h2⟩ := hXE
     have h8 : ∀ r ∈ rows9, r.length = 3 := fun r hr => by
      obtain ⟨i, hi⟩ := List.getElem?_of_mem hr
      obtain ⟨e, he⟩ := get_of_lt (l := edU t (C + 1)) (i := i) (by have := h2.1; have := lt_of_get hi; omega)
      obtain ⟨u, rfl, _⟩ := h2.2 i e r he hi
      rfl
     refine ⟨ea, ec, none, 0, xa, xc, ?_, ?_, SlAt.nil _ 2 _ _, rows9, ?_, ?_, fun i e row h5 h6 => ?_⟩
     ·rw [hme, hmx, hCe]; rfl
     ·rw [hme, hCe] at hoe; exact own_intsD hoe rfl
     ·rw [← h2.1] at h1
      have h9 := own_slat h1 h8 rfl (by decide)
      rw [hmx, hCe] at h9
      exact h9
     ·rw [h2.1, hCe]; rfl
     ·obtain ⟨u, h7, h9, _⟩ := h2.2 i e row (by rw [hCe]; exact h5) h6
      exact ⟨u, h7, h9⟩
end Go.Proofs
