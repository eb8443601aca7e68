/- Contracts and plain lemmas, part 4. -/
import Derived.Tactics
import Derived.Deep.Quiet
import Derived.Laws.AppendOwn
import Derived.KernelRfl
import Derived.Laws.Entries
import Derived.Laws.Build
import Derived.Below
import Derived.RowKit3
import Derived.StillTail
import Derived.Sort.Grow
import Derived.Deep.Draws
import Derived.Test.YtmgnaaonmhaflaaGreatChecked
import Derived.Laws.StructEq
import Derived.MapKept
import Derived.Laws.BytesArg
import Derived.DeepKeys3
import Derived.Shelf.SlSortCmp.WholeK
import Derived.Shelf.Sort.Plain
import Derived.Shelf.Slices.CompactI
import Derived.Test.YtmgnaaonmhaflaaGreatProg
import Derived.Defers
import Derived.Recover
import Derived.OpenShut
import Derived.ChangeSlices
import Derived.Test.YtmgnaaonmhaflaaGreatRows
import Derived.SizedLaws
import Derived.Test.YtmgnaaonmhaflaaGreatZt3
namespace Go.Proofs
open Go Go.Eng
set_option maxRecDepth 100000
set_option linter.unusedVariables false
theorem RowsIn.chg {S M : Nat → Prop} {w w' : World} (c : Chg M w w') (hm : ∀ b, S b → ¬ M b) : ∀ {ts : List Re} {rows : List (List Value)}, RowsIn S w ts rows → RowsIn S w' ts rows
  | [], _, h => h
  | t :: ts, rows, h => by
    obtain ⟨r, rs, h1, h2, h3⟩ := h
    exact ⟨r, rs, h1, ReIn.chg c hm t h2, RowsIn.chg c hm h3⟩
theorem RowsIn.mono {S S' : Nat → Prop} {w : World} (hs : ∀ b, S b → S' b) : ∀ {ts : List Re} {rows : List (List Value)}, RowsIn S w ts rows → RowsIn S' w ts rows
  | [], _, h => h
  | t :: ts, rows, h => by
    obtain ⟨r, rs, h1, h2, h3⟩ := h
    exact ⟨r, rs, h1, ReIn.mono hs t h2, RowsIn.mono hs h3⟩
theorem SlIn.lt {S : Nat → Prop} {w : World} {v : Value} {l : List (Int × Int)} (h : SlIn S w 2 v (l.map spanV)) : SlIn (fun b => S b ∧ b < w.heap.size) w 2 v (l.map spanV) := by
  obtain ⟨a, cap, h1, h2, h3, h4⟩ := h
  refine ⟨a, cap, h1, h2, h3, ?_⟩
  rcases h4 with h | ⟨b, o, hb, h5, h6⟩
  · exact .inl h
  · cases l with
    | nil => exact .inl rfl
    | cons s r =>
      have := h6 0 (spanV s) rfl 0 _ rfl
      exact .inr ⟨b, o, ⟨hb, World.block_lt_of_cell? w _ this⟩, h5, h6⟩
mutual
theorem ReIn.lt {S : Nat → Prop} {w : World} : ∀ (t : Re) {vs : List Value}, ReIn S w t vs → ReIn (fun b => S b ∧ b < w.heap.size) w t vs
  | .mk k set args mn mx ng, vs, h => by
    simp only [ReIn] at h ⊢
    obtain ⟨sa, sc, aa, ac, hv, hs, hl, ha⟩ := h
    refine ⟨sa, sc, aa, ac, hv, SlIn.lt hs, hl, ?_⟩
    rcases ha with h | ⟨b, o, hb, h1, h2⟩
    · exact .inl h
    · match args, h2 with
      | [], _ => exact .inl rfl
      | t :: ts, h2 =>
        have h3 := h2
        simp only [ResIn] at h3
        obtain ⟨⟨us, h4, h5⟩, _⟩ := h3
        obtain ⟨_, _, _, _, rfl, _⟩ := h5.form
        have := h4 0 _ rfl
        exact .inr ⟨b, o, ⟨hb, World.block_lt_of_cell? w _ this⟩, h1, ResIn.lt (t :: ts) h2⟩
theorem ResIn.lt {S : Nat → Prop} {w : World} {b : Nat} : ∀ (ts : List Re) {o : Nat}, ResIn S w b o ts → ResIn (fun b => S b ∧ b < w.heap.size) w b o ts
  | [], _, _ => by simp only [ResIn]
  | t :: ts, o, h => by
    simp only [ResIn] at h ⊢
    obtain ⟨⟨vs, h1, h2⟩, h3⟩ := h
    exact ⟨⟨vs, h1, ReIn.lt t h2⟩, ResIn.lt ts h3⟩
end
theorem RsIn.lt {S : Nat → Prop} {w : World} {v : Value} {ts : List Re} (h : RsIn S w v ts) : RsIn (fun b => S b ∧ b < w.heap.size) w v ts := by
  obtain ⟨aa, ac, h1, h2, h3⟩ := h
  refine ⟨aa, ac, h1, h2, ?_⟩
  rcases h3 with h | ⟨b, o, hb, h4, h5⟩
  · exact .inl h
  · match ts, h5 with
    | [], _ => exact .inl rfl
    | t :: ts, h5 =>
      have h6 := h5
      simp only [ResIn] at h6
      obtain ⟨⟨us, h7, h8⟩, _⟩ := h6
      obtain ⟨_, _, _, _, rfl, _⟩ := h8.form
      have := h7 0 _ rfl
      exact .inr ⟨b, o, ⟨hb, World.block_lt_of_cell? w _ this⟩, h4, ResIn.lt (t :: ts) h5⟩
theorem okRe_arg {t : Re} (h : okRe t) {i : Nat} {x : Re} (hx : t.args[i]? = some x) : okRe x := by
  cases t with
  | mk k set args mn mx ng => exact (okRes_iff args).1 (okRe_args h) x (List.mem_of_getElem? hx)
theorem normT_eq (t : Re) : normT t = normN t.kind t.set (normTs t.args) t.mn t.mx t.neg := by cases t; rfl
section
variable {k : Int} {set : List (Int × Int)} {y : Re} {r : List Re} {mn mx : Int} {ng : Bool}
theorem normN_list (a : List Re) (hk : k = 3 ∨ k = 4 ∨ k = 7) : normN k set a mn mx ng = listT k a := by unfold normN; rw [if_pos hk]
theorem normN_56 (hk : k = 5 ∨ k = 6) : normN k set (y :: r) mn mx ng = if y.kind = 1 ∨ (k = 6 ∧ mx = 0) then emptyT else if y.kind = 0 ∧ (k = 5 ∨ mn = 0) then emptyT else if y.kind = 0 then noneT else if y.kind = 5 ∨ (k = 6 ∧ mn = 1 ∧ mx = 1) then y else .mk k set (y :: r) mn mx ng := by
 unfold normN; rw [if_neg (by omega), if_pos hk]
theorem normN_8 (hk : k = 8) : normN k set (y :: r) mn mx ng = if y.kind = 8 then y.args.headD noneT else .mk k set (y :: r) mn mx ng := by
 unfold normN; rw [if_neg (by omega), if_neg (by omega), if_pos hk]
theorem normN_10 (hk : k = 10) : normN k set (y :: r) mn mx ng = if (y.kind = 1 ∧ ng = true) ∨ (y.kind = 0 ∧ ng = false) then noneT else if y.kind = 1 ∨ y.kind = 0 then emptyT else .mk k set (y :: r) mn mx ng := by
 unfold normN; rw [if_neg (by omega), if_neg (by omega), if_neg (by omega), if_pos hk]
theorem normN_else (a : List Re) (h : k ≠ 3 ∧ k ≠ 4 ∧ k ≠ 7 ∧ k ≠ 5 ∧ k ≠ 6 ∧ k ≠ 8 ∧ k ≠ 10) : normN k set a mn mx ng = .mk k set a mn mx ng := by
 unfold normN; rw [if_neg (by omega), if_neg (by omega), if_neg (by omega), if_neg (by omega)]
end
theorem normTs_len (ts : List Re) : (normTs ts).length = ts.length := by rw [normTs_map, List.length_map]
/-- The arguments while they are made normal one by one. -/
def NSt (f : Re → Re) (Z L : Nat → Prop) (n0 : Nat) (w : World) (aa : Option Addr) (args : List Re) (k : Nat) : Prop :=
 args = [] ∨ ∃ (b : Nat) (rows : List (List Value)) (rest : List Value) (D K : Nat → Prop), aa = some ⟨b, 0, none⟩ ∧ L b ∧ Blk w b (rows.flatten ++ rest).toArray TRe ∧ RowsIn (fun y => Z y ∨ D y ∨ n0 ≤ y) w ((args.take k).map f) (rows.take k) ∧ Trees Z w (args.drop k) (rows.drop k) K ∧ rows.length = args.length ∧ (∀ r ∈ rows, r.length = 6) ∧ (∀ y, D y → L y ∧ y ≠ b ∧ ¬ K y) ∧ (∀ y, K y → L y ∧ y ≠ b)
theorem NSt.ext {f : Re → Re} {Z L : Nat → Prop} {n0 : Nat} {w w' : World} {aa : Option Addr} {args : List Re} {k : Nat} (h : NSt f Z L n0 w aa args k) (e : Ext w w') : NSt f Z L n0 w' aa args k := by
 rcases h with h | ⟨b, rows, rest, D, K, h1, h2, h3, h4, h5, h6⟩
 ·exact .inl h
 ·exact .inr ⟨b, rows, rest, D, K, h1, h2, e.keep h3, h4.ext e, Trees.ext e _ h5, h6⟩
theorem nst_step {f : Re → Re} {Z L D K L1 K2 : Nat → Prop} {n0 b k : Nat} {w1 w2 w3 : World} {args : List Re} {rows : List (List Value)} {rest : List Value} {x : Re} {vs' : List Value}
  (hz : ∀ y, Z y → ¬ L y) (hb : ∀ y, Z y ∨ L y → y < n0) (hLb : L b) (hx : args[k]? = some x)
  (hR : RowsIn (fun y => Z y ∨ D y ∨ n0 ≤ y) w1 ((args.take k).map f) (rows.take k)) (hT2 : Trees Z w1 (args.drop (k + 1)) (rows.drop (k + 1)) K2) (hl : rows.length = args.length) (h6 : ∀ r ∈ rows, r.length = 6)
  (hD : ∀ y, D y → L y ∧ y ≠ b ∧ ¬ K y) (hK : ∀ y, K y → L y ∧ y ≠ b) (h1 : ∀ y, L1 y → K y ∧ ¬ K2 y) (h2 : ∀ y, K2 y → K y)
  (C : Chg L1 w1 w2) (hv : ReIn (fun y => Z y ∨ L1 y ∨ n0 ≤ y) w2 (f x) vs') (P3 : Put w2 w3 b ((rows.set k vs').flatten ++ rest).toArray TRe) : NSt f Z L n0 w3 (some ⟨b, 0, none⟩) args (k + 1) := by
 have hk : k < args.length := lt_of_get hx
 have hbn := hb b (.inr hLb)
 have hLL : ∀ y, L1 y → L y := fun y hy => (hK y (h1 y hy).1).1
 refine .inr ⟨b, rows.set k vs', rest, fun y => D y ∨ L1 y, K2, rfl, hLb, P3.blk, ?_, ?_, by simpa using hl, ?_, ?_, fun y hy => hK y (h2 y hy)⟩
 ·have e1 : (args.take (k + 1)).map f = (args.take k).map f ++ [f x] := by rw [List.take_add_one, hx]; simp
  have e2 : (rows.set k vs').take (k + 1) = rows.take k ++ [vs'] := by
   rw [List.take_add_one, List.take_set_of_le (Nat.le_refl _), List.getElem?_set_self (by omega)]; rfl
  rw [e1, e2]
  refine RowsIn.append (RowsIn.single ?_) ?_
  ·refine ReIn.mono (S := fun y => Z y ∨ L1 y ∨ n0 ≤ y) (fun y hy => by rcases hy with h | h | h; exact .inl h; exact .inr (.inl (.inr h)); exact .inr (.inr h)) _ (ReIn.chg P3.chg (fun y hy he => ?_) _ hv)
   have he' : y = b := he
   subst he'
   rcases hy with h | h | h
   ·exact hz y h hLb
   ·exact (hK y (h1 y h).1).2 rfl
   ·omega
  ·refine RowsIn.mono (S := fun y => Z y ∨ D y ∨ n0 ≤ y) (fun y hy => by rcases hy with h | h | h; exact .inl h; exact .inr (.inl (.inl h)); exact .inr (.inr h)) (RowsIn.chg P3.chg (fun y hy he => ?_) (RowsIn.chg C (fun y hy he => ?_) hR))
   ·have he' : y = b := he
    subst he'
    rcases hy with h | h | h
    ·exact hz y h hLb
    ·exact (hD y h).2.1 rfl
    ·omega
   ·rcases hy with h | h | h
    ·exact hz y h (hLL y he)
    ·exact (hD y h).2.2 (h1 y he).1
    ·have := hb y (.inr (hLL y he)); omega
 ·have e3 : (rows.set k vs').drop (k + 1) = rows.drop (k + 1) := by rw [List.drop_set_of_lt (by omega)]
  rw [e3]
  refine Trees.chg P3.chg (fun y hy he => ?_) _ (fun y hy he => ?_) (Trees.chg C (fun y hy he => hz y hy (hLL y he)) _ (fun y hy he => (h1 y he).2 hy) hT2)
  ·have he' : y = b := he
   subst he'; exact hz y hy hLb
  ·exact (hK y (h2 y hy)).2 he
 ·intro r hr
  rcases List.mem_or_eq_of_mem_set hr with h | h
  ·exact h6 r h
  ·rw [h]; exact hv.len
 ·intro y hy
  rcases hy with h | h
  ·exact ⟨(hD y h).1, (hD y h).2.1, fun h3 => (hD y h).2.2 (h2 y h3)⟩
  ·exact ⟨hLL y h, (hK y (h1 y h).1).2, (h1 y h).2⟩
theorem nst_start {f : Re → Re} {Z L : Nat → Prop} {n0 : Nat} {w : World} {aa : Option Addr} {args : List Re} (h : args = [] ∨ ∃ b rows rest L', L b ∧ aa = some ⟨b, 0, none⟩ ∧ Blk w b (rows.flatten ++ rest).toArray TRe ∧ (∀ r ∈ rows, r.length = 6) ∧ Trees Z w args rows L' ∧ (∀ x, L' x → L x ∧ x ≠ b)) : NSt f Z L n0 w aa args 0 := by
 rcases h with h | ⟨b, rows, rest, L', h1, h2, h3, h4, h5, h6⟩
 ·exact .inl h
 ·exact .inr ⟨b, rows, rest, fun _ => False, L', h2, h1, h3, rfl, h5, h5.len, h4, fun _ f => f.elim, h6⟩
theorem nst_end {f : Re → Re} {Z L : Nat → Prop} {n0 : Nat} {w : World} {aa : Option Addr} {ac : Nat} {args : List Re} (h : NSt f Z L n0 w aa args args.length) (hac : args.length ≤ ac ∧ ac ≤ 9223372036854775807) : RsIn (fun y => Z y ∨ L y ∨ n0 ≤ y) w (.slice aa args.length ac) (args.map f) := by
 refine ⟨aa, ac, by rw [List.length_map], by rw [List.length_map]; exact hac, ?_⟩
 rcases h with h | ⟨b, rows, rest, D, K, h1, h2, h3, h4, h5, h6, h7, h8, h9⟩
 ·left; rw [h]; rfl
 ·refine .inr ⟨b, 0, .inr (.inl h2), h1, resin_of fun i t ht => ?_⟩
  rw [List.take_length, List.take_of_length_le (by omega)] at h4
  obtain ⟨r, h10, h11⟩ := h4.get ht
  exact ⟨r, by rw [Nat.zero_add]; exact rows_at h3 h7 h10, ReIn.mono (fun y hy => by rcases hy with h | h | h; exact .inl h; exact .inr (.inl (h8 y h).1); exact .inr (.inr h)) t h11⟩
def normF (S : Nat → Prop) (t : Re) : Fct := fun v w => ∃ vs, v = .agg vs.toArray ∧ ReIn S w t vs
theorem normF_ext (S : Nat → Prop) (t : Re) : ∀ v w w', Ext w w' → normF S t v w → normF S t v w' := by
 rintro v w w' e ⟨vs, h1, h2⟩
 exact ⟨vs, h1, ReIn.ext e t h2⟩
theorem normF_mono {S S' : Nat → Prop} {t : Re} {v : Value} {w : World} (hs : ∀ y, S y → S' y) (h : normF S t v w) : normF S' t v w := by
 obtain ⟨vs, h1, h2⟩ := h
 exact ⟨vs, h1, ReIn.mono hs t h2⟩
theorem re_ret {S S' Z : Nat → Prop} {w w' : World} {k : Int} {set : List (Int × Int)} {a : List Re} {n bo : Nat} {mn mx : Int} {ng : Bool} {sa aa : Option Addr} {sc ac : Nat} (hs : SlIn Z w 2 (.slice sa set.length sc) (set.map spanV)) (hzs : ∀ y, Z y → S y) (h : RsIn S w (.slice aa n ac) a) (c : Chg (fun y => y = bo) w w') (hne : ∀ y, S y → ¬ y = bo) (hmo : ∀ y, S y → S' y) :
  ReIn S' w' (.mk k set a mn mx ng) [.int .i64 k, .slice sa set.length sc, .slice aa n ac, .int .i64 mn, .int .i64 mx, .bool ng] := by
 obtain ⟨aa', ac', h1, h2, h3⟩ := h
 simp only [Value.slice.injEq] at h1
 obtain ⟨rfl, rfl, rfl⟩ := h1
 refine ReIn.mono hmo _ (ReIn.chg c hne _ (ReIn.of (hs.mono hzs) h2 h3))
theorem drop_head {α : Type} {l r : List α} {k : Nat} {x : α} (h : l.drop k = x :: r) : l[k]? = some x ∧ r = l.drop (k + 1) := by
 have h1 : (l.drop k)[0]? = some x := by rw [h]; rfl
 rw [List.getElem?_drop] at h1
 have h2 : (l.drop k).drop 1 = r := by rw [h]; rfl
 rw [List.drop_drop] at h2
 exact ⟨by simpa using h1, h2.symm⟩
theorem headD_get {α : Type} {l : List α} {x d : α} (h : l[0]? = some x) : l.headD d = x := by
  cases l with
  | nil => simp at h
  | cons y r => simpa using h
set_option maxHeartbeats 4000000 in
theorem norm_c : ∀ (n : Nat) (t : Re) (w0 : World) (vs : List Value) (Z L : Nat → Prop), t.size ≤ n → t.size ≤ 1000000 → okRe t → Tree Z w0 t vs L → (∀ y, Z y → ¬ L y) → (∀ y, Z y ∨ L y → y < w0.heap.size) →
    Ret Tryz.prog 83 #[.agg vs.toArray] w0 fun v w => normF (fun y => Z y ∨ L y ∨ w0.heap.size ≤ y) (normT t) v w ∧ Chg L w0 w := by
  intro n
  induction n with
  | zero => intro t w0 vs Z L hn; have := t.size_pos; omega
  | succ n ih =>
  intro t w0 vs Z L hn hM hok hT hz hb
  obtain ⟨sa, sc, aa, ac, rfl, hset, hac, hta⟩ := hT.form
  refine Ret_of Tryz.func83 rfl Tryz.ntmps83 (Nat.le_of_ble_eq_true rfl) ?_
  have E : Chg L w0 w0 := Chg.refl _ _
  have E5 : Chg none1 w0 w0 := Chg.refl _ _
  refine Wp_seq_region ?_
  refine s_box (v := (.agg (R6 t sa sc aa ac))) (c := (R6 t sa sc aa ac)) (by decide) rfl rfl ?_
  intro br wr Nr
  have Fr := Nr.ge E
  have Fr_E5 := Nr.ge E5
  replace E := E.ext Nr.ext
  have Br := Nr.blk
  replace E5 := E5.ext Nr.ext
  refine s_alloc (c := #[(I6 0), (.slice none 0 0), (.slice none 0 0), (I6 0), (I6 0), (.bool false)]) (by decide) zer25 rfl ?_
  intro bo wo No
  have Fo := No.ge E
  have Fo_E5 := No.ge E5
  have Oo_br := No.lt Br
  replace Br := No.keep Br
  replace E := E.ext No.ext
  have Bo := No.blk
  replace E5 := E5.ext No.ext
  refine WpL_nil (Wp_seq (Wp_seq_region ?_))
  refine qF br 0 2 rfl Tryz.underlying25 rfl siz23 rfl ?_
  refine qV (r_load rfl flat23 (Br.cell rfl)) ?_
  refine qV (r_lenSlice Tryz.underlying23 rfl) ?_
  refine qM _ rfl ?_
  refine WpL_nil (Wp_block ?_)
  obtain ⟨n1, hn1⟩ : ∃ n1, n1 = wo.heap.size := ⟨_, rfl⟩
  have hbo : bo < n1 := by rw [hn1]; exact Bo.lt
  have hbr : br < n1 := by omega
  have hst : NSt normT Z L n1 wo aa t.args 0 := NSt.ext (nst_start hta) E5
  have hb1 : ∀ y, Z y ∨ L y → y < n1 := fun y hy => by have := hb y hy; omega
  have hne : ∀ y, Z y ∨ L y ∨ n1 ≤ y → ¬ y = bo := by
    rintro y (h | h | h) he
    · have := hb y (.inl h); omega
    · have := hb y (.inr h); omega
    · omega
  have hmo : ∀ y, Z y ∨ L y ∨ n1 ≤ y → Z y ∨ L y ∨ w0.heap.size ≤ y := by
    rintro y (h | h | h)
    · exact .inl h
    · exact .inr (.inl h)
    · exact .inr (.inr (by omega))
  refine Wp_loop (fun nn_ σ W1 => ∃ (k : Nat), (∃ jj_, σ = upds jj_ [(1, (P6 br 0)), (2, (P6 bo 0)), (12, (.slice aa t.args.length ac)), (13, (I6 (t.args.length : Int))), (14, (I6 (k : Int)))]) ∧ Chg L w0 W1 ∧ Blk W1 br (R6 t sa sc aa ac) 25 ∧ Blk W1 bo #[(I6 0), (.slice none 0 0), (.slice none 0 0), (I6 0), (I6 0), (.bool false)] 25 ∧ (k ≤ t.args.length) ∧ (NSt normT Z L n1 W1 aa t.args k) ∧ (n1 ≤ W1.heap.size) ∧ nn_ = t.args.length - k) (n := t.args.length - 0) ?_ ?_
  · exact ⟨0, Fits.out ⟨rfl, rfl, rfl, rfl, rfl, trivial⟩, E, Br, Bo, Nat.zero_le _, hst, (by omega), rfl⟩
  · clear E Br Bo
    rintro _ _ W1 ⟨k, ⟨j1, rfl⟩, E, Br, Bo, hk, hst, hsz1, rfl⟩
    refine Wp_seq_region ?_
    refine qV (r_lss rfl rfl) ?_
    refine WpL_nil (Wp_seq ?_)
    refine Wp_cond rfl (fun hlt => ?_) (fun hlt => ?_)
    · have khlt := hlt
      replace hlt := of_decide_eq_true hlt
      obtain ⟨x, hx⟩ := get_of_lt (l := t.args) (i := k) (by omega)
      obtain ⟨b, rows, rest, D, K, rfl, hLb, hB, hR, hT, hl, h6, hD, hK⟩ := hst.resolve_left (fun h => by rw [h] at hx; simp at hx)
      have hbb := hb b (.inr hLb)
      rw [drop_cons hx] at hT
      simp only [Trees] at hT
      obtain ⟨xs, rs2, L1, K2, hrows, hTx, hT2, h1, h2⟩ := hT
      obtain ⟨hrx, rfl⟩ := drop_head hrows
      have hTx0 := hTx
      obtain ⟨sa2, sc2, aa2, ac2, rfl, _, _, _⟩ := hTx.form
      have hLL : ∀ y, L1 y → L y := fun y hy => (hK y (h1 y hy).1).1
      have E4 : Chg none1 W1 W1 := Chg.refl _ _
      refine Wp_skip (thn_normal (Wp_seq (Wp_block (Wp_seq_region ?_))))
      refine qM _ rfl ?_
      refine qV (r_indexSlice (b := b) (o := 0) (len := t.args.length) (cap := ac) (i := k) (o' := 0 + k * 6) rfl rfl rfl Tryz.underlying23 siz25 (by omega) (by omega)) ?_
      refine qV (r_loadAgg rfl agg25 siz25 rfl (by rw [Nat.zero_add]; exact rows_at hB h6 hrx)) ?_
      refine s_alloc (c := #[(I6 0), (.slice none 0 0), (.slice none 0 0), (I6 0), (I6 0), (.bool false)]) (by decide) zer25 rfl ?_
      intro bs ws Ns
      have Fs := Ns.ge E
      have Fs_E4 := Ns.ge E4
      have Os_br := Ns.lt Br
      have Os_bo := Ns.lt Bo
      have Os_b := Ns.lt hB
      replace Br := Ns.keep Br
      replace Bo := Ns.keep Bo
      replace hB := Ns.keep hB
      replace E := E.ext Ns.ext
      have Bs := Ns.blk
      replace E4 := E4.ext Ns.ext
      refine qA _ rfl ?_
      refine s_storeAgg (b := bs) (o := 0) (c' := (R6 x sa2 sc2 aa2 ac2)) rfl rfl (by simp [Value.oneCell']) siz25 rfl Bs (by first | (simp; done) | exact Nat.le_of_ble_eq_true rfl) rfl ?_
      intro w3 S3
      replace Br := S3.keep (by omega) Br
      replace Bo := S3.keep (by omega) Bo
      replace hB := S3.keep (by omega) hB
      replace E := S3.step E (by first | exact Or.inl (by omega) | exact Or.inr rfl | exact Or.inr (by assumption) | exact Or.inr (by simp) | exact Or.inr (by omega) | exact Or.inr (by dsimp only; omega))
      replace E4 := S3.step E4 (Or.inl (by omega))
      replace Bs := S3.blk
      refine WpL_nil ?_
      obtain ⟨Fs4, hFs4⟩ : ∃ Fs : List (FactT (L1)), Fs = [.eq (P6 br 2), .eq (.slice (some ⟨b, 0, none⟩) t.args.length ac), .eq (I6 (k : Int)), .eq (.agg (R6 x sa2 sc2 aa2 ac2)), .own (normF (fun y => Z y ∨ L1 y ∨ n1 ≤ y) (normT x)) (normF_ext _ _)] := ⟨_, rfl⟩
      refine Wp_dagT (L1) 5 4 [19, 20, 21, 22, 23] [[], [0], [], [], [3]] Fs4 hFs4 rfl mixed (by kernel_rfl) (by kernel_rfl) (by kernel_rfl) ?_ ?_
      · intro wd X0
        refine DagStepsT.cons (fun s' w' X U H => ?_) ?_
        · exact DoesT_val (r_fieldAddr (U 1 rfl) Tryz.underlying25 rfl siz23 rfl) (Chg.refl _ _) rfl
        refine DagStepsT.cons (fun s' w' X U H => ?_) ?_
        · have e19 : s' 19 = (.pointer (some ⟨br, 2, none⟩)) := H 0 rfl 19 (.eq (.pointer (some ⟨br, 2, none⟩))) rfl (by rw [hFs4]; rfl)
          exact DoesT_val (r_load e19 flat23 ((Chg.keep X (fun h => by have := hb br (.inr (hLL _ h)); omega) (X0.keep Br)).cell rfl)) (Chg.refl _ _) rfl
        refine DagStepsT.cons (fun s' w' X U H => ?_) ?_
        · exact DoesT_val (r_move (U 3 rfl)) (Chg.refl _ _) rfl
        refine DagStepsT.cons (fun s' w' X U H => ?_) ?_
        · exact DoesT_val (r_loadAgg (U 4 rfl) agg25 siz25 rfl ((Chg.keep X (fun f => f) (X0.keep Bs)).cells rfl)) (Chg.refl _ _) rfl
        refine DagStepsT.cons (fun s' w' X U H => ?_) ?_
        · have e22 : s' 22 = (.agg #[(.int .i64 x.kind), (.slice sa2 x.set.length sc2), (.slice aa2 x.args.length ac2), (.int .i64 x.mn), (.int .i64 x.mx), (.bool x.neg)]) := H 3 rfl 22 (.eq (.agg #[(.int .i64 x.kind), (.slice sa2 x.set.length sc2), (.slice aa2 x.args.length ac2), (.int .i64 x.mn), (.int .i64 x.mx), (.bool x.neg)])) rfl (by rw [hFs4]; rfl)
          exact DoesT_enter (r_callF Tryz.func83 nm83 bd83 (lst1 e22)) ((ih x _ _ Z L1 (by have := Re.size_arg hx; omega) (by have := Re.size_arg hx; omega) (okRe_arg hok hx) (Tree.ext ((Ext.trans E4 X0).trans X) x hTx0) (fun y hy h => hz y hy (hLL y h)) (fun y hy => by have := hb1 y (hy.imp id (hLL y)); have := E4.size; have := X0.size; have := X.size; omega)).mono (fun v w2 h => ⟨normF_mono (by rintro y (h | h | h); exact .inl h; exact .inr (.inl h); exact .inr (.inr (by have := E4.size; have := X0.size; have := X.size; omega))) h.1, h.2⟩))
        exact DagStepsT.nil
      · intro s' wd4 w4 X0 X4 U H
        have e20 : s' 20 = (.slice (some ⟨b, 0, none⟩) t.args.length ac) := H 1 20 (.eq (.slice (some ⟨b, 0, none⟩) t.args.length ac)) rfl (by rw [hFs4]; rfl)
        have e21 : s' 21 = (.int .i64 ((k : Nat) : Int)) := H 2 21 (.eq (.int .i64 ((k : Nat) : Int))) rfl (by rw [hFs4]; rfl)
        obtain ⟨v23, e23, r23⟩ := (show (.own (normF (fun y => Z y ∨ L1 y ∨ n1 ≤ y) (normT x)) (normF_ext _ _) : FactT (L1)).In (s' 23) w4 from H 4 23 (.own (normF (fun y => Z y ∨ L1 y ∨ n1 ≤ y) (normT x)) (normF_ext _ _)) rfl (by rw [hFs4]; rfl))
        obtain ⟨j4, rfl⟩ := Fits.out (σ := s') (l := [(1, (.pointer (some ⟨br, 0, none⟩))), (2, (.pointer (some ⟨bo, 0, none⟩))), (12, (.slice (some ⟨b, 0, none⟩) t.args.length ac)), (13, (.int .i64 ((t.args.length : Nat) : Int))), (14, (.int .i64 ((k : Nat) : Int))), (20, (.slice (some ⟨b, 0, none⟩) t.args.length ac)), (21, (.int .i64 ((k : Nat) : Int))), (23, (.agg v23.toArray))]) ⟨U 1 rfl, U 2 rfl, U 12 rfl, U 13 rfl, U 14 rfl, e20, e21, e23, trivial⟩
        clear U H
        replace Br := Chg.keep X4 (fun h => by have := hb br (.inr (hLL _ h)); omega) (X0.keep Br)
        replace Bo := Chg.keep X4 (fun h => by have := hb bo (.inr (hLL _ h)); omega) (X0.keep Bo)
        replace hB := Chg.keep X4 (fun h => (hK b (h1 b h).1).2 rfl) (X0.keep hB)
        replace Bs := Chg.keep X4 (fun h => by have := hb bs (.inr (hLL _ h)); omega) (X0.keep Bs)
        have C12 := X4
        replace E := (E.ext X0).step X4 (fun y _ hy => hLL y hy)
        have hP3 : True := trivial
        refine qV (r_indexSlice (b := b) (o := 0) (len := t.args.length) (cap := ac) (i := k) (o' := 0 + k * 6) rfl rfl rfl Tryz.underlying23 siz25 (by omega) (by omega)) ?_
        refine s_storeAgg (b := b) (o := 0 + k * 6) (n := 6) (c' := ((rows.set k v23).flatten ++ rest).toArray) (vs := v23.toArray) rfl rfl (by simpa using ReAt.one (ReIn.at _ r23)) siz25 (by simpa using r23.len) hB (by have := rows_len h6; simp only [List.size_toArray, List.length_append]; omega) (by rw [Nat.zero_add]; exact congrArg List.toArray (rows_set (k := 6) (v := v23) (rows := rows) (i := k) (rest := rest) r23.len h6 (by omega))) ?_
        intro w5 S5
        replace hP3 := S5
        replace Br := S5.keep (by omega) Br
        replace Bo := S5.keep (by omega) Bo
        replace Bs := S5.keep (by omega) Bs
        replace E := S5.step E (by first | exact Or.inl (by omega) | exact Or.inr rfl | exact Or.inr (by assumption) | exact Or.inr (by simp) | exact Or.inr (by omega) | exact Or.inr (by dsimp only; omega))
        replace hB := S5.blk
        refine WpL_nil (inB_normal (thn_normal (Wp_region ?_)))
        refine qV (r_add rfl rfl (wI64 (by omega))) ?_
        refine qM _ rfl ?_
        refine WpL_nil (thn_normal ?_)
        exact ⟨t.args.length - (k + 1), by omega, k + 1, Fits.out ⟨rfl, rfl, rfl, rfl, rfl, trivial⟩, E, Br, Bo, (by omega), nst_step hz hb1 hLb hx (RowsIn.ext (Ext.trans E4 X0) hR) (Trees.ext (Ext.trans E4 X0) _ hT2) hl h6 hD hK h1 h2 C12 r23 hP3, (by have := hP3.size; have := C12.size; have := X0.size; have := E4.size; omega), rfl⟩
    · have khlt := hlt
      replace hlt := of_decide_eq_false hlt
      have hkk : k = t.args.length := by omega
      subst hkk
      have E5 : Chg none1 W1 W1 := Chg.refl _ _
      refine Wp_exit (thn_exit (thn_exit (inB_here (thn_normal (Wp_seq_region ?_)))))
      refine qV (r_build (ps := [(0, (I6 1))]) (v := (.agg #[(I6 1), (.slice none 0 0), (.slice none 0 0), (I6 0), (I6 0), (.bool false)])) rfl (by kernel_rfl)) ?_
      refine qV (r_build (ps := [(0, (I6 0))]) (v := (.agg #[(I6 0), (.slice none 0 0), (.slice none 0 0), (I6 0), (I6 0), (.bool false)])) rfl (by kernel_rfl)) ?_
      refine s_alloc (c := #[(I6 0), (.slice none 0 0), (.slice none 0 0), (I6 0), (I6 0), (.bool false)]) (by decide) zer25 rfl ?_
      intro b6 w6 N6
      have F6 := N6.ge E
      have F6_E5 := N6.ge E5
      have O6_br := N6.lt Br
      have O6_bo := N6.lt Bo
      replace Br := N6.keep Br
      replace Bo := N6.keep Bo
      replace E := E.ext N6.ext
      have B6 := N6.blk
      replace E5 := E5.ext N6.ext
      refine s_alloc (c := #[(I6 0), (.slice none 0 0), (.slice none 0 0), (I6 0), (I6 0), (.bool false)]) (by decide) zer25 rfl ?_
      intro b7 w7 N7
      have F7 := N7.ge E
      have F7_E5 := N7.ge E5
      have O7_br := N7.lt Br
      have O7_bo := N7.lt Bo
      have O7_b6 := N7.lt B6
      replace Br := N7.keep Br
      replace Bo := N7.keep Bo
      replace B6 := N7.keep B6
      replace E := E.ext N7.ext
      have B7 := N7.blk
      replace E5 := E5.ext N7.ext
      refine s_storeAgg (b := b6) (o := 0) (c' := #[(I6 1), (.slice none 0 0), (.slice none 0 0), (I6 0), (I6 0), (.bool false)]) rfl rfl (by simp [Value.oneCell']) siz25 rfl B6 (by first | (simp; done) | exact Nat.le_of_ble_eq_true rfl) rfl ?_
      intro w8 S8
      replace Br := S8.keep (by omega) Br
      replace Bo := S8.keep (by omega) Bo
      replace B7 := S8.keep (by omega) B7
      replace E := S8.step E (by first | exact Or.inl (by omega) | exact Or.inr rfl | exact Or.inr (by assumption) | exact Or.inr (by simp) | exact Or.inr (by omega) | exact Or.inr (by dsimp only; omega))
      replace E5 := S8.step E5 (Or.inl (by omega))
      replace B6 := S8.blk
      refine s_storeAgg (b := b7) (o := 0) (c' := #[(I6 0), (.slice none 0 0), (.slice none 0 0), (I6 0), (I6 0), (.bool false)]) rfl rfl (by simp [Value.oneCell']) siz25 rfl B7 (by first | (simp; done) | exact Nat.le_of_ble_eq_true rfl) rfl ?_
      intro w9 S9
      replace Br := S9.keep (by omega) Br
      replace Bo := S9.keep (by omega) Bo
      replace B6 := S9.keep (by omega) B6
      replace E := S9.step E (by first | exact Or.inl (by omega) | exact Or.inr rfl | exact Or.inr (by assumption) | exact Or.inr (by simp) | exact Or.inr (by omega) | exact Or.inr (by dsimp only; omega))
      replace E5 := S9.step E5 (Or.inl (by omega))
      replace B7 := S9.blk
      refine WpL_nil (Wp_seq (Wp_seq_region ?_))
      refine qF br 0 0 rfl Tryz.underlying25 rfl siz3 rfl ?_
      refine qV (r_load rfl flat3 (Br.cell rfl)) ?_
      refine WpL_nil (Wp_block (Wp_seq (Wp_seq_region ?_)))
      refine qV (r_eql rfl rfl) ?_
      refine qA _ rfl ?_
      refine WpL_nil ?_
      refine Wp_cond rfl (fun h3 => ?_) (fun h3 => ?_)
      · have kh3 := h3
        replace h3 := of_decide_eq_true h3
        refine Wp_skip (thn_normal ?_)
        refine Wp_cond_true (congrArg Value.bool kh3) ?_
        refine Wp_seq_region ?_
        refine qF br 0 0 rfl Tryz.underlying25 rfl siz3 rfl ?_
        refine qV (r_load rfl flat3 (Br.cell rfl)) ?_
        refine qF br 0 2 rfl Tryz.underlying25 rfl siz23 rfl ?_
        refine qV (r_load rfl flat23 (Br.cell rfl)) ?_
        have hrs2 := (nst_end (NSt.ext hst E5) hac)
        rw [← normTs_map] at hrs2
        have hrs3 := hrs2.lt
        have hst2 : n1 ≤ (w9).heap.size := Nat.le_trans hsz1 E5.size
        refine WpL_enter rfl rfl (by decide) (r_callF Tryz.func118 nm118 bd118 rfl) (list_c _ _ t.kind _ (normTs t.args) hrs3 (fun y hy => hy.2) (fun y hy hyk he => by have := okRe_len2 (ok_normTs t.args (okRe_args hok) y hy) (by omega); rw [he] at this; simp at this) (by have := size_normTs t.args; have := t.size_eq; omega)) ?_
        rintro _ w9 ⟨vs9, rfl, hre9, X9⟩
        replace Br := X9.keep Br
        replace Bo := X9.keep Bo
        replace B6 := X9.keep B6
        replace B7 := X9.keep B7
        replace E := E.ext X9
        replace E5 := E5.ext X9
        have hre90 := hre9
        obtain ⟨sa9, sc9, aa9, ac9, rfl, _, _, _⟩ := hre9.form
        have hC9 : Chg (fun y => y = bo) (w9) (w9) := Chg.refl _ _
        refine s_storeAgg (b := bo) (o := 0) (c' := #[(I6 ((listT t.kind (normTs t.args)).kind)), (.slice sa9 ((listT t.kind (normTs t.args)).set.length) sc9), (.slice aa9 ((listT t.kind (normTs t.args)).args.length) ac9), (I6 ((listT t.kind (normTs t.args)).mn)), (I6 ((listT t.kind (normTs t.args)).mx)), (.bool ((listT t.kind (normTs t.args)).neg))]) rfl rfl (by simp [Value.oneCell']) siz25 rfl Bo (by first | (simp; done) | exact Nat.le_of_ble_eq_true rfl) rfl ?_
        intro w11 S11
        replace hC9 := S11.chg
        replace Br := S11.keep (by omega) Br
        replace B6 := S11.keep (by omega) B6
        replace B7 := S11.keep (by omega) B7
        replace E := S11.step E (by first | exact Or.inl (by omega) | exact Or.inr rfl | exact Or.inr (by assumption) | exact Or.inr (by simp) | exact Or.inr (by omega) | exact Or.inr (by dsimp only; omega))
        replace Bo := S11.blk
        refine WpL_nil (Wp_ret (inB_ret (thn_ret ?_)))
        refine fin_agg Tryz.results83 (vs := [(.int .i64 ((listT t.kind (normTs t.args)).kind)), (.slice sa9 ((listT t.kind (normTs t.args)).set.length) sc9), (.slice aa9 ((listT t.kind (normTs t.args)).args.length) ac9), (.int .i64 ((listT t.kind (normTs t.args)).mn)), (.int .i64 ((listT t.kind (normTs t.args)).mx)), (.bool ((listT t.kind (normTs t.args)).neg))]) (b := bo) rfl agg25 siz25 rfl (Bo.cells rfl) ?_
        refine ⟨⟨_, rfl, ?_⟩, E⟩
        rw [normT_eq, normN_list _ (by omega)]
        refine ReIn.mono ?_ _ (ReIn.chg hC9 ?_ _ hre90)
        · rintro y (⟨h | h | h, _⟩ | h)
          · exact .inl h
          · exact .inr (.inl h)
          · exact .inr (.inr (by omega))
          · exact .inr (.inr (by omega))
        · rintro y (⟨h | h | h, _⟩ | h) he
          · have he' : y = bo := he
            have := hb y (.inl h); omega
          · have he' : y = bo := he
            have := hb y (.inr h); omega
          · have he' : y = bo := he
            omega
          · have he' : y = bo := he
            omega
      · have kh3 := h3
        replace h3 := of_decide_eq_false h3
        refine Wp_seq_region ?_
        refine qV (r_eql rfl rfl) ?_
        refine qA _ rfl ?_
        refine WpL_nil ?_
        refine Wp_cond rfl (fun h4 => ?_) (fun h4 => ?_)
        · have kh4 := h4
          replace h4 := of_decide_eq_true h4
          refine Wp_skip (thn_normal ?_)
          refine Wp_cond_true (congrArg Value.bool kh4) ?_
          refine Wp_seq_region ?_
          refine qF br 0 0 rfl Tryz.underlying25 rfl siz3 rfl ?_
          refine qV (r_load rfl flat3 (Br.cell rfl)) ?_
          refine qF br 0 2 rfl Tryz.underlying25 rfl siz23 rfl ?_
          refine qV (r_load rfl flat23 (Br.cell rfl)) ?_
          have hrs2 := (nst_end (NSt.ext hst E5) hac)
          rw [← normTs_map] at hrs2
          have hrs3 := hrs2.lt
          have hst2 : n1 ≤ (w9).heap.size := Nat.le_trans hsz1 E5.size
          refine WpL_enter rfl rfl (by decide) (r_callF Tryz.func118 nm118 bd118 rfl) (list_c _ _ t.kind _ (normTs t.args) hrs3 (fun y hy => hy.2) (fun y hy hyk he => by have := okRe_len2 (ok_normTs t.args (okRe_args hok) y hy) (by omega); rw [he] at this; simp at this) (by have := size_normTs t.args; have := t.size_eq; omega)) ?_
          rintro _ w9 ⟨vs9, rfl, hre9, X9⟩
          replace Br := X9.keep Br
          replace Bo := X9.keep Bo
          replace B6 := X9.keep B6
          replace B7 := X9.keep B7
          replace E := E.ext X9
          replace E5 := E5.ext X9
          have hre90 := hre9
          obtain ⟨sa9, sc9, aa9, ac9, rfl, _, _, _⟩ := hre9.form
          have hC9 : Chg (fun y => y = bo) (w9) (w9) := Chg.refl _ _
          refine s_storeAgg (b := bo) (o := 0) (c' := #[(I6 ((listT t.kind (normTs t.args)).kind)), (.slice sa9 ((listT t.kind (normTs t.args)).set.length) sc9), (.slice aa9 ((listT t.kind (normTs t.args)).args.length) ac9), (I6 ((listT t.kind (normTs t.args)).mn)), (I6 ((listT t.kind (normTs t.args)).mx)), (.bool ((listT t.kind (normTs t.args)).neg))]) rfl rfl (by simp [Value.oneCell']) siz25 rfl Bo (by first | (simp; done) | exact Nat.le_of_ble_eq_true rfl) rfl ?_
          intro w13 S13
          replace hC9 := S13.chg
          replace Br := S13.keep (by omega) Br
          replace B6 := S13.keep (by omega) B6
          replace B7 := S13.keep (by omega) B7
          replace E := S13.step E (by first | exact Or.inl (by omega) | exact Or.inr rfl | exact Or.inr (by assumption) | exact Or.inr (by simp) | exact Or.inr (by omega) | exact Or.inr (by dsimp only; omega))
          replace Bo := S13.blk
          refine WpL_nil (Wp_ret (inB_ret (thn_ret ?_)))
          refine fin_agg Tryz.results83 (vs := [(.int .i64 ((listT t.kind (normTs t.args)).kind)), (.slice sa9 ((listT t.kind (normTs t.args)).set.length) sc9), (.slice aa9 ((listT t.kind (normTs t.args)).args.length) ac9), (.int .i64 ((listT t.kind (normTs t.args)).mn)), (.int .i64 ((listT t.kind (normTs t.args)).mx)), (.bool ((listT t.kind (normTs t.args)).neg))]) (b := bo) rfl agg25 siz25 rfl (Bo.cells rfl) ?_
          refine ⟨⟨_, rfl, ?_⟩, E⟩
          rw [normT_eq, normN_list _ (by omega)]
          refine ReIn.mono ?_ _ (ReIn.chg hC9 ?_ _ hre90)
          · rintro y (⟨h | h | h, _⟩ | h)
            · exact .inl h
            · exact .inr (.inl h)
            · exact .inr (.inr (by omega))
            · exact .inr (.inr (by omega))
          · rintro y (⟨h | h | h, _⟩ | h) he
            · have he' : y = bo := he
              have := hb y (.inl h); omega
            · have he' : y = bo := he
              have := hb y (.inr h); omega
            · have he' : y = bo := he
              omega
            · have he' : y = bo := he
              omega
        · have kh4 := h4
          replace h4 := of_decide_eq_false h4
          refine Wp_region ?_
          refine qV (r_eql rfl rfl) ?_
          refine qA _ rfl ?_
          refine WpL_nil (thn_normal ?_)
          refine Wp_cond rfl (fun h7 => ?_) (fun h7 => ?_)
          · have kh7 := h7
            replace h7 := of_decide_eq_true h7
            refine Wp_seq_region ?_
            refine qF br 0 0 rfl Tryz.underlying25 rfl siz3 rfl ?_
            refine qV (r_load rfl flat3 (Br.cell rfl)) ?_
            refine qF br 0 2 rfl Tryz.underlying25 rfl siz23 rfl ?_
            refine qV (r_load rfl flat23 (Br.cell rfl)) ?_
            have hrs2 := (nst_end (NSt.ext hst E5) hac)
            rw [← normTs_map] at hrs2
            have hrs3 := hrs2.lt
            have hst2 : n1 ≤ (w9).heap.size := Nat.le_trans hsz1 E5.size
            refine WpL_enter rfl rfl (by decide) (r_callF Tryz.func118 nm118 bd118 rfl) (list_c _ _ t.kind _ (normTs t.args) hrs3 (fun y hy => hy.2) (fun y hy hyk he => by have := okRe_len2 (ok_normTs t.args (okRe_args hok) y hy) (by omega); rw [he] at this; simp at this) (by have := size_normTs t.args; have := t.size_eq; omega)) ?_
            rintro _ w9 ⟨vs9, rfl, hre9, X9⟩
            replace Br := X9.keep Br
            replace Bo := X9.keep Bo
            replace B6 := X9.keep B6
            replace B7 := X9.keep B7
            replace E := E.ext X9
            replace E5 := E5.ext X9
            have hre90 := hre9
            obtain ⟨sa9, sc9, aa9, ac9, rfl, _, _, _⟩ := hre9.form
            have hC9 : Chg (fun y => y = bo) (w9) (w9) := Chg.refl _ _
            refine s_storeAgg (b := bo) (o := 0) (c' := #[(I6 ((listT t.kind (normTs t.args)).kind)), (.slice sa9 ((listT t.kind (normTs t.args)).set.length) sc9), (.slice aa9 ((listT t.kind (normTs t.args)).args.length) ac9), (I6 ((listT t.kind (normTs t.args)).mn)), (I6 ((listT t.kind (normTs t.args)).mx)), (.bool ((listT t.kind (normTs t.args)).neg))]) rfl rfl (by simp [Value.oneCell']) siz25 rfl Bo (by first | (simp; done) | exact Nat.le_of_ble_eq_true rfl) rfl ?_
            intro w15 S15
            replace hC9 := S15.chg
            replace Br := S15.keep (by omega) Br
            replace B6 := S15.keep (by omega) B6
            replace B7 := S15.keep (by omega) B7
            replace E := S15.step E (by first | exact Or.inl (by omega) | exact Or.inr rfl | exact Or.inr (by assumption) | exact Or.inr (by simp) | exact Or.inr (by omega) | exact Or.inr (by dsimp only; omega))
            replace Bo := S15.blk
            refine WpL_nil (Wp_ret (inB_ret (thn_ret ?_)))
            refine fin_agg Tryz.results83 (vs := [(.int .i64 ((listT t.kind (normTs t.args)).kind)), (.slice sa9 ((listT t.kind (normTs t.args)).set.length) sc9), (.slice aa9 ((listT t.kind (normTs t.args)).args.length) ac9), (.int .i64 ((listT t.kind (normTs t.args)).mn)), (.int .i64 ((listT t.kind (normTs t.args)).mx)), (.bool ((listT t.kind (normTs t.args)).neg))]) (b := bo) rfl agg25 siz25 rfl (Bo.cells rfl) ?_
            refine ⟨⟨_, rfl, ?_⟩, E⟩
            rw [normT_eq, normN_list _ (by omega)]
            refine ReIn.mono ?_ _ (ReIn.chg hC9 ?_ _ hre90)
            · rintro y (⟨h | h | h, _⟩ | h)
              · exact .inl h
              · exact .inr (.inl h)
              · exact .inr (.inr (by omega))
              · exact .inr (.inr (by omega))
            · rintro y (⟨h | h | h, _⟩ | h) he
              · have he' : y = bo := he
                have := hb y (.inl h); omega
              · have he' : y = bo := he
                have := hb y (.inr h); omega
              · have he' : y = bo := he
                omega
              · have he' : y = bo := he
                omega
          · have kh7 := h7
            replace h7 := of_decide_eq_false h7
            refine Wp_seq (Wp_seq_region ?_)
            refine qV (r_eql rfl rfl) ?_
            refine qA _ rfl ?_
            refine WpL_nil ?_
            refine Wp_cond rfl (fun h5 => ?_) (fun h5 => ?_)
            · have kh5 := h5
              replace h5 := of_decide_eq_true h5
              have hl1 : t.args.length = 1 := okRe_one hok (by omega)
              obtain ⟨y, hy⟩ : ∃ y, normTs t.args = [y] := by have := normTs_len t.args; rw [hl1] at this; exact List.length_eq_one_iff.1 this
              have hoky : okRe y := ok_normTs t.args (okRe_args hok) y (by rw [hy]; simp)
              have hrs2 := nst_end (NSt.ext hst E5) hac
              rw [← normTs_map, hy] at hrs2
              obtain ⟨yb, yo, hyaa, hyc⟩ := hrs2.cells (by omega)
              subst hyaa
              obtain ⟨ys, hcy, hry⟩ := hyc 0 y rfl
              have hry0 := hry
              obtain ⟨ysa, ysc, yaa, yac, rfl, _, _, hya⟩ := hry.form
              refine Wp_skip (thn_normal ?_)
              refine Wp_cond_true (congrArg Value.bool kh5) ?_
              refine Wp_seq_region ?_
              refine qF br 0 2 rfl Tryz.underlying25 rfl siz23 rfl ?_
              refine qV (r_load rfl flat23 (Br.cell rfl)) ?_
              refine qV (r_indexSlice (b := yb) (o := yo) (len := t.args.length) (cap := ac) (i := 0) (o' := yo + 0 * 6) rfl rfl rfl Tryz.underlying23 siz25 (by omega) (by omega)) ?_
              refine qV (r_loadAgg rfl agg25 siz25 rfl (hcy)) ?_
              refine s_allocStore (v := (.agg (R6 y ysa ysc yaa yac))) (c := (R6 y ysa ysc yaa yac)) (n := 6) (by decide) zer25 rfl siz25 rfl rfl rfl (by simp [Value.oneCell']) ?_
              intro bq wq Nq
              have Fq := Nq.ge E
              have Fq_E5 := Nq.ge E5
              have Oq_br := Nq.lt Br
              have Oq_bo := Nq.lt Bo
              have Oq_b6 := Nq.lt B6
              have Oq_b7 := Nq.lt B7
              replace Br := Nq.keep Br
              replace Bo := Nq.keep Bo
              replace B6 := Nq.keep B6
              replace B7 := Nq.keep B7
              replace hry0 := ReIn.ext Nq.ext y hry0
              replace E := E.ext Nq.ext
              have Bq := Nq.blk
              replace E5 := E5.ext Nq.ext
              refine WpL_nil (Wp_seq_region ?_)
              refine qF br 0 0 rfl Tryz.underlying25 rfl siz3 rfl ?_
              refine qV (r_load rfl flat3 (Br.cell rfl)) ?_
              refine qV (r_eql rfl rfl) ?_
              refine qA _ rfl ?_
              refine WpL_nil (Wp_block (Wp_seq_region ?_))
              refine qF bq 0 0 rfl Tryz.underlying25 rfl siz3 rfl ?_
              refine qV (r_load rfl flat3 (Bq.cell rfl)) ?_
              obtain ⟨e17, he17⟩ : ∃ e, (decide ((y.kind : Int) = 1)) = e := ⟨_, rfl⟩
              refine qV ((r_eql rfl rfl).trans (by rw [he17]; try rfl)) ?_
              refine qM _ rfl ?_
              obtain ⟨e18, he18⟩ : ∃ e, (decide ((t.kind : Int) = 6)) = e := ⟨_, rfl⟩
              refine qG (.bool e17) (nU e17 (.bool e18)) (by cases e17 <;> first | exact gA | exact gB | exact .inl ⟨rfl, r_move (congrArg Value.bool he18)⟩) ?_
              refine qG (.bool e17) (nU e17 (.bool e18)) (by cases e17 <;> first | exact gA | exact gB | exact .inl ⟨rfl, r_move rfl⟩) ?_
              refine qG (nU e17 (.bool e18)) (nU e17 (yU e18 (P6 br 4))) (by cases e17 <;> cases e18 <;> first | exact gA | exact gB | exact .inl ⟨rfl, r_fieldAddr rfl Tryz.underlying25 rfl siz3 rfl⟩) ?_
              refine qG (nU e17 (.bool e18)) (nU e17 (yU e18 (I6 t.mx))) (by cases e17 <;> cases e18 <;> first | exact gA | exact gB | exact .inl ⟨rfl, r_load rfl flat3 (Br.cell rfl)⟩) ?_
              obtain ⟨e19, he19⟩ : ∃ e, (decide ((t.mx : Int) = 0)) = e := ⟨_, rfl⟩
              refine qG (nU e17 (.bool e18)) (nU e17 (yU e18 (.bool e19))) (by cases e17 <;> cases e18 <;> first | exact gA | exact gB | exact .inl ⟨rfl, (r_eql rfl rfl).trans (by rw [he19]; try rfl)⟩) ?_
              obtain ⟨e20, he20⟩ : ∃ e, (e18 && e19) = e := ⟨_, rfl⟩
              refine qG (.bool e17) (nU e17 (.bool e20)) (by cases e17 <;> first | exact gA | exact gB | exact .inl ⟨rfl, r_pick (v := .bool e20) rfl (by rw [← he20]; cases e18 <;> rfl)⟩) ?_
              obtain ⟨e21, he21⟩ : ∃ e, (e17 || e20) = e := ⟨_, rfl⟩
              refine qV (r_pick (v := .bool e21) rfl (by rw [← he21]; cases e17 <;> rfl)) ?_
              refine qA _ rfl ?_
              refine WpL_nil ?_
              subst he21
              subst he20
              subst he19
              subst he18
              subst he17
              refine Wp_cond rfl (fun c1 => ?_) (fun c1 => ?_)
              · have kc1 := c1
                refine Wp_seq_region ?_
                refine qV (r_loadAgg (vs := [(I6 1), (.slice none 0 0), (.slice none 0 0), (I6 0), (I6 0), (.bool false)]) rfl agg25 siz25 rfl (B6.cells rfl)) ?_
                refine s_storeAgg (b := bo) (o := 0) (c' := #[(I6 1), (.slice none 0 0), (.slice none 0 0), (I6 0), (I6 0), (.bool false)]) rfl rfl (by simp [Value.oneCell']) siz25 rfl Bo (by first | (simp; done) | exact Nat.le_of_ble_eq_true rfl) rfl ?_
                intro w23 S23
                replace Br := S23.keep (by omega) Br
                replace B6 := S23.keep (by omega) B6
                replace B7 := S23.keep (by omega) B7
                replace Bq := S23.keep (by omega) Bq
                replace E := S23.step E (by first | exact Or.inl (by omega) | exact Or.inr rfl | exact Or.inr (by assumption) | exact Or.inr (by simp) | exact Or.inr (by omega) | exact Or.inr (by dsimp only; omega))
                replace Bo := S23.blk
                refine WpL_nil (Wp_ret (inB_ret (inB_ret (thn_ret ?_))))
                refine fin_agg Tryz.results83 (vs := [(.int .i64 1), (.slice none 0 0), (.slice none 0 0), (.int .i64 0), (.int .i64 0), (.bool false)]) (b := bo) rfl agg25 siz25 rfl (Bo.cells rfl) ?_
                refine ⟨⟨_, rfl, ?_⟩, E⟩
                have hN : normT t = emptyT := by rw [normT_eq, hy, normN_56 (by omega), if_pos (by simp at c1; omega)]
                rw [hN]
                exact re_empty _ _ _
              · have kc1 := c1
                refine Wp_seq_region ?_
                refine qF bq 0 0 rfl Tryz.underlying25 rfl siz3 rfl ?_
                refine qV (r_load rfl flat3 (Bq.cell rfl)) ?_
                obtain ⟨e24, he24⟩ : ∃ e, (decide ((y.kind : Int) = 0)) = e := ⟨_, rfl⟩
                refine qV ((r_eql rfl rfl).trans (by rw [he24]; try rfl)) ?_
                refine qM _ rfl ?_
                obtain ⟨e25, he25⟩ : ∃ e, (decide ((t.kind : Int) = 6)) = e := ⟨_, rfl⟩
                refine qG (.bool e24) (yU e24 (.bool e25)) (by cases e24 <;> first | exact gA | exact gB | exact .inl ⟨rfl, r_move (congrArg Value.bool he25)⟩) ?_
                obtain ⟨e26, he26⟩ : ∃ e, (!e25) = e := ⟨_, rfl⟩
                refine qG (.bool e24) (yU e24 (.bool e26)) (by cases e24 <;> first | exact gA | exact gB | exact .inl ⟨rfl, (r_not rfl).trans (by rw [he26]; try rfl)⟩) ?_
                refine qG (.bool e24) (yU e24 (.bool e26)) (by cases e24 <;> first | exact gA | exact gB | exact .inl ⟨rfl, r_move rfl⟩) ?_
                refine qG (yU e24 (.bool e26)) (yU e24 (nU e26 (P6 br 3))) (by cases e24 <;> cases e26 <;> first | exact gA | exact gB | exact .inl ⟨rfl, r_fieldAddr rfl Tryz.underlying25 rfl siz3 rfl⟩) ?_
                refine qG (yU e24 (.bool e26)) (yU e24 (nU e26 (I6 t.mn))) (by cases e24 <;> cases e26 <;> first | exact gA | exact gB | exact .inl ⟨rfl, r_load rfl flat3 (Br.cell rfl)⟩) ?_
                obtain ⟨e27, he27⟩ : ∃ e, (decide ((t.mn : Int) = 0)) = e := ⟨_, rfl⟩
                refine qG (yU e24 (.bool e26)) (yU e24 (nU e26 (.bool e27))) (by cases e24 <;> cases e26 <;> first | exact gA | exact gB | exact .inl ⟨rfl, (r_eql rfl rfl).trans (by rw [he27]; try rfl)⟩) ?_
                obtain ⟨e28, he28⟩ : ∃ e, (e26 || e27) = e := ⟨_, rfl⟩
                refine qG (.bool e24) (yU e24 (.bool e28)) (by cases e24 <;> first | exact gA | exact gB | exact .inl ⟨rfl, r_pick (v := .bool e28) rfl (by rw [← he28]; cases e26 <;> rfl)⟩) ?_
                obtain ⟨e29, he29⟩ : ∃ e, (e24 && e28) = e := ⟨_, rfl⟩
                refine qV (r_pick (v := .bool e29) rfl (by rw [← he29]; cases e24 <;> rfl)) ?_
                refine qA _ rfl ?_
                refine WpL_nil ?_
                subst he29
                subst he28
                subst he27
                subst he26
                subst he25
                subst he24
                refine Wp_cond rfl (fun c2 => ?_) (fun c2 => ?_)
                · have kc2 := c2
                  refine Wp_seq_region ?_
                  refine qV (r_loadAgg (vs := [(I6 1), (.slice none 0 0), (.slice none 0 0), (I6 0), (I6 0), (.bool false)]) rfl agg25 siz25 rfl (B6.cells rfl)) ?_
                  refine s_storeAgg (b := bo) (o := 0) (c' := #[(I6 1), (.slice none 0 0), (.slice none 0 0), (I6 0), (I6 0), (.bool false)]) rfl rfl (by simp [Value.oneCell']) siz25 rfl Bo (by first | (simp; done) | exact Nat.le_of_ble_eq_true rfl) rfl ?_
                  intro w31 S31
                  replace Br := S31.keep (by omega) Br
                  replace B6 := S31.keep (by omega) B6
                  replace B7 := S31.keep (by omega) B7
                  replace Bq := S31.keep (by omega) Bq
                  replace E := S31.step E (by first | exact Or.inl (by omega) | exact Or.inr rfl | exact Or.inr (by assumption) | exact Or.inr (by simp) | exact Or.inr (by omega) | exact Or.inr (by dsimp only; omega))
                  replace Bo := S31.blk
                  refine WpL_nil (Wp_ret (inB_ret (inB_ret (thn_ret ?_))))
                  refine fin_agg Tryz.results83 (vs := [(.int .i64 1), (.slice none 0 0), (.slice none 0 0), (.int .i64 0), (.int .i64 0), (.bool false)]) (b := bo) rfl agg25 siz25 rfl (Bo.cells rfl) ?_
                  refine ⟨⟨_, rfl, ?_⟩, E⟩
                  have hN : normT t = emptyT := by rw [normT_eq, hy, normN_56 (by omega), if_neg (by simp at c1; omega), if_pos (by simp at c2; omega)]
                  rw [hN]
                  exact re_empty _ _ _
                · have kc2 := c2
                  refine Wp_seq_region ?_
                  refine qF bq 0 0 rfl Tryz.underlying25 rfl siz3 rfl ?_
                  refine qV (r_load rfl flat3 (Bq.cell rfl)) ?_
                  refine qV (r_eql rfl rfl) ?_
                  refine qA _ rfl ?_
                  refine WpL_nil ?_
                  refine Wp_cond rfl (fun c3 => ?_) (fun c3 => ?_)
                  · have kc3 := c3
                    replace c3 := of_decide_eq_true c3
                    refine Wp_seq_region ?_
                    refine qV (r_loadAgg (vs := [(I6 0), (.slice none 0 0), (.slice none 0 0), (I6 0), (I6 0), (.bool false)]) rfl agg25 siz25 rfl (B7.cells rfl)) ?_
                    refine s_storeAgg (b := bo) (o := 0) (c' := #[(I6 0), (.slice none 0 0), (.slice none 0 0), (I6 0), (I6 0), (.bool false)]) rfl rfl (by simp [Value.oneCell']) siz25 rfl Bo (by first | (simp; done) | exact Nat.le_of_ble_eq_true rfl) rfl ?_
                    intro w33 S33
                    replace Br := S33.keep (by omega) Br
                    replace B6 := S33.keep (by omega) B6
                    replace B7 := S33.keep (by omega) B7
                    replace Bq := S33.keep (by omega) Bq
                    replace E := S33.step E (by first | exact Or.inl (by omega) | exact Or.inr rfl | exact Or.inr (by assumption) | exact Or.inr (by simp) | exact Or.inr (by omega) | exact Or.inr (by dsimp only; omega))
                    replace Bo := S33.blk
                    refine WpL_nil (Wp_ret (inB_ret (inB_ret (thn_ret ?_))))
                    refine fin_agg Tryz.results83 (vs := [(.int .i64 0), (.slice none 0 0), (.slice none 0 0), (.int .i64 0), (.int .i64 0), (.bool false)]) (b := bo) rfl agg25 siz25 rfl (Bo.cells rfl) ?_
                    refine ⟨⟨_, rfl, ?_⟩, E⟩
                    have hN : normT t = noneT := by rw [normT_eq, hy, normN_56 (by omega), if_neg (by simp at c1; omega), if_neg (by simp at c2; omega), if_pos c3]
                    rw [hN]
                    exact re_empty _ _ _
                  · have kc3 := c3
                    replace c3 := of_decide_eq_false c3
                    refine Wp_seq (Wp_seq_region ?_)
                    refine qF bq 0 0 rfl Tryz.underlying25 rfl siz3 rfl ?_
                    refine qV (r_load rfl flat3 (Bq.cell rfl)) ?_
                    refine qV (r_eql rfl rfl) ?_
                    refine qA _ rfl ?_
                    refine WpL_nil ?_
                    refine Wp_cond rfl (fun c4 => ?_) (fun c4 => ?_)
                    · have kc4 := c4
                      replace c4 := of_decide_eq_true c4
                      have hC9 : Chg (fun y => y = bo) (wq) (wq) := Chg.refl _ _
                      refine Wp_skip (thn_normal ?_)
                      refine Wp_cond_true (congrArg Value.bool kc4) ?_
                      refine Wp_seq_region ?_
                      refine qV (r_loadAgg (vs := [(I6 y.kind), (.slice ysa y.set.length ysc), (.slice yaa y.args.length yac), (I6 y.mn), (I6 y.mx), (.bool y.neg)]) rfl agg25 siz25 rfl (Bq.cells rfl)) ?_
                      refine s_storeAgg (b := bo) (o := 0) (c' := (R6 y ysa ysc yaa yac)) rfl rfl (by simp [Value.oneCell']) siz25 rfl Bo (by first | (simp; done) | exact Nat.le_of_ble_eq_true rfl) rfl ?_
                      intro w35 S35
                      replace hC9 := S35.chg
                      replace Br := S35.keep (by omega) Br
                      replace B6 := S35.keep (by omega) B6
                      replace B7 := S35.keep (by omega) B7
                      replace Bq := S35.keep (by omega) Bq
                      replace E := S35.step E (by first | exact Or.inl (by omega) | exact Or.inr rfl | exact Or.inr (by assumption) | exact Or.inr (by simp) | exact Or.inr (by omega) | exact Or.inr (by dsimp only; omega))
                      replace Bo := S35.blk
                      refine WpL_nil (Wp_ret (inB_ret (inB_ret (thn_ret ?_))))
                      refine fin_agg Tryz.results83 (vs := [(.int .i64 y.kind), (.slice ysa y.set.length ysc), (.slice yaa y.args.length yac), (.int .i64 y.mn), (.int .i64 y.mx), (.bool y.neg)]) (b := bo) rfl agg25 siz25 rfl (Bo.cells rfl) ?_
                      refine ⟨⟨_, rfl, ?_⟩, E⟩
                      have hN : normT t = y := by rw [normT_eq, hy, normN_56 (by omega), if_neg (by simp at c1; omega), if_neg (by simp at c2; omega), if_neg c3, if_pos (.inl c4)]
                      rw [hN]
                      exact ReIn.mono hmo _ (ReIn.chg hC9 hne _ hry0)
                    · have kc4 := c4
                      replace c4 := of_decide_eq_false c4
                      refine Wp_region ?_
                      obtain ⟨e36, he36⟩ : ∃ e, (decide ((t.kind : Int) = 6)) = e := ⟨_, rfl⟩
                      refine qV (r_move (congrArg Value.bool he36)) ?_
                      refine qM _ rfl ?_
                      refine qG (.bool e36) (yU e36 (P6 br 3)) (by cases e36 <;> first | exact gA | exact gB | exact .inl ⟨rfl, r_fieldAddr rfl Tryz.underlying25 rfl siz3 rfl⟩) ?_
                      refine qG (.bool e36) (yU e36 (I6 t.mn)) (by cases e36 <;> first | exact gA | exact gB | exact .inl ⟨rfl, r_load rfl flat3 (Br.cell rfl)⟩) ?_
                      obtain ⟨e37, he37⟩ : ∃ e, (decide ((t.mn : Int) = 1)) = e := ⟨_, rfl⟩
                      refine qG (.bool e36) (yU e36 (.bool e37)) (by cases e36 <;> first | exact gA | exact gB | exact .inl ⟨rfl, (r_eql rfl rfl).trans (by rw [he37]; try rfl)⟩) ?_
                      obtain ⟨e38, he38⟩ : ∃ e, (e36 && e37) = e := ⟨_, rfl⟩
                      refine qV (r_pick (v := .bool e38) rfl (by rw [← he38]; cases e36 <;> rfl)) ?_
                      refine qM _ rfl ?_
                      refine qG (.bool e38) (yU e38 (P6 br 4)) (by cases e38 <;> first | exact gA | exact gB | exact .inl ⟨rfl, r_fieldAddr rfl Tryz.underlying25 rfl siz3 rfl⟩) ?_
                      refine qG (.bool e38) (yU e38 (I6 t.mx)) (by cases e38 <;> first | exact gA | exact gB | exact .inl ⟨rfl, r_load rfl flat3 (Br.cell rfl)⟩) ?_
                      obtain ⟨e39, he39⟩ : ∃ e, (decide ((t.mx : Int) = 1)) = e := ⟨_, rfl⟩
                      refine qG (.bool e38) (yU e38 (.bool e39)) (by cases e38 <;> first | exact gA | exact gB | exact .inl ⟨rfl, (r_eql rfl rfl).trans (by rw [he39]; try rfl)⟩) ?_
                      obtain ⟨e40, he40⟩ : ∃ e, (e38 && e39) = e := ⟨_, rfl⟩
                      refine qV (r_pick (v := .bool e40) rfl (by rw [← he40]; cases e38 <;> rfl)) ?_
                      refine qA _ rfl ?_
                      refine WpL_nil ?_
                      subst he40
                      subst he39
                      subst he38
                      subst he37
                      subst he36
                      refine thn_normal ?_
                      refine Wp_cond rfl (fun c5 => ?_) (fun c5 => ?_)
                      · have kc5 := c5
                        have hC9 : Chg (fun y => y = bo) (wq) (wq) := Chg.refl _ _
                        refine Wp_seq_region ?_
                        refine qV (r_loadAgg (vs := [(I6 y.kind), (.slice ysa y.set.length ysc), (.slice yaa y.args.length yac), (I6 y.mn), (I6 y.mx), (.bool y.neg)]) rfl agg25 siz25 rfl (Bq.cells rfl)) ?_
                        refine s_storeAgg (b := bo) (o := 0) (c' := (R6 y ysa ysc yaa yac)) rfl rfl (by simp [Value.oneCell']) siz25 rfl Bo (by first | (simp; done) | exact Nat.le_of_ble_eq_true rfl) rfl ?_
                        intro w42 S42
                        replace hC9 := S42.chg
                        replace Br := S42.keep (by omega) Br
                        replace B6 := S42.keep (by omega) B6
                        replace B7 := S42.keep (by omega) B7
                        replace Bq := S42.keep (by omega) Bq
                        replace E := S42.step E (by first | exact Or.inl (by omega) | exact Or.inr rfl | exact Or.inr (by assumption) | exact Or.inr (by simp) | exact Or.inr (by omega) | exact Or.inr (by dsimp only; omega))
                        replace Bo := S42.blk
                        refine WpL_nil (Wp_ret (inB_ret (inB_ret (thn_ret ?_))))
                        refine fin_agg Tryz.results83 (vs := [(.int .i64 y.kind), (.slice ysa y.set.length ysc), (.slice yaa y.args.length yac), (.int .i64 y.mn), (.int .i64 y.mx), (.bool y.neg)]) (b := bo) rfl agg25 siz25 rfl (Bo.cells rfl) ?_
                        refine ⟨⟨_, rfl, ?_⟩, E⟩
                        have hN : normT t = y := by rw [normT_eq, hy, normN_56 (by omega), if_neg (by simp at c1; omega), if_neg (by simp at c2; omega), if_neg c3, if_pos (.inr (by simp at c5; omega))]
                        rw [hN]
                        exact ReIn.mono hmo _ (ReIn.chg hC9 hne _ hry0)
                      · have kc5 := c5
                        have hC9 : Chg (fun y => y = bo) (wq) (wq) := Chg.refl _ _
                        have hset9 := SlIn.chg hset E (fun y hy => hz y hy)
                        have hrs9 := nst_end (NSt.ext hst E5) hac
                        rw [← normTs_map] at hrs9
                        refine Wp_skip (inB_normal (inB_normal (thn_normal (Wp_seq_region ?_))))
                        refine qV (r_loadAgg (vs := [(I6 t.kind), (.slice sa t.set.length sc), (.slice (some ⟨yb, yo, none⟩) t.args.length ac), (I6 t.mn), (I6 t.mx), (.bool t.neg)]) rfl agg25 siz25 rfl (Br.cells rfl)) ?_
                        refine s_storeAgg (b := bo) (o := 0) (c' := (R6 t sa sc (some ⟨yb, yo, none⟩) ac)) rfl rfl (by simp [Value.oneCell']) siz25 rfl Bo (by first | (simp; done) | exact Nat.le_of_ble_eq_true rfl) rfl ?_
                        intro w43 S43
                        replace hC9 := S43.chg
                        replace Br := S43.keep (by omega) Br
                        replace B6 := S43.keep (by omega) B6
                        replace B7 := S43.keep (by omega) B7
                        replace Bq := S43.keep (by omega) Bq
                        replace E := S43.step E (by first | exact Or.inl (by omega) | exact Or.inr rfl | exact Or.inr (by assumption) | exact Or.inr (by simp) | exact Or.inr (by omega) | exact Or.inr (by dsimp only; omega))
                        replace Bo := S43.blk
                        refine WpL_nil (Wp_ret ?_)
                        refine fin_agg Tryz.results83 (vs := [(.int .i64 t.kind), (.slice sa t.set.length sc), (.slice (some ⟨yb, yo, none⟩) t.args.length ac), (.int .i64 t.mn), (.int .i64 t.mx), (.bool t.neg)]) (b := bo) rfl agg25 siz25 rfl (Bo.cells rfl) ?_
                        refine ⟨⟨_, rfl, ?_⟩, E⟩
                        have hN : normT t = .mk t.kind t.set (normTs t.args) t.mn t.mx t.neg := by rw [normT_eq, hy, normN_56 (by omega), if_neg (by simp at c1; omega), if_neg (by simp at c2; omega), if_neg c3, if_neg (by simp at c5; omega)]
                        rw [hN]
                        exact re_ret hset9 (fun y hy => .inl hy) hrs9 hC9 hne hmo
            · have kh5 := h5
              replace h5 := of_decide_eq_false h5
              refine Wp_region ?_
              refine qV (r_eql rfl rfl) ?_
              refine qA _ rfl ?_
              refine WpL_nil (thn_normal ?_)
              refine Wp_cond rfl (fun h6 => ?_) (fun h6 => ?_)
              · have kh6 := h6
                replace h6 := of_decide_eq_true h6
                have hl1 : t.args.length = 1 := okRe_one hok (by omega)
                obtain ⟨y, hy⟩ : ∃ y, normTs t.args = [y] := by have := normTs_len t.args; rw [hl1] at this; exact List.length_eq_one_iff.1 this
                have hoky : okRe y := ok_normTs t.args (okRe_args hok) y (by rw [hy]; simp)
                have hrs2 := nst_end (NSt.ext hst E5) hac
                rw [← normTs_map, hy] at hrs2
                obtain ⟨yb, yo, hyaa, hyc⟩ := hrs2.cells (by omega)
                subst hyaa
                obtain ⟨ys, hcy, hry⟩ := hyc 0 y rfl
                have hry0 := hry
                obtain ⟨ysa, ysc, yaa, yac, rfl, _, _, hya⟩ := hry.form
                refine Wp_seq_region ?_
                refine qF br 0 2 rfl Tryz.underlying25 rfl siz23 rfl ?_
                refine qV (r_load rfl flat23 (Br.cell rfl)) ?_
                refine qV (r_indexSlice (b := yb) (o := yo) (len := t.args.length) (cap := ac) (i := 0) (o' := yo + 0 * 6) rfl rfl rfl Tryz.underlying23 siz25 (by omega) (by omega)) ?_
                refine qV (r_loadAgg rfl agg25 siz25 rfl (hcy)) ?_
                refine s_allocStore (v := (.agg (R6 y ysa ysc yaa yac))) (c := (R6 y ysa ysc yaa yac)) (n := 6) (by decide) zer25 rfl siz25 rfl rfl rfl (by simp [Value.oneCell']) ?_
                intro bq wq Nq
                have Fq := Nq.ge E
                have Fq_E5 := Nq.ge E5
                have Oq_br := Nq.lt Br
                have Oq_bo := Nq.lt Bo
                have Oq_b6 := Nq.lt B6
                have Oq_b7 := Nq.lt B7
                replace Br := Nq.keep Br
                replace Bo := Nq.keep Bo
                replace B6 := Nq.keep B6
                replace B7 := Nq.keep B7
                replace hry0 := ReIn.ext Nq.ext y hry0
                replace E := E.ext Nq.ext
                have Bq := Nq.blk
                replace E5 := E5.ext Nq.ext
                refine WpL_nil (Wp_seq_region ?_)
                refine qF br 0 0 rfl Tryz.underlying25 rfl siz3 rfl ?_
                refine qV (r_load rfl flat3 (Br.cell rfl)) ?_
                refine qV (r_eql rfl rfl) ?_
                refine qA _ rfl ?_
                refine WpL_nil (Wp_block (Wp_seq_region ?_))
                refine qF bq 0 0 rfl Tryz.underlying25 rfl siz3 rfl ?_
                refine qV (r_load rfl flat3 (Bq.cell rfl)) ?_
                obtain ⟨e45, he45⟩ : ∃ e, (decide ((y.kind : Int) = 1)) = e := ⟨_, rfl⟩
                refine qV ((r_eql rfl rfl).trans (by rw [he45]; try rfl)) ?_
                refine qM _ rfl ?_
                obtain ⟨e46, he46⟩ : ∃ e, (decide ((t.kind : Int) = 6)) = e := ⟨_, rfl⟩
                refine qG (.bool e45) (nU e45 (.bool e46)) (by cases e45 <;> first | exact gA | exact gB | exact .inl ⟨rfl, r_move (congrArg Value.bool he46)⟩) ?_
                refine qG (.bool e45) (nU e45 (.bool e46)) (by cases e45 <;> first | exact gA | exact gB | exact .inl ⟨rfl, r_move rfl⟩) ?_
                refine qG (nU e45 (.bool e46)) (nU e45 (yU e46 (P6 br 4))) (by cases e45 <;> cases e46 <;> first | exact gA | exact gB | exact .inl ⟨rfl, r_fieldAddr rfl Tryz.underlying25 rfl siz3 rfl⟩) ?_
                refine qG (nU e45 (.bool e46)) (nU e45 (yU e46 (I6 t.mx))) (by cases e45 <;> cases e46 <;> first | exact gA | exact gB | exact .inl ⟨rfl, r_load rfl flat3 (Br.cell rfl)⟩) ?_
                obtain ⟨e47, he47⟩ : ∃ e, (decide ((t.mx : Int) = 0)) = e := ⟨_, rfl⟩
                refine qG (nU e45 (.bool e46)) (nU e45 (yU e46 (.bool e47))) (by cases e45 <;> cases e46 <;> first | exact gA | exact gB | exact .inl ⟨rfl, (r_eql rfl rfl).trans (by rw [he47]; try rfl)⟩) ?_
                obtain ⟨e48, he48⟩ : ∃ e, (e46 && e47) = e := ⟨_, rfl⟩
                refine qG (.bool e45) (nU e45 (.bool e48)) (by cases e45 <;> first | exact gA | exact gB | exact .inl ⟨rfl, r_pick (v := .bool e48) rfl (by rw [← he48]; cases e46 <;> rfl)⟩) ?_
                obtain ⟨e49, he49⟩ : ∃ e, (e45 || e48) = e := ⟨_, rfl⟩
                refine qV (r_pick (v := .bool e49) rfl (by rw [← he49]; cases e45 <;> rfl)) ?_
                refine qA _ rfl ?_
                refine WpL_nil ?_
                subst he49
                subst he48
                subst he47
                subst he46
                subst he45
                refine Wp_cond rfl (fun c1 => ?_) (fun c1 => ?_)
                · have kc1 := c1
                  refine Wp_seq_region ?_
                  refine qV (r_loadAgg (vs := [(I6 1), (.slice none 0 0), (.slice none 0 0), (I6 0), (I6 0), (.bool false)]) rfl agg25 siz25 rfl (B6.cells rfl)) ?_
                  refine s_storeAgg (b := bo) (o := 0) (c' := #[(I6 1), (.slice none 0 0), (.slice none 0 0), (I6 0), (I6 0), (.bool false)]) rfl rfl (by simp [Value.oneCell']) siz25 rfl Bo (by first | (simp; done) | exact Nat.le_of_ble_eq_true rfl) rfl ?_
                  intro w51 S51
                  replace Br := S51.keep (by omega) Br
                  replace B6 := S51.keep (by omega) B6
                  replace B7 := S51.keep (by omega) B7
                  replace Bq := S51.keep (by omega) Bq
                  replace E := S51.step E (by first | exact Or.inl (by omega) | exact Or.inr rfl | exact Or.inr (by assumption) | exact Or.inr (by simp) | exact Or.inr (by omega) | exact Or.inr (by dsimp only; omega))
                  replace Bo := S51.blk
                  refine WpL_nil (Wp_ret (inB_ret (inB_ret (thn_ret ?_))))
                  refine fin_agg Tryz.results83 (vs := [(.int .i64 1), (.slice none 0 0), (.slice none 0 0), (.int .i64 0), (.int .i64 0), (.bool false)]) (b := bo) rfl agg25 siz25 rfl (Bo.cells rfl) ?_
                  refine ⟨⟨_, rfl, ?_⟩, E⟩
                  have hN : normT t = emptyT := by rw [normT_eq, hy, normN_56 (by omega), if_pos (by simp at c1; omega)]
                  rw [hN]
                  exact re_empty _ _ _
                · have kc1 := c1
                  refine Wp_seq_region ?_
                  refine qF bq 0 0 rfl Tryz.underlying25 rfl siz3 rfl ?_
                  refine qV (r_load rfl flat3 (Bq.cell rfl)) ?_
                  obtain ⟨e52, he52⟩ : ∃ e, (decide ((y.kind : Int) = 0)) = e := ⟨_, rfl⟩
                  refine qV ((r_eql rfl rfl).trans (by rw [he52]; try rfl)) ?_
                  refine qM _ rfl ?_
                  obtain ⟨e53, he53⟩ : ∃ e, (decide ((t.kind : Int) = 6)) = e := ⟨_, rfl⟩
                  refine qG (.bool e52) (yU e52 (.bool e53)) (by cases e52 <;> first | exact gA | exact gB | exact .inl ⟨rfl, r_move (congrArg Value.bool he53)⟩) ?_
                  obtain ⟨e54, he54⟩ : ∃ e, (!e53) = e := ⟨_, rfl⟩
                  refine qG (.bool e52) (yU e52 (.bool e54)) (by cases e52 <;> first | exact gA | exact gB | exact .inl ⟨rfl, (r_not rfl).trans (by rw [he54]; try rfl)⟩) ?_
                  refine qG (.bool e52) (yU e52 (.bool e54)) (by cases e52 <;> first | exact gA | exact gB | exact .inl ⟨rfl, r_move rfl⟩) ?_
                  refine qG (yU e52 (.bool e54)) (yU e52 (nU e54 (P6 br 3))) (by cases e52 <;> cases e54 <;> first | exact gA | exact gB | exact .inl ⟨rfl, r_fieldAddr rfl Tryz.underlying25 rfl siz3 rfl⟩) ?_
                  refine qG (yU e52 (.bool e54)) (yU e52 (nU e54 (I6 t.mn))) (by cases e52 <;> cases e54 <;> first | exact gA | exact gB | exact .inl ⟨rfl, r_load rfl flat3 (Br.cell rfl)⟩) ?_
                  obtain ⟨e55, he55⟩ : ∃ e, (decide ((t.mn : Int) = 0)) = e := ⟨_, rfl⟩
                  refine qG (yU e52 (.bool e54)) (yU e52 (nU e54 (.bool e55))) (by cases e52 <;> cases e54 <;> first | exact gA | exact gB | exact .inl ⟨rfl, (r_eql rfl rfl).trans (by rw [he55]; try rfl)⟩) ?_
                  obtain ⟨e56, he56⟩ : ∃ e, (e54 || e55) = e := ⟨_, rfl⟩
                  refine qG (.bool e52) (yU e52 (.bool e56)) (by cases e52 <;> first | exact gA | exact gB | exact .inl ⟨rfl, r_pick (v := .bool e56) rfl (by rw [← he56]; cases e54 <;> rfl)⟩) ?_
                  obtain ⟨e57, he57⟩ : ∃ e, (e52 && e56) = e := ⟨_, rfl⟩
                  refine qV (r_pick (v := .bool e57) rfl (by rw [← he57]; cases e52 <;> rfl)) ?_
                  refine qA _ rfl ?_
                  refine WpL_nil ?_
                  subst he57
                  subst he56
                  subst he55
                  subst he54
                  subst he53
                  subst he52
                  refine Wp_cond rfl (fun c2 => ?_) (fun c2 => ?_)
                  · have kc2 := c2
                    refine Wp_seq_region ?_
                    refine qV (r_loadAgg (vs := [(I6 1), (.slice none 0 0), (.slice none 0 0), (I6 0), (I6 0), (.bool false)]) rfl agg25 siz25 rfl (B6.cells rfl)) ?_
                    refine s_storeAgg (b := bo) (o := 0) (c' := #[(I6 1), (.slice none 0 0), (.slice none 0 0), (I6 0), (I6 0), (.bool false)]) rfl rfl (by simp [Value.oneCell']) siz25 rfl Bo (by first | (simp; done) | exact Nat.le_of_ble_eq_true rfl) rfl ?_
                    intro w59 S59
                    replace Br := S59.keep (by omega) Br
                    replace B6 := S59.keep (by omega) B6
                    replace B7 := S59.keep (by omega) B7
                    replace Bq := S59.keep (by omega) Bq
                    replace E := S59.step E (by first | exact Or.inl (by omega) | exact Or.inr rfl | exact Or.inr (by assumption) | exact Or.inr (by simp) | exact Or.inr (by omega) | exact Or.inr (by dsimp only; omega))
                    replace Bo := S59.blk
                    refine WpL_nil (Wp_ret (inB_ret (inB_ret (thn_ret ?_))))
                    refine fin_agg Tryz.results83 (vs := [(.int .i64 1), (.slice none 0 0), (.slice none 0 0), (.int .i64 0), (.int .i64 0), (.bool false)]) (b := bo) rfl agg25 siz25 rfl (Bo.cells rfl) ?_
                    refine ⟨⟨_, rfl, ?_⟩, E⟩
                    have hN : normT t = emptyT := by rw [normT_eq, hy, normN_56 (by omega), if_neg (by simp at c1; omega), if_pos (by simp at c2; omega)]
                    rw [hN]
                    exact re_empty _ _ _
                  · have kc2 := c2
                    refine Wp_seq_region ?_
                    refine qF bq 0 0 rfl Tryz.underlying25 rfl siz3 rfl ?_
                    refine qV (r_load rfl flat3 (Bq.cell rfl)) ?_
                    refine qV (r_eql rfl rfl) ?_
                    refine qA _ rfl ?_
                    refine WpL_nil ?_
                    refine Wp_cond rfl (fun c3 => ?_) (fun c3 => ?_)
                    · have kc3 := c3
                      replace c3 := of_decide_eq_true c3
                      refine Wp_seq_region ?_
                      refine qV (r_loadAgg (vs := [(I6 0), (.slice none 0 0), (.slice none 0 0), (I6 0), (I6 0), (.bool false)]) rfl agg25 siz25 rfl (B7.cells rfl)) ?_
                      refine s_storeAgg (b := bo) (o := 0) (c' := #[(I6 0), (.slice none 0 0), (.slice none 0 0), (I6 0), (I6 0), (.bool false)]) rfl rfl (by simp [Value.oneCell']) siz25 rfl Bo (by first | (simp; done) | exact Nat.le_of_ble_eq_true rfl) rfl ?_
                      intro w61 S61
                      replace Br := S61.keep (by omega) Br
                      replace B6 := S61.keep (by omega) B6
                      replace B7 := S61.keep (by omega) B7
                      replace Bq := S61.keep (by omega) Bq
                      replace E := S61.step E (by first | exact Or.inl (by omega) | exact Or.inr rfl | exact Or.inr (by assumption) | exact Or.inr (by simp) | exact Or.inr (by omega) | exact Or.inr (by dsimp only; omega))
                      replace Bo := S61.blk
                      refine WpL_nil (Wp_ret (inB_ret (inB_ret (thn_ret ?_))))
                      refine fin_agg Tryz.results83 (vs := [(.int .i64 0), (.slice none 0 0), (.slice none 0 0), (.int .i64 0), (.int .i64 0), (.bool false)]) (b := bo) rfl agg25 siz25 rfl (Bo.cells rfl) ?_
                      refine ⟨⟨_, rfl, ?_⟩, E⟩
                      have hN : normT t = noneT := by rw [normT_eq, hy, normN_56 (by omega), if_neg (by simp at c1; omega), if_neg (by simp at c2; omega), if_pos c3]
                      rw [hN]
                      exact re_empty _ _ _
                    · have kc3 := c3
                      replace c3 := of_decide_eq_false c3
                      refine Wp_seq (Wp_seq_region ?_)
                      refine qF bq 0 0 rfl Tryz.underlying25 rfl siz3 rfl ?_
                      refine qV (r_load rfl flat3 (Bq.cell rfl)) ?_
                      refine qV (r_eql rfl rfl) ?_
                      refine qA _ rfl ?_
                      refine WpL_nil ?_
                      refine Wp_cond rfl (fun c4 => ?_) (fun c4 => ?_)
                      · have kc4 := c4
                        replace c4 := of_decide_eq_true c4
                        have hC9 : Chg (fun y => y = bo) (wq) (wq) := Chg.refl _ _
                        refine Wp_skip (thn_normal ?_)
                        refine Wp_cond_true (congrArg Value.bool kc4) ?_
                        refine Wp_seq_region ?_
                        refine qV (r_loadAgg (vs := [(I6 y.kind), (.slice ysa y.set.length ysc), (.slice yaa y.args.length yac), (I6 y.mn), (I6 y.mx), (.bool y.neg)]) rfl agg25 siz25 rfl (Bq.cells rfl)) ?_
                        refine s_storeAgg (b := bo) (o := 0) (c' := (R6 y ysa ysc yaa yac)) rfl rfl (by simp [Value.oneCell']) siz25 rfl Bo (by first | (simp; done) | exact Nat.le_of_ble_eq_true rfl) rfl ?_
                        intro w63 S63
                        replace hC9 := S63.chg
                        replace Br := S63.keep (by omega) Br
                        replace B6 := S63.keep (by omega) B6
                        replace B7 := S63.keep (by omega) B7
                        replace Bq := S63.keep (by omega) Bq
                        replace E := S63.step E (by first | exact Or.inl (by omega) | exact Or.inr rfl | exact Or.inr (by assumption) | exact Or.inr (by simp) | exact Or.inr (by omega) | exact Or.inr (by dsimp only; omega))
                        replace Bo := S63.blk
                        refine WpL_nil (Wp_ret (inB_ret (inB_ret (thn_ret ?_))))
                        refine fin_agg Tryz.results83 (vs := [(.int .i64 y.kind), (.slice ysa y.set.length ysc), (.slice yaa y.args.length yac), (.int .i64 y.mn), (.int .i64 y.mx), (.bool y.neg)]) (b := bo) rfl agg25 siz25 rfl (Bo.cells rfl) ?_
                        refine ⟨⟨_, rfl, ?_⟩, E⟩
                        have hN : normT t = y := by rw [normT_eq, hy, normN_56 (by omega), if_neg (by simp at c1; omega), if_neg (by simp at c2; omega), if_neg c3, if_pos (.inl c4)]
                        rw [hN]
                        exact ReIn.mono hmo _ (ReIn.chg hC9 hne _ hry0)
                      · have kc4 := c4
                        replace c4 := of_decide_eq_false c4
                        refine Wp_region ?_
                        obtain ⟨e64, he64⟩ : ∃ e, (decide ((t.kind : Int) = 6)) = e := ⟨_, rfl⟩
                        refine qV (r_move (congrArg Value.bool he64)) ?_
                        refine qM _ rfl ?_
                        refine qG (.bool e64) (yU e64 (P6 br 3)) (by cases e64 <;> first | exact gA | exact gB | exact .inl ⟨rfl, r_fieldAddr rfl Tryz.underlying25 rfl siz3 rfl⟩) ?_
                        refine qG (.bool e64) (yU e64 (I6 t.mn)) (by cases e64 <;> first | exact gA | exact gB | exact .inl ⟨rfl, r_load rfl flat3 (Br.cell rfl)⟩) ?_
                        obtain ⟨e65, he65⟩ : ∃ e, (decide ((t.mn : Int) = 1)) = e := ⟨_, rfl⟩
                        refine qG (.bool e64) (yU e64 (.bool e65)) (by cases e64 <;> first | exact gA | exact gB | exact .inl ⟨rfl, (r_eql rfl rfl).trans (by rw [he65]; try rfl)⟩) ?_
                        obtain ⟨e66, he66⟩ : ∃ e, (e64 && e65) = e := ⟨_, rfl⟩
                        refine qV (r_pick (v := .bool e66) rfl (by rw [← he66]; cases e64 <;> rfl)) ?_
                        refine qM _ rfl ?_
                        refine qG (.bool e66) (yU e66 (P6 br 4)) (by cases e66 <;> first | exact gA | exact gB | exact .inl ⟨rfl, r_fieldAddr rfl Tryz.underlying25 rfl siz3 rfl⟩) ?_
                        refine qG (.bool e66) (yU e66 (I6 t.mx)) (by cases e66 <;> first | exact gA | exact gB | exact .inl ⟨rfl, r_load rfl flat3 (Br.cell rfl)⟩) ?_
                        obtain ⟨e67, he67⟩ : ∃ e, (decide ((t.mx : Int) = 1)) = e := ⟨_, rfl⟩
                        refine qG (.bool e66) (yU e66 (.bool e67)) (by cases e66 <;> first | exact gA | exact gB | exact .inl ⟨rfl, (r_eql rfl rfl).trans (by rw [he67]; try rfl)⟩) ?_
                        obtain ⟨e68, he68⟩ : ∃ e, (e66 && e67) = e := ⟨_, rfl⟩
                        refine qV (r_pick (v := .bool e68) rfl (by rw [← he68]; cases e66 <;> rfl)) ?_
                        refine qA _ rfl ?_
                        refine WpL_nil ?_
                        subst he68
                        subst he67
                        subst he66
                        subst he65
                        subst he64
                        refine thn_normal ?_
                        refine Wp_cond rfl (fun c5 => ?_) (fun c5 => ?_)
                        · have kc5 := c5
                          have hC9 : Chg (fun y => y = bo) (wq) (wq) := Chg.refl _ _
                          refine Wp_seq_region ?_
                          refine qV (r_loadAgg (vs := [(I6 y.kind), (.slice ysa y.set.length ysc), (.slice yaa y.args.length yac), (I6 y.mn), (I6 y.mx), (.bool y.neg)]) rfl agg25 siz25 rfl (Bq.cells rfl)) ?_
                          refine s_storeAgg (b := bo) (o := 0) (c' := (R6 y ysa ysc yaa yac)) rfl rfl (by simp [Value.oneCell']) siz25 rfl Bo (by first | (simp; done) | exact Nat.le_of_ble_eq_true rfl) rfl ?_
                          intro w70 S70
                          replace hC9 := S70.chg
                          replace Br := S70.keep (by omega) Br
                          replace B6 := S70.keep (by omega) B6
                          replace B7 := S70.keep (by omega) B7
                          replace Bq := S70.keep (by omega) Bq
                          replace E := S70.step E (by first | exact Or.inl (by omega) | exact Or.inr rfl | exact Or.inr (by assumption) | exact Or.inr (by simp) | exact Or.inr (by omega) | exact Or.inr (by dsimp only; omega))
                          replace Bo := S70.blk
                          refine WpL_nil (Wp_ret (inB_ret (inB_ret (thn_ret ?_))))
                          refine fin_agg Tryz.results83 (vs := [(.int .i64 y.kind), (.slice ysa y.set.length ysc), (.slice yaa y.args.length yac), (.int .i64 y.mn), (.int .i64 y.mx), (.bool y.neg)]) (b := bo) rfl agg25 siz25 rfl (Bo.cells rfl) ?_
                          refine ⟨⟨_, rfl, ?_⟩, E⟩
                          have hN : normT t = y := by rw [normT_eq, hy, normN_56 (by omega), if_neg (by simp at c1; omega), if_neg (by simp at c2; omega), if_neg c3, if_pos (.inr (by simp at c5; omega))]
                          rw [hN]
                          exact ReIn.mono hmo _ (ReIn.chg hC9 hne _ hry0)
                        · have kc5 := c5
                          have hC9 : Chg (fun y => y = bo) (wq) (wq) := Chg.refl _ _
                          have hset9 := SlIn.chg hset E (fun y hy => hz y hy)
                          have hrs9 := nst_end (NSt.ext hst E5) hac
                          rw [← normTs_map] at hrs9
                          refine Wp_skip (inB_normal (inB_normal (thn_normal (Wp_seq_region ?_))))
                          refine qV (r_loadAgg (vs := [(I6 t.kind), (.slice sa t.set.length sc), (.slice (some ⟨yb, yo, none⟩) t.args.length ac), (I6 t.mn), (I6 t.mx), (.bool t.neg)]) rfl agg25 siz25 rfl (Br.cells rfl)) ?_
                          refine s_storeAgg (b := bo) (o := 0) (c' := (R6 t sa sc (some ⟨yb, yo, none⟩) ac)) rfl rfl (by simp [Value.oneCell']) siz25 rfl Bo (by first | (simp; done) | exact Nat.le_of_ble_eq_true rfl) rfl ?_
                          intro w71 S71
                          replace hC9 := S71.chg
                          replace Br := S71.keep (by omega) Br
                          replace B6 := S71.keep (by omega) B6
                          replace B7 := S71.keep (by omega) B7
                          replace Bq := S71.keep (by omega) Bq
                          replace E := S71.step E (by first | exact Or.inl (by omega) | exact Or.inr rfl | exact Or.inr (by assumption) | exact Or.inr (by simp) | exact Or.inr (by omega) | exact Or.inr (by dsimp only; omega))
                          replace Bo := S71.blk
                          refine WpL_nil (Wp_ret ?_)
                          refine fin_agg Tryz.results83 (vs := [(.int .i64 t.kind), (.slice sa t.set.length sc), (.slice (some ⟨yb, yo, none⟩) t.args.length ac), (.int .i64 t.mn), (.int .i64 t.mx), (.bool t.neg)]) (b := bo) rfl agg25 siz25 rfl (Bo.cells rfl) ?_
                          refine ⟨⟨_, rfl, ?_⟩, E⟩
                          have hN : normT t = .mk t.kind t.set (normTs t.args) t.mn t.mx t.neg := by rw [normT_eq, hy, normN_56 (by omega), if_neg (by simp at c1; omega), if_neg (by simp at c2; omega), if_neg c3, if_neg (by simp at c5; omega)]
                          rw [hN]
                          exact re_ret hset9 (fun y hy => .inl hy) hrs9 hC9 hne hmo
              · have kh6 := h6
                replace h6 := of_decide_eq_false h6
                refine Wp_seq_region ?_
                refine qV (r_eql rfl rfl) ?_
                refine qA _ rfl ?_
                refine WpL_nil ?_
                refine Wp_cond rfl (fun h8 => ?_) (fun h8 => ?_)
                · have kh8 := h8
                  replace h8 := of_decide_eq_true h8
                  have hl1 : t.args.length = 1 := okRe_one hok (by omega)
                  obtain ⟨y, hy⟩ : ∃ y, normTs t.args = [y] := by have := normTs_len t.args; rw [hl1] at this; exact List.length_eq_one_iff.1 this
                  have hoky : okRe y := ok_normTs t.args (okRe_args hok) y (by rw [hy]; simp)
                  have hrs2 := nst_end (NSt.ext hst E5) hac
                  rw [← normTs_map, hy] at hrs2
                  obtain ⟨yb, yo, hyaa, hyc⟩ := hrs2.cells (by omega)
                  subst hyaa
                  obtain ⟨ys, hcy, hry⟩ := hyc 0 y rfl
                  have hry0 := hry
                  obtain ⟨ysa, ysc, yaa, yac, rfl, _, _, hya⟩ := hry.form
                  rcases Bool.eq_false_or_eq_true (decide ((y.kind : Int) = 8)) with hy8 | hy8
                  · have khy8 := hy8
                    replace khy8 := of_decide_eq_true khy8
                    have hyl : y.args.length = 1 := okRe_one hoky (by omega)
                    obtain ⟨zb, zo, _, hzaa, hzr⟩ := hya.resolve_left (fun h => by rw [h] at hyl; simp at hyl)
                    subst hzaa
                    obtain ⟨z, hzz⟩ := get_of_lt (l := y.args) (i := 0) (by omega)
                    obtain ⟨zs, hcz, hrz⟩ := ResIn.get hzr hzz
                    have hrz0 := hrz
                    obtain ⟨zsa, zsc, zaa, zac, rfl, _, _, _⟩ := hrz.form
                    refine Wp_seq_region ?_
                    refine qF br 0 2 rfl Tryz.underlying25 rfl siz23 rfl ?_
                    refine qV (r_load rfl flat23 (Br.cell rfl)) ?_
                    refine qV (r_indexSlice (b := yb) (o := yo) (len := t.args.length) (cap := ac) (i := 0) (o' := yo + 0 * 6) rfl rfl rfl Tryz.underlying23 siz25 (by omega) (by omega)) ?_
                    refine qV (r_loadAgg rfl agg25 siz25 rfl (hcy)) ?_
                    refine s_allocStore (v := (.agg (R6 y ysa ysc (some ⟨zb, zo, none⟩) yac))) (c := (R6 y ysa ysc (some ⟨zb, zo, none⟩) yac)) (n := 6) (by decide) zer25 rfl siz25 rfl rfl rfl (by simp [Value.oneCell']) ?_
                    intro bq wq Nq
                    have Fq := Nq.ge E
                    have Fq_E5 := Nq.ge E5
                    have Oq_br := Nq.lt Br
                    have Oq_bo := Nq.lt Bo
                    have Oq_b6 := Nq.lt B6
                    have Oq_b7 := Nq.lt B7
                    replace Br := Nq.keep Br
                    replace Bo := Nq.keep Bo
                    replace B6 := Nq.keep B6
                    replace B7 := Nq.keep B7
                    replace hry0 := ReIn.ext Nq.ext y hry0
                    replace hrz0 := ReIn.ext Nq.ext z hrz0
                    replace hcz := CellsAt.ext hcz Nq.ext
                    replace E := E.ext Nq.ext
                    have Bq := Nq.blk
                    replace E5 := E5.ext Nq.ext
                    refine WpL_nil (Wp_seq_region ?_)
                    refine qF bq 0 0 rfl Tryz.underlying25 rfl siz3 rfl ?_
                    refine qV (r_load rfl flat3 (Bq.cell rfl)) ?_
                    refine qV (r_eql rfl rfl) ?_
                    refine WpL_nil ?_
                    refine Wp_cond_true (congrArg Value.bool hy8) ?_
                    refine Wp_seq_region ?_
                    refine qF bq 0 2 rfl Tryz.underlying25 rfl siz23 rfl ?_
                    refine qV (r_load rfl flat23 (Bq.cell rfl)) ?_
                    refine qV (r_indexSlice (b := zb) (o := zo) (len := y.args.length) (cap := yac) (i := 0) (o' := zo + 0 * 6) rfl rfl rfl Tryz.underlying23 siz25 (by omega) (by omega)) ?_
                    refine qV (r_loadAgg rfl agg25 siz25 rfl (hcz)) ?_
                    have hC9 : Chg (fun y => y = bo) (wq) (wq) := Chg.refl _ _
                    refine s_storeAgg (b := bo) (o := 0) (c' := (R6 z zsa zsc zaa zac)) rfl rfl (by simp [Value.oneCell']) siz25 rfl Bo (by first | (simp; done) | exact Nat.le_of_ble_eq_true rfl) rfl ?_
                    intro w73 S73
                    replace hC9 := S73.chg
                    replace Br := S73.keep (by omega) Br
                    replace B6 := S73.keep (by omega) B6
                    replace B7 := S73.keep (by omega) B7
                    replace Bq := S73.keep (by omega) Bq
                    replace E := S73.step E (by first | exact Or.inl (by omega) | exact Or.inr rfl | exact Or.inr (by assumption) | exact Or.inr (by simp) | exact Or.inr (by omega) | exact Or.inr (by dsimp only; omega))
                    replace Bo := S73.blk
                    refine WpL_nil (Wp_ret (inB_ret (thn_ret ?_)))
                    refine fin_agg Tryz.results83 (vs := [(.int .i64 z.kind), (.slice zsa z.set.length zsc), (.slice zaa z.args.length zac), (.int .i64 z.mn), (.int .i64 z.mx), (.bool z.neg)]) (b := bo) rfl agg25 siz25 rfl (Bo.cells rfl) ?_
                    refine ⟨⟨_, rfl, ?_⟩, E⟩
                    have hN : normT t = z := by rw [normT_eq, hy, normN_8 h8, if_pos khy8, headD_get hzz]
                    rw [hN]
                    exact ReIn.mono hmo _ (ReIn.chg hC9 hne _ hrz0)
                  · have khy8 := hy8
                    replace khy8 := of_decide_eq_false khy8
                    refine Wp_seq_region ?_
                    refine qF br 0 2 rfl Tryz.underlying25 rfl siz23 rfl ?_
                    refine qV (r_load rfl flat23 (Br.cell rfl)) ?_
                    refine qV (r_indexSlice (b := yb) (o := yo) (len := t.args.length) (cap := ac) (i := 0) (o' := yo + 0 * 6) rfl rfl rfl Tryz.underlying23 siz25 (by omega) (by omega)) ?_
                    refine qV (r_loadAgg rfl agg25 siz25 rfl (hcy)) ?_
                    have hC9 : Chg (fun y => y = bo) (w9) (w9) := Chg.refl _ _
                    have hset9 := SlIn.chg hset E (fun y hy => hz y hy)
                    have hrs9 := nst_end (NSt.ext hst E5) hac
                    rw [← normTs_map] at hrs9
                    refine s_allocStore (v := (.agg (R6 y ysa ysc yaa yac))) (c := (R6 y ysa ysc yaa yac)) (n := 6) (by decide) zer25 rfl siz25 rfl rfl rfl (by simp [Value.oneCell']) ?_
                    intro bq wq Nq
                    have Fq := Nq.ge E
                    have Oq_br := Nq.lt Br
                    have Oq_bo := Nq.lt Bo
                    have Oq_b6 := Nq.lt B6
                    have Oq_b7 := Nq.lt B7
                    replace Br := Nq.keep Br
                    replace Bo := Nq.keep Bo
                    replace B6 := Nq.keep B6
                    replace B7 := Nq.keep B7
                    replace hry0 := ReIn.ext Nq.ext y hry0
                    replace hset9 := SlIn.chg hset9 Nq.ext (fun _ _ f => f)
                    replace hrs9 := RsIn.ext hrs9 Nq.ext
                    replace E := E.ext Nq.ext
                    have Bq := Nq.blk
                    refine WpL_nil (Wp_seq_region ?_)
                    refine qF bq 0 0 rfl Tryz.underlying25 rfl siz3 rfl ?_
                    refine qV (r_load rfl flat3 (Bq.cell rfl)) ?_
                    refine qV (r_eql rfl rfl) ?_
                    refine WpL_nil ?_
                    refine Wp_cond_false (congrArg Value.bool hy8) ?_
                    refine Wp_skip (inB_normal (thn_normal (Wp_seq_region ?_)))
                    refine qV (r_loadAgg (vs := [(I6 t.kind), (.slice sa t.set.length sc), (.slice (some ⟨yb, yo, none⟩) t.args.length ac), (I6 t.mn), (I6 t.mx), (.bool t.neg)]) rfl agg25 siz25 rfl (Br.cells rfl)) ?_
                    refine s_storeAgg (b := bo) (o := 0) (c' := (R6 t sa sc (some ⟨yb, yo, none⟩) ac)) rfl rfl (by simp [Value.oneCell']) siz25 rfl Bo (by first | (simp; done) | exact Nat.le_of_ble_eq_true rfl) rfl ?_
                    intro w74 S74
                    replace hC9 := S74.chg
                    replace Br := S74.keep (by omega) Br
                    replace B6 := S74.keep (by omega) B6
                    replace B7 := S74.keep (by omega) B7
                    replace Bq := S74.keep (by omega) Bq
                    replace E := S74.step E (by first | exact Or.inl (by omega) | exact Or.inr rfl | exact Or.inr (by assumption) | exact Or.inr (by simp) | exact Or.inr (by omega) | exact Or.inr (by dsimp only; omega))
                    replace Bo := S74.blk
                    refine WpL_nil (Wp_ret ?_)
                    refine fin_agg Tryz.results83 (vs := [(.int .i64 t.kind), (.slice sa t.set.length sc), (.slice (some ⟨yb, yo, none⟩) t.args.length ac), (.int .i64 t.mn), (.int .i64 t.mx), (.bool t.neg)]) (b := bo) rfl agg25 siz25 rfl (Bo.cells rfl) ?_
                    refine ⟨⟨_, rfl, ?_⟩, E⟩
                    have hN : normT t = .mk t.kind t.set (normTs t.args) t.mn t.mx t.neg := by rw [normT_eq, hy, normN_8 h8, if_neg khy8]
                    rw [hN]
                    exact re_ret hset9 (fun y hy => .inl hy) hrs9 hC9 hne hmo
                · have kh8 := h8
                  replace h8 := of_decide_eq_false h8
                  refine Wp_seq_region ?_
                  refine qV (r_eql rfl rfl) ?_
                  refine qA _ rfl ?_
                  refine WpL_nil ?_
                  refine Wp_cond rfl (fun h10 => ?_) (fun h10 => ?_)
                  · have kh10 := h10
                    replace h10 := of_decide_eq_true h10
                    have hl1 : t.args.length = 1 := okRe_one hok (by omega)
                    obtain ⟨y, hy⟩ : ∃ y, normTs t.args = [y] := by have := normTs_len t.args; rw [hl1] at this; exact List.length_eq_one_iff.1 this
                    have hoky : okRe y := ok_normTs t.args (okRe_args hok) y (by rw [hy]; simp)
                    have hrs2 := nst_end (NSt.ext hst E5) hac
                    rw [← normTs_map, hy] at hrs2
                    obtain ⟨yb, yo, hyaa, hyc⟩ := hrs2.cells (by omega)
                    subst hyaa
                    obtain ⟨ys, hcy, hry⟩ := hyc 0 y rfl
                    have hry0 := hry
                    obtain ⟨ysa, ysc, yaa, yac, rfl, _, _, hya⟩ := hry.form
                    refine Wp_seq_region ?_
                    refine qF br 0 2 rfl Tryz.underlying25 rfl siz23 rfl ?_
                    refine qV (r_load rfl flat23 (Br.cell rfl)) ?_
                    refine qV (r_indexSlice (b := yb) (o := yo) (len := t.args.length) (cap := ac) (i := 0) (o' := yo + 0 * 6) rfl rfl rfl Tryz.underlying23 siz25 (by omega) (by omega)) ?_
                    refine qV (r_loadAgg rfl agg25 siz25 rfl (hcy)) ?_
                    refine s_allocStore (v := (.agg (R6 y ysa ysc yaa yac))) (c := (R6 y ysa ysc yaa yac)) (n := 6) (by decide) zer25 rfl siz25 rfl rfl rfl (by simp [Value.oneCell']) ?_
                    intro bq wq Nq
                    have Fq := Nq.ge E
                    have Fq_E5 := Nq.ge E5
                    have Oq_br := Nq.lt Br
                    have Oq_bo := Nq.lt Bo
                    have Oq_b6 := Nq.lt B6
                    have Oq_b7 := Nq.lt B7
                    replace Br := Nq.keep Br
                    replace Bo := Nq.keep Bo
                    replace B6 := Nq.keep B6
                    replace B7 := Nq.keep B7
                    replace hry0 := ReIn.ext Nq.ext y hry0
                    replace E := E.ext Nq.ext
                    have Bq := Nq.blk
                    replace E5 := E5.ext Nq.ext
                    refine WpL_nil (Wp_block (Wp_seq (Wp_seq_region ?_)))
                    refine qF bq 0 0 rfl Tryz.underlying25 rfl siz3 rfl ?_
                    refine qV (r_load rfl flat3 (Bq.cell rfl)) ?_
                    obtain ⟨e76, he76⟩ : ∃ e, (decide ((y.kind : Int) = 1)) = e := ⟨_, rfl⟩
                    refine qV ((r_eql rfl rfl).trans (by rw [he76]; try rfl)) ?_
                    refine qM _ rfl ?_
                    refine qG (.bool e76) (yU e76 (P6 br 5)) (by cases e76 <;> first | exact gA | exact gB | exact .inl ⟨rfl, r_fieldAddr rfl Tryz.underlying25 rfl siz4 rfl⟩) ?_
                    refine qG (.bool e76) (yU e76 (.bool t.neg)) (by cases e76 <;> first | exact gA | exact gB | exact .inl ⟨rfl, r_load rfl flat4 (Br.cell rfl)⟩) ?_
                    obtain ⟨e77, he77⟩ : ∃ e, (e76 && t.neg) = e := ⟨_, rfl⟩
                    refine qV (r_pick (v := .bool e77) rfl (by rw [← he77]; cases e76 <;> rfl)) ?_
                    refine qA _ rfl ?_
                    refine WpL_nil ?_
                    subst he77
                    subst he76
                    refine Wp_cond rfl (fun c1 => ?_) (fun c1 => ?_)
                    · have kc1 := c1
                      refine Wp_skip (thn_normal ?_)
                      refine Wp_cond_true (congrArg Value.bool kc1) ?_
                      refine Wp_seq_region ?_
                      refine qV (r_loadAgg (vs := [(I6 0), (.slice none 0 0), (.slice none 0 0), (I6 0), (I6 0), (.bool false)]) rfl agg25 siz25 rfl (B7.cells rfl)) ?_
                      refine s_storeAgg (b := bo) (o := 0) (c' := #[(I6 0), (.slice none 0 0), (.slice none 0 0), (I6 0), (I6 0), (.bool false)]) rfl rfl (by simp [Value.oneCell']) siz25 rfl Bo (by first | (simp; done) | exact Nat.le_of_ble_eq_true rfl) rfl ?_
                      intro w79 S79
                      replace Br := S79.keep (by omega) Br
                      replace B6 := S79.keep (by omega) B6
                      replace B7 := S79.keep (by omega) B7
                      replace Bq := S79.keep (by omega) Bq
                      replace E := S79.step E (by first | exact Or.inl (by omega) | exact Or.inr rfl | exact Or.inr (by assumption) | exact Or.inr (by simp) | exact Or.inr (by omega) | exact Or.inr (by dsimp only; omega))
                      replace Bo := S79.blk
                      refine WpL_nil (Wp_ret (inB_ret (inB_ret (thn_ret ?_))))
                      refine fin_agg Tryz.results83 (vs := [(.int .i64 0), (.slice none 0 0), (.slice none 0 0), (.int .i64 0), (.int .i64 0), (.bool false)]) (b := bo) rfl agg25 siz25 rfl (Bo.cells rfl) ?_
                      refine ⟨⟨_, rfl, ?_⟩, E⟩
                      have hN : normT t = noneT := by rw [normT_eq, hy, normN_10 h10, if_pos (by simp at c1; exact .inl c1)]
                      rw [hN]
                      exact re_empty _ _ _
                    · have kc1 := c1
                      refine Wp_region ?_
                      refine qF bq 0 0 rfl Tryz.underlying25 rfl siz3 rfl ?_
                      refine qV (r_load rfl flat3 (Bq.cell rfl)) ?_
                      obtain ⟨e80, he80⟩ : ∃ e, (decide ((y.kind : Int) = 0)) = e := ⟨_, rfl⟩
                      refine qV ((r_eql rfl rfl).trans (by rw [he80]; try rfl)) ?_
                      refine qM _ rfl ?_
                      refine qG (.bool e80) (yU e80 (P6 br 5)) (by cases e80 <;> first | exact gA | exact gB | exact .inl ⟨rfl, r_fieldAddr rfl Tryz.underlying25 rfl siz4 rfl⟩) ?_
                      refine qG (.bool e80) (yU e80 (.bool t.neg)) (by cases e80 <;> first | exact gA | exact gB | exact .inl ⟨rfl, r_load rfl flat4 (Br.cell rfl)⟩) ?_
                      obtain ⟨e81, he81⟩ : ∃ e, (!t.neg) = e := ⟨_, rfl⟩
                      refine qG (.bool e80) (yU e80 (.bool e81)) (by cases e80 <;> first | exact gA | exact gB | exact .inl ⟨rfl, (r_not rfl).trans (by rw [he81]; try rfl)⟩) ?_
                      obtain ⟨e82, he82⟩ : ∃ e, (e80 && e81) = e := ⟨_, rfl⟩
                      refine qV (r_pick (v := .bool e82) rfl (by rw [← he82]; cases e80 <;> rfl)) ?_
                      refine qA _ rfl ?_
                      refine WpL_nil ?_
                      subst he82
                      subst he81
                      subst he80
                      refine thn_normal ?_
                      refine Wp_cond rfl (fun c2 => ?_) (fun c2 => ?_)
                      · have kc2 := c2
                        refine Wp_seq_region ?_
                        refine qV (r_loadAgg (vs := [(I6 0), (.slice none 0 0), (.slice none 0 0), (I6 0), (I6 0), (.bool false)]) rfl agg25 siz25 rfl (B7.cells rfl)) ?_
                        refine s_storeAgg (b := bo) (o := 0) (c' := #[(I6 0), (.slice none 0 0), (.slice none 0 0), (I6 0), (I6 0), (.bool false)]) rfl rfl (by simp [Value.oneCell']) siz25 rfl Bo (by first | (simp; done) | exact Nat.le_of_ble_eq_true rfl) rfl ?_
                        intro w84 S84
                        replace Br := S84.keep (by omega) Br
                        replace B6 := S84.keep (by omega) B6
                        replace B7 := S84.keep (by omega) B7
                        replace Bq := S84.keep (by omega) Bq
                        replace E := S84.step E (by first | exact Or.inl (by omega) | exact Or.inr rfl | exact Or.inr (by assumption) | exact Or.inr (by simp) | exact Or.inr (by omega) | exact Or.inr (by dsimp only; omega))
                        replace Bo := S84.blk
                        refine WpL_nil (Wp_ret (inB_ret (inB_ret (thn_ret ?_))))
                        refine fin_agg Tryz.results83 (vs := [(.int .i64 0), (.slice none 0 0), (.slice none 0 0), (.int .i64 0), (.int .i64 0), (.bool false)]) (b := bo) rfl agg25 siz25 rfl (Bo.cells rfl) ?_
                        refine ⟨⟨_, rfl, ?_⟩, E⟩
                        have hN : normT t = noneT := by rw [normT_eq, hy, normN_10 h10, if_pos (by simp at c2; exact .inr c2)]
                        rw [hN]
                        exact re_empty _ _ _
                      · have kc2 := c2
                        refine Wp_seq (Wp_seq_region ?_)
                        refine qF bq 0 0 rfl Tryz.underlying25 rfl siz3 rfl ?_
                        refine qV (r_load rfl flat3 (Bq.cell rfl)) ?_
                        refine qV (r_eql rfl rfl) ?_
                        refine qA _ rfl ?_
                        refine WpL_nil ?_
                        refine Wp_cond rfl (fun c3 => ?_) (fun c3 => ?_)
                        · have kc3 := c3
                          replace c3 := of_decide_eq_true c3
                          refine Wp_skip (thn_normal ?_)
                          refine Wp_cond_true (congrArg Value.bool kc3) ?_
                          refine Wp_seq_region ?_
                          refine qV (r_loadAgg (vs := [(I6 1), (.slice none 0 0), (.slice none 0 0), (I6 0), (I6 0), (.bool false)]) rfl agg25 siz25 rfl (B6.cells rfl)) ?_
                          refine s_storeAgg (b := bo) (o := 0) (c' := #[(I6 1), (.slice none 0 0), (.slice none 0 0), (I6 0), (I6 0), (.bool false)]) rfl rfl (by simp [Value.oneCell']) siz25 rfl Bo (by first | (simp; done) | exact Nat.le_of_ble_eq_true rfl) rfl ?_
                          intro w86 S86
                          replace Br := S86.keep (by omega) Br
                          replace B6 := S86.keep (by omega) B6
                          replace B7 := S86.keep (by omega) B7
                          replace Bq := S86.keep (by omega) Bq
                          replace E := S86.step E (by first | exact Or.inl (by omega) | exact Or.inr rfl | exact Or.inr (by assumption) | exact Or.inr (by simp) | exact Or.inr (by omega) | exact Or.inr (by dsimp only; omega))
                          replace Bo := S86.blk
                          refine WpL_nil (Wp_ret (inB_ret (inB_ret (thn_ret ?_))))
                          refine fin_agg Tryz.results83 (vs := [(.int .i64 1), (.slice none 0 0), (.slice none 0 0), (.int .i64 0), (.int .i64 0), (.bool false)]) (b := bo) rfl agg25 siz25 rfl (Bo.cells rfl) ?_
                          refine ⟨⟨_, rfl, ?_⟩, E⟩
                          have hN : normT t = emptyT := by rw [normT_eq, hy, normN_10 h10, if_neg (by simp at c1 c2; rintro (h | h); exact absurd h.2 (by simpa using c1 h.1); exact absurd h.2 (by simpa using c2 h.1)), if_pos (.inl c3)]
                          rw [hN]
                          exact re_empty _ _ _
                        · have kc3 := c3
                          replace c3 := of_decide_eq_false c3
                          refine Wp_region ?_
                          refine qF bq 0 0 rfl Tryz.underlying25 rfl siz3 rfl ?_
                          refine qV (r_load rfl flat3 (Bq.cell rfl)) ?_
                          refine qV (r_eql rfl rfl) ?_
                          refine qA _ rfl ?_
                          refine WpL_nil (thn_normal ?_)
                          refine Wp_cond rfl (fun c4 => ?_) (fun c4 => ?_)
                          · have kc4 := c4
                            replace c4 := of_decide_eq_true c4
                            refine Wp_seq_region ?_
                            refine qV (r_loadAgg (vs := [(I6 1), (.slice none 0 0), (.slice none 0 0), (I6 0), (I6 0), (.bool false)]) rfl agg25 siz25 rfl (B6.cells rfl)) ?_
                            refine s_storeAgg (b := bo) (o := 0) (c' := #[(I6 1), (.slice none 0 0), (.slice none 0 0), (I6 0), (I6 0), (.bool false)]) rfl rfl (by simp [Value.oneCell']) siz25 rfl Bo (by first | (simp; done) | exact Nat.le_of_ble_eq_true rfl) rfl ?_
                            intro w88 S88
                            replace Br := S88.keep (by omega) Br
                            replace B6 := S88.keep (by omega) B6
                            replace B7 := S88.keep (by omega) B7
                            replace Bq := S88.keep (by omega) Bq
                            replace E := S88.step E (by first | exact Or.inl (by omega) | exact Or.inr rfl | exact Or.inr (by assumption) | exact Or.inr (by simp) | exact Or.inr (by omega) | exact Or.inr (by dsimp only; omega))
                            replace Bo := S88.blk
                            refine WpL_nil (Wp_ret (inB_ret (inB_ret (thn_ret ?_))))
                            refine fin_agg Tryz.results83 (vs := [(.int .i64 1), (.slice none 0 0), (.slice none 0 0), (.int .i64 0), (.int .i64 0), (.bool false)]) (b := bo) rfl agg25 siz25 rfl (Bo.cells rfl) ?_
                            refine ⟨⟨_, rfl, ?_⟩, E⟩
                            have hN : normT t = emptyT := by rw [normT_eq, hy, normN_10 h10, if_neg (by simp at c1 c2; rintro (h | h); exact absurd h.2 (by simpa using c1 h.1); exact absurd h.2 (by simpa using c2 h.1)), if_pos (.inr c4)]
                            rw [hN]
                            exact re_empty _ _ _
                          · have kc4 := c4
                            replace c4 := of_decide_eq_false c4
                            have hC9 : Chg (fun y => y = bo) (wq) (wq) := Chg.refl _ _
                            have hset9 := SlIn.chg hset E (fun y hy => hz y hy)
                            have hrs9 := nst_end (NSt.ext hst E5) hac
                            rw [← normTs_map] at hrs9
                            refine Wp_skip (inB_normal (inB_normal (thn_normal (Wp_seq_region ?_))))
                            refine qV (r_loadAgg (vs := [(I6 t.kind), (.slice sa t.set.length sc), (.slice (some ⟨yb, yo, none⟩) t.args.length ac), (I6 t.mn), (I6 t.mx), (.bool t.neg)]) rfl agg25 siz25 rfl (Br.cells rfl)) ?_
                            refine s_storeAgg (b := bo) (o := 0) (c' := (R6 t sa sc (some ⟨yb, yo, none⟩) ac)) rfl rfl (by simp [Value.oneCell']) siz25 rfl Bo (by first | (simp; done) | exact Nat.le_of_ble_eq_true rfl) rfl ?_
                            intro w89 S89
                            replace hC9 := S89.chg
                            replace Br := S89.keep (by omega) Br
                            replace B6 := S89.keep (by omega) B6
                            replace B7 := S89.keep (by omega) B7
                            replace Bq := S89.keep (by omega) Bq
                            replace E := S89.step E (by first | exact Or.inl (by omega) | exact Or.inr rfl | exact Or.inr (by assumption) | exact Or.inr (by simp) | exact Or.inr (by omega) | exact Or.inr (by dsimp only; omega))
                            replace Bo := S89.blk
                            refine WpL_nil (Wp_ret ?_)
                            refine fin_agg Tryz.results83 (vs := [(.int .i64 t.kind), (.slice sa t.set.length sc), (.slice (some ⟨yb, yo, none⟩) t.args.length ac), (.int .i64 t.mn), (.int .i64 t.mx), (.bool t.neg)]) (b := bo) rfl agg25 siz25 rfl (Bo.cells rfl) ?_
                            refine ⟨⟨_, rfl, ?_⟩, E⟩
                            have hN : normT t = .mk t.kind t.set (normTs t.args) t.mn t.mx t.neg := by rw [normT_eq, hy, normN_10 h10, if_neg (by simp at c1 c2; rintro (h | h); exact absurd h.2 (by simpa using c1 h.1); exact absurd h.2 (by simpa using c2 h.1)), if_neg (by omega)]
                            rw [hN]
                            exact re_ret hset9 (fun y hy => .inl hy) hrs9 hC9 hne hmo
                  · have kh10 := h10
                    replace h10 := of_decide_eq_false h10
                    have hC9 : Chg (fun y => y = bo) (w9) (w9) := Chg.refl _ _
                    have hset9 := SlIn.chg hset E (fun y hy => hz y hy)
                    have hrs9 := nst_end (NSt.ext hst E5) hac
                    rw [← normTs_map] at hrs9
                    refine Wp_skip (inB_normal (thn_normal (Wp_seq_region ?_)))
                    refine qV (r_loadAgg (vs := [(I6 t.kind), (.slice sa t.set.length sc), (.slice aa t.args.length ac), (I6 t.mn), (I6 t.mx), (.bool t.neg)]) rfl agg25 siz25 rfl (Br.cells rfl)) ?_
                    refine s_storeAgg (b := bo) (o := 0) (c' := (R6 t sa sc aa ac)) rfl rfl (by simp [Value.oneCell']) siz25 rfl Bo (by first | (simp; done) | exact Nat.le_of_ble_eq_true rfl) rfl ?_
                    intro w90 S90
                    replace hC9 := S90.chg
                    replace Br := S90.keep (by omega) Br
                    replace B6 := S90.keep (by omega) B6
                    replace B7 := S90.keep (by omega) B7
                    replace E := S90.step E (by first | exact Or.inl (by omega) | exact Or.inr rfl | exact Or.inr (by assumption) | exact Or.inr (by simp) | exact Or.inr (by omega) | exact Or.inr (by dsimp only; omega))
                    replace Bo := S90.blk
                    refine WpL_nil (Wp_ret ?_)
                    refine fin_agg Tryz.results83 (vs := [(.int .i64 t.kind), (.slice sa t.set.length sc), (.slice aa t.args.length ac), (.int .i64 t.mn), (.int .i64 t.mx), (.bool t.neg)]) (b := bo) rfl agg25 siz25 rfl (Bo.cells rfl) ?_
                    refine ⟨⟨_, rfl, ?_⟩, E⟩
                    have hN : normT t = .mk t.kind t.set (normTs t.args) t.mn t.mx t.neg := by rw [normT_eq, normN_else _ (by omega)]
                    rw [hN]
                    exact re_ret hset9 (fun y hy => .inl hy) hrs9 hC9 hne hmo
end Go.Proofs
namespace Go.Proofs
open Go Go.Eng Go.Sort
set_option maxRecDepth 100000
theorem foldT_eq (cl : Sps → Sps) (t : Re) : foldT cl t = .mk t.kind (if t.kind = 2 then cl t.set else t.set) (t.args.map (foldT cl)) t.mn t.mx t.neg := by
 cases t; simp only [foldT, foldTs_map, Re.kind, Re.set, Re.args, Re.mn, Re.mx, Re.neg]; rfl
theorem mid_get {pre vs post : List Value} {po i : Nat} {v : Value} (h : pre.length = po) (hv : vs[i]? = some v) : (pre ++ vs ++ post).toArray[po + i]? = some v := by
 have hi := lt_of_get hv
 rw [List.getElem?_toArray, List.append_assoc, List.getElem?_append_right (by omega), show po + i - pre.length = i by omega, List.getElem?_append_left hi]
 exact hv
theorem mid_set {pre vs post : List Value} {po i : Nat} {v : Value} (h : pre.length = po) (hi : i < vs.length) : (pre ++ vs ++ post).set (po + i) v = pre ++ vs.set i v ++ post := by
 rw [List.append_assoc, List.set_append_right _ _ (by omega), show po + i - pre.length = i by omega, List.set_append_left _ _ hi, List.append_assoc]
theorem rows_mid : ∀ {rows : List (List Value)} {rest : List Value} {k : Nat} {xs : List Value}, rows[k]? = some xs → rows.flatten ++ rest = (rows.take k).flatten ++ xs ++ ((rows.drop (k + 1)).flatten ++ rest)
  | [], _, _, _, h => by simp at h
  | r :: rows, rest, 0, xs, h => by
    simp at h; subst h; simp
  | r :: rows, rest, k + 1, xs, h => by
    have := rows_mid (rows := rows) (rest := rest) (k := k) (xs := xs) (by simpa using h)
    simp only [List.flatten_cons, List.append_assoc, List.take_succ_cons, List.drop_succ_cons] at this ⊢
    rw [this]
theorem rows_put : ∀ {rows : List (List Value)} {rest : List Value} {k : Nat} {xs : List Value}, k < rows.length → (rows.take k).flatten ++ xs ++ ((rows.drop (k + 1)).flatten ++ rest) = (rows.set k xs).flatten ++ rest
  | [], _, _, _, h => by simp at h
  | r :: rows, rest, 0, xs, h => by simp
  | r :: rows, rest, k + 1, xs, h => by
    have := rows_put (rows := rows) (rest := rest) (k := k) (xs := xs) (by simpa using h)
    simp only [List.flatten_cons, List.append_assoc, List.take_succ_cons, List.drop_succ_cons, List.set_cons_succ] at this ⊢
    rw [this]
theorem NSt.chg {f : Re → Re} {Z L M : Nat → Prop} {n0 : Nat} {w w' : World} {aa : Option Addr} {args : List Re} {k : Nat} (h : NSt f Z L n0 w aa args k) (c : Chg M w w') (hm : ∀ y, Z y ∨ L y ∨ n0 ≤ y → ¬ M y) : NSt f Z L n0 w' aa args k := by
 rcases h with h | ⟨b, rows, rest, D, K, h1, h2, h3, h4, h5, h6, h7, h8, h9⟩
 ·exact .inl h
 ·exact .inr ⟨b, rows, rest, D, K, h1, h2, c.keep (hm b (.inr (.inl h2))) h3, RowsIn.chg c (fun y hy => hm y (by rcases hy with h | h | h; exact .inl h; exact .inr (.inl (h8 y h).1); exact .inr (.inr h))) h4, Trees.chg c (fun y hy => hm y (.inl hy)) _ (fun y hy => hm y (.inr (.inl (h9 y hy).1))) h5, h6, h7, h8, h9⟩
theorem nst_put {f : Re → Re} {Z L D K L1 K2 : Nat → Prop} {n0 b k : Nat} {w1 w3 : World} {args : List Re} {rows : List (List Value)} {rest : List Value} {x : Re} {vs' : List Value}
  (hz : ∀ y, Z y → ¬ L y) (hb : ∀ y, Z y ∨ L y → y < n0) (hLb : L b) (hx : args[k]? = some x)
  (hR : RowsIn (fun y => Z y ∨ D y ∨ n0 ≤ y) w1 ((args.take k).map f) (rows.take k)) (hT2 : Trees Z w1 (args.drop (k + 1)) (rows.drop (k + 1)) K2) (hl : rows.length = args.length) (h6 : ∀ r ∈ rows, r.length = 6)
  (hD : ∀ y, D y → L y ∧ y ≠ b ∧ ¬ K y) (hK : ∀ y, K y → L y ∧ y ≠ b) (h1 : ∀ y, L1 y → K y ∧ ¬ K2 y) (h2 : ∀ y, K2 y → K y)
  (C : Chg (fun y => y = b ∨ L1 y) w1 w3) (hv : ReIn (fun y => Z y ∨ L1 y ∨ n0 ≤ y) w3 (f x) vs') (P3 : Blk w3 b ((rows.set k vs').flatten ++ rest).toArray TRe) : NSt f Z L n0 w3 (some ⟨b, 0, none⟩) args (k + 1) := by
 have hk : k < args.length := lt_of_get hx
 have hbn := hb b (.inr hLb)
 have hLL : ∀ y, L1 y → L y := fun y hy => (hK y (h1 y hy).1).1
 refine .inr ⟨b, rows.set k vs', rest, fun y => D y ∨ L1 y, K2, rfl, hLb, P3, ?_, ?_, by simpa using hl, ?_, ?_, fun y hy => hK y (h2 y hy)⟩
 ·have e1 : (args.take (k + 1)).map f = (args.take k).map f ++ [f x] := by rw [List.take_add_one, hx]; simp
  have e2 : (rows.set k vs').take (k + 1) = rows.take k ++ [vs'] := by
   rw [List.take_add_one, List.take_set_of_le (Nat.le_refl _), List.getElem?_set_self (by omega)]; rfl
  rw [e1, e2]
  refine RowsIn.append (RowsIn.single ?_) ?_
  ·exact ReIn.mono (S := fun y => Z y ∨ L1 y ∨ n0 ≤ y) (fun y hy => by rcases hy with h | h | h; exact .inl h; exact .inr (.inl (.inr h)); exact .inr (.inr h)) _ hv
  ·refine RowsIn.mono (S := fun y => Z y ∨ D y ∨ n0 ≤ y) (fun y hy => by rcases hy with h | h | h; exact .inl h; exact .inr (.inl (.inl h)); exact .inr (.inr h)) (RowsIn.chg C (fun y hy he => ?_) hR)
   rcases he with he | he
   ·subst he
    rcases hy with h | h | h
    ·exact hz y h hLb
    ·exact (hD y h).2.1 rfl
    ·omega
   ·rcases hy with h | h | h
    ·exact hz y h (hLL y he)
    ·exact (hD y h).2.2 (h1 y he).1
    ·have := hb y (.inr (hLL y he)); omega
 ·have e3 : (rows.set k vs').drop (k + 1) = rows.drop (k + 1) := by rw [List.drop_set_of_lt (by omega)]
  rw [e3]
  refine Trees.chg C (fun y hy he => ?_) _ (fun y hy he => ?_) hT2
  ·rcases he with he | he
   ·subst he; exact hz y hy hLb
   ·exact hz y hy (hLL y he)
  ·rcases he with he | he
   ·exact (hK y (h2 y hy)).2 he
   ·exact (h1 y he).2 hy
 ·intro r hr
  rcases List.mem_or_eq_of_mem_set hr with h | h
  ·exact h6 r h
  ·rw [h]; exact hv.len
 ·intro y hy
  rcases hy with h | h
  ·exact ⟨(hD y h).1, (hD y h).2.1, fun h3 => (hD y h).2.2 (h2 y h3)⟩
  ·exact ⟨hLL y h, (hK y (h1 y h).1).2, (h1 y h).2⟩
/-- What is asked of fold.Close: sets of a kind are closed without error, in new memory. -/
def ClOk (cl : Sps → Sps) (p : Re → Prop) : Prop := ∀ (w : World) (u : Value) (t : Re), t.kind = 2 → p t → SpansAt w u t.set → Ret Tryz.prog 91 #[u] w fun r w' => (∃ a c, r = .tuple #[.slice a (cl t.set).length c, .int .i64 0] ∧ SlIn (fun y => w.heap.size ≤ y) w' 2 (.slice a (cl t.set).length c) ((cl t.set).map spanV)) ∧ Ext w w'
theorem allRes_get {p : Re → Prop} {ts : List Re} (h : allRes p ts) {i : Nat} {x : Re} (hx : ts[i]? = some x) : allRe p x := by
  induction ts generalizing i with
  | nil => simp at hx
  | cons t ts ih =>
    simp only [allRes] at h
    cases i with
    | zero => simp at hx; subst hx; exact h.1
    | succ i => exact ih h.2 (by simpa using hx)
theorem allRe_at {p : Re → Prop} {t : Re} (h : allRe p t) : p t ∧ allRes p t.args := by cases t; simp only [allRe] at h; exact h
theorem fold_ret {S : Nat → Prop} {w : World} {cl : Sps → Sps} {t : Re} {ca aa : Option Addr} {cc ac : Nat} (hs : SlIn S w 2 (.slice ca (if t.kind = 2 then cl t.set else t.set).length cc) ((if t.kind = 2 then cl t.set else t.set).map spanV)) (hr : RsIn S w (.slice aa t.args.length ac) (t.args.map (foldT cl))) :
  ReIn S w (foldT cl t) [.int .i64 t.kind, .slice ca (if t.kind = 2 then cl t.set else t.set).length cc, .slice aa t.args.length ac, .int .i64 t.mn, .int .i64 t.mx, .bool t.neg] := by
 obtain ⟨aa', ac', h1, h2, h3⟩ := hr
 simp only [List.length_map, Value.slice.injEq, true_and] at h1
 obtain ⟨rfl, rfl⟩ := h1
 rw [foldT_eq]
 have h4 := ReIn.of (S := S) (w := w) (k := t.kind) (set := if t.kind = 2 then cl t.set else t.set) (args := t.args.map (foldT cl)) (mn := t.mn) (mx := t.mx) (ng := t.neg) hs h2 h3
 rw [List.length_map] at h4
 exact h4
set_option maxHeartbeats 4000000 in
theorem folded_c {cl : Sps → Sps} {p : Re → Prop} (hcl : ClOk cl p) : ∀ (n : Nat) (t : Re) (w0 : World) (vs pre post : List Value) (Z L : Nat → Prop) (pb po T : Nat), t.size ≤ n → t.size ≤ 1000000 → allRe p t → Tree Z w0 t vs L → Blk w0 pb (pre ++ vs ++ post).toArray T → pre.length = po → ¬ Z pb → ¬ L pb → (∀ y, Z y → ¬ L y) → (∀ y, Z y ∨ L y → y < w0.heap.size) →
    Ret Tryz.prog 54 #[.pointer (some ⟨pb, po, none⟩)] w0 fun r w => (r = .int .i64 0 ∧ ∃ vs', Blk w pb (pre ++ vs' ++ post).toArray T ∧ ReIn (fun y => Z y ∨ L y ∨ w0.heap.size ≤ y) w (foldT cl t) vs') ∧ Chg (fun y => y = pb ∨ L y) w0 w := by
  intro n
  induction n with
  | zero => intro t w0 vs pre post Z L pb po T hn; have := t.size_pos; omega
  | succ n ih =>
  intro t w0 vs pre post Z L pb po T hn hM hall hT hB hpo hZp hLp hz hb
  obtain ⟨sa, sc, aa, ac, rfl, hset, hac, hta⟩ := hT.form
  have hal := len_sizes t.args
  have hsze := t.size_eq
  have hpb := hB.lt
  obtain ⟨hp1, hp2⟩ := allRe_at hall
  obtain ⟨n0, hn0⟩ : ∃ n0, n0 = w0.heap.size := ⟨_, rfl⟩
  rw [← hn0] at hb ⊢
  have hst : NSt (foldT cl) Z L n0 w0 aa t.args 0 := nst_start hta
  have hsetN : SlIn (fun y => Z y ∨ n0 ≤ y) w0 2 (.slice sa t.set.length sc) (t.set.map spanV) := hset.mono fun y h => .inl h
  have hne : ∀ y, Z y ∨ L y ∨ n0 ≤ y → ¬ y = pb := by
    rintro y (h | h | h) rfl
    · exact hZp h
    · exact hLp h
    · omega
  refine Ret_of Tryz.func54 rfl Tryz.ntmps54 (Nat.le_of_ble_eq_true rfl) ?_
  have E : Chg (fun y => y = pb ∨ L y) w0 w0 := Chg.refl _ _
  refine Wp_seq_region ?_
  refine qA (I6 0) rfl ?_
  refine WpL_nil ?_
  refine Wp_cut (fun σ W1 => ∃ (ca : Option Addr) (cc : Nat), (∃ jj_, σ = upds jj_ [(0, (P6 pb po))]) ∧ Chg (fun y => y = pb ∨ L y) w0 W1 ∧ Blk W1 pb ((pre ++ [Value.int .i64 t.kind, .slice ca (if t.kind = 2 then cl t.set else t.set).length cc, .slice aa t.args.length ac, .int .i64 t.mn, .int .i64 t.mx, .bool t.neg] ++ post).toArray) T ∧ (SlIn (fun y => Z y ∨ n0 ≤ y) W1 2 (.slice ca (if t.kind = 2 then cl t.set else t.set).length cc) ((if t.kind = 2 then cl t.set else t.set).map spanV)) ∧ (NSt (foldT cl) Z L n0 W1 aa t.args 0)) ?_ ?_
  · skip
    refine Wp_seq_region ?_
    refine qM (P6 pb po) rfl ?_
    refine qV (r_nilCheck (a := ⟨pb, po, none⟩) rfl) ?_
    refine qF pb po po rfl Tryz.underlying25 rfl siz3 rfl ?_
    refine qV (r_load (v := (I6 t.kind)) rfl flat3 (hB.cell (mid_get (i := 0) hpo rfl))) ?_
    refine qV (r_eql (k := .i64) (a := t.kind) (b := 2) rfl rfl) ?_
    refine WpL_nil ?_
    refine Wp_cond (b := decide ((t.kind : Int) = 2)) rfl (fun hk => ?_) (fun hk => ?_)
    · have khk := hk
      replace hk := of_decide_eq_true hk
      refine Wp_seq_region ?_
      refine qM (P6 pb po) rfl ?_
      refine qV (r_nilCheck (a := ⟨pb, po, none⟩) rfl) ?_
      refine qF pb po (po + 1) rfl Tryz.underlying25 rfl siz22 rfl ?_
      refine qV (r_load (v := (.slice sa t.set.length sc)) rfl flat22 (hB.cell (mid_get (i := 1) hpo rfl))) ?_
      refine WpL_enter rfl rfl (by decide) (r_callF (vs := [(.slice sa t.set.length sc)]) Tryz.func91 nm91 bd91 rfl) (hcl _ _ t hk hp1 (SlIn.at hsetN)) ?_
      rintro _ w9 ⟨⟨ca, cc, rfl, hcs⟩, X9⟩
      replace hB := X9.keep hB
      replace hst := NSt.ext hst X9
      replace hsetN := SlIn.chg hsetN X9 (fun _ _ f => f)
      replace E := E.ext X9
      have hcs2 : SlIn (fun y => Z y ∨ n0 ≤ y) w9 2 (.slice ca (cl t.set).length cc) ((cl t.set).map spanV) := hcs.mono fun y h => .inr (by have := E.size; omega)
      refine qM (.tuple #[(.slice ca ((cl t.set).length) cc), (I6 0)]) rfl ?_
      refine qV (r_extract (vs := #[(.slice ca ((cl t.set).length) cc), (I6 0)]) (v := (.slice ca ((cl t.set).length) cc)) rfl rfl) ?_
      refine qV (r_extract (vs := #[(.slice ca ((cl t.set).length) cc), (I6 0)]) (v := (I6 0)) rfl rfl) ?_
      refine qA (.slice ca ((cl t.set).length) cc) rfl ?_
      refine qA (I6 0) rfl ?_
      refine WpL_nil (Wp_seq (Wp_seq_region ?_))
      refine qM (I6 0) rfl ?_
      refine qV (r_neq (k := .i64) (a := 0) (b := 0) rfl rfl) ?_
      refine WpL_nil ?_
      refine Wp_cond_false rfl ?_
      refine Wp_skip (thn_normal (Wp_region ?_))
      refine qM (P6 pb po) rfl ?_
      refine qM (.slice ca ((cl t.set).length) cc) rfl ?_
      refine qV (r_nilCheck (a := ⟨pb, po, none⟩) rfl) ?_
      refine qF pb po (po + 1) rfl Tryz.underlying25 rfl siz22 rfl ?_
      refine s_store (b := pb) (o := po + 1) (c' := (pre ++ [Value.int .i64 t.kind, .slice ca (cl t.set).length cc, .slice aa t.args.length ac, .int .i64 t.mn, .int .i64 t.mx, .bool t.neg] ++ post).toArray) (v := (.slice ca ((cl t.set).length) cc)) rfl rfl rfl siz22 hB (by simp; omega) (by rw [List.setIfInBounds_toArray]; exact congrArg List.toArray (mid_set (i := 1) hpo (by simp))) ?_
      intro w3 S3
      replace hst := NSt.chg hst S3.chg (fun y hy hm => hne y hy hm)
      replace hcs2 := SlIn.chg hcs2 S3.chg (fun y hy hm => hne y (hy.imp_right .inr) hm)
      replace E := S3.step E (by first | exact Or.inl (by omega) | exact Or.inr rfl | exact Or.inr (by assumption) | exact Or.inr (by simp) | exact Or.inr (by omega) | exact Or.inr (by dsimp only; omega))
      replace hB := S3.blk
      have hB5 : Blk (w3) pb (pre ++ [Value.int .i64 t.kind, .slice ca (if t.kind = 2 then cl t.set else t.set).length cc, .slice aa t.args.length ac, .int .i64 t.mn, .int .i64 t.mx, .bool t.neg] ++ post).toArray T := by rw [if_pos hk]; exact hB
      refine WpL_nil (thn_normal ?_)
      exact ⟨ca, cc, Fits.out ⟨rfl, trivial⟩, E, hB5, (by simpa [hk] using hcs2), hst⟩
    · have khk := hk
      replace hk := of_decide_eq_false hk
      have hB5 : Blk (w0) pb (pre ++ [Value.int .i64 t.kind, .slice sa (if t.kind = 2 then cl t.set else t.set).length sc, .slice aa t.args.length ac, .int .i64 t.mn, .int .i64 t.mx, .bool t.neg] ++ post).toArray T := by rw [if_neg hk]; exact hB
      refine Wp_skip (thn_normal ?_)
      exact ⟨sa, sc, Fits.out ⟨rfl, trivial⟩, E, hB5, (by simpa [hk] using hsetN), hst⟩
  · clear E hB
    rintro _ W1 ⟨ca, cc, ⟨j1, rfl⟩, E, hB, hsN, hst⟩
    refine Wp_seq (Wp_seq_region ?_)
    refine qM (P6 pb po) rfl ?_
    refine qV (r_nilCheck (a := ⟨pb, po, none⟩) rfl) ?_
    refine qF pb po (po + 2) rfl Tryz.underlying25 rfl siz23 rfl ?_
    refine qV (r_load (v := (.slice aa t.args.length ac)) rfl flat23 (hB.cell (mid_get (i := 2) hpo rfl))) ?_
    refine qV (r_lenSlice (ad := aa) (n := t.args.length) (cap := ac) Tryz.underlying23 rfl) ?_
    refine qM (I6 0) rfl ?_
    refine WpL_nil (Wp_block ?_)
    refine Wp_loop (fun nn_ σ W4 => ∃ (k : Nat), (∃ jj_, σ = upds jj_ [(0, (P6 pb po)), (31, (I6 (t.args.length : Int))), (32, (I6 (k : Int)))]) ∧ Chg (fun y => y = pb ∨ L y) w0 W4 ∧ Blk W4 pb ((pre ++ [Value.int .i64 t.kind, .slice ca (if t.kind = 2 then cl t.set else t.set).length cc, .slice aa t.args.length ac, .int .i64 t.mn, .int .i64 t.mx, .bool t.neg] ++ post).toArray) T ∧ (k ≤ t.args.length) ∧ (NSt (foldT cl) Z L n0 W4 aa t.args k) ∧ (SlIn (fun y => Z y ∨ n0 ≤ y) W4 2 (.slice ca (if t.kind = 2 then cl t.set else t.set).length cc) ((if t.kind = 2 then cl t.set else t.set).map spanV)) ∧ (n0 ≤ W4.heap.size) ∧ nn_ = t.args.length - k) (n := t.args.length - 0) ?_ ?_
    · exact ⟨0, Fits.out ⟨rfl, rfl, rfl, trivial⟩, E, hB, Nat.zero_le _, hst, hsN, (by have := E.size; omega), rfl⟩
    · clear E hB
      rintro _ _ W4 ⟨k, ⟨j4, rfl⟩, E, hB, hk, hst, hsN, hsz, rfl⟩
      refine Wp_seq_region ?_
      refine qV (r_lss (k := .i64) (a := (k : Int)) (b := (t.args.length : Int)) rfl rfl) ?_
      refine WpL_nil (Wp_seq ?_)
      refine Wp_cond (b := decide (((k : Int) : Int) < (t.args.length : Int))) rfl (fun hlt => ?_) (fun hlt => ?_)
      · have khlt := hlt
        replace hlt := of_decide_eq_true hlt
        obtain ⟨x, hx⟩ := get_of_lt (l := t.args) (i := k) (by omega)
        obtain ⟨b, rows, rest, D, K, haa, hLb, hBb, hR, hT, hl, h6, hD, hK⟩ := hst.resolve_left (fun h => by rw [h] at hx; simp at hx)
        have hbb := hb b (.inr hLb)
        rw [drop_cons hx] at hT
        simp only [Trees] at hT
        obtain ⟨xs, rs2, L1, K2, hrows, hTx, hT2, h1, h2⟩ := hT
        obtain ⟨hrx, rfl⟩ := drop_head hrows
        have hLL : ∀ y, L1 y → L y := fun y hy => (hK y (h1 y hy).1).1
        refine Wp_skip (thn_normal (Wp_seq (Wp_block (Wp_seq_region ?_))))
        refine qM (I6 (k : Int)) rfl ?_
        refine qA (I6 (k : Int)) rfl ?_
        refine WpL_nil (Wp_seq_region ?_)
        refine qM (P6 pb po) rfl ?_
        refine qV (r_nilCheck (a := ⟨pb, po, none⟩) rfl) ?_
        refine qF pb po (po + 2) rfl Tryz.underlying25 rfl siz23 rfl ?_
        refine qV (r_load (v := (.slice (some ⟨b, 0, none⟩) t.args.length ac)) rfl flat23 ((hB.cell (mid_get (i := 2) hpo rfl)).trans (by rw [haa]))) ?_
        refine qM (I6 (k : Int)) rfl ?_
        refine qV (r_indexSlice (b := b) (o := 0) (len := t.args.length) (cap := ac) (i := k) (o' := 0 + k * 6) rfl rfl rfl Tryz.underlying23 siz25 (by omega) (by omega)) ?_
        refine WpL_enter rfl rfl (by decide) (r_callF (vs := [(.pointer (some ⟨b, 0 + k * 6, none⟩))]) Tryz.func54 nm54 bd54 rfl) (ih x _ xs (rows.take k).flatten ((rows.drop (k + 1)).flatten ++ rest) Z L1 b (0 + k * 6) TRe (by have := Re.size_arg hx; omega) (by have := Re.size_arg hx; omega) (allRes_get hp2 hx) hTx (by rw [← rows_mid hrx]; exact hBb) (by rw [rows_len (k := 6) (fun r hr => h6 r (List.mem_of_mem_take hr)), List.length_take]; omega) (fun h => hz b h hLb) (fun h => (hK b (h1 b h).1).2 rfl) (fun y hy h => hz y hy (hLL y h)) (fun y hy => by have := hb y (hy.imp_right (hLL y)); omega)) ?_
        rintro _ w9 ⟨⟨rfl, vs', hB9, hv9⟩, C9⟩
        replace hB := C9.keep (fun h => by rcases h with h | h; exact hLp (h ▸ hLb); exact hLp (hLL _ h)) hB
        replace E := E.step C9 (fun q _ hq => .inr (by rcases hq with h | h; exact h ▸ hLb; exact hLL _ h))
        have hkr : k < rows.length := by omega
        rw [rows_put hkr] at hB9
        have hst9 := nst_put hz hb hLb hx hR hT2 hl h6 hD hK h1 h2 C9 (ReIn.mono (fun y hy => by rcases hy with h | h | h; exact .inl h; exact .inr (.inl h); exact .inr (.inr (by omega))) _ hv9) hB9
        rw [← haa] at hst9
        refine qA (I6 0) rfl ?_
        refine WpL_nil (Wp_seq_region ?_)
        refine qM (I6 0) rfl ?_
        refine qV (r_neq (k := .i64) (a := 0) (b := 0) rfl rfl) ?_
        refine WpL_nil ?_
        refine Wp_cond_false rfl ?_
        refine Wp_skip (inB_normal (thn_normal (Wp_region ?_)))
        refine qV (r_add (k := .i64) (a := (k : Int)) (b := 1) (c := (k : Int) + 1) rfl rfl (wI64 (by omega))) ?_
        refine qM (I6 ((k : Int) + 1)) rfl ?_
        refine WpL_nil (thn_normal ?_)
        exact ⟨t.args.length - (k + 1), by omega, k + 1, Fits.out ⟨rfl, rfl, rfl, trivial⟩, E, hB, (by omega), hst9, SlIn.chg hsN C9 (fun y hy hm => by rcases hm with h | h; (rw [h] at hy; rcases hy with g | g; exact hz b g hLb; omega); (rcases hy with g | g; exact hz y g (hLL y h); have := hb y (.inr (hLL y h)); omega)), (by have := C9.size; omega), rfl⟩
      · have khlt := hlt
        replace hlt := of_decide_eq_false hlt
        have hkk : k = t.args.length := by omega
        subst hkk
        refine Wp_exit (thn_exit (thn_exit (inB_here (thn_normal (Wp_seq_region ?_)))))
        refine qA (I6 0) rfl ?_
        refine WpL_nil (Wp_ret ?_)
        refine fin_tmp Tryz.results54 (v := (.int .i64 0)) rfl ?_
        exact ⟨⟨rfl, _, hB, fold_ret (hsN.mono fun y h => h.imp_right .inr) (nst_end hst hac)⟩, E⟩
end Go.Proofs
namespace Go.Proofs
open Go Go.Eng Go.Sort
set_option maxRecDepth 100000
mutual
theorem ok_setsF : ∀ (t : Re), okRe t → setsOk t
  | .mk k set args mn mx ng, h => by
    have h1 := okRe_node h
    have h2 := okRe_form h
    have h3 := okRe_args h
    simp only [setsOk]
    refine ⟨?_, oks_setsF args h3⟩
    obtain ⟨ha, hb, hf⟩ := h2
    by_cases hk : k = 2
    · unfold nodeE at h1
      simp only [Re.kind] at ha hb
      rw [if_neg (by simp only [Re.kind]; omega), if_neg (by simp [hf]), if_pos (by simp only [Re.kind]; exact hk)] at h1
      split at h1
      · omega
      · rename_i hc
        simp only [Re.set] at hc
        unfold checkE at hc
        split at hc
        · omega
        · omega
    · simp only [formB, Bool.and_eq_true, Bool.or_eq_true, decide_eq_true_eq, Re.kind, Re.set] at hf
      have := hf.1.1.1.2.resolve_left (by simp [hk])
      simp at this
      rw [this]; simp
theorem oks_setsF : ∀ (ts : List Re), okRes ts → setsOks ts
  | [], _ => by simp only [setsOks]
  | t :: ts, h => by simp only [okRes] at h; simp only [setsOks]; exact ⟨ok_setsF t h.1, oks_setsF ts h.2⟩
end
set_option maxHeartbeats 2000000 in
theorem Fold_c {cl : Sps → Sps} {p : Re → Prop} (hcl : ClOk cl p) (w0 : World) (t : Re) (vs : List Value) (ht : ReAt w0 t vs) (hf0 : fitsE t 40 = 0) (hu : usesB [7, 8, 10] t = false) (hp : allRe p t) :
  Ret Tryz.prog 20 #[.agg vs.toArray] w0 fun v w => (∃ us, v = .tuple #[.agg us.toArray, .int .i64 0] ∧ ReAt w (foldT cl t) us) ∧ Ext w0 w := by
 have ht0 := ht
 obtain ⟨sa, sc, aa, ac, rfl, _, _, _⟩ := ht.form
 obtain ⟨hok, hsz⟩ := (fitsE_zero (by decide) (by decide)).1 hf0
 refine Ret_of Tryz.func20 rfl Tryz.ntmps20 (Nat.le_of_ble_eq_true rfl) ?_
 have E : Chg none1 w0 w0 := Chg.refl _ _
 refine Wp_seq_region ?_
 refine s_box (v := (.agg (R6 t sa sc aa ac))) (c := (R6 t sa sc aa ac)) (by decide) rfl rfl ?_
 intro br wr Nr
 have Fr := Nr.ge E
 replace E := E.ext Nr.ext
 have Br := Nr.blk
 refine s_alloc (c := #[(I6 0), (.slice none 0 0), (.slice none 0 0), (I6 0), (I6 0), (.bool false)]) (by decide) zer25 rfl ?_
 intro bo wo No
 have Fo := No.ge E
 have Oo_br := No.lt Br
 replace Br := No.keep Br
 replace E := E.ext No.ext
 have Bo := No.blk
 refine qA _ rfl ?_
 refine WpL_nil (Wp_seq (Wp_seq_region ?_))
 refine qV (r_loadAgg (vs := [(I6 t.kind), (.slice sa t.set.length sc), (.slice aa t.args.length ac), (I6 t.mn), (I6 t.mx), (.bool t.neg)]) rfl agg25 siz25 rfl (Br.cells rfl)) ?_
 refine WpL_enter rfl rfl (by decide) (r_callF Tryz.func8 nm8 bd8 rfl) ((check_c _ t _ (ReAt.ext E t ht0)).mono (R' := fun v w => v = .int .i64 0 ∧ Ext wo w) (fun v w h => ⟨by rw [h.1, hf0], h.2⟩)) ?_
 rintro _ w9 ⟨rfl, X9⟩
 replace Br := X9.keep Br
 replace Bo := X9.keep Bo
 replace E := E.ext X9
 refine qA _ rfl ?_
 refine WpL_nil (Wp_seq_region ?_)
 refine qM _ rfl ?_
 refine qV (r_neq rfl rfl) ?_
 refine WpL_nil ?_
 refine Wp_cond_false rfl ?_
 refine Wp_skip (thn_normal (Wp_seq (Wp_seq_region ?_)))
 refine qV (r_loadAgg (vs := [(I6 t.kind), (.slice sa t.set.length sc), (.slice aa t.args.length ac), (I6 t.mn), (I6 t.mx), (.bool t.neg)]) rfl agg25 siz25 rfl (Br.cells rfl)) ?_
 refine s_buildSlice (ps := [(0, (I6 7)), (1, (I6 8)), (2, (I6 10))]) (c := #[(I6 7), (I6 8), (I6 10)]) (by decide) rfl Tryz.underlying46 siz3 zer3 (by decide) (by decide) (by kernel_rfl) ?_
 intro bk wk Nk
 have Fk := Nk.ge E
 have Ok_br := Nk.lt Br
 have Ok_bo := Nk.lt Bo
 replace Br := Nk.keep Br
 replace Bo := Nk.keep Bo
 replace E := E.ext Nk.ext
 have Bk := Nk.blk
 refine WpL_enter rfl rfl (by decide) (r_callF Tryz.func15 nm15 bd15 rfl) ((uses_c _ t _ [7, 8, 10] _ (ReAt.ext E t ht0) (ints_of_blk [7, 8, 10] Bk (by simp) (by simp))).mono (R' := fun v w => v = .bool false ∧ Ext wk w) (fun v w h => ⟨by rw [h.1, hu], h.2⟩)) ?_
 rintro _ w19 ⟨rfl, X19⟩
 replace Br := X19.keep Br
 replace Bo := X19.keep Bo
 replace Bk := X19.keep Bk
 replace E := E.ext X19
 refine WpL_nil ?_
 refine Wp_cond_false rfl ?_
 refine Wp_skip (thn_normal (Wp_seq_region ?_))
 refine qV (r_loadAgg (vs := [(I6 t.kind), (.slice sa t.set.length sc), (.slice aa t.args.length ac), (I6 t.mn), (I6 t.mx), (.bool t.neg)]) rfl agg25 siz25 rfl (Br.cells rfl)) ?_
 obtain ⟨n1, hn1⟩ : ∃ n1, n1 = w19.heap.size := ⟨_, rfl⟩
 have hbo := Bo.lt
 have hbk := Bk.lt
 have hbr := Br.lt
 have hE1 : w0.heap.size ≤ w19.heap.size := E.size
 refine WpL_enter rfl rfl (by decide) (r_callF Tryz.func14 nm14 bd14 rfl) (copy_c t.size t _ _ (Nat.le_refl _) (by omega) (ok_setsF t hok) (ReAt.ext E t ht0)) ?_
 rintro _ w29 ⟨⟨us, Z, L, rfl, hTr, hZL, hnew⟩, X29⟩
 replace Br := X29.keep Br
 replace Bo := X29.keep Bo
 replace Bk := X29.keep Bk
 replace E := E.ext X29
 have hs29 := X29.size
 rw [← hn1] at hnew
 have hTr0 := hTr
 obtain ⟨sb, sd, ab, ad, rfl, _, _, _⟩ := hTr.form
 refine s_allocStore (v := (.agg (R6 t sb sd ab ad))) (c := (R6 t sb sd ab ad)) (n := 6) (by decide) zer25 rfl siz25 rfl rfl rfl (by simp [Value.oneCell']) ?_
 intro bf wf Nf
 have Ff := Nf.ge E
 have Of_br := Nf.lt Br
 have Of_bo := Nf.lt Bo
 have Of_bk := Nf.lt Bk
 replace Br := Nf.keep Br
 replace Bo := Nf.keep Bo
 replace Bk := Nf.keep Bk
 replace E := E.ext Nf.ext
 have Bf := Nf.blk
 refine WpL_nil (Wp_seq (Wp_seq_region ?_))
 refine WpL_enter rfl rfl (by decide) (r_callF Tryz.func54 nm54 bd54 rfl) (folded_c hcl t.size t _ _ [] [] Z L bf 0 _ (Nat.le_refl _) (by omega) hp (Tree.ext Nf.ext t hTr0) (by simpa using Bf) rfl (fun h => by have := (hnew bf (.inl h)).2; have := Nf.eq; omega) (fun h => by have := (hnew bf (.inr h)).2; have := Nf.eq; omega) hZL (fun y hy => by have := (hnew y hy).2; have := Nf.size; omega)) ?_
 rintro _ w39 ⟨⟨rfl, ws, hB9, hv9⟩, C39⟩
 replace Br := C39.keep (fun h => by rcases h with h | h; (have := Nf.eq; omega); (have := (hnew _ (.inr h)).1; omega)) Br
 replace Bo := C39.keep (fun h => by rcases h with h | h; (have := Nf.eq; omega); (have := (hnew _ (.inr h)).1; omega)) Bo
 replace Bk := C39.keep (fun h => by rcases h with h | h; (have := Nf.eq; omega); (have := (hnew _ (.inr h)).1; omega)) Bk
 replace E := E.step C39 (fun q hq h => by rcases h with h | h; (have := Nf.eq; omega); (have := (hnew q (.inr h)).1; omega))
 have hv8 := hv9
 obtain ⟨sx, sy, ax, ay, rfl, _, _, _⟩ := hv9.form
 rw [List.nil_append, List.append_nil] at hB9
 have hC8 : Chg (fun y => y = bo) (w39) (w39) := Chg.refl _ _
 refine qA _ rfl ?_
 refine WpL_nil (Wp_seq_region ?_)
 refine qM _ rfl ?_
 refine qV (r_neq rfl rfl) ?_
 refine WpL_nil ?_
 refine Wp_cond_false rfl ?_
 refine Wp_skip (thn_normal (Wp_seq_region ?_))
 refine qV (r_loadAgg (vs := [(I6 ((foldT cl t).kind)), (.slice sx ((foldT cl t).set.length) sy), (.slice ax ((foldT cl t).args.length) ay), (I6 ((foldT cl t).mn)), (I6 ((foldT cl t).mx)), (.bool ((foldT cl t).neg))]) rfl agg25 siz25 rfl (hB9.cells rfl)) ?_
 refine s_storeAgg (b := bo) (o := 0) (c' := #[(I6 ((foldT cl t).kind)), (.slice sx ((foldT cl t).set.length) sy), (.slice ax ((foldT cl t).args.length) ay), (I6 ((foldT cl t).mn)), (I6 ((foldT cl t).mx)), (.bool ((foldT cl t).neg))]) rfl rfl (by simp [Value.oneCell']) siz25 rfl Bo (by first | (simp; done) | exact Nat.le_of_ble_eq_true rfl) rfl ?_
 intro w1 S1
 replace hC8 := S1.chg
 replace Br := S1.keep (by omega) Br
 replace Bk := S1.keep (by omega) Bk
 replace hB9 := S1.keep (by omega) hB9
 replace E := S1.step E (by first | exact Or.inl (by omega) | exact Or.inr rfl | exact Or.inr (by assumption) | exact Or.inr (by simp) | exact Or.inr (by omega) | exact Or.inr (by dsimp only; omega))
 replace Bo := S1.blk
 refine qA _ rfl ?_
 refine WpL_nil (Wp_ret ?_)
 refine fin_agg_tmp Tryz.results20 (vs := [(.int .i64 ((foldT cl t).kind)), (.slice sx ((foldT cl t).set.length) sy), (.slice ax ((foldT cl t).args.length) ay), (.int .i64 ((foldT cl t).mn)), (.int .i64 ((foldT cl t).mx)), (.bool ((foldT cl t).neg))]) (b := bo) (v' := (.int .i64 0)) rfl agg25 siz25 rfl (Bo.cells rfl) rfl ?_
 refine ⟨⟨_, rfl, ReIn.at _ (ReIn.chg hC8 ?_ _ hv8)⟩, E⟩
 rintro y (h | h | h) he
 ·have he' : y = bo := he
  have := hnew y (.inl h); omega
 ·have he' : y = bo := he
  have := hnew y (.inr h); omega
 ·have he' : y = bo := he
  have := Nf.size; omega
end Go.Proofs
namespace Go.Proofs
open Go.Shelf
def Tryz.sortSp_ren : Go.Shelf.Ren := ⟨fun | 6 => 169 | 15 => 103 | 14 => 174 | 28 => 134 | 29 => 135 | 20 => 176 | 21 => 177 | 22 => 178 | 23 => 179 | 24 => 180 | 25 => 181 | 26 => 182 | 27 => 183 | 46 => 184 | 47 => 155 | 48 => 156 | 49 => 185 | 50 => 186 | 57 => 187 | n => n, fun | 22 => 22 | 24 => 67 | 25 => 147 | 3 => 3 | 39 => 113 | 0 => 0 | 53 => 143 | 55 => 145 | 4 => 4 | 46 => 136 | 45 => 135 | 50 => 140 | 5 => 5 | 9 => 9 | 66 => 157 | 70 => 161 | 76 => 171 | 77 => 172 | n => n, fun | n => n⟩
theorem Tryz.sortSp : Go.Proofs.SlLaysF0.n6 Tryz.prog Tryz.sortSp_ren := {
 mixed := by kernel_rfl
 f6 := ⟨Tryz.f169.name, by decide, Tryz.func169.trans (congrArg some (by kernel_rfl))⟩
 f14 := ⟨Tryz.f174.name, by decide, Tryz.func174.trans (congrArg some (by kernel_rfl))⟩
 f15 := Tryz.func103.trans (congrArg some (by kernel_rfl))
 f20 := ⟨Tryz.f176.name, by decide, Tryz.func176.trans (congrArg some (by kernel_rfl))⟩
 f21 := ⟨Tryz.f177.name, by decide, Tryz.func177.trans (congrArg some (by kernel_rfl))⟩
 f22 := ⟨Tryz.f178.name, by decide, Tryz.func178.trans (congrArg some (by kernel_rfl))⟩
 f23 := ⟨Tryz.f179.name, by decide, Tryz.func179.trans (congrArg some (by kernel_rfl))⟩
 f24 := ⟨Tryz.f180.name, by decide, Tryz.func180.trans (congrArg some (by kernel_rfl))⟩
 f25 := ⟨Tryz.f181.name, by decide, Tryz.func181.trans (congrArg some (by kernel_rfl))⟩
 f26 := ⟨Tryz.f182.name, by decide, Tryz.func182.trans (congrArg some (by kernel_rfl))⟩
 f27 := ⟨Tryz.f183.name, by decide, Tryz.func183.trans (congrArg some (by kernel_rfl))⟩
 f28 := Tryz.func134.trans (congrArg some (by kernel_rfl))
 f29 := Tryz.func135.trans (congrArg some (by kernel_rfl))
 f46 := ⟨Tryz.f184.name, by decide, Tryz.func184.trans (congrArg some (by kernel_rfl))⟩
 f47 := Tryz.func155.trans (congrArg some (by kernel_rfl))
 f48 := Tryz.func156.trans (congrArg some (by kernel_rfl))
 f49 := ⟨Tryz.f185.name, by decide, Tryz.func185.trans (congrArg some (by kernel_rfl))⟩
 f50 := ⟨Tryz.f186.name, by decide, Tryz.func186.trans (congrArg some (by kernel_rfl))⟩
 f57 := ⟨Tryz.f187.name, by decide, Tryz.func187.trans (congrArg some (by kernel_rfl))⟩
 t0 := Tryz.underlying0
 a0 := Tryz.isAgg0
 z0 := Tryz.sizeOf0
 v0 := Tryz.zeroValue0
 t3 := Tryz.underlying3
 a3 := Tryz.isAgg3
 z3 := Tryz.sizeOf3
 v3 := Tryz.zeroValue3
 t4 := Tryz.underlying4
 a4 := Tryz.isAgg4
 z4 := Tryz.sizeOf4
 v4 := Tryz.zeroValue4
 t5 := Tryz.underlying5
 a5 := Tryz.isAgg5
 z5 := Tryz.sizeOf5
 v5 := Tryz.zeroValue5
 t9 := Tryz.underlying9
 a9 := Tryz.isAgg9
 z9 := Tryz.sizeOf9
 v9 := Tryz.zeroValue9
 t22 := Tryz.underlying22
 a22 := Tryz.isAgg22
 z22 := Tryz.sizeOf22
 v22 := Tryz.zeroValue22
 t25 := Tryz.underlying147
 a25 := Tryz.isAgg147
 z25 := Tryz.sizeOf147
 v25 := Tryz.zeroValue147
 t39 := Tryz.underlying113
 a39 := Tryz.isAgg113
 z39 := Tryz.sizeOf113
 v39 := Tryz.zeroValue113
 t45 := Tryz.underlying135
 a45 := Tryz.isAgg135
 z45 := Tryz.sizeOf135
 v45 := Tryz.zeroValue135
 t46 := Tryz.underlying136
 a46 := Tryz.isAgg136
 z46 := Tryz.sizeOf136
 v46 := Tryz.zeroValue136
 t50 := Tryz.underlying140
 a50 := Tryz.isAgg140
 z50 := Tryz.sizeOf140
 v50 := Tryz.zeroValue140
 t53 := Tryz.underlying143
 a53 := Tryz.isAgg143
 z53 := Tryz.sizeOf143
 v53 := Tryz.zeroValue143
 t55 := Tryz.underlying145
 a55 := Tryz.isAgg145
 z55 := Tryz.sizeOf145
 v55 := Tryz.zeroValue145
 t66 := Tryz.underlying157
 a66 := Tryz.isAgg157
 z66 := Tryz.sizeOf157
 v66 := Tryz.zeroValue157
 t70 := Tryz.underlying161
 a70 := Tryz.isAgg161
 z70 := Tryz.sizeOf161
 v70 := Tryz.zeroValue161
 t76 := Tryz.underlying171
 a76 := Tryz.isAgg171
 z76 := Tryz.sizeOf171
 v76 := Tryz.zeroValue171
 t77 := Tryz.underlying172
 a77 := Tryz.isAgg172
 z77 := Tryz.sizeOf172
 v77 := Tryz.zeroValue172 }
def Tryz.sortI_ren : Go.Shelf.Ren := ⟨fun | 189 => 110 | 125 => 103 | 257 => 141 | 128 => 134 | 129 => 135 | 294 => 159 | 295 => 160 | 296 => 161 | 297 => 162 | 298 => 163 | 299 => 164 | 216 => 165 | 300 => 166 | 301 => 167 | 328 => 171 | 329 => 155 | 330 => 156 | 331 => 172 | 332 => 173 | 215 => 136 | 343 => 175 | n => n, fun | 28 => 46 | 3 => 3 | 46 => 113 | 0 => 0 | 51 => 143 | 53 => 145 | 4 => 4 | 183 => 136 | 182 => 135 | 131 => 140 | 5 => 5 | 9 => 9 | 218 => 157 | 222 => 161 | 228 => 171 | 229 => 172 | n => n, fun | n => n⟩
theorem Tryz.sortI : Go.Proofs.Lays.n189 Tryz.prog Tryz.sortI_ren := {
 mixed := by kernel_rfl
 f125 := Tryz.func103.trans (congrArg some (by kernel_rfl))
 f128 := Tryz.func134.trans (congrArg some (by kernel_rfl))
 f129 := Tryz.func135.trans (congrArg some (by kernel_rfl))
 f189 := Tryz.func110.trans (congrArg some (by kernel_rfl))
 f215 := Tryz.func136.trans (congrArg some (by kernel_rfl))
 f216 := Tryz.func165.trans (congrArg some (by kernel_rfl))
 f257 := Tryz.func141.trans (congrArg some (by kernel_rfl))
 f294 := Tryz.func159.trans (congrArg some (by kernel_rfl))
 f295 := Tryz.func160.trans (congrArg some (by kernel_rfl))
 f296 := Tryz.func161.trans (congrArg some (by kernel_rfl))
 f297 := Tryz.func162.trans (congrArg some (by kernel_rfl))
 f298 := Tryz.func163.trans (congrArg some (by kernel_rfl))
 f299 := Tryz.func164.trans (congrArg some (by kernel_rfl))
 f300 := Tryz.func166.trans (congrArg some (by kernel_rfl))
 f301 := Tryz.func167.trans (congrArg some (by kernel_rfl))
 f328 := Tryz.func171.trans (congrArg some (by kernel_rfl))
 f329 := Tryz.func155.trans (congrArg some (by kernel_rfl))
 f330 := Tryz.func156.trans (congrArg some (by kernel_rfl))
 f331 := Tryz.func172.trans (congrArg some (by kernel_rfl))
 f332 := Tryz.func173.trans (congrArg some (by kernel_rfl))
 f343 := Tryz.func175.trans (congrArg some (by kernel_rfl))
 t0 := Tryz.underlying0
 a0 := Tryz.isAgg0
 z0 := Tryz.sizeOf0
 v0 := Tryz.zeroValue0
 t3 := Tryz.underlying3
 a3 := Tryz.isAgg3
 z3 := Tryz.sizeOf3
 v3 := Tryz.zeroValue3
 t4 := Tryz.underlying4
 a4 := Tryz.isAgg4
 z4 := Tryz.sizeOf4
 v4 := Tryz.zeroValue4
 t5 := Tryz.underlying5
 a5 := Tryz.isAgg5
 z5 := Tryz.sizeOf5
 v5 := Tryz.zeroValue5
 t9 := Tryz.underlying9
 a9 := Tryz.isAgg9
 z9 := Tryz.sizeOf9
 v9 := Tryz.zeroValue9
 t28 := Tryz.underlying46
 a28 := Tryz.isAgg46
 z28 := Tryz.sizeOf46
 v28 := Tryz.zeroValue46
 t46 := Tryz.underlying113
 a46 := Tryz.isAgg113
 z46 := Tryz.sizeOf113
 v46 := Tryz.zeroValue113
 t51 := Tryz.underlying143
 a51 := Tryz.isAgg143
 z51 := Tryz.sizeOf143
 v51 := Tryz.zeroValue143
 t53 := Tryz.underlying145
 a53 := Tryz.isAgg145
 z53 := Tryz.sizeOf145
 v53 := Tryz.zeroValue145
 t131 := Tryz.underlying140
 a131 := Tryz.isAgg140
 z131 := Tryz.sizeOf140
 v131 := Tryz.zeroValue140
 t182 := Tryz.underlying135
 a182 := Tryz.isAgg135
 z182 := Tryz.sizeOf135
 v182 := Tryz.zeroValue135
 t183 := Tryz.underlying136
 a183 := Tryz.isAgg136
 z183 := Tryz.sizeOf136
 v183 := Tryz.zeroValue136
 t218 := Tryz.underlying157
 a218 := Tryz.isAgg157
 z218 := Tryz.sizeOf157
 v218 := Tryz.zeroValue157
 t222 := Tryz.underlying161
 a222 := Tryz.isAgg161
 z222 := Tryz.sizeOf161
 v222 := Tryz.zeroValue161
 t228 := Tryz.underlying171
 a228 := Tryz.isAgg171
 z228 := Tryz.sizeOf171
 v228 := Tryz.zeroValue171
 t229 := Tryz.underlying172
 a229 := Tryz.isAgg172
 z229 := Tryz.sizeOf172
 v229 := Tryz.zeroValue172 }
end Go.Proofs
namespace Go.Proofs
open Go Go.Eng Go.Sort
set_option maxRecDepth 100000
structure VSp where
 s : Sp
 ok : vSp s
instance : Inhabited VSp := ⟨⟨(0, 0), by unfold vSp; simp⟩⟩
def encV (s : VSp) : List Value := spanV s.s
theorem sortW_chg {α : Type} [Inhabited α] (enc : α → List Value) (k : Nat) (w : World) (g off m : Nat) (dk : Array α) (os : Array Obj) : Chg (fun x => x = g) w (sortWorldK enc k w g off m dk os) := by
 refine ⟨rfl, rfl, rfl, Nat.le_add_right _ _, ?_, fun b hb hne => ?_⟩
 ·simp [sortWorldK, grow, putRowK, putRow, mapBlock, ahead]
 ·simp only [sortWorldK, grow, putRowK, putRow, mapBlock, ahead]
  rw [Array.getElem?_append_left (by simpa using hb), Array.getElem?_modify, if_neg (fun h => hne h.symm)]; rfl
theorem own_holds {w : World} {base g n c : Nat} {d : List VSp} (h : w.ownsRow base TSp 2 (.slice (some ⟨g, 0, none⟩) n c) n ((d.map VSp.s).map spanV).flatten) (hn : d.length = n) : HoldsK encV 2 w g 0 d.toArray := by
 have hat : SpansAt w (.slice (some ⟨g, 0, none⟩) n c) (d.map VSp.s) := own_slat h (by intro x hx; simp only [List.mem_map] at hx; obtain ⟨p, _, rfl⟩ := hx; rfl) (by simpa using hn) (by decide)
 intro j hj
 rw [size_flatK] at hj
 simp only [List.size_toArray] at hj
 have hj2 : j / 2 < d.length := by omega
 obtain ⟨b, o, hab, hcl⟩ := spans_cells hat (by omega)
 simp only [Option.some.injEq, Addr.mk.injEq, and_true] at hab
 obtain ⟨rfl, rfl⟩ := hab
 have hx : (d.map VSp.s)[j / 2]? = some d[j / 2].s := by rw [List.getElem?_map, List.getElem?_eq_getElem hj2]; rfl
 have hc := hcl (j / 2) _ hx
 rw [get_flatK _ _ _ _ (by simpa using hj)]
 have he : d.toArray[j / 2]! = d[j / 2] := by rw [getElem!_pos d.toArray (j / 2) (by simpa using hj2)]; simp
 rw [he]
 constructor
 ·rcases Nat.mod_two_eq_zero_or_one j with h2 | h2
  ·have := hc.at0
   rw [h2]
   rw [show 0 + j / 2 * 2 = 0 + j from by omega] at this
   simpa [encV, spanV] using this
  ·have := hc.at1
   rw [h2]
   rw [show 0 + j / 2 * 2 + 1 = 0 + j from by omega] at this
   simpa [encV, spanV] using this
 ·rcases h.2 with ⟨h1, _⟩ | ⟨g', cap, cur, hv, _, hg, _⟩
  ·simp at h1
  ·simp only [Value.slice.injEq, Option.some.injEq, Addr.mk.injEq, and_true] at hv
   obtain ⟨rfl, _⟩ := hv
   simp [World.frozen?, hg]
theorem holds_spans {w : World} {g n c : Nat} {d : Array VSp} (h : HoldsK encV 2 w g 0 d) (hn : d.size = n) (hc : n ≤ c) (hl : n ≤ 8796093022208) : SpansAt w (.slice (some ⟨g, 0, none⟩) n c) (d.toList.map VSp.s) := by
  refine ⟨_, c, by simp [hn], by simp; omega, by simp; omega, .inr ⟨g, 0, rfl, fun i r hr j u hu => ?_⟩⟩
  simp only [List.getElem?_map, Option.map_eq_some_iff] at hr
  obtain ⟨s, ⟨x, hx, rfl⟩, rfl⟩ := hr
  have hi : i < d.size := by have := lt_of_get hx; simpa using this
  have hj : j < 2 := by have := lt_of_get hu; simpa [spanV] using this
  have h1 := (HoldsK.cell h hi hj).1
  have he : d[i]! = x := by
    rw [getElem!_pos d i hi]
    rw [Array.getElem?_toList, Array.getElem?_eq_getElem hi] at hx
    simpa using hx
  rw [h1, he]
  match j, hj, hu with
  | 0, _, hu => simpa [encV, spanV] using hu
  | 1, _, hu => simpa [encV, spanV] using hu
theorem enters_callee {P : Program} {f : FuncId} {fn : Func} (hf : P.funcs[f]? = some fn) (hn : (fn.name == "runtime.NumGoroutine") = false) (hb : fn.body.isNone = false) : ∀ args w, (callFunc f args).run P w = .ok (.enter f args) w := fun args w => run_callF (vs := args) (w := w) hf hn hb
theorem bitsLen_c (w0 : World) : Ret Tryz.prog 103 #[.int .u64 0] w0 fun v w => v = .int .i64 (Lib.bitLen 0 : Nat) ∧ Ext w0 w :=
 (Any.bits_Len (SlLaysF0.n15.bits (P := Tryz.prog) (ρ := Tryz.sortSp_ren) { Tryz.sortSp with }) 0 w0 (by omega) (by omega)).mono fun _ _ ⟨he, hw⟩ => ⟨_, he, rfl, by rw [hw]; exact Ext.refl _⟩
theorem ins0_c (w0 : World) (a : Option Addr) (c : Nat) (fv : Value) : Ret Tryz.prog 176 #[.slice a 0 c, .int .i64 0, .int .i64 0, fv] w0 fun v w => v = .tuple #[] ∧ Ext w0 w := by
 refine Ret_of Tryz.func176 rfl Tryz.ntmps176 (Nat.le_of_ble_eq_true rfl) ?_
 have E : Chg none1 w0 w0 := Chg.refl _ _
 refine Wp_seq_region ?_
 refine qM _ rfl ?_
 refine qV (r_add (c := 1) rfl rfl (by decide)) ?_
 refine qA _ rfl ?_
 refine WpL_nil (Wp_block ?_)
 refine Wp_loop (fun nn_ σ W1 => (∃ jj_, σ = upds jj_ [(0, (.slice a 0 c)), (1, (I6 0)), (2, (I6 0)), (3, fv), (8, (I6 1))]) ∧ Chg none1 w0 W1 ∧ nn_ = (0 : Nat)) (n := (0 : Nat)) ?_ ?_
 ·exact ⟨Fits.out ⟨rfl, rfl, rfl, rfl, rfl, trivial⟩, E, rfl⟩
 ·clear E
  rintro _ _ W1 ⟨⟨j1, rfl⟩, E, rfl⟩
  refine Wp_seq (Wp_seq_region ?_)
  refine qM _ rfl ?_
  refine qM _ rfl ?_
  refine qV (r_lss rfl rfl) ?_
  refine WpL_nil ?_
  refine Wp_cond_false rfl ?_
  refine Wp_exit (thn_exit (thn_exit (inB_here ?_)))
  refine fin_none Tryz.results176 ?_
  exact ⟨rfl, E⟩
theorem pdq0_c (w0 : World) (a : Option Addr) (c : Nat) (n : Int) (fv : Value) : Ret Tryz.prog 174 #[.slice a 0 c, .int .i64 0, .int .i64 0, .int .i64 n, fv] w0 fun v w => v = .tuple #[] ∧ Ext w0 w := by
 refine Ret_of Tryz.func174 rfl Tryz.ntmps174 (Nat.le_of_ble_eq_true rfl) ?_
 have E : Chg none1 w0 w0 := Chg.refl _ _
 refine Wp_seq_region ?_
 refine qA _ rfl ?_
 refine WpL_nil (Wp_seq_region ?_)
 refine qA _ rfl ?_
 refine WpL_nil (Wp_block ?_)
 refine Wp_loop (fun nn_ σ W1 => (∃ jj_, σ = upds jj_ [(0, (.slice a 0 c)), (1, (I6 0)), (2, (I6 0)), (4, fv)]) ∧ Chg none1 w0 W1 ∧ nn_ = (0 : Nat)) (n := (0 : Nat)) ?_ ?_
 ·exact ⟨Fits.out ⟨rfl, rfl, rfl, rfl, trivial⟩, E, rfl⟩
 ·clear E
  rintro _ _ W1 ⟨⟨j1, rfl⟩, E, rfl⟩
  refine Wp_block (Wp_seq_region ?_)
  refine qM _ rfl ?_
  refine qM _ rfl ?_
  refine qV (r_sub (c := 0) rfl rfl (by decide)) ?_
  refine qA _ rfl ?_
  refine WpL_nil (Wp_seq (Wp_seq_region ?_))
  refine qM _ rfl ?_
  refine qV (r_leq rfl rfl) ?_
  refine WpL_nil ?_
  refine Wp_cond_true rfl ?_
  refine Wp_seq_region ?_
  refine qM _ rfl ?_
  refine qM _ rfl ?_
  refine qM _ rfl ?_
  refine qM _ rfl ?_
  refine WpL_enter rfl rfl (by decide) (r_callF Tryz.func176 nm176 bd176 rfl) (ins0_c _ a c fv) ?_
  rintro _ w9 ⟨rfl, X9⟩
  replace E := E.ext X9
  refine WpL_nil (Wp_ret (thn_ret (inB_ret (thn_ret (inB_ret ?_)))))
  refine fin_noneR Tryz.results174 ?_
  exact ⟨rfl, E⟩
theorem sort0_c (w0 : World) (a : Option Addr) (c : Nat) (fv : Value) : Ret Tryz.prog 169 #[.slice a 0 c, fv] w0 fun v w => v = .tuple #[] ∧ Ext w0 w := by
 refine Ret_of Tryz.func169 rfl Tryz.ntmps169 (Nat.le_of_ble_eq_true rfl) ?_
 have E : Chg none1 w0 w0 := Chg.refl _ _
 refine Wp_seq_region ?_
 refine qM _ rfl ?_
 refine qV (r_lenSlice Tryz.underlying22 rfl) ?_
 refine qA _ rfl ?_
 refine WpL_nil (Wp_region ?_)
 refine qM _ rfl ?_
 refine qM _ rfl ?_
 refine qM _ rfl ?_
 refine qV (r_convInt (c := 0) ⟨_, Tryz.underlying3⟩ Tryz.underlying113 rfl (wU64 (by omega))) ?_
 refine WpL_enter rfl rfl (by decide) (r_callF Tryz.func103 nm103 bd103 rfl) (bitsLen_c _) ?_
 rintro _ w8 ⟨rfl, X8⟩
 replace E := E.ext X8
 refine qM _ rfl ?_
 refine WpL_enter rfl rfl (by decide) (r_callF Tryz.func174 nm174 bd174 rfl) (pdq0_c _ a c _ fv) ?_
 rintro _ w9 ⟨rfl, X9⟩
 replace E := E.ext X9
 refine WpL_nil ?_
 refine fin_none Tryz.results169 ?_
 exact ⟨rfl, E⟩
theorem sorts_c (cf : VSp → VSp → Int) (hO : SWO (ltOf cf)) {f : FuncId} {fn : Func} (hf : (Tryz.prog).funcs[f]? = some fn) (hn : (fn.name == "runtime.NumGoroutine") = false) (hb : fn.body.isNone = false)
  (hcmp : ∀ (W : World) (x y : VSp), Ret Tryz.prog f #[.agg #[.int .i64 x.s.1, .int .i64 x.s.2], .agg #[.int .i64 y.s.1, .int .i64 y.s.2]] W fun v w => v = .int .i64 (cf x y) ∧ Ext W w)
  (w0 : World) (base : Nat) (v : Value) (l : List Sp) (h : OwnS w0 base v l) (hl : l.length ≤ 8796093022208) (hok : ∀ s ∈ l, vSp s) :
  Ret Tryz.prog 169 #[v, .func (.func f) #[] #[]] w0 fun r w => r = .tuple #[] ∧ (∃ l' : List VSp, (l'.map VSp.s).Perm l ∧ l'.Pairwise (fun s t => ¬ cf t s < 0) ∧ SpansAt w v (l'.map VSp.s)) ∧ Chg (fun x => v.ownBlock = some x) w0 w := by
 have eg := enters_callee hf hn hb
 obtain ⟨d, rfl⟩ : ∃ d : List VSp, d.map VSp.s = l := ⟨l.pmap VSp.mk hok, by rw [List.map_pmap]; simp⟩
 have ht : ∀ w, (isAgg (Tryz.sortSp_ren.t 24)).run Tryz.prog w = .ok true w := fun w => aggB.run agg67 w
 have hs : ∀ w, (Go.sizeOf (Tryz.sortSp_ren.t 24)).run Tryz.prog w = .ok 2 w := fun w => siz67.run w
 rcases h.2.2 with ⟨rfl, h0⟩ | ⟨g, cap, cur, rfl, hbg, hg, hnc, hcm, hcs, htake⟩
 ·have hd : d = [] := List.eq_nil_of_length_eq_zero (by simpa using h0)
  subst hd
  exact (sort0_c w0 none 0 (.func (.func f) #[] #[])).mono fun v w' ⟨hv, hw⟩ => ⟨hv, ⟨[], List.Perm.refl _, List.Pairwise.nil, SlAt.nil _ _ _ _⟩, Ext.chg hw⟩
 ·simp only [List.length_map] at *
  have hH := own_holds (d := d) (n := d.length) (by have := h.2; rwa [List.length_map] at this) rfl
  have hblk : g < w0.heap.size := (Array.getElem?_eq_some_iff.1 hg).1
  have hc : CmpLays Tryz.prog f #[] encV 2 cf g 0 d.toArray.size w0 := fun m os dk _ x y => by
   refine Calls.mono (hcmp _ x y) ?_
   rintro e w' ⟨v, rfl, rfl, hx⟩
   obtain ⟨q, os', hw⟩ := Ext.grown hx
   exact ⟨rfl, q, os', hw⟩
  have hcon := AnyQ.slices_SortFunc Tryz.sortSp 2 ht hs encV (fun _ => rfl) (fun x u hu => by simp [encV, spanV] at hu; rcases hu with rfl | rfl <;> rfl) cf hO f #[] g 0 cap d.toArray w0 eg hc hH hblk (by simp; omega)
  refine Calls.mono hcon ?_
  rintro e w' ⟨rfl, d', n, os, hp, hso, rfl⟩
  have hsz : d'.size = d.length := by have := hp.1; simpa using this
  have hperm : d'.toList.Perm d := by
   have h3 := hp.2.2
   simp only [List.size_toArray] at h3
   rw [show d.length = d'.size from hsz.symm, Array.extract_size] at h3
   rw [hsz] at h3
   simpa using h3
  refine ⟨_, rfl, rfl, ⟨d'.toList, hperm.map _, ?_, ?_⟩, (sortW_chg encV 2 w0 g 0 n d' os).mono fun x _ hx => by subst hx; rfl⟩
  ·rw [List.pairwise_iff_getElem]
   intro i j hi hj hij
   have h4 := hso i j (Nat.zero_le _) hij (by simp at hj ⊢; omega)
   simp only [Array.length_toList] at hi hj
   rw [getElem!_pos d' i hi, getElem!_pos d' j hj] at h4
   simpa [ltOf] using h4
  ·exact holds_spans (holdsK_sortWorldK_c encV 2 w0 g 0 d.toArray d' n os hH hblk (by simpa using hsz)) hsz hnc hl
end Go.Proofs
namespace Go.Proofs
open Go Go.Eng Go.Sort
set_option maxRecDepth 100000
def orL : List Int → Int
  | [] => 0
  | x :: r => if x ≠ 0 then x else orL r
theorem sor_c (w0 : World) (v : Value) (l : List Int) (h : IntsAt w0 v l) : Ret Tryz.prog 104 #[v] w0 fun r w => r = .int .i64 (orL l) ∧ Ext w0 w := by
 obtain ⟨a, c, rfl⟩ := SlAt.form h
 have hlen : l.length ≤ 9223372036854775807 := by simpa using SlAt.le h
 simp only [List.length_map] at h ⊢
 refine Ret_of Tryz.func104 rfl Tryz.ntmps104 (Nat.le_of_ble_eq_true rfl) ?_
 have E : Chg none1 w0 w0 := Chg.refl _ _
 refine Wp_seq_region ?_
 refine qA _ rfl ?_
 refine WpL_nil (Wp_seq_region ?_)
 refine qA _ rfl ?_
 refine WpL_nil (Wp_seq (Wp_seq_region ?_))
 refine qM _ rfl ?_
 refine qV (r_lenSlice Tryz.underlying46 rfl) ?_
 refine qM _ rfl ?_
 refine WpL_nil (Wp_block ?_)
 refine Wp_loop (fun nn_ σ W1 => ∃ (k : Nat), (∃ jj_, σ = upds jj_ [(3, (I6 0)), (6, (.slice a l.length c)), (7, (I6 (l.length : Int))), (8, (I6 (k : Int)))]) ∧ Chg none1 w0 W1 ∧ (k ≤ l.length) ∧ (orL (l.drop k) = orL l) ∧ nn_ = l.length - k) (n := l.length - 0) ?_ ?_
 ·exact ⟨0, Fits.out ⟨rfl, rfl, rfl, rfl, trivial⟩, E, Nat.zero_le _, rfl, rfl⟩
 ·clear E
  rintro _ _ W1 ⟨k, ⟨j1, rfl⟩, E, hk, ho, rfl⟩
  refine Wp_seq_region ?_
  refine qV (r_lss rfl rfl) ?_
  refine WpL_nil (Wp_seq ?_)
  refine Wp_cond rfl (fun hlt => ?_) (fun hlt => ?_)
  ·have khlt := hlt
   replace hlt := of_decide_eq_true hlt
   obtain ⟨x, hx⟩ := get_of_lt (l := l) (i := k) (by omega)
   obtain ⟨b, o, rfl, hcl⟩ := ints_cells h (by omega)
   rw [drop_cons hx] at ho
   refine Wp_skip (thn_normal (Wp_seq (Wp_block (Wp_seq_region ?_))))
   refine qV (r_indexSlice (b := b) (o := o) (len := l.length) (cap := c) (i := k) (o' := o + k) rfl rfl rfl Tryz.underlying46 siz3 (by omega) (by omega)) ?_
   refine qV (r_load rfl flat3 (E.cell (fun f => f) (hcl k x hx))) ?_
   refine qA _ rfl ?_
   refine WpL_nil (Wp_seq_region ?_)
   refine qM _ rfl ?_
   refine qM _ rfl ?_
   refine qV (r_neq rfl rfl) ?_
   refine WpL_nil ?_
   refine Wp_cond rfl (fun hne => ?_) (fun hne => ?_)
   ·have khne := hne
    replace hne := of_decide_eq_true hne
    refine Wp_seq_region ?_
    refine qM _ rfl ?_
    refine qA _ rfl ?_
    refine WpL_nil (Wp_ret (inB_ret (thn_ret (thn_ret (inB_ret (thn_ret ?_))))))
    refine fin_tmp Tryz.results104 (v := (.int .i64 x)) rfl ?_
    exact ⟨int_eq (by rw [← ho, orL, if_pos hne]), E⟩
   ·have khne := hne
    replace hne := of_decide_eq_false hne
    refine Wp_skip (inB_normal (thn_normal (Wp_region ?_)))
    refine qV (r_add rfl rfl (wI64 (by omega))) ?_
    refine qM _ rfl ?_
    refine WpL_nil (thn_normal ?_)
    exact ⟨l.length - (k + 1), by omega, k + 1, Fits.out ⟨rfl, rfl, rfl, rfl, trivial⟩, E, (by omega), (by rw [← ho, orL, if_neg hne]), rfl⟩
  ·have khlt := hlt
   replace hlt := of_decide_eq_false hlt
   have hkk : k = l.length := by omega
   refine Wp_exit (thn_exit (thn_exit (inB_here (thn_normal (Wp_seq_region ?_)))))
   refine qM _ rfl ?_
   refine qA _ rfl ?_
   refine WpL_nil (Wp_ret ?_)
   refine fin_tmp Tryz.results104 (v := (.int .i64 0)) rfl ?_
   exact ⟨int_eq (by rw [← ho, hkk, List.drop_length]; rfl), E⟩
def ints2F (a b : Int) : Fct := fun v w => ∃ bb, v = .slice (some ⟨bb, 0, none⟩) 2 2 ∧ IntsAt w v [a, b]
theorem ints2F_ext (a b : Int) : Stable (ints2F a b) := by
 rintro v w w' e ⟨bb, h1, h2⟩
 exact ⟨bb, h1, h2.ext e⟩
theorem Does_ints2 {N : Nat} {σ : Env} {w : World} {dst : Option Tmp} {ty : TypeId} {pos : String} {af : Array Edge} {g : Option (Nat × Bool)} {x y : Operand} {a b : Int} (hx : ev σ x = .int .i64 a) (hy : ev σ y = .int .i64 b) :
  Does Tryz.prog N ⟨dst, .buildSlice 46 2 #[(0, x), (1, y)], ty, pos, af, g⟩ (ints2F a b) σ w := by
 have hn := New.mk' w #[.int .i64 a, .int .i64 b] 3
 refine Does_val (run_buildSlice (parts := [(0, x), (1, y)]) (ps := [(0, .int .i64 a), (1, .int .i64 b)]) (by simp only [List.map, hx, hy]) Tryz.underlying46 siz3 zer3 (by decide) (by decide) (by kernel_rfl)) hn.ext ?_
 exact ⟨_, rfl, ints_of_blk [a, b] hn.blk (by simp) (by simp)⟩
end Go.Proofs
namespace Go.Proofs
open Go Go.Eng Go.Sort
set_option maxRecDepth 100000
def cfS (x y : VSp) : Int := orL [cmpI x.s.1 y.s.1, cmpI x.s.2 y.s.2]
theorem cfS_c (w0 : World) (x y : VSp) : Ret Tryz.prog 138 #[.agg #[.int .i64 x.s.1, .int .i64 x.s.2], .agg #[.int .i64 y.s.1, .int .i64 y.s.2]] w0 fun v w => v = .int .i64 (cfS x y) ∧ Ext w0 w := by
 refine Ret_of Tryz.func138 rfl Tryz.ntmps138 (Nat.le_of_ble_eq_true rfl) ?_
 have E : Chg none1 w0 w0 := Chg.refl _ _
 refine Wp_seq_region ?_
 refine s_box (v := (.agg #[(I6 x.s.1), (I6 x.s.2)])) (c := #[(I6 x.s.1), (I6 x.s.2)]) (by decide) rfl rfl ?_
 intro b1 w1 N1
 have F1 := N1.ge E
 replace E := E.ext N1.ext
 have B1 := N1.blk
 refine s_box (v := (.agg #[(I6 y.s.1), (I6 y.s.2)])) (c := #[(I6 y.s.1), (I6 y.s.2)]) (by decide) rfl rfl ?_
 intro b2 w2 N2
 have F2 := N2.ge E
 have O2_b1 := N2.lt B1
 replace B1 := N2.keep B1
 replace E := E.ext N2.ext
 have B2 := N2.blk
 refine qA _ rfl ?_
 refine WpL_nil (Wp_seq ?_)
 obtain ⟨Fs3, hFs3⟩ : ∃ Fs : List Fact, Fs = [.eq (P6 b1 0), .eq (I6 x.s.1), .eq (P6 b2 0), .eq (I6 y.s.1), .eq (I6 (cmpI x.s.1 y.s.1)), .eq (P6 b1 1), .eq (I6 x.s.2), .eq (P6 b2 1), .eq (I6 y.s.2), .eq (I6 (cmpI x.s.2 y.s.2)), .gen (ints2F (cmpI x.s.1 y.s.1) (cmpI x.s.2 y.s.2)) (ints2F_ext _ _), .eq (I6 (cfS x y)), .eq (I6 (cfS x y))] := ⟨_, rfl⟩
 refine Wp_dag [5, 6, 7, 8, 9, 10, 11, 12, 13, 14, 15, 16, 4] [[], [0], [], [2], [1, 3], [], [5], [], [7], [4, 6, 8], [4, 9], [9, 10], [0, 1, 2, 3, 4, 5, 6, 7, 8, 9, 10, 11]] Fs3 hFs3 mixed (by kernel_rfl) (by kernel_rfl) ?_ ?_
 ·intro wd X0
  refine DagSteps.cons (fun s' w' X U H => Or.inl ⟨?_, ?_⟩) ?_
  ·exact Guarded_none rfl
  ·exact Does_val (r_fieldAddr (U 2 rfl) Tryz.underlying67 rfl siz3 rfl) (Ext.refl _) rfl
  refine DagSteps.cons (fun s' w' X U H => Or.inl ⟨?_, ?_⟩) ?_
  ·exact Guarded_none rfl
  ·have e5 : s' 5 = (.pointer (some ⟨b1, 0, none⟩)) := H 0 rfl 5 (.eq (.pointer (some ⟨b1, 0, none⟩))) rfl (by rw [hFs3]; rfl)
   exact Does_val (r_load e5 flat3 (((X0.trans X).keep B1).cell rfl)) (Ext.refl _) rfl
  refine DagSteps.cons (fun s' w' X U H => Or.inl ⟨?_, ?_⟩) ?_
  ·exact Guarded_none rfl
  ·exact Does_val (r_fieldAddr (U 3 rfl) Tryz.underlying67 rfl siz3 rfl) (Ext.refl _) rfl
  refine DagSteps.cons (fun s' w' X U H => Or.inl ⟨?_, ?_⟩) ?_
  ·exact Guarded_none rfl
  ·have e7 : s' 7 = (.pointer (some ⟨b2, 0, none⟩)) := H 2 rfl 7 (.eq (.pointer (some ⟨b2, 0, none⟩))) rfl (by rw [hFs3]; rfl)
   exact Does_val (r_load e7 flat3 (((X0.trans X).keep B2).cell rfl)) (Ext.refl _) rfl
  refine DagSteps.cons (fun s' w' X U H => Or.inl ⟨?_, ?_⟩) ?_
  ·exact Guarded_none rfl
  ·have e6 : s' 6 = (.int .i64 x.s.1) := H 1 rfl 6 (.eq (.int .i64 x.s.1)) rfl (by rw [hFs3]; rfl)
   have e8 : s' 8 = (.int .i64 y.s.1) := H 3 rfl 8 (.eq (.int .i64 y.s.1)) rfl (by rw [hFs3]; rfl)
   exact Does_enter (r_callF Tryz.func105 nm105 bd105 (lst2 e6 e8)) (compare_c _ _ _)
  refine DagSteps.cons (fun s' w' X U H => Or.inl ⟨?_, ?_⟩) ?_
  ·exact Guarded_none rfl
  ·exact Does_val (r_fieldAddr (U 2 rfl) Tryz.underlying67 rfl siz3 rfl) (Ext.refl _) rfl
  refine DagSteps.cons (fun s' w' X U H => Or.inl ⟨?_, ?_⟩) ?_
  ·exact Guarded_none rfl
  ·have e10 : s' 10 = (.pointer (some ⟨b1, 1, none⟩)) := H 5 rfl 10 (.eq (.pointer (some ⟨b1, 1, none⟩))) rfl (by rw [hFs3]; rfl)
   exact Does_val (r_load e10 flat3 (((X0.trans X).keep B1).cell rfl)) (Ext.refl _) rfl
  refine DagSteps.cons (fun s' w' X U H => Or.inl ⟨?_, ?_⟩) ?_
  ·exact Guarded_none rfl
  ·exact Does_val (r_fieldAddr (U 3 rfl) Tryz.underlying67 rfl siz3 rfl) (Ext.refl _) rfl
  refine DagSteps.cons (fun s' w' X U H => Or.inl ⟨?_, ?_⟩) ?_
  ·exact Guarded_none rfl
  ·have e12 : s' 12 = (.pointer (some ⟨b2, 1, none⟩)) := H 7 rfl 12 (.eq (.pointer (some ⟨b2, 1, none⟩))) rfl (by rw [hFs3]; rfl)
   exact Does_val (r_load e12 flat3 (((X0.trans X).keep B2).cell rfl)) (Ext.refl _) rfl
  refine DagSteps.cons (fun s' w' X U H => Or.inl ⟨?_, ?_⟩) ?_
  ·exact Guarded_none rfl
  ·have e11 : s' 11 = (.int .i64 x.s.2) := H 6 rfl 11 (.eq (.int .i64 x.s.2)) rfl (by rw [hFs3]; rfl)
   have e13 : s' 13 = (.int .i64 y.s.2) := H 8 rfl 13 (.eq (.int .i64 y.s.2)) rfl (by rw [hFs3]; rfl)
   exact Does_enter (r_callF Tryz.func105 nm105 bd105 (lst2 e11 e13)) (compare_c _ _ _)
  refine DagSteps.cons (fun s' w' X U H => Or.inl ⟨?_, ?_⟩) ?_
  ·exact Guarded_none rfl
  ·have e9 : s' 9 = (.int .i64 (cmpI x.s.1 y.s.1)) := H 4 rfl 9 (.eq (.int .i64 (cmpI x.s.1 y.s.1))) rfl (by rw [hFs3]; rfl)
   have e14 : s' 14 = (.int .i64 (cmpI x.s.2 y.s.2)) := H 9 rfl 14 (.eq (.int .i64 (cmpI x.s.2 y.s.2))) rfl (by rw [hFs3]; rfl)
   exact Does_ints2 e9 e14
  refine DagSteps.cons (fun s' w' X U H => Or.inl ⟨?_, ?_⟩) ?_
  ·exact Guarded_none rfl
  ·obtain ⟨b15, e15, i15⟩ := H 10 rfl 15 (.gen (ints2F (cmpI x.s.1 y.s.1) (cmpI x.s.2 y.s.2)) (ints2F_ext _ _)) rfl (by rw [hFs3]; rfl)
   exact Does_enter (r_callF Tryz.func104 nm104 bd104 (lst1 e15)) (sor_c _ _ _ (e15 ▸ i15))
  refine DagSteps.cons (fun s' w' X U H => Or.inl ⟨?_, ?_⟩) ?_
  ·exact Guarded_none rfl
  ·have e16 : s' 16 = (.int .i64 (cfS x y)) := H 11 rfl 16 (.eq (.int .i64 (cfS x y))) rfl (by rw [hFs3]; rfl)
   exact Does_val (r_assign e16) (Ext.refl _) rfl
  exact DagSteps.nil
 ·intro s' w3 X3 U H
  obtain ⟨j3, rfl⟩ := Fits.out (σ := s') (l := [(4, (.int .i64 (cfS x y)))]) ⟨(show s' 4 = (.int .i64 (cfS x y)) from H 12 4 (.eq (.int .i64 (cfS x y))) rfl (by rw [hFs3]; rfl)), trivial⟩
  clear U H
  replace B1 := X3.keep B1
  replace B2 := X3.keep B2
  replace E := E.ext X3
  refine thn_normal (Wp_ret ?_)
  refine fin_tmp Tryz.results138 (v := (.int .i64 (cfS x y))) rfl ?_
  exact ⟨rfl, E⟩
theorem cfS_lt (x y : VSp) : cfS x y < 0 ↔ x.s.1 < y.s.1 ∨ x.s.1 = y.s.1 ∧ x.s.2 < y.s.2 := by
 unfold cfS orL orL orL cmpI
 (repeat' split) <;> omega
theorem swoS : SWO (ltOf cfS) := by
 refine ⟨fun x => ?_, fun x y z => ?_, fun x y z => ?_⟩ <;> simp only [ltOf, decide_eq_true_eq, decide_eq_false_iff_not, cfS_lt] <;> omega
theorem sortC_c (w0 : World) (base : Nat) (v : Value) (l : List Sp) (h : OwnS w0 base v l) (hl : l.length ≤ 8796093022208) (hok : ∀ s ∈ l, vSp s) :
  Ret Tryz.prog 169 #[v, .func (.func 138) #[] #[]] w0 fun r w => r = .tuple #[] ∧ (∃ ls : List Sp, ls.Perm l ∧ ls.Pairwise (fun s t => s.1 ≤ t.1) ∧ SpansAt w v ls) ∧ Chg (fun x => v.ownBlock = some x) w0 w :=
 (sorts_c cfS swoS Tryz.func138 nm138 bd138 cfS_c w0 base v l h hl hok).mono fun r w ⟨h1, ⟨l', h2, h3, h4⟩, h5⟩ =>
  ⟨h1, ⟨_, h2, List.pairwise_map.2 (h3.imp fun {s t} hst => by rw [cfS_lt] at hst; omega), h4⟩, h5⟩
theorem own_write {w w' : World} {base e size n cap g i : Nat} {xs : List Value} {cur : Array Value} {v : Value} (h : w.ownsRow base e size (.slice (some ⟨g, 0, none⟩) n cap) n xs) (hB : Blk w g cur e) (hi : i < n * size) (hB' : Blk w' g (cur.setIfInBounds i v) e) : w'.ownsRow base e size (.slice (some ⟨g, 0, none⟩) n cap) n (xs.set i v) := by
 rcases h.2 with ⟨h1, _⟩ | ⟨g', cap', cur', hv, hbg, hg, hnc, hcm, hcs, htake⟩
 ·simp at h1
 ·simp only [Value.slice.injEq, Option.some.injEq, Addr.mk.injEq, and_true] at hv
  obtain ⟨rfl, _, rfl⟩ := hv
  unfold Blk at hB hB'
  rw [hB] at hg
  simp only [Option.some.injEq, Obj.cells.injEq, and_true] at hg
  obtain ⟨rfl, _⟩ := hg
  refine ⟨by simpa using h.1, .inr ⟨g, cap, _, rfl, hbg, hB', hnc, hcm, by simpa using hcs, ?_⟩⟩
  rw [← htake, Array.toList_setIfInBounds, List.take_set]
theorem own_blk {w : World} {base e size n cap g : Nat} {xs : List Value} (h : w.ownsRow base e size (.slice (some ⟨g, 0, none⟩) n cap) n xs) : ∃ cur, Blk w g cur e ∧ n * size ≤ cur.size := by
 rcases h.2 with ⟨h1, _⟩ | ⟨g', cap', cur', hv, hbg, hg, hnc, hcm, hcs, htake⟩
 ·simp at h1
 ·simp only [Value.slice.injEq, Option.some.injEq, Addr.mk.injEq, and_true] at hv
  obtain ⟨rfl, _, rfl⟩ := hv
  exact ⟨cur', hg, by rw [hcs]; exact Nat.mul_le_mul_right _ hnc⟩
theorem span_last (o : List Sp) (c : Sp) : ((o ++ [c]).map spanV).flatten[o.length * 2 + 1]? = some (.int .i64 c.2) := by
 rw [spanV_snoc, List.getElem?_append_right (by rw [spans_six]; omega), spans_six]
 rw [show o.length * 2 + 1 - o.length * 2 = 1 from by omega]; rfl
theorem span_set (o : List Sp) (c : Sp) (x : Int) : ((o ++ [c]).map spanV).flatten.set (o.length * 2 + 1) (.int .i64 x) = ((o ++ [(c.1, x)]).map spanV).flatten := by
 rw [spanV_snoc, spanV_snoc, List.set_append, if_neg (by rw [spans_six]; omega), spans_six, show o.length * 2 + 1 - o.length * 2 = 1 from by omega]; rfl
set_option maxHeartbeats 2000000 in
theorem join_c (w0 : World) (v : Value) (l : List Sp) (h : SpansAt w0 v l) (hl : l.length ≤ 8796093022208) (hok : ∀ s ∈ l, vSp s) :
  Ret Tryz.prog 152 #[v] w0 fun r w => (∃ out, JoinOf l out ∧ OwnS w w0.heap.size r out) ∧ Ext w0 w := by
 refine Ret_of Tryz.func152 rfl Tryz.ntmps152 (Nat.le_of_ble_eq_true rfl) ?_
 have E : Chg none1 w0 w0 := Chg.refl _ _
 refine Wp_seq_region ?_
 refine qA _ rfl ?_
 refine WpL_nil (Wp_seq_region ?_)
 refine qM v rfl ?_
 refine WpL_enter rfl rfl (by decide) (r_callF Tryz.func48 nm48 bd48 rfl) (clones_c _ v l h (by omega)) ?_
 rintro _ w9 ⟨⟨⟨a9, c9, rfl⟩, O9⟩, X9⟩
 replace E := E.ext X9
 refine qA _ rfl ?_
 refine WpL_nil (Wp_seq_region ?_)
 refine qM _ rfl ?_
 refine WpL_enter rfl rfl (by decide) (r_callF Tryz.func169 nm169 bd169 rfl) (sortC_c _ w0.heap.size (.slice a9 l.length c9) l ⟨⟨_, _, rfl⟩, O9⟩ (by omega) hok) ?_
 rintro _ w10 ⟨rfl, ⟨ls, hperm, hsort, hat⟩, C10⟩
 replace E := E.step C10 (fun x hx hm => absurd (O9.lt x hm).1 (by omega))
 have hlen : ls.length = l.length := hperm.length_eq
 have hokl : ∀ s ∈ ls, vSp s := fun s hs => hok s (hperm.mem_iff.1 hs)
 have hsz0 : w0.heap.size ≤ w10.heap.size := E.size
 obtain ⟨base, hbase⟩ : ∃ base, base = w10.heap.size := ⟨_, rfl⟩
 have E2 : Chg none1 w10 w10 := Chg.refl _ _
 refine WpL_nil (Wp_seq_region ?_)
 refine qA _ rfl ?_
 refine WpL_nil (Wp_seq (Wp_seq_region ?_))
 refine qM _ rfl ?_
 refine qV (r_lenSlice Tryz.underlying22 rfl) ?_
 refine qM _ rfl ?_
 refine WpL_nil (Wp_block ?_)
 refine Wp_loop (fun nn_ σ W1 => ∃ (k : Nat) (la : Option Addr) (lc : Nat) (m : Nat) (ou : List Sp), (∃ jj_, σ = upds jj_ [(11, (.slice a9 l.length c9)), (12, (I6 (l.length : Int))), (13, (I6 (k : Int))), (3, (.slice la m lc))]) ∧ Chg none1 w0 W1 ∧ Chg none1 w10 W1 ∧ (k ≤ l.length) ∧ (m = ou.length) ∧ (m ≤ k) ∧ (∀ s ∈ ou, 0 ≤ s.2 ∧ s.2 ≤ 1114111) ∧ ((ls.drop k).foldl jstep ou = joinF ls) ∧ (W1.ownsRow base TSp 2 (.slice la m lc) m (ou.map spanV).flatten) ∧ (base ≤ W1.heap.size) ∧ nn_ = l.length - k) (n := l.length - 0) ?_ ?_
 ·exact ⟨0, none, 0, 0, [], Fits.out ⟨rfl, rfl, rfl, rfl, trivial⟩, E, E2, Nat.zero_le _, rfl, Nat.le_refl _, (fun s hs => absurd hs List.not_mem_nil), rfl, World.ownsRow_nil _ _ _ _, (by omega), rfl⟩
 ·clear E E2
  rintro _ _ W1 ⟨k, la, lc, m, ou, ⟨j1, rfl⟩, E, E2, hk, hm, hlo, hvo, hou, hown, hbs, rfl⟩
  refine Wp_seq_region ?_
  refine qV (r_lss rfl rfl) ?_
  refine WpL_nil (Wp_seq ?_)
  refine Wp_cond rfl (fun hlt => ?_) (fun hlt => ?_)
  ·have khlt := hlt
   replace hlt := of_decide_eq_true hlt
   obtain ⟨s, hs⟩ := get_of_lt (l := ls) (i := k) (by omega)
   have hv := hokl s (List.mem_of_getElem? hs)
   unfold vSp at hv
   obtain ⟨b, o, hab, hcl⟩ := spans_cells hat (by omega)
   subst hab
   rw [drop_cons hs, List.foldl_cons] at hou
   have hown0 := hown
   refine Wp_skip (thn_normal (Wp_seq (Wp_block (Wp_seq_region ?_))))
   refine qV (r_indexSlice (b := b) (o := o) (len := l.length) (cap := c9) (i := k) (o' := o + k * 2) rfl rfl rfl Tryz.underlying22 siz67 (by omega) (by omega)) ?_
   refine qV (r_loadAgg rfl agg67 siz67 rfl ((hcl k s hs).ext E2)) ?_
   refine s_allocStore (v := (.agg #[(I6 s.1), (I6 s.2)])) (c := #[(I6 s.1), (I6 s.2)]) (n := 2) (by decide) zer67 rfl siz67 rfl rfl rfl (by simp [Value.oneCell']) ?_
   intro bq wq Nq
   have Fq := Nq.ge E
   have Fq_E2 := Nq.ge E2
   replace hown := own_ext hown Nq.ext
   replace hbs := Nat.le_trans hbs Nq.ext.size
   replace E := E.ext Nq.ext
   have Bq := Nq.blk
   replace E2 := E2.ext Nq.ext
   refine WpL_nil ?_
   rcases Bool.eq_false_or_eq_true (decide ((0 : Int) < ((m : Nat) : Int))) with hm0 | hm0
   ·have khm0 := hm0
    replace khm0 := of_decide_eq_true khm0
    obtain ⟨oo, cc, hoc⟩ : ∃ oo cc, ou = oo ++ [cc] := by rcases snoc_cases ou with rfl | h1; simp at hm; omega; exact h1
    subst hoc
    have hvc := hvo cc (by simp)
    have hmo : m = oo.length + 1 := by simpa using hm
    obtain ⟨g, rfl, hgb, hgc⟩ := own_cells hown (by omega)
    have hgn : g ≠ bq := fun h1 => by have := (hown0.lt g rfl).2; have := Nq.eq; omega
    refine Wp_seq_region ?_
    refine qM _ rfl ?_
    refine qV (r_lenSlice Tryz.underlying22 rfl) ?_
    refine qA _ rfl ?_
    refine WpL_nil ?_
    refine Wp_seq_draw 13 mixed (by kernel_rfl) ?_
    intro w3 X3 _
    replace Bq := X3.keep Bq
    replace hown := own_ext hown X3
    replace hbs := Nat.le_trans hbs X3.size
    replace E := E.ext X3
    replace E2 := E2.ext X3
    refine qT (r_move rfl) ?_
    refine qT (r_gtr rfl rfl) ?_
    refine qT (r_move rfl) ?_
    refine WpT_guard_yes (oj := _) rfl rfl (by decide) (congrArg Value.bool hm0) ?_
    refine qT (r_fieldAddr rfl Tryz.underlying67 rfl siz3 rfl) ?_
    refine WpT_guard_yes (oj := _) rfl rfl (by decide) (congrArg Value.bool hm0) ?_
    refine qT (r_load rfl flat3 (Bq.cell rfl)) ?_
    refine WpT_guard_yes (oj := _) rfl rfl (by decide) (congrArg Value.bool hm0) ?_
    refine qT (r_move rfl) ?_
    refine WpT_guard_yes (oj := _) rfl rfl (by decide) (congrArg Value.bool hm0) ?_
    refine qT (r_move rfl) ?_
    refine WpT_guard_yes (oj := _) rfl rfl (by decide) (congrArg Value.bool hm0) ?_
    refine qT (r_sub rfl rfl (wI64 (by omega))) ?_
    refine WpT_guard_yes (oj := _) rfl rfl (by decide) (congrArg Value.bool hm0) ?_
    refine qT (r_indexSlice (b := g) (o := 0) (len := m) (cap := lc) (i := m - 1) (o' := 0 + (m - 1) * 2) rfl rfl (by omega) Tryz.underlying22 siz67 (by omega) (by omega)) ?_
    refine WpT_guard_yes (oj := _) rfl rfl (by decide) (congrArg Value.bool hm0) ?_
    refine qT (r_fieldAddr rfl Tryz.underlying67 rfl siz3 rfl) ?_
    refine WpT_guard_yes (oj := _) rfl rfl (by decide) (congrArg Value.bool hm0) ?_
    refine qT (r_load (v := (I6 cc.2)) rfl flat3 ((by have h1 := (hown.cells (g := g) rfl) (oo.length * 2 + 1) _ (span_last oo cc); rwa [Addr.add_lit, show 0 + (oo.length * 2 + 1) = 0 + (m - 1) * 2 + 1 from by omega] at h1))) ?_
    refine WpT_guard_yes (oj := _) rfl rfl (by decide) (congrArg Value.bool hm0) ?_
    refine qT (r_add rfl rfl (wI64 (by omega))) ?_
    refine WpT_guard_yes (oj := _) rfl rfl (by decide) (congrArg Value.bool hm0) ?_
    refine qT (r_leq rfl rfl) ?_
    refine WpT_zero ?_
    refine qV (r_pick (v := (.bool (decide ((s.1 : Int) ≤ cc.2 + 1)))) rfl (by rw [hm0]; rfl)) ?_
    refine WpL_nil ?_
    refine Wp_cond rfl (fun hj => ?_) (fun hj => ?_)
    ·have khj := hj
     replace hj := of_decide_eq_true hj
     obtain ⟨cur, hB, hcs⟩ := own_blk hown
     refine Wp_draw 14 mixed (by kernel_rfl) ?_
     intro w5 X5 _
     replace Bq := X5.keep Bq
     replace hB := X5.keep hB
     replace hown := own_ext hown X5
     replace hbs := Nat.le_trans hbs X5.size
     replace E := E.ext X5
     replace E2 := E2.ext X5
     refine qT (r_move rfl) ?_
     refine qT (r_move rfl) ?_
     refine qT (r_sub rfl rfl (wI64 (by omega))) ?_
     refine qT (r_move rfl) ?_
     refine qT (r_move rfl) ?_
     refine qT (r_sub rfl rfl (wI64 (by omega))) ?_
     refine qT (r_indexSlice (b := g) (o := 0) (len := m) (cap := lc) (i := m - 1) (o' := 0 + (m - 1) * 2) rfl rfl (by omega) Tryz.underlying22 siz67 (by omega) (by omega)) ?_
     refine qT (r_fieldAddr rfl Tryz.underlying67 rfl siz3 rfl) ?_
     refine qT (r_load (v := (I6 cc.2)) rfl flat3 ((by have h1 := (hown.cells (g := g) rfl) (oo.length * 2 + 1) _ (span_last oo cc); rwa [Addr.add_lit, show 0 + (oo.length * 2 + 1) = 0 + (m - 1) * 2 + 1 from by omega] at h1))) ?_
     refine qT (r_fieldAddr rfl Tryz.underlying67 rfl siz3 rfl) ?_
     refine qT (r_load rfl flat3 (Bq.cell rfl)) ?_
     refine qT (r_maxI rfl rfl rfl) ?_
     refine qT (r_indexSlice (b := g) (o := 0) (len := m) (cap := lc) (i := m - 1) (o' := 0 + (m - 1) * 2) rfl rfl (by omega) Tryz.underlying22 siz67 (by omega) (by omega)) ?_
     refine qT (r_fieldAddr rfl Tryz.underlying67 rfl siz3 rfl) ?_
     refine WpT_zero ?_
     have hB0 := hB
     refine s_store (b := g) (o := 0 + (m - 1) * 2 + 1) (c' := cur.setIfInBounds (0 + (m - 1) * 2 + 1) (I6 (max cc.2 s.2))) (v := (I6 (max cc.2 s.2))) rfl rfl rfl siz3 hB (by omega) (rfl) ?_
     intro w6 S6
     replace Bq := S6.keep (by omega) Bq
     replace E := S6.step E (by first | exact Or.inl (by omega) | exact Or.inr rfl | exact Or.inr (by assumption) | exact Or.inr (by simp) | exact Or.inr (by omega) | exact Or.inr (by dsimp only; omega))
     replace E2 := S6.step E2 (Or.inl (by omega))
     replace hB := S6.blk
     have hown1 := own_write hown hB0 (i := 0 + (m - 1) * 2 + 1) (by omega) hB
     refine WpL_nil (inB_normal (thn_normal (Wp_region ?_)))
     refine qV (r_add rfl rfl (wI64 (by omega))) ?_
     refine qM _ rfl ?_
     refine WpL_nil (thn_normal ?_)
     exact ⟨l.length - (k + 1), by omega, k + 1, some ⟨g, 0, none⟩, lc, m, oo ++ [(cc.1, max cc.2 s.2)], Fits.out ⟨rfl, rfl, rfl, rfl, trivial⟩, E, E2, (by omega), (by simp [hmo]), (by omega), (fun u hu => by rcases List.mem_append.1 hu with hu | hu; exact hvo u (by simp [hu]); rw [List.mem_singleton] at hu; subst hu; simp only; omega), (by rw [← hou, jstep_snoc, if_pos hj]), (by rw [show 0 + (m - 1) * 2 + 1 = oo.length * 2 + 1 from by omega, span_set] at hown1; exact hown1), (by have := hown1.lt g rfl; omega), rfl⟩
    ·have khj := hj
     replace hj := of_decide_eq_false hj
     refine Wp_region ?_
     refine qM _ rfl ?_
     refine qV (r_loadAgg (vs := [(I6 s.1), (I6 s.2)]) rfl agg67 siz67 rfl (Bq.cells rfl)) ?_
     refine s_buildSlice (ps := [(0, (.agg #[(I6 s.1), (I6 s.2)]))]) (c := #[(I6 s.1), (I6 s.2)]) (by decide) rfl Tryz.underlying22 siz67 zer67 (by decide) (by decide) (by kernel_rfl) ?_
     intro br wr Nr
     have Fr := Nr.ge E
     have Fr_E2 := Nr.ge E2
     have Or_bq := Nr.lt Bq
     replace Bq := Nr.keep Bq
     replace hown := own_ext hown Nr.ext
     replace hbs := Nat.le_trans hbs Nr.ext.size
     replace E := E.ext Nr.ext
     have Br := Nr.blk
     replace E2 := E2.ext Nr.ext
     refine s_append (base := base) (n := m) (m := 1) (xs := ((oo ++ [cc]).map spanV).flatten) (news := [(I6 s.1), (I6 s.2)]) (size := 2) (bytes := 16) (v := (.slice (some ⟨g, 0, none⟩) m lc)) (by decide) Tryz.underlying22 siz67 byt67 zer67 rfl (by decide) rfl hown rfl (rfl) (Br.cells rfl) (by simp [Value.oneCell']) (by unfold maxLen; omega) (by omega) (hbs) ?_
     intro v9 w29 Ov9 Cv9 Dv9
     replace Bq := Cv9.keep (fun h => by have := (hown0.lt _ h).2; have := Nq.eq; omega) Bq
     replace E := E.step Cv9 (fun x hx h => absurd (hown.lt x h).1 (by omega))
     replace E2 := E2.step Cv9 (fun x hx h => absurd (hown.lt x h).1 (by omega))
     obtain ⟨la2, lc2, rfl⟩ := own_form Ov9
     refine qA _ rfl ?_
     refine WpL_nil (inB_normal (thn_normal (Wp_region ?_)))
     refine qV (r_add rfl rfl (wI64 (by omega))) ?_
     refine qM _ rfl ?_
     refine WpL_nil (thn_normal ?_)
     exact ⟨l.length - (k + 1), by omega, k + 1, la2, lc2, m + 1, oo ++ [cc] ++ [s], Fits.out ⟨rfl, rfl, rfl, rfl, trivial⟩, E, E2, (by omega), (by simp [hmo]), (by omega), (fun u hu => by rcases List.mem_append.1 hu with hu | hu; exact hvo u hu; rw [List.mem_singleton] at hu; subst hu; omega), (by rw [← hou, jstep_snoc, if_neg hj]), (by rw [spanV_snoc]; exact Ov9), Nat.le_trans hbs Cv9.size, rfl⟩
   ·have khm0 := hm0
    replace khm0 := of_decide_eq_false khm0
    have hm1 : m = 0 := by omega
    have hou0 : ou = [] := List.eq_nil_of_length_eq_zero (by omega)
    subst hou0
    refine Wp_seq_region ?_
    refine qM _ rfl ?_
    refine qV (r_lenSlice Tryz.underlying22 rfl) ?_
    refine qA _ rfl ?_
    refine WpL_nil ?_
    refine Wp_seq_draw 13 mixed (by kernel_rfl) ?_
    intro w7 X7 _
    replace Bq := X7.keep Bq
    replace hown := own_ext hown X7
    replace hbs := Nat.le_trans hbs X7.size
    replace E := E.ext X7
    replace E2 := E2.ext X7
    refine qT (r_move rfl) ?_
    refine qT (r_gtr rfl rfl) ?_
    refine qT (r_move rfl) ?_
    refine WpT_guard_no (oj := _) rfl rfl (by decide) (v := .bool false) (congrArg Value.bool hm0) (Or.inl rfl) ?_
    refine WpT_guard_no (oj := _) rfl rfl (by decide) (v := .bool false) (congrArg Value.bool hm0) (Or.inl rfl) ?_
    refine WpT_guard_no (oj := _) rfl rfl (by decide) (v := .bool false) (congrArg Value.bool hm0) (Or.inl rfl) ?_
    refine WpT_guard_no (oj := _) rfl rfl (by decide) (v := .bool false) (congrArg Value.bool hm0) (Or.inl rfl) ?_
    refine WpT_guard_no (oj := _) rfl rfl (by decide) (v := .bool false) (congrArg Value.bool hm0) (Or.inl rfl) ?_
    refine WpT_guard_no (oj := _) rfl rfl (by decide) (v := .bool false) (congrArg Value.bool hm0) (Or.inl rfl) ?_
    refine WpT_guard_no (oj := _) rfl rfl (by decide) (v := .bool false) (congrArg Value.bool hm0) (Or.inl rfl) ?_
    refine WpT_guard_no (oj := _) rfl rfl (by decide) (v := .bool false) (congrArg Value.bool hm0) (Or.inl rfl) ?_
    refine WpT_guard_no (oj := _) rfl rfl (by decide) (v := .bool false) (congrArg Value.bool hm0) (Or.inl rfl) ?_
    refine WpT_guard_no (oj := _) rfl rfl (by decide) (v := .bool false) (congrArg Value.bool hm0) (Or.inl rfl) ?_
    refine WpT_zero ?_
    refine qV (r_pick (v := (.bool false)) rfl (by rw [hm0]; rfl)) ?_
    refine WpL_nil ?_
    refine Wp_cond_false rfl ?_
    refine Wp_region ?_
    refine qM _ rfl ?_
    refine qV (r_loadAgg (vs := [(I6 s.1), (I6 s.2)]) rfl agg67 siz67 rfl (Bq.cells rfl)) ?_
    refine s_buildSlice (ps := [(0, (.agg #[(I6 s.1), (I6 s.2)]))]) (c := #[(I6 s.1), (I6 s.2)]) (by decide) rfl Tryz.underlying22 siz67 zer67 (by decide) (by decide) (by kernel_rfl) ?_
    intro b8 w8 N8
    have F8 := N8.ge E
    have F8_E2 := N8.ge E2
    have O8_bq := N8.lt Bq
    replace Bq := N8.keep Bq
    replace hown := own_ext hown N8.ext
    replace hbs := Nat.le_trans hbs N8.ext.size
    replace E := E.ext N8.ext
    have B8 := N8.blk
    replace E2 := E2.ext N8.ext
    refine s_append (base := base) (n := m) (m := 1) (xs := []) (news := [(I6 s.1), (I6 s.2)]) (size := 2) (bytes := 16) (v := (.slice la m lc)) (by decide) Tryz.underlying22 siz67 byt67 zer67 rfl (by decide) rfl hown rfl (rfl) (B8.cells rfl) (by simp [Value.oneCell']) (by unfold maxLen; omega) (by omega) (hbs) ?_
    intro v9 w29 Ov9 Cv9 Dv9
    replace Bq := Cv9.keep (fun h => by have := (hown0.lt _ h).2; have := Nq.eq; omega) Bq
    replace E := E.step Cv9 (fun x hx h => absurd (hown.lt x h).1 (by omega))
    replace E2 := E2.step Cv9 (fun x hx h => absurd (hown.lt x h).1 (by omega))
    obtain ⟨la2, lc2, rfl⟩ := own_form Ov9
    refine qA _ rfl ?_
    refine WpL_nil (inB_normal (thn_normal (Wp_region ?_)))
    refine qV (r_add rfl rfl (wI64 (by omega))) ?_
    refine qM _ rfl ?_
    refine WpL_nil (thn_normal ?_)
    exact ⟨l.length - (k + 1), by omega, k + 1, la2, lc2, m + 1, [s], Fits.out ⟨rfl, rfl, rfl, rfl, trivial⟩, E, E2, (by omega), (by simp [hm1]), (by omega), (fun u hu => by rw [List.mem_singleton] at hu; subst hu; omega), (by rw [← hou, jstep_nil]), (by simpa [spanV] using Ov9), Nat.le_trans hbs Cv9.size, rfl⟩
  ·have khlt := hlt
   replace hlt := of_decide_eq_false hlt
   have hkk : ls.drop k = [] := List.drop_eq_nil_of_le (by omega)
   rw [hkk, List.foldl_nil] at hou
   refine Wp_exit (thn_exit (thn_exit (inB_here (thn_normal (Wp_seq_region ?_)))))
   refine qM _ rfl ?_
   refine qA _ rfl ?_
   refine WpL_nil (Wp_ret ?_)
   refine fin_tmp Tryz.results152 (v := (.slice la m lc)) rfl ?_
   subst hou; subst hm
   exact ⟨⟨joinF ls, ⟨ls, hperm, hsort, rfl⟩, ⟨la, lc, rfl⟩, own_low hown (by omega)⟩, E⟩
theorem checkL_canon : ∀ (l : List Sp) (p : Option Int), checkL p l = 0 → Canon l ∧ (∀ h, p = some h → ∀ s ∈ l, h + 2 ≤ s.1)
  | [], _, _ => ⟨Canon.nil, fun _ _ _ h => absurd h List.not_mem_nil⟩
  | s :: r, p, h0 => by
    rw [checkL_cons] at h0
    by_cases hv : validB s = false
    · rw [if_pos hv] at h0; cases h0
    rw [if_neg hv] at h0
    have hg : checkL (some s.2) r = 0 ∧ ∀ h, p = some h → h + 2 ≤ s.1 := by
      cases p with
      | none => exact ⟨by simpa using h0, fun _ he => by cases he⟩
      | some q =>
        by_cases hq : s.1 < q + 2
        · simp [hq] at h0
        · simp [hq] at h0; exact ⟨h0, fun h he => by cases he; omega⟩
    obtain ⟨h1, h2⟩ := checkL_canon r (some s.2) hg.1
    have hv2 : vSp s := by unfold vSp; unfold validB at hv; simp at hv; omega
    have h3 := h2 s.2 rfl
    refine ⟨Canon.cons hv2 h3 h1, fun h he t ht => ?_⟩
    have h4 := hg.2 h he
    rcases List.mem_cons.1 ht with rfl | ht
    · omega
    · have := h3 t ht; unfold vSp at hv2; omega
theorem checkE_canon {l : List Sp} (h : checkE l = 0) : Canon l ∧ l.length ≤ 16 := by
 unfold checkE at h
 split at h
 ·cases h
 ·exact ⟨(checkL_canon l none h).1, by omega⟩
def IsSet (out : List Sp) (f : Int → Bool) : Prop := Canon out ∧ ∀ r, 0 ≤ r → r ≤ 1114111 → inS out r = f r
theorem IsSet.eq {a b : List Sp} {f g : Int → Bool} (ha : IsSet a f) (hb : IsSet b g) (h : ∀ r, 0 ≤ r → r ≤ 1114111 → f r = g r) : a = b :=
 canon_ext ha.1 hb.1 fun r h0 h1 => by rw [ha.2 r h0 h1, hb.2 r h0 h1, h r h0 h1]
def SetAt (w : World) (v : Value) (out : List Sp) : Prop := (∃ a c, v = .slice a out.length c) ∧ SpansAt w v out
def fitsP (j out : List Sp) (e : Int) : Prop := if 16 < j.length then e = 2 ∧ out = [] else e = 0 ∧ out = j
def SetRes (w : World) (v : Value) (out : List Sp) (e : Int) : Prop := ∃ a c, v = .tuple #[.slice a out.length c, .int .i64 e] ∧ SpansAt w (.slice a out.length c) out
def SetRN (n0 : Nat) (w : World) (v : Value) (out : List Sp) (e : Int) : Prop := ∃ a c, v = .tuple #[.slice a out.length c, .int .i64 e] ∧ SlIn (fun y => n0 ≤ y) w 2 (.slice a out.length c) (out.map spanV)
theorem sin_nil (S : Nat → Prop) (w : World) : SlIn S w 2 (.slice none ([] : List Sp).length 0) (([] : List Sp).map spanV) := ⟨none, 0, rfl, by simp, by simp, .inl rfl⟩
theorem own_sin {w : World} {base : Nat} {v : Value} {l : List Sp} (h : OwnS w base v l) : SlIn (fun y => base ≤ y) w 2 v (l.map spanV) := by
 have hat : SpansAt w v l := h.at
 obtain ⟨⟨a, c, rfl⟩, ho⟩ := h
 obtain ⟨a', cap, e, h1, h2, h3⟩ := hat
 simp only [List.length_map, Value.slice.injEq, true_and] at e
 obtain ⟨rfl, rfl⟩ := e
 refine ⟨a, c, by rw [List.length_map], h1, h2, ?_⟩
 rcases h3 with h | ⟨b, o, rfl, hc⟩
 ·exact .inl h
 ·exact .inr ⟨b, o, (ho.lt b rfl).1, rfl, hc⟩
theorem IsSet.join {l out : List Sp} (h : JoinOf l out) (hv : ∀ s ∈ l, vSp s) : IsSet out (inS l) ∧ out.length ≤ l.length :=
 let ⟨h1, h2, h3⟩ := h.all hv
 ⟨⟨h1, fun r _ _ => h2 r⟩, h3⟩
theorem norm1_c (s : Sp) (w0 : World) : Ret Tryz.prog 150 #[.agg #[.int .i64 s.1, .int .i64 s.2]] w0 fun u w => u = .bool (!validB s) ∧ Ext w0 w := by
 refine Ret_of Tryz.func150 rfl Tryz.ntmps150 (Nat.le_of_ble_eq_true rfl) ?_
 have E : Chg none1 w0 w0 := Chg.refl _ _
 refine Wp_seq_region ?_
 refine s_box (v := (.agg #[(I6 s.1), (I6 s.2)])) (c := #[(I6 s.1), (I6 s.2)]) (by decide) rfl rfl ?_
 intro b1 w1 N1
 have F1 := N1.ge E
 replace E := E.ext N1.ext
 have B1 := N1.blk
 refine qA _ rfl ?_
 refine WpL_nil (Wp_seq_region ?_)
 refine qV (r_loadAgg (vs := [(I6 s.1), (I6 s.2)]) rfl agg67 siz67 rfl (B1.cells rfl)) ?_
 refine WpL_enter rfl rfl (by decide) (r_callF Tryz.func114 nm114 bd114 rfl) (valid_c s _) ?_
 rintro _ w9 ⟨rfl, X9⟩
 replace B1 := X9.keep B1
 replace E := E.ext X9
 refine qV (r_not rfl) ?_
 refine qA _ rfl ?_
 refine WpL_nil (Wp_ret ?_)
 refine fin_tmp Tryz.results150 (v := (.bool (!(validB s)))) rfl ?_
 exact ⟨rfl, E⟩
theorem validB_iff {s : Sp} : validB s = true ↔ vSp s := by unfold validB vSp; simp [and_assoc]
def normP (a out : List Sp) (e : Int) : Prop := ((∃ s ∈ a, ¬ vSp s) ∧ e = 1 ∧ out = []) ∨ ((∀ s ∈ a, vSp s) ∧ ∃ j, IsSet j (inS a) ∧ j.length ≤ a.length ∧ fitsP j out e)
end Go.Proofs
namespace Go.Proofs
open Go Go.Eng Go.Sort
set_option maxRecDepth 100000
section
variable {P : Program} {σ : Env} {w : World} {dst : Option Tmp} {ty : TypeId} {pos : String} {af : Array Edge} {g : Option (Nat × Bool)} {x y : Operand}
theorem r_indexV {t e len n i : Nat} {cs c' : Array Value} {k : IntKind} {a : Int} (hu : P.underlying t = some (.array len e)) (hs : Siz P e n) (hg : aggB P e = true) (hx : ev σ x = .agg cs) (hy : ev σ y = .int k a) (ha : a = ((i : Nat) : Int)) (hi : i < len) (hv : cs.extract (i * n) (i * n + n) = c') :
  (execOp (ev σ) ⟨dst, .index t x y, ty, pos, af, g⟩).run P w = .ok (.value (.agg c')) w := by
 subst ha; subst hv
 simp [execOp, hx, hy, Instr.index, asIntOf, run_underlying hu, hs.run, hi, part, aggB.run hg]
theorem r_sliceArr {t e len n b : Nat} (hu : P.underlying t = some (.array len e)) (hs : Siz P e n) (hx : ev σ x = .pointer (some ⟨b, 0, none⟩)) :
  (execOp (ev σ) ⟨dst, .slice t x none none none, ty, pos, af, g⟩).run P w = .ok (.value (.slice (some ⟨b, 0, none⟩) len len)) w := by
 have h0 : (if len = 0 then (⟨b, 0, none⟩ : Addr) else Addr.add ⟨b, 0, none⟩ (0 * n)) = ⟨b, 0, none⟩ := by split <;> simp [Addr.add_lit]
 simp only [execOp, hx, Option.map_none, Instr.sliceAt, Sem.run_bind, run_underlying hu, Result.andThen_ok, Instr.sureAddr, Instr.sliceBounds, Sem.run_pure, hs.run, Nat.sub_zero]
 rw [h0]
end
def upperB (r : Int) : Bool := decide ((65 ≤ r ∧ r ≤ 90) ∨ (192 ≤ r ∧ r ≤ 222 ∧ r ≠ 215) ∨ (913 ≤ r ∧ r ≤ 939 ∧ r ≠ 930))
theorem upper_c (w0 : World) (r : Int) : Ret Tryz.prog 149 #[.int .i64 r] w0 fun v w => v = .bool (upperB r) ∧ Ext w0 w := by
 refine Ret_of Tryz.func149 rfl Tryz.ntmps149 (Nat.le_of_ble_eq_true rfl) ?_
 have E : Chg none1 w0 w0 := Chg.refl _ _
 refine Wp_seq_region ?_
 refine qA _ rfl ?_
 refine WpL_nil (Wp_seq_region ?_)
 refine qM _ rfl ?_
 obtain ⟨e1, he1⟩ : ∃ e, (decide ((65 : Int) ≤ r)) = e := ⟨_, rfl⟩
 refine qV ((r_geq rfl rfl).trans (by rw [he1]; try rfl)) ?_
 refine qM _ rfl ?_
 refine qG (.bool e1) (yU e1 (I6 r)) (by cases e1 <;> first | exact gA | exact gB | exact .inl ⟨rfl, r_move rfl⟩) ?_
 obtain ⟨e2, he2⟩ : ∃ e, (decide ((r : Int) ≤ 90)) = e := ⟨_, rfl⟩
 refine qG (.bool e1) (yU e1 (.bool e2)) (by cases e1 <;> first | exact gA | exact gB | exact .inl ⟨rfl, (r_leq rfl rfl).trans (by rw [he2]; try rfl)⟩) ?_
 obtain ⟨e3, he3⟩ : ∃ e, (e1 && e2) = e := ⟨_, rfl⟩
 refine qV (r_pick (v := .bool e3) rfl (by rw [← he3]; cases e1 <;> rfl)) ?_
 refine qM _ rfl ?_
 refine qG (.bool e3) (nU e3 (I6 r)) (by cases e3 <;> first | exact gA | exact gB | exact .inl ⟨rfl, r_move rfl⟩) ?_
 obtain ⟨e4, he4⟩ : ∃ e, (decide ((192 : Int) ≤ r)) = e := ⟨_, rfl⟩
 refine qG (.bool e3) (nU e3 (.bool e4)) (by cases e3 <;> first | exact gA | exact gB | exact .inl ⟨rfl, (r_geq rfl rfl).trans (by rw [he4]; try rfl)⟩) ?_
 refine qG (.bool e3) (nU e3 (.bool e4)) (by cases e3 <;> first | exact gA | exact gB | exact .inl ⟨rfl, r_move rfl⟩) ?_
 refine qG (nU e3 (.bool e4)) (nU e3 (yU e4 (I6 r))) (by cases e3 <;> cases e4 <;> first | exact gA | exact gB | exact .inl ⟨rfl, r_move rfl⟩) ?_
 obtain ⟨e5, he5⟩ : ∃ e, (decide ((r : Int) ≤ 222)) = e := ⟨_, rfl⟩
 refine qG (nU e3 (.bool e4)) (nU e3 (yU e4 (.bool e5))) (by cases e3 <;> cases e4 <;> first | exact gA | exact gB | exact .inl ⟨rfl, (r_leq rfl rfl).trans (by rw [he5]; try rfl)⟩) ?_
 obtain ⟨e6, he6⟩ : ∃ e, (e4 && e5) = e := ⟨_, rfl⟩
 refine qG (.bool e3) (nU e3 (.bool e6)) (by cases e3 <;> first | exact gA | exact gB | exact .inl ⟨rfl, r_pick (v := .bool e6) rfl (by rw [← he6]; cases e4 <;> rfl)⟩) ?_
 refine qG (.bool e3) (nU e3 (.bool e6)) (by cases e3 <;> first | exact gA | exact gB | exact .inl ⟨rfl, r_move rfl⟩) ?_
 refine qG (nU e3 (.bool e6)) (nU e3 (yU e6 (I6 r))) (by cases e3 <;> cases e6 <;> first | exact gA | exact gB | exact .inl ⟨rfl, r_move rfl⟩) ?_
 obtain ⟨e7, he7⟩ : ∃ e, (decide ((r : Int) ≠ 215)) = e := ⟨_, rfl⟩
 refine qG (nU e3 (.bool e6)) (nU e3 (yU e6 (.bool e7))) (by cases e3 <;> cases e6 <;> first | exact gA | exact gB | exact .inl ⟨rfl, (r_neq rfl rfl).trans (by rw [he7]; try rfl)⟩) ?_
 obtain ⟨e8, he8⟩ : ∃ e, (e6 && e7) = e := ⟨_, rfl⟩
 refine qG (.bool e3) (nU e3 (.bool e8)) (by cases e3 <;> first | exact gA | exact gB | exact .inl ⟨rfl, r_pick (v := .bool e8) rfl (by rw [← he8]; cases e6 <;> rfl)⟩) ?_
 obtain ⟨e9, he9⟩ : ∃ e, (e3 || e8) = e := ⟨_, rfl⟩
 refine qV (r_pick (v := .bool e9) rfl (by rw [← he9]; cases e3 <;> rfl)) ?_
 refine qM _ rfl ?_
 refine qG (.bool e9) (nU e9 (I6 r)) (by cases e9 <;> first | exact gA | exact gB | exact .inl ⟨rfl, r_move rfl⟩) ?_
 obtain ⟨e10, he10⟩ : ∃ e, (decide ((913 : Int) ≤ r)) = e := ⟨_, rfl⟩
 refine qG (.bool e9) (nU e9 (.bool e10)) (by cases e9 <;> first | exact gA | exact gB | exact .inl ⟨rfl, (r_geq rfl rfl).trans (by rw [he10]; try rfl)⟩) ?_
 refine qG (.bool e9) (nU e9 (.bool e10)) (by cases e9 <;> first | exact gA | exact gB | exact .inl ⟨rfl, r_move rfl⟩) ?_
 refine qG (nU e9 (.bool e10)) (nU e9 (yU e10 (I6 r))) (by cases e9 <;> cases e10 <;> first | exact gA | exact gB | exact .inl ⟨rfl, r_move rfl⟩) ?_
 obtain ⟨e11, he11⟩ : ∃ e, (decide ((r : Int) ≤ 939)) = e := ⟨_, rfl⟩
 refine qG (nU e9 (.bool e10)) (nU e9 (yU e10 (.bool e11))) (by cases e9 <;> cases e10 <;> first | exact gA | exact gB | exact .inl ⟨rfl, (r_leq rfl rfl).trans (by rw [he11]; try rfl)⟩) ?_
 obtain ⟨e12, he12⟩ : ∃ e, (e10 && e11) = e := ⟨_, rfl⟩
 refine qG (.bool e9) (nU e9 (.bool e12)) (by cases e9 <;> first | exact gA | exact gB | exact .inl ⟨rfl, r_pick (v := .bool e12) rfl (by rw [← he12]; cases e10 <;> rfl)⟩) ?_
 refine qG (.bool e9) (nU e9 (.bool e12)) (by cases e9 <;> first | exact gA | exact gB | exact .inl ⟨rfl, r_move rfl⟩) ?_
 refine qG (nU e9 (.bool e12)) (nU e9 (yU e12 (I6 r))) (by cases e9 <;> cases e12 <;> first | exact gA | exact gB | exact .inl ⟨rfl, r_move rfl⟩) ?_
 obtain ⟨e13, he13⟩ : ∃ e, (decide ((r : Int) ≠ 930)) = e := ⟨_, rfl⟩
 refine qG (nU e9 (.bool e12)) (nU e9 (yU e12 (.bool e13))) (by cases e9 <;> cases e12 <;> first | exact gA | exact gB | exact .inl ⟨rfl, (r_neq rfl rfl).trans (by rw [he13]; try rfl)⟩) ?_
 obtain ⟨e14, he14⟩ : ∃ e, (e12 && e13) = e := ⟨_, rfl⟩
 refine qG (.bool e9) (nU e9 (.bool e14)) (by cases e9 <;> first | exact gA | exact gB | exact .inl ⟨rfl, r_pick (v := .bool e14) rfl (by rw [← he14]; cases e12 <;> rfl)⟩) ?_
 obtain ⟨e15, he15⟩ : ∃ e, (e9 || e14) = e := ⟨_, rfl⟩
 refine qV (r_pick (v := .bool e15) rfl (by rw [← he15]; cases e9 <;> rfl)) ?_
 refine qA _ rfl ?_
 refine WpL_nil ?_
 subst he15
 subst he14
 subst he13
 subst he12
 subst he11
 subst he10
 subst he9
 subst he8
 subst he7
 subst he6
 subst he5
 subst he4
 subst he3
 subst he2
 subst he1
 refine Wp_ret ?_
 refine fin_tmp Tryz.results149 (v := (.bool ((((decide ((65 : Int) ≤ r)) && (decide ((r : Int) ≤ 90))) || (((decide ((192 : Int) ≤ r)) && (decide ((r : Int) ≤ 222))) && (decide ((r : Int) ≠ 215)))) || (((decide ((913 : Int) ≤ r)) && (decide ((r : Int) ≤ 939))) && (decide ((r : Int) ≠ 930)))))) rfl ?_
 exact ⟨bool_eq (by unfold upperB; rw [Bool.eq_iff_iff]; simp only [Bool.or_eq_true, Bool.and_eq_true, decide_eq_true_eq]; omega), E⟩
def orbitL (r : Int) : List Int :=
 if r = 181 ∨ r = 924 ∨ r = 956 then [181, 924, 956] else if r = 931 ∨ r = 962 ∨ r = 963 then [931, 962, 963] else if upperB r = true then [r, r + 32] else if upperB (r - 32) = true then [r - 32, r] else [r]
def triL (k : Nat) : List Int := if k = 0 then [181, 924, 956] else [931, 962, 963]
def IntsN (n0 : Nat) (w : World) (v : Value) (l : List Int) : Prop := (∃ a c, v = .slice a l.length c) ∧ SlIn (fun b => n0 ≤ b ∧ b < w.heap.size) w 1 v (l.map intV)
theorem ints_new {w : World} {b T n0 : Nat} (l : List Int) (h : Blk w b (l.map intV).flatten.toArray T) (hl : l.length ≤ 1000) (h0 : n0 ≤ b) : IntsN n0 w (.slice (some ⟨b, 0, none⟩) l.length l.length) l :=
 ⟨⟨_, _, rfl⟩, SlIn.mk (ints_of_blk l h (by omega) (Nat.le_refl _)) ⟨h0, h.lt⟩⟩
theorem tri_has (k : Nat) (r : Int) : (triL k).contains r = true ↔ (k = 0 ∧ (r = 181 ∨ r = 924 ∨ r = 956)) ∨ (k ≠ 0 ∧ (r = 931 ∨ r = 962 ∨ r = 963)) := by
 unfold triL
 split <;> rename_i h <;> simp [h]
set_option maxHeartbeats 1000000 in
theorem orbit_c (w0 : World) (r : Int) (hr : 0 ≤ r ∧ r ≤ 1114111) : Ret Tryz.prog 120 #[.int .i64 r] w0 fun v w => IntsN w0.heap.size w v (orbitL r) ∧ Ext w0 w := by
 refine Ret_of Tryz.func120 rfl Tryz.ntmps120 (Nat.le_of_ble_eq_true rfl) ?_
 have E : Chg none1 w0 w0 := Chg.refl _ _
 refine Wp_seq_region ?_
 refine qA _ rfl ?_
 refine WpL_nil (Wp_seq (Wp_seq_region ?_))
 refine qV (r_build (ps := [(0, (I6 181)), (1, (I6 924)), (2, (I6 956))]) (v := (.agg #[(I6 181), (I6 924), (I6 956)])) rfl (by kernel_rfl)) ?_
 refine qV (r_build (ps := [(0, (I6 931)), (1, (I6 962)), (2, (I6 963))]) (v := (.agg #[(I6 931), (I6 962), (I6 963)])) rfl (by kernel_rfl)) ?_
 refine qV (r_build (ps := [(0, (.agg #[(I6 181), (I6 924), (I6 956)])), (1, (.agg #[(I6 931), (I6 962), (I6 963)]))]) (v := (.agg #[(I6 181), (I6 924), (I6 956), (I6 931), (I6 962), (I6 963)])) rfl (by kernel_rfl)) ?_
 refine qM _ rfl ?_
 refine WpL_nil (Wp_block ?_)
 refine Wp_loop (fun nn_ σ W1 => ∃ (k : Nat), (∃ jj_, σ = upds jj_ [(0, (I6 r)), (7, (.agg #[(I6 181), (I6 924), (I6 956), (I6 931), (I6 962), (I6 963)])), (8, (I6 (k : Int)))]) ∧ Chg none1 w0 W1 ∧ (k ≤ 2) ∧ (0 < k → ¬ (r = 181 ∨ r = 924 ∨ r = 956)) ∧ (1 < k → ¬ (r = 931 ∨ r = 962 ∨ r = 963)) ∧ nn_ = 2 - k) (n := 2 - 0) ?_ ?_
 ·exact ⟨0, Fits.out ⟨rfl, rfl, rfl, trivial⟩, E, (by omega), (fun h => absurd h (by omega)), (fun h => absurd h (by omega)), rfl⟩
 ·clear E
  rintro _ _ W1 ⟨k, ⟨j1, rfl⟩, E, hk, h0, h1, rfl⟩
  refine Wp_seq_region ?_
  refine qV (r_lss rfl rfl) ?_
  refine WpL_nil (Wp_seq ?_)
  refine Wp_cond rfl (fun hlt => ?_) (fun hlt => ?_)
  ·have khlt := hlt
   replace hlt := of_decide_eq_true hlt
   obtain ⟨t1, t2, t3, ht⟩ : ∃ t1 t2 t3 : Int, triL k = [t1, t2, t3] := by unfold triL; split <;> exact ⟨_, _, _, rfl⟩
   refine Wp_skip (thn_normal (Wp_seq (Wp_block (Wp_seq_region ?_))))
   refine qV (r_indexV (i := k) (n := 3) (c' := #[.int .i64 t1, .int .i64 t2, .int .i64 t3]) Tryz.underlying155 siz154 agg154 rfl rfl rfl (by omega) (by rcases (show k = 0 ∨ k = 1 by omega) with rfl | rfl <;> (simp [triL] at ht; obtain ⟨rfl, rfl, rfl⟩ := ht; rfl))) ?_
   refine s_allocStore (v := (.agg #[(I6 t1), (I6 t2), (I6 t3)])) (c := #[(I6 t1), (I6 t2), (I6 t3)]) (n := 3) (by decide) zer154 rfl siz154 rfl rfl rfl (by simp [Value.oneCell']) ?_
   intro bq wq Nq
   have Fq := Nq.ge E
   replace E := E.ext Nq.ext
   have Bq := Nq.blk
   refine WpL_nil (Wp_seq_region ?_)
   refine qV (r_sliceArr (b := bq) Tryz.underlying154 siz3 rfl) ?_
   have hq : IntsAt wq (.slice (some ⟨bq, 0, none⟩) 3 3) (triL k) := by rw [ht]; exact ints_of_blk [t1, t2, t3] Bq (by simp) (by simp)
   refine qM _ rfl ?_
   refine WpL_enter rfl rfl (by decide) (r_callF Tryz.func50 nm50 bd50 rfl) (hasi_c _ _ r (triL k) hq) ?_
   rintro _ w9 ⟨rfl, X9⟩
   replace Bq := X9.keep Bq
   replace E := E.ext X9
   refine WpL_nil ?_
   refine Wp_cond rfl (fun hin => ?_) (fun hin => ?_)
   ·have khin := hin
    refine Wp_seq_region ?_
    refine qV (r_sliceArr (b := bq) Tryz.underlying154 siz3 rfl) ?_
    refine WpL_enter rfl rfl (by decide) (r_callF Tryz.func112 nm112 bd112 rfl) (clonei_c _ _ (triL k) (hq.ext X9) (by rw [ht]; simp)) ?_
    rintro _ w8 ⟨ca, cc, rfl, hlc, hcl, X8⟩
    replace Bq := X8.keep Bq
    replace E := E.ext X8
    refine qA _ rfl ?_
    refine WpL_nil (Wp_ret (inB_ret (thn_ret (thn_ret (inB_ret (thn_ret ?_))))))
    refine fin_tmp Tryz.results120 (v := (.slice ca ((triL k).length) cc)) rfl ?_
    have hin2 := (tri_has k r).1 hin
    have he : orbitL r = triL k := by
     unfold orbitL
     rcases hin2 with ⟨hk0, h2⟩ | ⟨hk0, h2⟩
     ·rw [if_pos h2, hk0]; rfl
     ·rw [if_neg (h0 (by omega)), if_pos h2]; unfold triL; rw [if_neg hk0]
    refine ⟨⟨⟨ca, cc, by rw [he]⟩, ?_⟩, E⟩
    rw [he]
    rcases hcl with hn | ⟨b, rest, rfl, hge, hB⟩
    ·rw [ht] at hn; cases hn
    ·exact SlIn.mk (ints_own hB hlc (by rw [ht]; simp)) ⟨by have := Fq; have := X9.size; have := Nq.eq; have := Nq.size; omega, hB.lt⟩
   ·have khin := hin
    have hin2 : ¬ ((k = 0 ∧ (r = 181 ∨ r = 924 ∨ r = 956)) ∨ (k ≠ 0 ∧ (r = 931 ∨ r = 962 ∨ r = 963))) := fun hh => by have := (tri_has k r).2 hh; rw [hin] at this; cases this
    refine Wp_skip (inB_normal (thn_normal (Wp_region ?_)))
    refine qV (r_add rfl rfl (wI64 (by omega))) ?_
    refine qM _ rfl ?_
    refine WpL_nil (thn_normal ?_)
    exact ⟨2 - (k + 1), by omega, k + 1, Fits.out ⟨rfl, rfl, rfl, trivial⟩, E, (by omega), (fun _ => by omega), (fun _ => by omega), rfl⟩
  ·have khlt := hlt
   replace hlt := of_decide_eq_false hlt
   have hk2 : k = 2 := by omega
   have q0 := h0 (by omega)
   have q1 := h1 (by omega)
   refine Wp_exit (thn_exit (thn_exit (inB_here (thn_normal (Wp_seq (Wp_block (Wp_seq_region ?_)))))))
   refine qM _ rfl ?_
   refine WpL_enter rfl rfl (by decide) (r_callF Tryz.func149 nm149 bd149 rfl) (upper_c _ r) ?_
   rintro _ w9 ⟨rfl, X9⟩
   replace E := E.ext X9
   refine qA _ rfl ?_
   refine WpL_nil ?_
   refine Wp_cond rfl (fun hu => ?_) (fun hu => ?_)
   ·have khu := hu
    refine Wp_seq_region ?_
    refine qM _ rfl ?_
    refine qM _ rfl ?_
    refine qV (r_add rfl rfl (wI64 (by omega))) ?_
    refine s_buildSlice (ps := [(0, (I6 r)), (1, (I6 (r + 32)))]) (c := #[(I6 r), (I6 (r + 32))]) (by decide) rfl Tryz.underlying46 siz3 zer3 (by decide) (by decide) (by kernel_rfl) ?_
    intro bq wq Nq
    have Fq := Nq.ge E
    replace E := E.ext Nq.ext
    have Bq := Nq.blk
    refine qA _ rfl ?_
    refine WpL_nil (Wp_ret (inB_ret (thn_ret ?_)))
    refine fin_tmp Tryz.results120 (v := (.slice (some ⟨bq, 0, none⟩) 2 2)) rfl ?_
    have he : orbitL r = [r, r + 32] := by unfold orbitL; rw [if_neg q0, if_neg q1, if_pos hu]
    rw [he]
    exact ⟨ints_new [r, r + 32] Bq (by simp) Fq, E⟩
   ·have khu := hu
    refine Wp_seq_region ?_
    refine qM _ rfl ?_
    refine qV (r_sub rfl rfl (wI64 (by omega))) ?_
    refine WpL_enter rfl rfl (by decide) (r_callF Tryz.func149 nm149 bd149 rfl) (upper_c _ (r - 32)) ?_
    rintro _ w8 ⟨rfl, X8⟩
    replace E := E.ext X8
    refine qA _ rfl ?_
    refine WpL_nil ?_
    refine Wp_cond rfl (fun hv => ?_) (fun hv => ?_)
    ·have khv := hv
     refine Wp_seq_region ?_
     refine qM _ rfl ?_
     refine qV (r_sub rfl rfl (wI64 (by omega))) ?_
     refine qM _ rfl ?_
     refine s_buildSlice (ps := [(0, (I6 (r - 32))), (1, (I6 r))]) (c := #[(I6 (r - 32)), (I6 r)]) (by decide) rfl Tryz.underlying46 siz3 zer3 (by decide) (by decide) (by kernel_rfl) ?_
     intro bq wq Nq
     have Fq := Nq.ge E
     replace E := E.ext Nq.ext
     have Bq := Nq.blk
     refine qA _ rfl ?_
     refine WpL_nil (Wp_ret (inB_ret (thn_ret ?_)))
     refine fin_tmp Tryz.results120 (v := (.slice (some ⟨bq, 0, none⟩) 2 2)) rfl ?_
     have he : orbitL r = [r - 32, r] := by unfold orbitL; rw [if_neg q0, if_neg q1, if_neg (by simp [hu]), if_pos hv]
     rw [he]
     exact ⟨ints_new [r - 32, r] Bq (by simp) Fq, E⟩
    ·have khv := hv
     refine Wp_skip (inB_normal (thn_normal (Wp_seq_region ?_)))
     refine qM _ rfl ?_
     refine s_buildSlice (ps := [(0, (I6 r))]) (c := #[(I6 r)]) (by decide) rfl Tryz.underlying46 siz3 zer3 (by decide) (by decide) (by kernel_rfl) ?_
     intro bq wq Nq
     have Fq := Nq.ge E
     replace E := E.ext Nq.ext
     have Bq := Nq.blk
     refine qA _ rfl ?_
     refine WpL_nil (Wp_ret ?_)
     refine fin_tmp Tryz.results120 (v := (.slice (some ⟨bq, 0, none⟩) 1 1)) rfl ?_
     have he : orbitL r = [r] := by unfold orbitL; rw [if_neg q0, if_neg q1, if_neg (by simp [hu]), if_neg (by simp [hv])]
     rw [he]
     exact ⟨ints_new [r] Bq (by simp) Fq, E⟩
def orbOk (n : Nat) : Bool := ((orbitL n).all fun x => decide (0 ≤ x) && decide (x < 1000) && decide (orbitL x = orbitL n)) && (orbitL n).contains (n : Int)
theorem orb_fin : (List.range 1000).all orbOk = true := by decide +kernel
theorem orb_lt {n : Nat} (h : n < 1000) : orbOk n = true := List.all_eq_true.1 orb_fin n (List.mem_range.2 h)
theorem orb_big {r : Int} (h : 1000 ≤ r) : orbitL r = [r] := by
 have h1 : upperB r = false := by unfold upperB; rw [decide_eq_false_iff_not]; omega
 have h2 : upperB (r - 32) = false := by unfold upperB; rw [decide_eq_false_iff_not]; omega
 unfold orbitL
 rw [if_neg (by omega), if_neg (by omega), h1, h2]; rfl
theorem orb_self {r : Int} (h : 0 ≤ r) : r ∈ orbitL r := by
 rcases ltLe r 1000 with h1 | h1
 ·obtain ⟨n, rfl⟩ := Int.eq_ofNat_of_zero_le h
  have h2 := orb_lt (n := n) (by omega)
  unfold orbOk at h2
  rw [Bool.and_eq_true] at h2
  simpa using h2.2
 ·rw [orb_big h1]; simp
theorem orb_same {r x : Int} (h : 0 ≤ r) (hx : x ∈ orbitL r) : orbitL x = orbitL r ∧ 0 ≤ x ∧ (r < 1000 → x < 1000) ∧ (1000 ≤ r → x = r) := by
 rcases ltLe r 1000 with h1 | h1
 ·obtain ⟨n, rfl⟩ := Int.eq_ofNat_of_zero_le h
  have h2 := orb_lt (n := n) (by omega)
  unfold orbOk at h2
  rw [Bool.and_eq_true] at h2
  have h3 := List.all_eq_true.1 h2.1 x hx
  simp only [Bool.and_eq_true, decide_eq_true_eq] at h3
  exact ⟨h3.2, h3.1.1, fun _ => h3.1.2, fun h4 => by omega⟩
 ·rw [orb_big h1, List.mem_singleton] at hx
  subst hx
  exact ⟨rfl, h, fun h4 => by omega, fun _ => rfl⟩
theorem orb_len (r : Int) : (orbitL r).length ≤ 3 := by
 unfold orbitL; (repeat' split) <;> simp
def pts (l : List Int) : List Sp := l.map fun x => (x, x)
def clo (l : List Sp) (n : Nat) : List Sp := (List.range n).flatMap fun r => if inS l ((r : Nat) : Int) then pts (orbitL ((r : Nat) : Int)) else []
theorem clo_succ (l : List Sp) (n : Nat) : clo l (n + 1) = clo l n ++ if inS l ((n : Nat) : Int) then pts (orbitL ((n : Nat) : Int)) else [] := by
 unfold clo; rw [List.range_succ, List.flatMap_append]; simp
theorem clo_len (l : List Sp) : ∀ n, (clo l n).length ≤ 3 * n
  | 0 => by simp [clo]
  | n + 1 => by
    have h1 := clo_len l n
    have h2 := orb_len ((n : Nat) : Int)
    rw [clo_succ, List.length_append]
    split
    · simp only [pts, List.length_map]; omega
    · simp only [List.length_nil]; omega
def closeAll (l : List Sp) : List Sp := l ++ clo l 1000
theorem mem_pts {l : List Int} {s : Sp} : s ∈ pts l ↔ s.1 ∈ l ∧ s.2 = s.1 := by
 unfold pts
 rw [List.mem_map]
 constructor
 ·rintro ⟨x, hx, rfl⟩; exact ⟨hx, rfl⟩
 ·rintro ⟨h1, h2⟩; exact ⟨s.1, h1, Prod.ext rfl h2.symm⟩
theorem mem_clo {l : List Sp} {s : Sp} {n : Nat} : s ∈ clo l n ↔ ∃ q : Nat, q < n ∧ inS l ((q : Nat) : Int) = true ∧ s.1 ∈ orbitL ((q : Nat) : Int) ∧ s.2 = s.1 := by
 unfold clo
 rw [List.mem_flatMap]
 constructor
 ·rintro ⟨q, hq, h⟩
  split at h
  ·rename_i h1; obtain ⟨h2, h3⟩ := mem_pts.1 h; exact ⟨q, List.mem_range.1 hq, h1, h2, h3⟩
  ·cases h
 ·rintro ⟨q, hq, h1, h2, h3⟩
  refine ⟨q, List.mem_range.2 hq, ?_⟩
  rw [if_pos h1]; exact mem_pts.2 ⟨h2, h3⟩
theorem inS_close {l : List Sp} {r : Int} : inS (closeAll l) r = true ↔ inS l r = true ∨ ∃ q : Nat, q < 1000 ∧ inS l ((q : Nat) : Int) = true ∧ r ∈ orbitL ((q : Nat) : Int) := by
 unfold closeAll
 rw [inS_append, Bool.or_eq_true]
 refine or_congr Iff.rfl ?_
 rw [inS_iff]
 constructor
 ·rintro ⟨s, hs, h1, h2⟩
  obtain ⟨q, hq, h3, h4, h5⟩ := mem_clo.1 hs
  have : s.1 = r := by omega
  exact ⟨q, hq, h3, this ▸ h4⟩
 ·rintro ⟨q, hq, h3, h4⟩
  exact ⟨(r, r), mem_clo.2 ⟨q, hq, h3, h4, rfl⟩, Int.le_refl _, Int.le_refl _⟩
theorem close_ok {l : List Sp} (h : Canon l) : ∀ s ∈ closeAll l, vSp s := by
 intro s hs
 rcases List.mem_append.1 hs with hs | hs
 ·exact h.ok s hs
 ·obtain ⟨q, hq, h3, h4, h5⟩ := mem_clo.1 hs
  have h6 := orb_same (by omega) h4
  have := h6.2.2.1 (by omega)
  unfold vSp; omega
def closeP (a out : List Sp) (e : Int) : Prop := (checkE a ≠ 0 ∧ e = checkE a ∧ out = []) ∨ (checkE a = 0 ∧ ∃ j, IsSet j (inS (closeAll a)) ∧ fitsP j out e)
theorem pts_take {l : List Int} {i : Nat} {x : Int} (h : l[i]? = some x) : pts (l.take (i + 1)) = pts (l.take i) ++ [(x, x)] := by
 unfold pts; rw [List.take_add_one, h]; simp
end Go.Proofs
