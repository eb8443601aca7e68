/- Contracts and plain lemmas, part 4. -/
import Derived.Tactics
import Derived.Deep.Quiet
import Derived.Laws.AppendOwn
import Derived.KernelRfl
import Derived.Laws.Entries
import Derived.Laws.Build
import Derived.Below
import Derived.RowKit3
import Derived.StillTail
import Derived.Sort.Grow
import Derived.Deep.Draws
import Derived.Test.YtgifkdbbgffemaaDoorChecked
import Derived.Laws.StructEq
import Derived.MapKept
import Derived.Laws.BytesArg
import Derived.DeepKeys3
import Derived.Shelf.SlSortCmp.WholeK
import Derived.Test.YtgifkdbbgffemaaDoorProg
import Derived.Test.YtgifkdbbgffemaaDoorFo3
namespace Go.Proofs
open Go Go.Eng
set_option maxRecDepth 100000
mutual
def usesB (ks : List Int) : Re → Bool
  | .mk k _ args _ _ _ => ks.contains k || usesBs ks args
def usesBs (ks : List Int) : List Re → Bool
  | [] => false
  | t :: ts => usesB ks t || usesBs ks ts
end
def useF (ks : List Int) : Unit → Re → Bool × Unit := fun _ t => (!ks.contains t.kind, ())
mutual
theorem walk_use (ks : List Int) : ∀ (t : Re), (walkF (useF ks) t ()).1 = !usesB ks t
  | .mk k set args mn mx ng => by
    have h := walks_use ks args
    rw [walkF_eq]
    split
    · rename_i hk
      have hk : ks.contains k = false := by simpa only [useF, Re.kind, Bool.not_eq_true'] using hk
      show (walkFs (useF ks) args ()).1 = _
      rw [h]
      simp only [usesB, hk, Bool.false_or]
    · rename_i hk
      have hk : ks.contains k = true := by
        cases hc : ks.contains k with
        | true => rfl
        | false => exact absurd (show (useF ks () (.mk k set args mn mx ng)).1 = true by simp only [useF, Re.kind, hc, Bool.not_false]) hk
      simp only [usesB, hk, Bool.true_or, Bool.not_true]
theorem walks_use (ks : List Int) : ∀ (ts : List Re), (walkFs (useF ks) ts ()).1 = !usesBs ks ts
  | [] => rfl
  | t :: ts => by
    have h1 := walk_use ks t
    have h := walks_use ks ts
    rw [walkFs_cons]
    split
    · rename_i hk
      rw [hk] at h1
      have hu : usesB ks t = false := by simpa using h1.symm
      show (walkFs (useF ks) ts ()).1 = _
      rw [h]
      simp only [usesBs, hu, Bool.false_or]
    · rename_i hk
      have hu : usesB ks t = true := by
        cases hc : usesB ks t with
        | true => rfl
        | false => rw [hc] at h1; exact absurd h1 hk
      simp only [usesBs, hu, Bool.true_or, Bool.not_true]
end
theorem uses1_c (w0 : World) (t : Re) (vs : List Value) (ks : List Int) (v : Value) (b : Nat) (ht : ReAt w0 t vs) (hB : Blk w0 b #[v] 22) (hks : IntsAt w0 v ks) :
    Ret Tryd.prog 34 #[.agg vs.toArray, .pointer (some ⟨b, 0, none⟩)] w0 fun r w => r = .bool (!ks.contains t.kind) ∧ Ext w0 w := by
  obtain ⟨sa, sc, aa, ac, rfl, _, _, _⟩ := ht.form
  refine Ret_of Tryd.func34 rfl Tryd.ntmps34 (Nat.le_of_ble_eq_true rfl) ?_
  have E : Chg none1 w0 w0 := Chg.refl _ _
  refine Wp_seq_region ?_
  refine s_box (v := (.agg #[(.int .i64 t.kind), (.slice sa t.set.length sc), (.slice aa t.args.length ac), (.int .i64 t.mn), (.int .i64 t.mx), (.bool t.neg)])) (c := #[(.int .i64 t.kind), (.slice sa t.set.length sc), (.slice aa t.args.length ac), (.int .i64 t.mn), (.int .i64 t.mx), (.bool t.neg)]) (by decide) rfl rfl ?_
  intro b1 w1 N1
  have F1 := N1.ge E
  have O1_b := N1.lt hB
  replace hB := N1.keep hB
  replace E := E.ext N1.ext
  have B1 := N1.blk
  refine WpL_val rfl rfl (by decide) (r_assign (v := (.bool false)) rfl) ?_
  refine WpL_nil ?_
  refine Wp_seq_region ?_
  refine WpL_val rfl rfl (by decide) (r_load (v := v) rfl flat22 (hB.cell rfl)) ?_
  refine WpL_val rfl rfl (by decide) (r_fieldAddr (b := b1) (o := 0) (o' := 0) rfl Tryd.underlying27 rfl siz3 rfl) ?_
  refine WpL_val rfl rfl (by decide) (r_load (v := (.int .i64 t.kind)) rfl flat3 (B1.cell rfl)) ?_
  refine WpL_enter rfl rfl (by decide) (r_callF (vs := [v, (.int .i64 t.kind)]) Tryd.func35 nm35 bd35 rfl) (hasi_c _ v t.kind ks (hks.ext E)) ?_
  rintro _ w9 ⟨rfl, X9⟩
  replace hB := X9.keep hB
  replace B1 := X9.keep B1
  replace E := E.ext X9
  refine WpL_val rfl rfl (by decide) (r_not (b := ks.contains t.kind) rfl) ?_
  refine WpL_val rfl rfl (by decide) (r_assign (v := (.bool (!(ks.contains t.kind)))) rfl) ?_
  refine WpL_nil ?_
  refine Wp_ret ?_
  refine fin_tmp Tryd.results34 (v := (.bool (!(ks.contains t.kind)))) rfl ?_
  exact ⟨rfl, E⟩
set_option maxHeartbeats 1000000 in
theorem uses_c (w0 : World) (t : Re) (vs : List Value) (ks : List Int) (v : Value) (ht : ReAt w0 t vs) (hks : IntsAt w0 v ks) :
    Ret Tryd.prog 15 #[.agg vs.toArray, v] w0 fun r w => r = .bool (usesB ks t) ∧ Ext w0 w := by
  have ht0 := ht
  obtain ⟨sa, sc, aa, ac, rfl, _, _, _⟩ := ht.form
  obtain ⟨ka, kc, rfl⟩ := SlAt.form hks
  simp only [List.length_map] at hks ⊢
  refine Ret_of Tryd.func15 rfl Tryd.ntmps15 (Nat.le_of_ble_eq_true rfl) ?_
  have E : Chg none1 w0 w0 := Chg.refl _ _
  refine Wp_seq_region ?_
  refine s_box (v := (.agg #[(.int .i64 t.kind), (.slice sa t.set.length sc), (.slice aa t.args.length ac), (.int .i64 t.mn), (.int .i64 t.mx), (.bool t.neg)])) (c := #[(.int .i64 t.kind), (.slice sa t.set.length sc), (.slice aa t.args.length ac), (.int .i64 t.mn), (.int .i64 t.mx), (.bool t.neg)]) (by decide) rfl rfl ?_
  intro br wr Nr
  have Fr := Nr.ge E
  replace E := E.ext Nr.ext
  have Br := Nr.blk
  refine s_box (v := (.slice ka ks.length kc)) (c := #[(.slice ka ks.length kc)]) (by decide) rfl rfl ?_
  intro bp wp Np
  have Fp := Np.ge E
  have Op_br := Np.lt Br
  replace Br := Np.keep Br
  replace E := E.ext Np.ext
  have Bp := Np.blk
  refine WpL_val rfl rfl (by decide) (r_assign (v := (.bool false)) rfl) ?_
  refine WpL_nil ?_
  refine Wp_seq_region ?_
  refine WpL_val rfl rfl (by decide) (r_loadAgg (vs := [(.int .i64 t.kind), (.slice sa t.set.length sc), (.slice aa t.args.length ac), (.int .i64 t.mn), (.int .i64 t.mx), (.bool t.neg)]) rfl agg27 siz27 rfl (Br.cells rfl)) ?_
  refine WpL_val rfl rfl (by decide) (r_makeFunc (vs := []) (us := [(.pointer (some ⟨bp, 0, none⟩))]) rfl rfl) ?_
  have hf : ∀ (s : Unit) (w : World) (t : Re) (vs : List Value), bp + 1 ≤ w.heap.size → Ext wp w → Blk w bp #[.slice ka ks.length kc] 22 → ReAt wp t vs → CallV Tryd.prog (.func (.func 34) #[] #[.pointer (some ⟨bp, 0, none⟩)]) #[.agg vs.toArray] w fun r w' => r = .bool (useF ks s t).1 ∧ Chg none1 w w' ∧ Blk w' bp #[.slice ka ks.length kc] 22 := fun s w t vs _ hE hI ht => CallV.mk (first := #[]) (cap := #[.pointer (some ⟨bp, 0, none⟩)]) Tryd.func34 nm34 bd34 rfl ((uses1_c w t vs ks (.slice ka ks.length kc) bp (ReAt.ext hE t ht) hI ((hks.ext E).ext hE)).mono fun r w' h => ⟨h.1, h.2, Ext.keep h.2 hI⟩)
  refine WpL_enter rfl rfl (by decide) (r_callF (vs := [(.agg #[(.int .i64 t.kind), (.slice sa t.set.length sc), (.slice aa t.args.length ac), (.int .i64 t.mn), (.int .i64 t.mx), (.bool t.neg)]), (.func (.func 34) #[] #[(.pointer (some ⟨bp, 0, none⟩))])]) Tryd.func33 nm33 bd33 rfl) ((walk_c (useF ks) (fun _ w => Blk w bp #[.slice ka ks.length kc] 22) none1 (bp + 1) _ wp (fun b hb => hb.elim) (fun s w w' hI e => e.keep hI) hf t.size t (Nat.le_refl _) () _ _ (by have := Bp.lt; omega) (Ext.refl _) Bp (ReAt.ext E t ht0)).mono (R' := fun r w => r = .bool (walkF (useF ks) t ()).1 ∧ Ext wp w) (fun r w h => ⟨h.1, h.2.1⟩)) ?_
  rintro _ w9 ⟨rfl, X9⟩
  replace Br := X9.keep Br
  replace Bp := X9.keep Bp
  replace E := E.ext X9
  refine WpL_val rfl rfl (by decide) (r_not (b := (walkF (useF ks) t ()).1) rfl) ?_
  refine WpL_val rfl rfl (by decide) (r_assign (v := (.bool (!((walkF (useF ks) t ()).1)))) rfl) ?_
  refine WpL_nil ?_
  refine Wp_ret ?_
  refine fin_tmp Tryd.results15 (v := (.bool (!((walkF (useF ks) t ()).1)))) rfl ?_
  exact ⟨bool_eq (by rw [walk_use]; simp), E⟩
end Go.Proofs
namespace Go.Proofs
open Go Go.Eng Go.Sort
set_option maxRecDepth 100000
def FLen (f : Frg) (q : Nat) : Prop := ∀ a d t, (f a d t).1.length ≤ q ∧ (f a d t).2 ≤ t + q
theorem FLen.mono {f : Frg} {q q' : Nat} (h : FLen f q) (hq : q ≤ q') : FLen f q' := fun a d t => ⟨Nat.le_trans (h a d t).1 hq, Nat.le_trans (h a d t).2 (by omega)⟩
end Go.Proofs
namespace Go.Eng
open Go
abbrev Spt := Nat × Nat × Nat
def kSp (s : Spt) : Value := .agg #[.int .i64 ((s.1 : Nat) : Int), .int .i64 ((s.2.1 : Nat) : Int), .int .i64 ((s.2.2 : Nat) : Int)]
end Go.Eng
namespace Go.Proofs
open Go Go.Eng Go.Sort
set_option maxRecDepth 100000
end Go.Proofs
namespace Go.Proofs
open Go Go.Eng Go.Sort
set_option maxRecDepth 100000
abbrev TRn : Nat := 91
def grpV (G : Grp) : List Value := G.flatMap fun p => [.int .i64 p.1, .int .i64 p.2]
abbrev runV (pb mb bb : Nat) (ta : Option Addr) (tn tc n : Nat) (gf gt : Int) (G : Grp) : List Value :=
  [.pointer (some ⟨pb, 0, none⟩), .slice ta tn tc, .map (some mb), .slice (some ⟨bb, 0, none⟩) n n, .int .i64 gf, .int .i64 gt] ++ grpV G
/-- A runner. -/
structure RunAt (w : World) (rb pb mb bb : Nat) (ta : Option Addr) (tn tc : Nat) (B : List Int) (es : List (Spt × Bool)) (gf gt : Int) (G : Grp) : Prop where
  blk : Blk w rb (runV pb mb bb ta tn tc B.length gf gt G).toArray TRn
  map : MapAt w mb kSp kBool es
  beg : Blk w bb (B.map (Value.int .i64)).toArray TIn
  gl : G.length = 10
theorem RunAt.chg {M : Nat → Prop} {w w' : World} {rb pb mb bb : Nat} {ta : Option Addr} {tn tc : Nat} {B : List Int} {es : List (Spt × Bool)} {gf gt : Int} {G : Grp} (h : RunAt w rb pb mb bb ta tn tc B es gf gt G) (c : Chg M w w') (h1 : ¬ M rb) (h2 : ¬ M mb) (h3 : ¬ M bb) : RunAt w' rb pb mb bb ta tn tc B es gf gt G :=
  ⟨c.keep h1 h.blk, c.keepM h2 h.map, c.keep h3 h.beg, h.gl⟩
theorem RunAt.ext {w w' : World} {rb pb mb bb : Nat} {ta : Option Addr} {tn tc : Nat} {B : List Int} {es : List (Spt × Bool)} {gf gt : Int} {G : Grp} (h : RunAt w rb pb mb bb ta tn tc B es gf gt G) (c : Ext w w') : RunAt w' rb pb mb bb ta tn tc B es gf gt G := h.chg c (fun f => f) (fun f => f) fun f => f
theorem ProgAt.head {F : Nat → Prop} {w : World} {b : Nat} {r : Re} (h : ProgAt F w b r) : ∃ cb cc, Blk w b #[.slice (some ⟨cb, 0, none⟩) (progOf r).length cc, iV (tempsOf r), iV 0] TPg := by
  cases h with
  | mk hB hF hF2 hb htm hn hl hc hr hs => subst hn; exact ⟨_, _, hB⟩
end Go.Proofs
namespace Go.Proofs
open Go Go.Eng Go.Sort
set_option maxRecDepth 100000
structure Ctx (F : Nat → Prop) (w : World) (rb pb mb bb : Nat) (ta : Option Addr) (tn tc : Nat) (text : List Int) (r : Re) : Prop where
  prog : ProgAt F w pb r
  fl : ∀ y, F y → y < w.heap.size ∧ y ≠ rb ∧ y ≠ mb ∧ y ≠ bb
  txt : IntsAt w (.slice ta tn tc) text
  tf : text = [] ∨ ∃ b, (Value.slice ta tn tc).ownBlock = some b ∧ F b
  tl : text.length ≤ 1000
  d1 : rb ≠ mb
  d2 : rb ≠ bb
  d3 : mb ≠ bb
theorem Ctx.chg {F M : Nat → Prop} {w w' : World} {rb pb mb bb : Nat} {ta : Option Addr} {tn tc : Nat} {text : List Int} {r : Re} (h : Ctx F w rb pb mb bb ta tn tc text r) (c : Chg M w w') (hM : ∀ y, F y → ¬ M y) : Ctx F w' rb pb mb bb ta tn tc text r :=
  ⟨h.prog.chg c hM, fun y hy => ⟨Nat.lt_of_lt_of_le (h.fl y hy).1 c.size, (h.fl y hy).2⟩, SlAt.chg2 h.txt c (h.tf.elim (fun e => .inl (by rw [e]; rfl)) fun ⟨b, h1, h2⟩ => .inr ⟨b, h1, hM b h2⟩), h.tf, h.tl, h.d1, h.d2, h.d3⟩
theorem Ctx.ext {F : Nat → Prop} {w w' : World} {rb pb mb bb : Nat} {ta : Option Addr} {tn tc : Nat} {text : List Int} {r : Re} (h : Ctx F w rb pb mb bb ta tn tc text r) (c : Ext w w') : Ctx F w' rb pb mb bb ta tn tc text r := h.chg c fun _ _ f => f
def Fails (text : List Int) (code : List Ins) (n : Nat) (es : List (Spt × Bool)) : Prop := ∀ q ∈ es, q.2 = true ∧ ∀ (B : List Int) (G : Grp), B.length = n → Res text code q.1.1 q.1.2.1 q.1.2.2 B G none
end Go.Proofs
namespace Go.Proofs
open Go Go.Eng Go.Sort
set_option maxRecDepth 100000
theorem ProgAt.row {F : Nat → Prop} {w : World} {pb a : Nat} {r : Re} {ins : Ins} (h : ProgAt F w pb r) (ha : (progOf r)[a]? = some ins) : ∃ (cb cc qb n : Nat) (row : List Value), Blk w pb #[.slice (some ⟨cb, 0, none⟩) n cc, iV (tempsOf r), iV 0] TPg ∧ CellsAt w cb (0 + a * 8) row ∧ RowF F w qb ins row ∧ (∀ r' ng, ins = .look r' ng → ProgAt F w qb r') ∧ a < n ∧ n ≤ 1000 ∧ F pb := by
  cases h with
  | @mk _ cb n cc _ rows pbs hB hF hF2 hb htm hn hl hc hr hs =>
    obtain ⟨row, hrow⟩ := get_of_lt (l := rows) (i := a) (by have := lt_of_get ha; omega)
    have h8 : ∀ q ∈ rows, q.length = 8 := fun q hq => by
      obtain ⟨i, hi⟩ := List.getElem?_of_mem hq
      obtain ⟨x, hx⟩ := get_of_lt (l := progOf r) (i := i) (by have := lt_of_get hi; omega)
      exact (hr i x q hx hi).len
    have hf := hr a ins row ha hrow
    refine ⟨cb, cc, pbs a, n, row, hB, fun i u hu => ?_, hf, fun r' ng e => hs a r' ng (e ▸ ha), by have := lt_of_get ha; omega, hb, hF⟩
    have h9 := flat8_get h8 hrow (f := i) (by have := lt_of_get hu; rw [hf.len] at this; exact this)
    rw [Nat.zero_add]
    have h10 := hc (a * 8 + i) u (h9.trans hu)
    rwa [Nat.zero_add] at h10
end Go.Proofs
namespace Go.Proofs
open Go Go.Eng Go.Sort
set_option maxRecDepth 100000
theorem Fails.nil (text : List Int) (code : List Ins) (n : Nat) : Fails text code n [] := fun q hq => by cases hq
end Go.Proofs
namespace Go.Proofs
open Go Go.Eng
set_option maxRecDepth 100000
def RowsOf (w : World) : List Re → List (List Value) → Prop
  | [], [] => True
  | t :: ts, r :: rs => ReAt w t r ∧ RowsOf w ts rs
  | _, _ => False
theorem RowsOf.ext {w w' : World} (e : Ext w w') : ∀ {ts : List Re} {rs : List (List Value)}, RowsOf w ts rs → RowsOf w' ts rs
  | [], [], _ => trivial
  | t :: ts, r :: rs, h => ⟨ReAt.ext e t h.1, RowsOf.ext e h.2⟩
  | [], _ :: _, h => h.elim
  | _ :: _, [], h => h.elim
theorem RowsOf.len {w : World} : ∀ {ts : List Re} {rs : List (List Value)}, RowsOf w ts rs → rs.length = ts.length
  | [], [], _ => rfl
  | t :: ts, r :: rs, h => by simp only [List.length_cons, RowsOf.len h.2]
  | [], _ :: _, h => h.elim
  | _ :: _, [], h => h.elim
theorem RowsOf.six {w : World} : ∀ {ts : List Re} {rs : List (List Value)}, RowsOf w ts rs → ∀ r ∈ rs, r.length = 6
  | [], [], _, r, hr => by cases hr
  | t :: ts, r :: rs, h, r', hr => by
    rcases List.mem_cons.1 hr with rfl | hr
    · exact h.1.len
    · exact RowsOf.six h.2 r' hr
  | [], _ :: _, h, _, _ => h.elim
  | _ :: _, [], h, _, _ => h.elim
theorem RowsOf.snoc {w : World} : ∀ {ts : List Re} {rs : List (List Value)}, RowsOf w ts rs → ∀ {t : Re} {r : List Value}, ReAt w t r → RowsOf w (ts ++ [t]) (rs ++ [r])
  | [], [], _, _, _, h => ⟨h, trivial⟩
  | t :: ts, r :: rs, h, _, _, h' => ⟨h.1, RowsOf.snoc h.2 h'⟩
  | [], _ :: _, h, _, _, _ => h.elim
  | _ :: _, [], h, _, _, _ => h.elim
theorem RowsOf.get {w : World} : ∀ {ts : List Re} {rs : List (List Value)}, RowsOf w ts rs → ∀ {i : Nat} {t : Re}, ts[i]? = some t → ∃ r, rs[i]? = some r ∧ ReAt w t r
  | [], [], _, _, _, h => by simp at h
  | t :: ts, r :: rs, h, 0, _, h' => by simp at h'; subst h'; exact ⟨r, rfl, h.1⟩
  | t :: ts, r :: rs, h, i + 1, _, h' => by
    obtain ⟨r', h1, h2⟩ := RowsOf.get h.2 (i := i) (by simpa using h')
    exact ⟨r', by simpa using h1, h2⟩
  | [], _ :: _, h, _, _, _ => h.elim
  | _ :: _, [], h, _, _, _ => h.elim
def Apart (u v : Value) : Prop := ∀ k, u.ownBlock = some k → v.ownBlock ≠ some k
theorem Apart.symm {u v : Value} (h : Apart u v) : Apart v u := fun k h1 h2 => h k h2 h1
theorem Apart.nil (v : Value) : Apart (.slice none 0 0) v := fun k h => by cases h
end Go.Proofs
namespace Go.Proofs
open Go Go.Eng
def Wf (n : Nat) (R : Rl) : Prop := ∀ i j, R i j = true → i ≤ j ∧ j ≤ n
theorem wf_no (n : Nat) : Wf n noR := fun i j h => by simp [noR] at h
theorem wf_id (n : Nat) : Wf n (idR n) := fun i j h => by simp [idR] at h; omega
theorem wf_or {n : Nat} {A B : Rl} (a : Wf n A) (b : Wf n B) : Wf n (orR A B) := fun i j h => by
  simp only [orR, Bool.or_eq_true] at h; rcases h with h | h; exact a i j h; exact b i j h
theorem wf_and {n : Nat} {A B : Rl} (a : Wf n A) : Wf n (andR A B) := fun i j h => by
  simp only [andR, Bool.and_eq_true] at h; exact a i j h.1
theorem wf_then {n : Nat} {A B : Rl} (a : Wf n A) (b : Wf n B) : Wf n (thenR A B n) := fun i k h => by
  simp only [thenR, Bool.and_eq_true, List.any_eq_true] at h
  obtain ⟨_, j, _, h1, h2⟩ := h
  have := a i j h1; have := b j k h2; omega
theorem wf_star {n : Nat} {A : Rl} (a : Wf n A) : ∀ m, Wf n (starN n A m)
  | 0 => wf_id n
  | m + 1 => wf_or (wf_star a m) (wf_then (wf_star a m) a)
theorem wf_pow {n : Nat} {A : Rl} (a : Wf n A) : ∀ m, Wf n (powR n A m)
  | 0 => wf_id n
  | m + 1 => wf_then (wf_pow a m) a
theorem wf_rep {n : Nat} {A : Rl} (a : Wf n A) (mn : Int) : ∀ m, Wf n (repR n A mn m)
  | 0 => wf_no n
  | m + 1 => by
    simp only [repR]
    split
    · exact wf_or (wf_rep a mn m) (wf_pow a m)
    · exact wf_rep a mn m
theorem wf_not (n : Nat) (A : Rl) : Wf n (notR n A) := fun i j h => by simp [notR] at h; omega
theorem wf_look (n : Nat) (A : Rl) (ng : Bool) : Wf n (lookR n A ng) := fun i j h => by simp [lookR] at h; omega
theorem wf_set (text : List Int) (set : List (Int × Int)) : Wf text.length (setR text set) := fun i j h => by
  simp only [setR, Bool.and_eq_true, decide_eq_true_eq] at h
  obtain ⟨h1, rfl⟩ := h
  cases hx : text[i]? with
  | none => simp [hx] at h1
  | some c => have := lt_of_get hx; omega
theorem wf_head {n : Nat} {L : List Rl} (h : ∀ x ∈ L, Wf n x) : Wf n (L.headD noR) := by
  cases L with
  | nil => exact wf_no n
  | cons x r => exact h x (by simp)
theorem wf_foldThen {n : Nat} : ∀ (L : List Rl) (A : Rl), Wf n A → (∀ x ∈ L, Wf n x) → Wf n (L.foldl (fun a x => thenR a x n) A)
  | [], _, h, _ => h
  | x :: L, A, h, hl => wf_foldThen L _ (wf_then h (hl x (by simp))) fun y hy => hl y (by simp [hy])
theorem wf_foldOr {n : Nat} : ∀ (L : List Rl) (A : Rl), Wf n A → (∀ x ∈ L, Wf n x) → Wf n (L.foldl orR A)
  | [], _, h, _ => h
  | x :: L, A, h, hl => wf_foldOr L _ (wf_or h (hl x (by simp))) fun y hy => hl y (by simp [hy])
theorem wf_foldAnd {n : Nat} : ∀ (L : List Rl) (A : Rl), Wf n A → Wf n (L.foldl andR A)
  | [], _, h => h
  | x :: L, A, h => wf_foldAnd L _ (wf_and h)
theorem wf_relK (text : List Int) (k : Int) (set : List (Int × Int)) (L : List Rl) (mn mx : Int) (ng : Bool) (h : ∀ x ∈ L, Wf text.length x) : Wf text.length (relK text k set L mn mx ng) := by
  unfold relK
  repeat' split
  · exact wf_id _
  · exact wf_set _ _
  · exact wf_foldThen _ _ (wf_id _) h
  · exact wf_foldOr _ _ (wf_no _) h
  · exact wf_foldAnd _ _ (wf_head h)
  · exact wf_not _ _
  · exact wf_star (wf_head h) _
  · exact wf_rep (wf_head h) _ _
  · exact wf_head h
  · exact wf_look _ _ _
  · exact wf_no _
mutual
theorem wf_rel (text : List Int) : ∀ (t : Re), Wf text.length (relOf text t)
  | .mk k set args mn mx ng => by simp only [relOf]; exact wf_relK _ _ _ _ _ _ _ (wf_rels text args)
theorem wf_rels (text : List Int) : ∀ (ts : List Re), ∀ x ∈ relsOf text ts, Wf text.length x
  | [], _, h => by simp [relsOf] at h
  | t :: ts, x, h => by
    simp only [relsOf, List.mem_cons] at h
    rcases h with rfl | h
    · exact wf_rel text t
    · exact wf_rels text ts x h
end
theorem rl_ext {A B : Rl} (h : ∀ i j, A i j = true ↔ B i j = true) : A = B := by
  funext i j; exact Bool.eq_iff_iff.2 (h i j)
theorem then_iff {n : Nat} (hn : n ≤ 24) {A B : Rl} (a : Wf n A) (i k : Nat) : thenR A B n i k = true ↔ ∃ j, A i j = true ∧ B j k = true := by
  simp only [thenR, Bool.and_eq_true, List.any_eq_true, List.mem_range, decide_eq_true_eq]
  constructor
  · rintro ⟨_, j, _, h⟩; exact ⟨j, h⟩
  · rintro ⟨j, h1, h2⟩; have := a i j h1; exact ⟨by omega, j, by omega, h1, h2⟩
theorem or_iff (A B : Rl) (i j : Nat) : orR A B i j = true ↔ A i j = true ∨ B i j = true := by simp [orR]
theorem id_iff (n i j : Nat) : idR n i j = true ↔ i ≤ n ∧ j = i := by simp [idR]
theorem id_then {n : Nat} (hn : n ≤ 24) {A : Rl} (a : Wf n A) : thenR (idR n) A n = A := rl_ext fun i k => by
  rw [then_iff hn (wf_id n)]
  constructor
  · rintro ⟨j, h1, h2⟩; rw [id_iff] at h1; obtain ⟨_, rfl⟩ := h1; exact h2
  · intro h; have := a i k h; exact ⟨i, (id_iff n i i).2 ⟨by omega, rfl⟩, h⟩
theorem then_assoc {n : Nat} (hn : n ≤ 24) {A B C : Rl} (a : Wf n A) (b : Wf n B) : thenR A (thenR B C n) n = thenR (thenR A B n) C n := rl_ext fun i k => by
  rw [then_iff hn a, then_iff hn (wf_then a b)]
  constructor
  · rintro ⟨j, h1, h2⟩; rw [then_iff hn b] at h2; obtain ⟨m, h3, h4⟩ := h2; exact ⟨m, (then_iff hn a i m).2 ⟨j, h1, h3⟩, h4⟩
  · rintro ⟨j, h1, h2⟩; rw [then_iff hn a] at h1; obtain ⟨m, h3, h4⟩ := h1; exact ⟨m, h3, (then_iff hn b m k).2 ⟨j, h4, h2⟩⟩
/-- Repetition. -/
inductive St (n : Nat) (A : Rl) (i : Nat) : Nat → Prop where
  | refl : i ≤ n → St n A i i
  | step {j k : Nat} : St n A i j → A j k = true → St n A i k
theorem St.trans {n : Nat} {A : Rl} {i j k : Nat} (h : St n A i j) (h' : St n A j k) : St n A i k := by
  induction h' with
  | refl _ => exact h
  | step _ h2 ih => exact .step ih h2
theorem St.one {n : Nat} {A : Rl} (a : Wf n A) {i j : Nat} (h : A i j = true) : St n A i j := .step (.refl (by have := a i j h; omega)) h
theorem St.le {n : Nat} {A : Rl} (a : Wf n A) {i j : Nat} (h : St n A i j) : i ≤ n ∧ j ≤ n := by
  induction h with
  | refl h => exact ⟨h, h⟩
  | step _ h2 ih => exact ⟨ih.1, (a _ _ h2).2⟩
abbrev catT (s t : Re) : Re := .mk 3 [] [s, t] 0 0 false
abbrev emptyT : Re := .mk 1 [] [] 0 0 false
abbrev noneT : Re := .mk 0 [] [] 0 0 false
section
variable (text : List Int)
theorem rel_cat (hn : text.length ≤ 24) (s t : Re) : relOf text (catT s t) = thenR (relOf text s) (relOf text t) text.length := by
  simp only [relOf, relsOf, relK, List.foldl]
  simp [id_then hn (wf_rel text s)]
end
theorem ok_two {k : Int} (h : k = 3 ∨ k = 4 ∨ k = 7) {s t : Re} (a : okRe s) (b : okRe t) : okRe (.mk k [] [s, t] 0 0 false) := by simp only [okRe, okRes]; exact ⟨node_two h s t, a, b, trivial⟩
def Txt (text : List Int) : Prop := text.length ≤ 24 ∧ ∀ x ∈ text, runeB x = true
theorem check_zero {t : Re} {text : List Int} (ht : okRe t) (hs : t.size ≤ 40) (h : Txt text) : checkP t text = 0 := by
  have h1 : fitsE t 40 = 0 := (fitsE_zero (by decide) (by decide)).2 ⟨ht, by omega⟩
  unfold checkP
  rw [if_neg (by simp [h1]), if_neg (by have := h.1; omega), if_neg]
  simp only [List.any_eq_true, Bool.not_eq_true', not_exists, not_and]
  intro x hx
  simp [h.2 x hx]
/-- Two expressions of which the program says that they match the same parts of a text. -/
def Sm (s t : Re) (text : List Int) : Prop := checkP s text = 0 ∧ checkP t text = 0 ∧ pairsL (relOf text s) (text.length + 1) = pairsL (relOf text t) (text.length + 1)
theorem sm_mk {s t : Re} {text : List Int} (h : Txt text) (a : okRe s) (b : okRe t) (ha : s.size ≤ 40) (hb : t.size ≤ 40) (he : relOf text s = relOf text t) : Sm s t text :=
  ⟨check_zero a ha h, check_zero b hb h, by rw [he]⟩
section
variable {text : List Int} (h : Txt text) {a b c : Re} (oa : okRe a) (ob : okRe b) (oc : okRe c)
include h oa
theorem kl1 (ob : okRe b) (oc : okRe c) (hs : a.size + b.size + c.size ≤ 18) : Sm (catT a (catT b c)) (catT (catT a b) c) text :=
  sm_mk h (ok_two (by simp) oa (ok_two (by simp) ob oc)) (ok_two (by simp) (ok_two (by simp) oa ob) oc) (by simp [Re.size, Re.sizes]; omega) (by simp [Re.size, Re.sizes]; omega)
    (by simp only [rel_cat text h.1]; exact then_assoc h.1 (wf_rel text a) (wf_rel text b))
end
end Go.Proofs
namespace Go.Proofs
open Go Go.Eng
set_option maxRecDepth 100000
theorem checkP_ok {t : Re} {text : List Int} (h0 : checkP t text = 0) : okRe t ∧ (t.size : Int) ≤ 40 ∧ text.length ≤ 24 := by
  unfold checkP at h0
  by_cases h1 : fitsE t 40 = 0
  · rw [if_neg (by omega)] at h0
    obtain ⟨a, b⟩ := (fitsE_zero (by decide) (by decide)).1 h1
    refine ⟨a, b, ?_⟩
    split at h0 <;> omega
  · rw [if_pos h1] at h0; omega
theorem shr_bit {x n : Nat} (f : Nat → Bool) (hx : x = maskN 25 f) (hn : n ≤ 24) : decide ((((x / 2 ^ n) &&& 1 : Nat) : Int) = 1) = f n := by
  have h1 : (x / 2 ^ n) &&& 1 = x / 2 ^ n % 2 := Nat.and_one_is_mod _
  have h2 : x.testBit n = decide (x / 2 ^ n % 2 = 1) := Nat.testBit_eq_decide_div_mod_eq
  have h3 : x.testBit n = f n := by rw [hx, maskN_bit]; simp; omega
  rw [← h3, h2, h1]
  congr 1
  rw [eq_iff_iff]; omega
set_option maxHeartbeats 1000000 in
theorem rmatch_c (w0 : World) (t : Re) (vs : List Value) (vt : Value) (text : List Int) (ht : ReAt w0 t vs) (htx : IntsAt w0 vt text) (hT : TabOk w0) :
    Ret Tryd.prog 19 #[.agg vs.toArray, vt] w0 fun v w => v = .tuple #[.bool (if checkP t text = 0 then relOf text t 0 text.length else false), .int .i64 (checkP t text)] ∧ Ext w0 w := by
  have ht0 := ht
  obtain ⟨sa, sc, aa, ac, rfl, hset, hlen, hargs⟩ := ht.form
  obtain ⟨ta, tc, rfl⟩ := SlAt.form htx
  simp only [List.length_map] at htx ⊢
  refine Ret_of Tryd.func19 rfl Tryd.ntmps19 (Nat.le_of_ble_eq_true rfl) ?_
  have E : Chg none1 w0 w0 := Chg.refl _ _
  refine Wp_seq_region ?_
  refine s_box (v := (.agg #[(.int .i64 t.kind), (.slice sa t.set.length sc), (.slice aa t.args.length ac), (.int .i64 t.mn), (.int .i64 t.mx), (.bool t.neg)])) (c := #[(.int .i64 t.kind), (.slice sa t.set.length sc), (.slice aa t.args.length ac), (.int .i64 t.mn), (.int .i64 t.mx), (.bool t.neg)]) (by decide) rfl rfl ?_
  intro b1 w1 N1
  have F1 := N1.ge E
  replace E := E.ext N1.ext
  have B1 := N1.blk
  refine WpL_val rfl rfl (by decide) (r_assign (v := (.bool false)) rfl) ?_
  refine WpL_val rfl rfl (by decide) (r_assign (v := (.int .i64 0)) rfl) ?_
  refine WpL_nil ?_
  refine Wp_seq ?_
  refine Wp_seq_region ?_
  refine WpL_val rfl rfl (by decide) (r_loadAgg (vs := [(.int .i64 t.kind), (.slice sa t.set.length sc), (.slice aa t.args.length ac), (.int .i64 t.mn), (.int .i64 t.mx), (.bool t.neg)]) rfl agg27 siz27 rfl (B1.cells rfl)) ?_
  refine WpL_val rfl rfl (by decide) (r_move (v := (.slice ta text.length tc)) rfl) ?_
  refine WpL_enter rfl rfl (by decide) (r_callF (vs := [(.agg #[(.int .i64 t.kind), (.slice sa t.set.length sc), (.slice aa t.args.length ac), (.int .i64 t.mn), (.int .i64 t.mx), (.bool t.neg)]), (.slice ta text.length tc)]) Tryd.func25 nm25 bd25 rfl) (pcheck_c _ t _ _ text (ReAt.ext E t ht0) (htx.ext E)) ?_
  rintro _ w9 ⟨rfl, X9⟩
  replace B1 := X9.keep B1
  replace E := E.ext X9
  refine WpL_val rfl rfl (by decide) (r_assign (v := (.int .i64 (checkP t text))) rfl) ?_
  refine WpL_nil ?_
  refine Wp_seq_region ?_
  refine WpL_val rfl rfl (by decide) (r_move (v := (.int .i64 (checkP t text))) rfl) ?_
  refine WpL_val rfl rfl (by decide) (r_neq (k := .i64) (a := checkP t text) (b := 0) rfl rfl) ?_
  refine WpL_nil ?_
  refine Wp_cond (b := decide ((checkP t text : Int) ≠ 0)) rfl (fun h0 => ?_) (fun h0 => ?_)
  · have kh0 := h0
    replace h0 := of_decide_eq_true h0
    refine Wp_seq_region ?_
    refine WpL_val rfl rfl (by decide) (r_move (v := (.int .i64 (checkP t text))) rfl) ?_
    refine WpL_val rfl rfl (by decide) (r_assign (v := (.bool false)) rfl) ?_
    refine WpL_val rfl rfl (by decide) (r_assign (v := (.int .i64 (checkP t text))) rfl) ?_
    refine WpL_nil ?_
    refine Wp_ret ?_
    refine thn_ret ?_
    refine fin_tmp2 Tryd.results19 (v := (.bool false)) (v' := (.int .i64 (checkP t text))) rfl rfl ?_
    exact ⟨by rw [if_neg h0], E⟩
  · have kh0 := h0
    replace h0 := of_decide_eq_false h0
    have h0' : checkP t text = 0 := by omega
    obtain ⟨hok, hsz, hn⟩ := checkP_ok h0'
    refine Wp_skip ?_
    refine thn_normal ?_
    refine Wp_seq_region ?_
    refine WpL_val rfl rfl (by decide) (r_loadAgg (vs := [(.int .i64 t.kind), (.slice sa t.set.length sc), (.slice aa t.args.length ac), (.int .i64 t.mn), (.int .i64 t.mx), (.bool t.neg)]) rfl agg27 siz27 rfl (B1.cells rfl)) ?_
    refine WpL_val rfl rfl (by decide) (r_move (v := (.slice ta text.length tc)) rfl) ?_
    refine WpL_enter rfl rfl (by decide) (r_callF (vs := [(.agg #[(.int .i64 t.kind), (.slice sa t.set.length sc), (.slice aa t.args.length ac), (.int .i64 t.mn), (.int .i64 t.mx), (.bool t.neg)]), (.slice ta text.length tc)]) Tryd.func26 nm26 bd26 rfl) (of_c text hn 40 (by decide) t (by omega) hok _ _ _ (ReAt.ext E t ht0) (htx.ext E) (hT.ext E)) ?_
    rintro _ w19 ⟨bm, rfl, hbm, Bm, X19⟩
    replace B1 := X19.keep B1
    replace E := E.ext X19
    obtain ⟨x, hx⟩ : ∃ x, x = maskN 25 (relOf text t 0) := ⟨_, rfl⟩
    have hxl : x < 4294967296 := hx ▸ mask_lt32 _
    refine WpL_val rfl rfl (by decide) (r_nilCheck (a := ⟨bm, 0, none⟩) rfl) ?_
    refine WpL_val rfl rfl (by decide) (r_indexArr (b := bm) (o := 0) (i := 0) (o' := 0) rfl rfl rfl Tryd.underlying101 siz64 (by omega) (by omega)) ?_
    refine WpL_val rfl rfl (by decide) (r_load (v := (.int .u32 ((x : Nat) : Int))) rfl flat64 ((Bm.cell (rowArr_get _ (by omega))).trans (by rw [hx]))) ?_
    refine WpL_val rfl rfl (by decide) (r_move (v := (.slice ta text.length tc)) rfl) ?_
    refine WpL_val rfl rfl (by decide) (r_lenSlice (ad := ta) (n := text.length) (cap := tc) Tryd.underlying22 rfl) ?_
    refine WpL_val rfl rfl (by decide) (r_shr (k := .u32) (a := ((x : Nat) : Int)) (b := ((text.length : Nat) : Int)) (c := ((x / 2 ^ text.length : Nat) : Int)) (k' := .i64) rfl rfl (by omega) (by rw [Int.fdiv_eq_ediv_of_nonneg _ (Int.le_of_lt (Int.pow_pos (by decide))), show min ((text.length : Nat) : Int).toNat IntKind.u32.bits = text.length from by simp only [IntKind.bits]; omega]; push_cast; rfl)) ?_
    refine WpL_val rfl rfl (by decide) (r_bits (k := .u32) (a := ((x / 2 ^ text.length : Nat) : Int)) (b := 1) (v := .int .u32 (((x / 2 ^ text.length) &&& 1 : Nat) : Int)) rfl rfl (by simp) (bits_and _ 1 (Nat.lt_of_le_of_lt (Nat.div_le_self _ _) hxl) (by decide))) ?_
    refine WpL_val rfl rfl (by decide) (r_eql (k := .u32) (a := (((x / 2 ^ text.length) &&& 1 : Nat) : Int)) (b := 1) rfl rfl) ?_
    refine WpL_val rfl rfl (by decide) (r_assign (v := (.bool (decide (((((x / 2 ^ text.length) &&& 1 : Nat) : Int) : Int) = 1)))) rfl) ?_
    refine WpL_val rfl rfl (by decide) (r_assign (v := (.int .i64 0)) rfl) ?_
    refine WpL_nil ?_
    refine Wp_ret ?_
    refine fin_tmp2 Tryd.results19 (v := (.bool (decide (((((x / 2 ^ text.length) &&& 1 : Nat) : Int) : Int) = 1)))) (v' := (.int .i64 0)) rfl rfl ?_
    exact ⟨by rw [if_pos h0', shr_bit _ hx hn, h0'], E⟩
end Go.Proofs
namespace Go.Proofs
open Go Go.Eng Go.Sort
set_option maxRecDepth 100000
inductive All2 {α β : Type} (R : α → β → Prop) : List α → List β → Prop
  | nil : All2 R [] []
  | cons {a : α} {b : β} {la : List α} {lb : List β} : R a b → All2 R la lb → All2 R (a :: la) (b :: lb)
theorem pow_add {n : Nat} (hn : n ≤ 24) {A : Rl} (a : Wf n A) (i j : Nat) (x : Nat) : ∀ y, powR n A (x + y) i j = true ↔ ∃ u, powR n A x i u = true ∧ powR n A y u j = true
  | 0 => by
    simp only [powR, Nat.add_zero]
    constructor
    · intro h; exact ⟨j, h, (id_iff _ _ _).2 ⟨(wf_pow a x _ _ h).2, rfl⟩⟩
    · rintro ⟨u, h1, h2⟩; rw [((id_iff _ _ _).1 h2).2]; exact h1
  | y + 1 => by
    show thenR (powR n A (x + y)) A n i j = true ↔ ∃ u, powR n A x i u = true ∧ thenR (powR n A y) A n u j = true
    rw [then_iff hn (wf_pow a _)]
    constructor
    · rintro ⟨k, h1, h2⟩
      obtain ⟨u, h3, h4⟩ := (pow_add hn a i k x y).1 h1
      exact ⟨u, h3, (then_iff hn (wf_pow a y) u j).2 ⟨k, h4, h2⟩⟩
    · rintro ⟨u, h3, h4⟩
      obtain ⟨k, h5, h2⟩ := (then_iff hn (wf_pow a y) u j).1 h4
      exact ⟨k, (pow_add hn a i k x y).2 ⟨u, h3, h5⟩, h2⟩
end Go.Proofs
namespace Go.Proofs
open Go Go.Eng Go.Sort
set_option maxRecDepth 100000
abbrev Sps := List (Int × Int)
mutual
def foldT (cl : Sps → Sps) : Re → Re
  | .mk k set args mn mx ng => .mk k (if k = 2 then cl set else set) (foldTs cl args) mn mx ng
def foldTs (cl : Sps → Sps) : List Re → List Re
  | [] => []
  | t :: ts => foldT cl t :: foldTs cl ts
end
theorem foldTs_map (cl : Sps → Sps) (ts : List Re) : foldTs cl ts = ts.map (foldT cl) := by
  induction ts with
  | nil => rfl
  | cons t ts ih => simp [foldTs, ih]
theorem foldTs_len (cl : Sps → Sps) (ts : List Re) : (foldTs cl ts).length = ts.length := by rw [foldTs_map, List.length_map]
mutual
theorem size_fold (cl : Sps → Sps) : ∀ t : Re, (foldT cl t).size = t.size
  | .mk k set args mn mx ng => by
    simp only [foldT]
    rw [Re.size_eq, Re.size_eq (.mk k set args mn mx ng)]
    simp only [Re.args]
    rw [sizes_fold cl args]
theorem sizes_fold (cl : Sps → Sps) : ∀ ts : List Re, Re.sizes (foldTs cl ts) = Re.sizes ts
  | [] => rfl
  | t :: ts => by simp only [foldTs, Re.sizes]; rw [size_fold cl t, sizes_fold cl ts]
end
theorem node_args {k : Int} {set : Sps} {args args' : List Re} {mn mx : Int} {ng : Bool} (h : args'.length = args.length) : nodeE (.mk k set args' mn mx ng) = nodeE (.mk k set args mn mx ng) := by
  have e : formB (.mk k set args' mn mx ng) = formB (.mk k set args mn mx ng) := by
    have f : ∀ a : List Re, formB (.mk k set a mn mx ng) = (fun n : Nat => ((((okB k (n : Int) && (decide (k = 2) || decide ((set.length : Int) = 0))) && ((decide (k = 6) || decide (k = 9)) || decide (mn = 0))) && (decide (k = 6) || decide (mx = 0))) && (decide (k = 10) || !ng))) a.length := fun a => rfl
    rw [f, f, h]
  unfold nodeE
  rw [e]
  rfl
theorem node_sett {set set' : Sps} {args : List Re} {mn mx : Int} {ng : Bool} (h : nodeE (.mk 2 set args mn mx ng) = 0) (h1 : checkE set' = 0) (h2 : set' ≠ []) : nodeE (.mk 2 set' args mn mx ng) = 0 := by
  unfold nodeE at h ⊢
  have e : formB (.mk 2 set' args mn mx ng) = formB (.mk 2 set args mn mx ng) := by
    unfold formB
    simp only [Re.kind, Re.set, Re.args, Re.mn, Re.mx, Re.neg]
    rfl
  rw [e]
  cases hf : formB (.mk 2 set args mn mx ng) with
  | false => rw [hf] at h; simp [Re.kind] at h
  | true => simp [Re.kind, Re.set, h1, h2]
mutual
theorem ok_fold {cl : Sps → Sps} : ∀ t : Re, okRe t → allRe (fun t => t.kind = 2 → checkE (cl t.set) = 0 ∧ cl t.set ≠ []) t → okRe (foldT cl t)
  | .mk k set args mn mx ng, hok, h => by
    simp only [okRe] at hok
    simp only [allRe, Re.kind, Re.set] at h
    simp only [foldT, okRe]
    refine ⟨?_, oks_fold args hok.2 h.2⟩
    rw [node_args (foldTs_len cl args)]
    by_cases hk : k = 2
    · subst hk
      rw [if_pos rfl]
      obtain ⟨h1, h2⟩ := h.1 rfl
      exact node_sett hok.1 h1 h2
    · rw [if_neg hk]; exact hok.1
theorem oks_fold {cl : Sps → Sps} : ∀ ts : List Re, okRes ts → allRes (fun t => t.kind = 2 → checkE (cl t.set) = 0 ∧ cl t.set ≠ []) ts → okRes (foldTs cl ts)
  | [], _, _ => by simp only [foldTs, okRes]
  | t :: ts, hok, h => by
    simp only [okRes] at hok
    simp only [allRes] at h
    simp only [foldTs, okRes]
    exact ⟨ok_fold t hok.1 h.1, oks_fold ts hok.2 h.2⟩
end
theorem relK_text {text other : List Int} (hl : other.length = text.length) (k : Int) (set : Sps) (L : List Rl) (mn mx : Int) (ng : Bool) (hs : k = 2 → setR other set = setR text set) : relK other k set L mn mx ng = relK text k set L mn mx ng := by
  unfold relK
  rw [hl]
  by_cases hk : k = 2
  · rw [hs hk]
  · simp only [if_neg hk]
theorem setR_text {text other : List Int} (hl : other.length = text.length) {set : Sps} (h : ∀ (i : Nat) (c c' : Int), text[i]? = some c → other[i]? = some c' → inS set c' = inS set c) : setR other set = setR text set := by
  funext i j
  unfold setR
  rcases Nat.lt_or_ge i text.length with h1 | h1
  · obtain ⟨c, hc⟩ := get_of_lt (l := text) h1
    obtain ⟨c', hc'⟩ := get_of_lt (l := other) (i := i) (by omega)
    rw [hc, hc']
    dsimp only
    rw [h i c c' hc hc']
  · rw [List.getElem?_eq_none h1, List.getElem?_eq_none (by omega)]
mutual
theorem rel_text {text other : List Int} (hl : other.length = text.length) : ∀ t : Re, allRe (fun t => t.kind = 2 → setR other t.set = setR text t.set) t → relOf other t = relOf text t
  | .mk k set args mn mx ng, h => by
    simp only [allRe, Re.kind, Re.set] at h
    simp only [relOf]
    rw [rels_text hl args h.2]
    exact relK_text hl k set _ mn mx ng h.1
theorem rels_text {text other : List Int} (hl : other.length = text.length) : ∀ ts : List Re, allRes (fun t => t.kind = 2 → setR other t.set = setR text t.set) ts → relsOf other ts = relsOf text ts
  | [], _ => rfl
  | t :: ts, h => by
    simp only [allRes] at h
    simp only [relsOf]
    rw [rel_text hl t h.1, rels_text hl ts h.2]
end
def Le (A B : Rl) : Prop := ∀ i j, A i j = true → B i j = true
theorem Le.refl (A : Rl) : Le A A := fun _ _ h => h
theorem le_then {n : Nat} {A A' B B' : Rl} (h1 : Le A A') (h2 : Le B B') : Le (thenR A B n) (thenR A' B' n) := fun i k h => by
  simp only [thenR, Bool.and_eq_true, List.any_eq_true] at h ⊢
  obtain ⟨h0, j, hj, a, b⟩ := h
  exact ⟨h0, j, hj, h1 _ _ a, h2 _ _ b⟩
theorem le_or {A A' B B' : Rl} (h1 : Le A A') (h2 : Le B B') : Le (orR A B) (orR A' B') := fun i k h => by
  rw [or_iff] at h ⊢
  exact h.imp (h1 _ _) (h2 _ _)
theorem le_foldThen {n : Nat} : ∀ {M M' : List Rl}, All2 Le M M' → ∀ {A A' : Rl}, Le A A' → Le (M.foldl (fun a x => thenR a x n) A) (M'.foldl (fun a x => thenR a x n) A')
  | _, _, .nil, _, _, h => h
  | _, _, .cons hx hl, _, _, h => le_foldThen hl (le_then h hx)
theorem le_foldOr : ∀ {M M' : List Rl}, All2 Le M M' → ∀ {A A' : Rl}, Le A A' → Le (M.foldl orR A) (M'.foldl orR A')
  | _, _, .nil, _, _, h => h
  | _, _, .cons hx hl, _, _, h => le_foldOr hl (le_or h hx)
theorem le_star {n : Nat} {A A' : Rl} (h : Le A A') : ∀ m, Le (starN n A m) (starN n A' m)
  | 0 => Le.refl _
  | m + 1 => le_or (le_star h m) (le_then (le_star h m) h)
theorem le_pow {n : Nat} {A A' : Rl} (h : Le A A') : ∀ m, Le (powR n A m) (powR n A' m)
  | 0 => Le.refl _
  | m + 1 => le_then (le_pow h m) h
theorem le_rep {n : Nat} {A A' : Rl} (h : Le A A') (mn : Int) : ∀ m, Le (repR n A mn m) (repR n A' mn m)
  | 0 => Le.refl _
  | m + 1 => by
    simp only [repR]
    split
    · exact le_or (le_rep h mn m) (le_pow h m)
    · exact le_rep h mn m
theorem le_head {M M' : List Rl} (h : All2 Le M M') : Le (M.headD noR) (M'.headD noR) := by
  cases h with
  | nil => exact Le.refl _
  | cons h _ => exact h
theorem le_K {text : List Int} (k : Int) (set set' : Sps) (M M' : List Rl) (mn mx : Int) (ng : Bool) (hk : k ≠ 7 ∧ k ≠ 8 ∧ k ≠ 10) (h : All2 Le M M') (hs : k = 2 → Le (setR text set) (setR text set')) : Le (relK text k set M mn mx ng) (relK text k set' M' mn mx ng) := by
  have hh := le_head h
  unfold relK
  split
  · exact Le.refl _
  split
  · exact hs (by assumption)
  split
  · exact le_foldThen h (Le.refl _)
  split
  · exact le_foldOr h (Le.refl _)
  rw [if_neg hk.1, if_neg hk.1, if_neg hk.2.1, if_neg hk.2.1]
  split
  · exact le_star hh _
  split
  · exact le_rep hh _ _
  split
  · exact hh
  rw [if_neg hk.2.2, if_neg hk.2.2]
  exact Le.refl _
mutual
theorem le_fold {text : List Int} {cl : Sps → Sps} : ∀ t : Re, allRe (fun t => t.kind ≠ 7 ∧ t.kind ≠ 8 ∧ t.kind ≠ 10 ∧ (t.kind = 2 → Le (setR text t.set) (setR text (cl t.set)))) t → Le (relOf text t) (relOf text (foldT cl t))
  | .mk k set args mn mx ng, h => by
    simp only [allRe, Re.kind, Re.set] at h
    obtain ⟨⟨h7, h8, h10, hs⟩, h⟩ := h
    simp only [foldT, relOf]
    exact le_K k _ _ _ _ mn mx ng ⟨h7, h8, h10⟩ (les_fold args h) fun hk => by rw [if_pos hk]; exact hs hk
theorem les_fold {text : List Int} {cl : Sps → Sps} : ∀ ts : List Re, allRes (fun t => t.kind ≠ 7 ∧ t.kind ≠ 8 ∧ t.kind ≠ 10 ∧ (t.kind = 2 → Le (setR text t.set) (setR text (cl t.set)))) ts → All2 Le (relsOf text ts) (relsOf text (foldTs cl ts))
  | [], _ => .nil
  | t :: ts, h => by
    simp only [allRes] at h
    simp only [foldTs, relsOf]
    exact .cons (le_fold t h.1) (les_fold ts h.2)
end
theorem le_setR {text : List Int} {a b : Sps} (h : ∀ (i : Nat) (c : Int), text[i]? = some c → inS a c = true → inS b c = true) : Le (setR text a) (setR text b) := fun i j hr => by
  unfold setR at hr ⊢
  cases hx : text[i]? with
  | none => rw [hx] at hr; simp at hr
  | some c =>
    rw [hx] at hr
    simp only [Bool.and_eq_true] at hr ⊢
    exact ⟨h i c hx hr.1, hr.2⟩
mutual
theorem all_mono {p q : Re → Prop} (h : ∀ t, p t → q t) : ∀ t : Re, allRe p t → allRe q t
  | .mk k set args mn mx ng, ht => by
    simp only [allRe] at ht ⊢
    exact ⟨h _ ht.1, alls_mono h args ht.2⟩
theorem alls_mono {p q : Re → Prop} (h : ∀ t, p t → q t) : ∀ ts : List Re, allRes p ts → allRes q ts
  | [], _ => by simp only [allRes]
  | t :: ts, ht => by
    simp only [allRes] at ht ⊢
    exact ⟨all_mono h t ht.1, alls_mono h ts ht.2⟩
end
mutual
theorem all_fold {p q : Re → Prop} {cl : Sps → Sps} (h : ∀ k set args args' mn mx ng, p (.mk k set args mn mx ng) → q (.mk k (if k = 2 then cl set else set) args' mn mx ng)) : ∀ t : Re, allRe p t → allRe q (foldT cl t)
  | .mk k set args mn mx ng, ht => by
    simp only [allRe] at ht
    simp only [foldT, allRe]
    exact ⟨h _ _ _ _ _ _ _ ht.1, alls_fold h args ht.2⟩
theorem alls_fold {p q : Re → Prop} {cl : Sps → Sps} (h : ∀ k set args args' mn mx ng, p (.mk k set args mn mx ng) → q (.mk k (if k = 2 then cl set else set) args' mn mx ng)) : ∀ ts : List Re, allRes p ts → allRes q (foldTs cl ts)
  | [], _ => by simp only [foldTs, allRes]
  | t :: ts, ht => by
    simp only [allRes] at ht
    simp only [foldTs, allRes]
    exact ⟨all_fold h t ht.1, alls_fold h ts ht.2⟩
end
end Go.Proofs
namespace Go.Eng
open Go
abbrev TRe : Nat := 27
mutual
def Tree (Z : Nat → Prop) (w : World) : Re → List Value → (Nat → Prop) → Prop
  | .mk k set args mn mx ng, vs, L => ∃ sa sc aa ac, vs = [.int .i64 k, .slice sa set.length sc, .slice aa args.length ac, .int .i64 mn, .int .i64 mx, .bool ng] ∧ SlIn Z w 2 (.slice sa set.length sc) (set.map spanV) ∧ (args.length ≤ ac ∧ ac ≤ 9223372036854775807) ∧
      (args = [] ∨ ∃ b rows rest L', L b ∧ aa = some ⟨b, 0, none⟩ ∧ Blk w b (rows.flatten ++ rest).toArray TRe ∧ (∀ r ∈ rows, r.length = 6) ∧ Trees Z w args rows L' ∧ (∀ x, L' x → L x ∧ x ≠ b))
def Trees (Z : Nat → Prop) (w : World) : List Re → List (List Value) → (Nat → Prop) → Prop
  | [], rows, _ => rows = []
  | t :: ts, rows, L => ∃ vs rs L1 L2, rows = vs :: rs ∧ Tree Z w t vs L1 ∧ Trees Z w ts rs L2 ∧ (∀ x, L1 x → L x ∧ ¬ L2 x) ∧ (∀ x, L2 x → L x)
end
mutual
theorem Tree.chg {Z M : Nat → Prop} {w w' : World} (c : Chg M w w') (hz : ∀ b, Z b → ¬ M b) : ∀ (t : Re) {vs : List Value} {L : Nat → Prop}, (∀ b, L b → ¬ M b) → Tree Z w t vs L → Tree Z w' t vs L
  | .mk k set args mn mx ng, vs, L, hl, h => by
    simp only [Tree] at h ⊢
    obtain ⟨sa, sc, aa, ac, hv, hs, hn, ha⟩ := h
    refine ⟨sa, sc, aa, ac, hv, hs.chg c hz, hn, ?_⟩
    rcases ha with h | ⟨b, rows, rest, L', h1, h2, h3, h4, h5, h6⟩
    · exact .inl h
    · exact .inr ⟨b, rows, rest, L', h1, h2, c.keep (hl b h1) h3, h4, Trees.chg c hz args (fun x hx => hl x (h6 x hx).1) h5, h6⟩
theorem Trees.chg {Z M : Nat → Prop} {w w' : World} (c : Chg M w w') (hz : ∀ b, Z b → ¬ M b) : ∀ (ts : List Re) {rows : List (List Value)} {L : Nat → Prop}, (∀ b, L b → ¬ M b) → Trees Z w ts rows L → Trees Z w' ts rows L
  | [], _, _, _, h => by simp only [Trees] at h ⊢; exact h
  | t :: ts, rows, L, hl, h => by
    simp only [Trees] at h ⊢
    obtain ⟨vs, rs, L1, L2, h1, h2, h3, h4, h5⟩ := h
    exact ⟨vs, rs, L1, L2, h1, Tree.chg c hz t (fun x hx => hl x (h4 x hx).1) h2, Trees.chg c hz ts (fun x hx => hl x (h5 x hx)) h3, h4, h5⟩
end
theorem Tree.ext {Z : Nat → Prop} {w w' : World} (e : Ext w w') (t : Re) {vs : List Value} {L : Nat → Prop} (h : Tree Z w t vs L) : Tree Z w' t vs L := Tree.chg e (fun _ _ f => f) t (fun _ _ f => f) h
theorem Trees.ext {Z : Nat → Prop} {w w' : World} (e : Ext w w') (ts : List Re) {rows : List (List Value)} {L : Nat → Prop} (h : Trees Z w ts rows L) : Trees Z w' ts rows L := Trees.chg e (fun _ _ f => f) ts (fun _ _ f => f) h
mutual
theorem Tree.mono {Z Z' : Nat → Prop} {w : World} (hz : ∀ b, Z b → Z' b) : ∀ (t : Re) {vs : List Value} {L L' : Nat → Prop}, (∀ b, L b → L' b) → Tree Z w t vs L → Tree Z' w t vs L'
  | .mk k set args mn mx ng, vs, L, L', hl, h => by
    simp only [Tree] at h ⊢
    obtain ⟨sa, sc, aa, ac, hv, hs, hn, ha⟩ := h
    refine ⟨sa, sc, aa, ac, hv, hs.mono hz, hn, ?_⟩
    rcases ha with h | ⟨b, rows, rest, K, h1, h2, h3, h4, h5, h6⟩
    · exact .inl h
    · exact .inr ⟨b, rows, rest, K, hl b h1, h2, h3, h4, Trees.mono hz args (fun _ h => h) h5, fun x hx => ⟨hl x (h6 x hx).1, (h6 x hx).2⟩⟩
theorem Trees.mono {Z Z' : Nat → Prop} {w : World} (hz : ∀ b, Z b → Z' b) : ∀ (ts : List Re) {rows : List (List Value)} {L L' : Nat → Prop}, (∀ b, L b → L' b) → Trees Z w ts rows L → Trees Z' w ts rows L'
  | [], _, _, _, _, h => by simp only [Trees] at h ⊢; exact h
  | t :: ts, rows, L, L', hl, h => by
    simp only [Trees] at h ⊢
    obtain ⟨vs, rs, L1, L2, h1, h2, h3, h4, h5⟩ := h
    exact ⟨vs, rs, L1, L2, h1, Tree.mono hz t (fun _ h => h) h2, Trees.mono hz ts (fun _ h => h) h3, fun x hx => ⟨hl x (h4 x hx).1, (h4 x hx).2⟩, fun x hx => hl x (h5 x hx)⟩
end
theorem Tree.form {Z : Nat → Prop} {w : World} {t : Re} {vs : List Value} {L : Nat → Prop} (h : Tree Z w t vs L) : ∃ sa sc aa ac, vs = [.int .i64 t.kind, .slice sa t.set.length sc, .slice aa t.args.length ac, .int .i64 t.mn, .int .i64 t.mx, .bool t.neg] ∧ SlIn Z w 2 (.slice sa t.set.length sc) (t.set.map spanV) ∧ (t.args.length ≤ ac ∧ ac ≤ 9223372036854775807) ∧
      (t.args = [] ∨ ∃ b rows rest L', L b ∧ aa = some ⟨b, 0, none⟩ ∧ Blk w b (rows.flatten ++ rest).toArray TRe ∧ (∀ r ∈ rows, r.length = 6) ∧ Trees Z w t.args rows L' ∧ (∀ x, L' x → L x ∧ x ≠ b)) := by
  cases t; simp only [Tree] at h; exact h
theorem Tree.len {Z : Nat → Prop} {w : World} {t : Re} {vs : List Value} {L : Nat → Prop} (h : Tree Z w t vs L) : vs.length = 6 := by
  obtain ⟨_, _, _, _, rfl, _⟩ := h.form; rfl
theorem Tree.one {Z : Nat → Prop} {w : World} {t : Re} {vs : List Value} {L : Nat → Prop} (h : Tree Z w t vs L) : ∀ u ∈ vs, u.oneCell' = true := by
  obtain ⟨_, _, _, _, rfl, _⟩ := h.form
  simp [Value.oneCell']
theorem Trees.len {Z : Nat → Prop} {w : World} : ∀ {ts : List Re} {rows : List (List Value)} {L : Nat → Prop}, Trees Z w ts rows L → rows.length = ts.length
  | [], _, _, h => by simp only [Trees] at h; subst h; rfl
  | t :: ts, rows, L, h => by
    simp only [Trees] at h
    obtain ⟨vs, rs, L1, L2, rfl, _, h3, _⟩ := h
    simp [Trees.len h3]
theorem Trees.six {Z : Nat → Prop} {w : World} : ∀ {ts : List Re} {rows : List (List Value)} {L : Nat → Prop}, Trees Z w ts rows L → ∀ r ∈ rows, r.length = 6
  | [], _, _, h => by simp only [Trees] at h; subst h; simp
  | t :: ts, rows, L, h => by
    simp only [Trees] at h
    obtain ⟨vs, rs, L1, L2, rfl, h2, h3, _⟩ := h
    intro r hr
    rcases List.mem_cons.1 hr with rfl | hr
    · exact h2.len
    · exact Trees.six h3 r hr
theorem Trees.snoc {Z : Nat → Prop} {w : World} {t : Re} {vs : List Value} {K : Nat → Prop} (ht : Tree Z w t vs K) : ∀ {ts : List Re} {rows : List (List Value)} {L : Nat → Prop}, Trees Z w ts rows L → (∀ x, L x → ¬ K x) → Trees Z w (ts ++ [t]) (rows ++ [vs]) (fun x => L x ∨ K x)
  | [], rows, L, h, hd => by
    simp only [Trees] at h
    subst h
    simp only [List.nil_append, Trees]
    exact ⟨vs, [], K, fun _ => False, rfl, ht, rfl, fun x hx => ⟨.inr hx, fun f => f⟩, fun x f => f.elim⟩
  | u :: ts, rows, L, h, hd => by
    simp only [Trees] at h
    obtain ⟨us, rs, L1, L2, rfl, h2, h3, h4, h5⟩ := h
    have := Trees.snoc ht h3 fun x hx => hd x (h5 x hx)
    simp only [List.cons_append, Trees]
    exact ⟨us, rs ++ [vs], L1, _, rfl, h2, this, fun x hx => ⟨.inl (h4 x hx).1, fun hh => hh.elim (h4 x hx).2 (hd x (h4 x hx).1)⟩, fun x hx => hx.elim (fun h => .inl (h5 x h)) .inr⟩
theorem rows_cells {rows : List (List Value)} {rest : List Value} {k : Nat} (hk : ∀ r ∈ rows, r.length = k) : ∀ {i : Nat} {r : List Value}, rows[i]? = some r → ∀ (j : Nat) (u : Value), r[j]? = some u → (rows.flatten ++ rest)[i * k + j]? = some u := by
  induction rows with
  | nil => intro i r h; simp at h
  | cons x rs ih =>
    intro i r hr j u hu
    have hx : x.length = k := hk x (by simp)
    cases i with
    | zero =>
      simp at hr; subst hr
      have hj := lt_of_get hu
      simp only [List.flatten_cons, Nat.zero_mul, Nat.zero_add, List.append_assoc]
      rw [List.getElem?_append_left hj]; exact hu
    | succ i =>
      simp at hr
      simp only [List.flatten_cons, List.append_assoc]
      rw [List.getElem?_append_right (by rw [hx, Nat.succ_mul]; omega)]
      rw [show (i + 1) * k + j - x.length = i * k + j from by rw [hx, Nat.succ_mul]; omega]
      exact ih (fun r hr => hk r (by simp [hr])) hr j u hu
theorem rows_at {w : World} {b T k : Nat} {rows : List (List Value)} {rest : List Value} (h : Blk w b (rows.flatten ++ rest).toArray T) (hk : ∀ r ∈ rows, r.length = k) {i : Nat} {r : List Value} (hr : rows[i]? = some r) : CellsAt w b (i * k) r := by
  intro j u hu
  exact h.cell (by simpa using rows_cells hk hr j u hu)
theorem rows_len {k : Nat} : ∀ {rows : List (List Value)}, (∀ r ∈ rows, r.length = k) → rows.flatten.length = rows.length * k
  | [], _ => by simp
  | x :: rs, h => by
    have := rows_len (rows := rs) (fun r hr => h r (by simp [hr]))
    have hx : x.length = k := h x (by simp)
    simp only [List.flatten_cons, List.length_append, List.length_cons, this, hx, Nat.succ_mul]; omega
theorem resin_of {S : Nat → Prop} {w : World} {b : Nat} : ∀ {ts : List Re} {o : Nat}, (∀ i t, ts[i]? = some t → ∃ vs, CellsAt w b (o + i * 6) vs ∧ ReIn S w t vs) → ResIn S w b o ts
  | [], _, _ => by simp only [ResIn]
  | t :: ts, o, h => by
    simp only [ResIn]
    refine ⟨by simpa using h 0 t rfl, resin_of fun i u hu => ?_⟩
    have := h (i + 1) u (by simpa using hu)
    rwa [show o + (i + 1) * 6 = o + 6 + i * 6 from by omega] at this
end Go.Eng
namespace Go.Proofs
open Go Go.Eng
mutual
def sameT : Re → Re → Bool
  | .mk k s a m x g, .mk k' s' a' m' x' g' => decide (k = k') && decide (s = s') && decide (m = m') && decide (x = x') && decide (g = g') && sameTs a a'
def sameTs : List Re → List Re → Bool
  | [], [] => true
  | t :: ts, u :: us => sameT t u && sameTs ts us
  | _, _ => false
end
/-- Arguments of a kind replaced by their arguments. -/
def flatT (k : Int) (l : List Re) : List Re := l.flatMap fun x => if x.kind = k then x.args else [x]
/-- Each once, the first stays. -/
def onceT : List Re → List Re → List Re
  | out, [] => out
  | out, x :: l => if (out.any fun y => sameT x y) = true then onceT out l else onceT (out ++ [x]) l
def listT (k : Int) (l : List Re) : Re :=
  let l1 := flatT k l
  let l2 := if k = 3 then l1.filter fun x => !decide (x.kind = 1) else if k = 4 then l1.filter fun x => !decide (x.kind = 0) else l1
  if k ≠ 4 ∧ (l2.any fun x => decide (x.kind = 0)) = true then noneT
  else
    match (if k = 3 then l2 else onceT [] l2) with
    | [x] => x
    | [] => if k = 3 then emptyT else noneT
    | out => .mk k [] out 0 0 false
def normN (k : Int) (set : List (Int × Int)) (a : List Re) (mn mx : Int) (ng : Bool) : Re :=
  if k = 3 ∨ k = 4 ∨ k = 7 then listT k a
  else if k = 5 ∨ k = 6 then
    match a with
    | x :: _ =>
      if x.kind = 1 ∨ (k = 6 ∧ mx = 0) then emptyT
      else if x.kind = 0 ∧ (k = 5 ∨ mn = 0) then emptyT
      else if x.kind = 0 then noneT
      else if x.kind = 5 ∨ (k = 6 ∧ mn = 1 ∧ mx = 1) then x
      else .mk k set a mn mx ng
    | [] => .mk k set a mn mx ng
  else if k = 8 then
    match a with
    | x :: _ => if x.kind = 8 then x.args.headD noneT else .mk k set a mn mx ng
    | [] => .mk k set a mn mx ng
  else if k = 10 then
    match a with
    | x :: _ =>
      if (x.kind = 1 ∧ ng = true) ∨ (x.kind = 0 ∧ ng = false) then noneT
      else if x.kind = 1 ∨ x.kind = 0 then emptyT
      else .mk k set a mn mx ng
    | [] => .mk k set a mn mx ng
  else .mk k set a mn mx ng
def isL (k : Int) : Prop := k = 3 ∨ k = 4 ∨ k = 7
mutual
def Nf : Re → Prop
  | .mk k set args mn mx ng => Nfs args ∧ (isL k → set = [] ∧ mn = 0 ∧ mx = 0 ∧ ng = false ∧ 2 ≤ args.length ∧ (∀ x ∈ args, x.kind ≠ k) ∧ (k = 3 → ∀ x ∈ args, x.kind ≠ 1) ∧ (∀ x ∈ args, x.kind ≠ 0) ∧ (k ≠ 3 → args.Nodup)) ∧
      (¬ isL k → normN k set args mn mx ng = .mk k set args mn mx ng)
def Nfs : List Re → Prop
  | [] => True
  | t :: ts => Nf t ∧ Nfs ts
end
end Go.Proofs
namespace Go.Proofs
open Go Go.Eng
set_option maxRecDepth 100000
def RsAt (w : World) (v : Value) (ts : List Re) : Prop := ∃ aa ac, v = .slice aa ts.length ac ∧ (ts.length ≤ ac ∧ ac ≤ 9223372036854775807) ∧ (ts = [] ∨ ∃ b o, aa = some ⟨b, o, none⟩ ∧ ResAt w b o ts)
theorem RsAt.ext {w w' : World} {v : Value} {ts : List Re} (h : RsAt w v ts) (e : Ext w w') : RsAt w' v ts := by
  obtain ⟨aa, ac, h1, h2, h3⟩ := h
  refine ⟨aa, ac, h1, h2, ?_⟩
  rcases h3 with h | ⟨b, o, h4, h5⟩
  · exact .inl h
  · exact .inr ⟨b, o, h4, ResAt.ext e ts h5⟩
theorem RsAt.cells {w : World} {aa : Option Addr} {n ac : Nat} {ts : List Re} (h : RsAt w (.slice aa n ac) ts) (hn : 0 < n) : ∃ b o, aa = some ⟨b, o, none⟩ ∧ ∀ i t, ts[i]? = some t → ∃ vs, CellsAt w b (o + i * 6) vs ∧ ReAt w t vs := by
  obtain ⟨aa', ac', h1, h2, h3⟩ := h
  simp only [Value.slice.injEq] at h1
  obtain ⟨rfl, rfl, rfl⟩ := h1
  rcases h3 with rfl | ⟨b, o, h4, h5⟩
  · simp at hn
  · exact ⟨b, o, h4, fun i t ht => ResAt.get h5 ht⟩
theorem ReAt.rs {w : World} {t : Re} {sa aa : Option Addr} {k m x : Int} {n sc n' ac : Nat} {ng : Bool} (h : ReAt w t [.int .i64 k, .slice sa n sc, .slice aa n' ac, .int .i64 m, .int .i64 x, .bool ng]) : RsAt w (.slice aa n' ac) t.args := by
  obtain ⟨sa', sc', aa', ac', hv, _, h2, h3⟩ := h.form
  simp at hv
  obtain ⟨_, _, ⟨rfl, rfl, rfl⟩, _⟩ := hv
  exact ⟨_, _, rfl, h2, h3⟩
end Go.Proofs
namespace Go.Proofs
open Go Go.Eng
set_option maxRecDepth 100000
set_option maxHeartbeats 400000 in
theorem clone_c (w0 : World) (v : Value) (l : List (Int × Int)) (h : SpansAt w0 v l) (hl : l.length ≤ 2000000) :
    Ret Tryd.prog 52 #[v] w0 fun r w => ∃ a c, r = .slice a l.length c ∧ SlIn (fun b => w0.heap.size ≤ b ∧ b < w.heap.size) w 2 r (l.map spanV) ∧ Ext w0 w := by
  obtain ⟨a, c, rfl⟩ := SlAt.form h
  simp only [List.length_map] at h ⊢
  obtain ⟨base, hbase⟩ : ∃ base, base = w0.heap.size := ⟨_, rfl⟩
  refine Ret_of Tryd.func52 rfl Tryd.ntmps52 (Nat.le_of_ble_eq_true rfl) ?_
  have E : Chg none1 w0 w0 := Chg.refl _ _
  refine Wp_seq_region ?_
  refine WpL_val rfl rfl (by decide) (r_assign (v := (.slice none 0 0)) rfl) ?_
  refine WpL_nil ?_
  refine Wp_seq ?_
  refine Wp_seq_region ?_
  refine WpL_val rfl rfl (by decide) (r_move (v := (.slice a l.length c)) rfl) ?_
  refine WpL_val (v := (.bool a.isNone)) rfl rfl (by decide) (r_eqlNil Tryd.underlying24 rfl rfl) ?_
  refine WpL_nil ?_
  refine Wp_cond (b := a.isNone) rfl (fun hn => ?_) (fun hn => ?_)
  · have khn := hn
    have hl0 : l.length = 0 := by rcases Nat.eq_zero_or_pos l.length with h0 | h0; exact h0; obtain ⟨b, o, rfl, _⟩ := spans_cells h h0; simp at hn
    have hl1 : l = [] := List.eq_nil_of_length_eq_zero hl0
    refine Wp_seq_region ?_
    refine WpL_val rfl rfl (by decide) (r_assign (v := (.slice none 0 0)) rfl) ?_
    refine WpL_nil ?_
    refine Wp_ret ?_
    refine thn_ret ?_
    refine fin_tmp Tryd.results52 (v := (.slice none 0 0)) rfl ?_
    exact ⟨none, 0, by rw [hl0], by subst hl1; exact SlIn.nil _ _ _ _ _, E⟩
  · have khn := hn
    rcases Bool.eq_false_or_eq_true (decide (l.length = 0)) with hz | hz
    · have khz := hz
      replace khz := of_decide_eq_true khz
      refine Wp_skip ?_
      refine thn_normal ?_
      refine Wp_seq_region ?_
      refine s_build0 (by decide) Tryd.underlying24 siz82 ?_
      intro bq wq Nq
      have Fq := Nq.ge E
      replace E := E.ext Nq.ext
      have Bq := Nq.blk
      refine WpL_val rfl rfl (by decide) (r_move (v := (.slice a l.length c)) rfl) ?_
      refine WpL_val rfl rfl (by decide) (r_append0 Tryd.underlying24 siz82 (a' := a) (c' := c) rfl (Nat.le_refl _) (by show Value.slice a l.length c = _; rw [khz])) ?_
      refine WpL_val rfl rfl (by decide) (r_assign (v := (.slice (some ⟨bq, 0, none⟩) 0 0)) rfl) ?_
      refine WpL_nil ?_
      refine Wp_ret ?_
      refine fin_tmp Tryd.results52 (v := (.slice (some ⟨bq, 0, none⟩) 0 0)) rfl ?_
      have hl1 : l = [] := List.eq_nil_of_length_eq_zero khz
      exact ⟨some ⟨bq, 0, none⟩, 0, by rw [khz], by subst hl1; exact SlIn.nil _ _ _ _ _, E⟩
    · have khz := hz
      replace khz := of_decide_eq_false khz
      obtain ⟨b, o, rfl, hcl⟩ := spans_cells h (by omega)
      refine Wp_skip ?_
      refine thn_normal ?_
      refine Wp_seq_region ?_
      refine s_build0 (by decide) Tryd.underlying24 siz82 ?_
      intro bq wq Nq
      have Fq := Nq.ge E
      replace E := E.ext Nq.ext
      have Bq := Nq.blk
      refine WpL_val rfl rfl (by decide) (r_move (v := (.slice (some ⟨b, o, none⟩) l.length c)) rfl) ?_
      have hown := own_empty (base := base) (size := 2) Bq (by omega)
      have hbs : base ≤ wq.heap.size := by have := Nq.ext.size; omega
      refine s_append (base := base) (n := 0) (m := l.length) (xs := []) (news := (l.map spanV).flatten) (size := 2) (bytes := 16) (v := (.slice (some ⟨bq, 0, none⟩) 0 0)) (by decide) Tryd.underlying24 siz82 byt82 zer82 rfl (by decide) rfl hown rfl (spans_six l) ((spans_flat hcl).ext Nq.ext) (spans_one l) (by unfold maxLen; omega) (by omega) (hbs) ?_
      intro v9 w29 Ov9 Cv9 Dv9
      replace E := E.step Cv9 (fun x hx h => absurd (hown.lt x h).1 (by omega))
      obtain ⟨la, lc, rfl⟩ := own_form Ov9
      refine WpL_val rfl rfl (by decide) (r_assign (v := (.slice la (0 + l.length) lc)) rfl) ?_
      refine WpL_nil ?_
      refine Wp_ret ?_
      refine fin_tmp Tryd.results52 (v := (.slice la (0 + l.length) lc)) rfl ?_
      simp only [Nat.zero_add, List.nil_append] at Ov9
      have hsl := own_slat Ov9 (by intro r hr; simp only [List.mem_map] at hr; obtain ⟨p, _, rfl⟩ := hr; rfl) (by simp) (by decide)
      obtain ⟨gq, rfl, hgq, _⟩ := own_cells Ov9 (by omega)
      simp only [Nat.zero_add]
      exact ⟨some ⟨gq, 0, none⟩, lc, rfl, SlIn.mk hsl ⟨by omega, (Ov9.lt gq rfl).2⟩, E⟩
mutual
def setsOk : Re → Prop
  | .mk _ set args _ _ _ => set.length ≤ 2000000 ∧ setsOks args
def setsOks : List Re → Prop
  | [] => True
  | t :: ts => setsOk t ∧ setsOks ts
end
theorem setsOk_set {t : Re} (h : setsOk t) : t.set.length ≤ 2000000 := by cases t; simp only [setsOk] at h; exact h.1
theorem setsOk_arg {t : Re} (h : setsOk t) {i : Nat} {x : Re} (hx : t.args[i]? = some x) : setsOk x := by
  cases t with
  | mk k set args mn mx ng =>
  simp only [setsOk] at h
  replace h := h.2
  simp only [Re.args] at hx
  induction args generalizing i with
  | nil => simp at hx
  | cons u us ih =>
    simp only [setsOks] at h
    cases i with
    | zero => simp at hx; subst hx; exact h.1
    | succ i => simp at hx; exact ih hx h.2
def copyF (n0 : Nat) (t : Re) : Fct := fun v w => ∃ vs Z L, v = .agg vs.toArray ∧ Tree Z w t vs L ∧ (∀ x, Z x → ¬ L x) ∧ (∀ x, Z x ∨ L x → n0 ≤ x ∧ x < w.heap.size)
theorem copyF_ext (n0 : Nat) (t : Re) : ∀ v w w', Chg none1 w w' → copyF n0 t v w → copyF n0 t v w' := by
  rintro v w w' e ⟨vs, Z, L, h1, h2, h3, h4⟩
  exact ⟨vs, Z, L, h1, Tree.ext e t h2, h3, fun x hx => ⟨(h4 x hx).1, Nat.lt_of_lt_of_le (h4 x hx).2 e.size⟩⟩
def copyG (n0 : Nat) (t : Re) : Fct := fun v w => ∃ b vs Z L, v = .slice (some ⟨b, 0, none⟩) 1 1 ∧ Blk w b vs.toArray TRe ∧ Tree Z w t vs L ∧ (∀ x, Z x → ¬ L x) ∧ (∀ x, Z x ∨ L x → n0 ≤ x ∧ x < w.heap.size)
theorem copyG_ext (n0 : Nat) (t : Re) : ∀ v w w', Chg none1 w w' → copyG n0 t v w → copyG n0 t v w' := by
  rintro v w w' e ⟨b, vs, Z, L, h0, h1, h2, h3, h4⟩
  exact ⟨b, vs, Z, L, h0, Ext.keep e h1, Tree.ext e t h2, h3, fun x hx => ⟨(h4 x hx).1, Nat.lt_of_lt_of_le (h4 x hx).2 e.size⟩⟩
theorem DoesT_one {N n0 : Nat} {σ : Env} {w : World} {dst : Option Tmp} {ty : TypeId} {pos : String} {af : Array Edge} {g : Option (Nat × Bool)} {x : Operand} {t : Re} {vs : List Value} {Z L : Nat → Prop} (hx : ev σ x = .agg vs.toArray) (h2 : Tree Z w t vs L) (h3 : ∀ x, Z x → ¬ L x) (h4 : ∀ x, Z x ∨ L x → n0 ≤ x ∧ x < w.heap.size) :
    DoesT none1 Tryd.prog N ⟨dst, .buildSlice 25 1 #[(0, x)], ty, pos, af, g⟩ (copyG n0 t) σ w := by
  have h2' := h2
  obtain ⟨sa, sc, aa, ac, rfl, _⟩ := h2.form
  have hn := New.mk' w #[.int .i64 t.kind, .slice sa t.set.length sc, .slice aa t.args.length ac, .int .i64 t.mn, .int .i64 t.mx, .bool t.neg] TRe
  refine DoesT_val (run_buildSlice (parts := [(0, x)]) (ps := [(0, .agg #[.int .i64 t.kind, .slice sa t.set.length sc, .slice aa t.args.length ac, .int .i64 t.mn, .int .i64 t.mx, .bool t.neg])]) (by simp only [List.map, hx]) Tryd.underlying25 siz27 zer27 (by decide) (by decide) (by kernel_rfl)) hn.ext ?_
  exact ⟨_, _, Z, L, rfl, hn.blk, Tree.ext hn.ext t h2', h3, fun x hx => ⟨(h4 x hx).1, Nat.lt_of_lt_of_le (h4 x hx).2 hn.ext.size⟩⟩
theorem copy_step {w1 w2 w3 : World} {base n1 b3 : Nat} {v v' : Value} {x : Re} {vs : List Value} {ts : List Re} {rows : List (List Value)} {Z L Z1 L1 : Nat → Prop}
    (hTs : Trees Z w1 ts rows L) (hT : Tree Z1 w1 x vs L1) (hd1 : ∀ y, Z y → ¬ L y) (hd2 : ∀ y, Z y ∨ L y → base ≤ y ∧ y < n1) (hd3 : ∀ q, v.ownBlock = some q → (¬ Z q ∧ ¬ L q) ∧ (base ≤ q ∧ q < n1)) (he1 : ∀ y, Z1 y → ¬ L1 y) (he2 : ∀ y, Z1 y ∨ L1 y → n1 ≤ y ∧ y < w1.heap.size)
    (C : Chg (fun y => v.ownBlock = some y) w1 w2) (hD : ∀ q, v'.ownBlock = some q → v.ownBlock = some q ∨ w1.heap.size ≤ q) (C3 : Chg (fun y => y = b3) w2 w3) (hb3 : b3 < base) (hbn : base ≤ n1) (hnw : n1 ≤ w1.heap.size) :
    Trees (fun y => Z y ∨ Z1 y) w3 (ts ++ [x]) (rows ++ [vs]) (fun y => L y ∨ L1 y) ∧ (∀ y, (Z y ∨ Z1 y) → ¬ (L y ∨ L1 y)) ∧ (∀ y, (Z y ∨ Z1 y) ∨ (L y ∨ L1 y) → base ≤ y ∧ y < w3.heap.size) ∧ (∀ q, v'.ownBlock = some q → ¬ (Z q ∨ Z1 q) ∧ ¬ (L q ∨ L1 q)) := by
  have hs2 := C.size
  have hs3 := C3.size
  have kz : ∀ y, Z y → ¬ v.ownBlock = some y := fun y hy h => (hd3 y h).1.1 hy
  have kl : ∀ y, L y → ¬ v.ownBlock = some y := fun y hy h => (hd3 y h).1.2 hy
  have kz1 : ∀ y, Z1 y → ¬ v.ownBlock = some y := fun y hy h => by have := (hd3 y h).2; have := he2 y (.inl hy); omega
  have kl1 : ∀ y, L1 y → ¬ v.ownBlock = some y := fun y hy h => by have := (hd3 y h).2; have := he2 y (.inr hy); omega
  have mz : ∀ y, Z y → ¬ y = b3 := fun y hy h => by have := hd2 y (.inl hy); omega
  have ml : ∀ y, L y → ¬ y = b3 := fun y hy h => by have := hd2 y (.inr hy); omega
  have mz1 : ∀ y, Z1 y → ¬ y = b3 := fun y hy h => by have := he2 y (.inl hy); omega
  have ml1 : ∀ y, L1 y → ¬ y = b3 := fun y hy h => by have := he2 y (.inr hy); omega
  have h1 := Trees.chg C3 mz ts ml (Trees.chg C kz ts kl hTs)
  have h2 := Tree.chg C3 mz1 x ml1 (Tree.chg C kz1 x kl1 hT)
  refine ⟨Trees.snoc (Tree.mono (fun _ h => .inr h) x (fun _ h => h) h2) (Trees.mono (fun _ h => .inl h) ts (fun _ h => h) h1) (fun y a b => by have := hd2 y (.inr a); have := he2 y (.inr b); omega), ?_, ?_, ?_⟩
  · rintro y (a | a) (b | b)
    · exact hd1 y a b
    · have := hd2 y (.inl a); have := he2 y (.inr b); omega
    · have := hd2 y (.inr b); have := he2 y (.inl a); omega
    · exact he1 y a b
  · rintro y ((a | a) | (a | a))
    · have := hd2 y (.inl a); omega
    · have := he2 y (.inl a); omega
    · have := hd2 y (.inr a); omega
    · have := he2 y (.inr a); omega
  · intro q hq
    rcases hD q hq with h | h
    · refine ⟨?_, ?_⟩
      · rintro (a | a); exact kz q a h; exact kz1 q a h
      · rintro (a | a); exact kl q a h; exact kl1 q a h
    · refine ⟨?_, ?_⟩
      · rintro (a | a); have := hd2 q (.inl a); omega; have := he2 q (.inl a); omega
      · rintro (a | a); have := hd2 q (.inr a); omega; have := he2 q (.inr a); omega
theorem copy_done {w : World} {base n0 sc lc : Nat} {t : Re} {sa la : Option Addr} {rows : List (List Value)} {Z L Z0 : Nat → Prop} (hown : w.ownsRow base TRe 6 (.slice la t.args.length lc) t.args.length rows.flatten) (hTs : Trees Z w t.args rows L)
    (hset : SlIn Z0 w 2 (.slice sa t.set.length sc) (t.set.map spanV)) (hd1 : ∀ x, Z x → ¬ L x) (hd2 : ∀ x, Z x ∨ L x → base ≤ x ∧ x < w.heap.size) (hd3 : ∀ q, (Value.slice la t.args.length lc).ownBlock = some q → ¬ Z q ∧ ¬ L q) (hz0 : ∀ x, Z0 x → n0 ≤ x ∧ x < base) (hn0 : n0 ≤ base) (hbs : base ≤ w.heap.size) :
    copyF n0 t (.agg #[.int .i64 t.kind, .slice sa t.set.length sc, .slice la t.args.length lc, .int .i64 t.mn, .int .i64 t.mx, .bool t.neg]) w := by
  refine ⟨[.int .i64 t.kind, .slice sa t.set.length sc, .slice la t.args.length lc, .int .i64 t.mn, .int .i64 t.mx, .bool t.neg], fun x => Z x ∨ Z0 x, fun x => L x ∨ (Value.slice la t.args.length lc).ownBlock = some x, rfl, ?_, ?_, ?_⟩
  · have hlt := hown.lt
    cases t with
    | mk k set args mn mx ng =>
    simp only [Re.kind, Re.set, Re.args, Re.mn, Re.mx, Re.neg] at *
    simp only [Tree]
    refine ⟨sa, sc, la, lc, rfl, hset.mono fun _ h => .inr h, ?_, ?_⟩
    · rcases hown.2 with ⟨h1, h2⟩ | ⟨q, cap, cur, h1, h2, h3, h4, h5, h6, h7⟩
      · simp at h1; omega
      · simp only [Value.slice.injEq] at h1
        obtain ⟨_, _, rfl⟩ := h1
        simp only [maxLen] at h5
        exact ⟨h4, by omega⟩
    · rcases hown.2 with ⟨h1, h2⟩ | ⟨q, cap, cur, h1, h2, h3, h4, h5, h6, h7⟩
      · exact .inl (List.eq_nil_of_length_eq_zero h2)
      · simp only [Value.slice.injEq] at h1
        obtain ⟨rfl, _, rfl⟩ := h1
        refine .inr ⟨q, rows, cur.toList.drop (args.length * 6), L, .inr rfl, rfl, ?_, Trees.six hTs, Trees.mono (fun _ h => .inl h) args (fun _ h => h) hTs, fun x hx => ⟨.inl hx, fun h => ?_⟩⟩
        · have : (rows.flatten ++ cur.toList.drop (args.length * 6)).toArray = cur := by rw [← h7, List.take_append_drop]
          rw [this]; exact h3
        · subst h; exact (hd3 x rfl).2 hx
  · rintro x (a | a) (b | b)
    · exact hd1 x a b
    · exact (hd3 x b).1 a
    · have := hz0 x a; have := hd2 x (.inr b); omega
    · have := hz0 x a; have := hown.lt x b; omega
  · rintro x ((a | a) | (a | a))
    · have := hd2 x (.inl a); omega
    · have := hz0 x a; omega
    · have := hd2 x (.inr a); omega
    · have := hown.lt x a; omega
theorem copyF_le {n0 n1 : Nat} (h : n1 ≤ n0) {t : Re} {v : Value} {w : World} (hc : copyF n0 t v w) : copyF n1 t v w := by
  obtain ⟨vs, Z, L, h1, h2, h3, h4⟩ := hc
  exact ⟨vs, Z, L, h1, h2, h3, fun x hx => ⟨Nat.le_trans h (h4 x hx).1, (h4 x hx).2⟩⟩
theorem copyF_chg {n0 b : Nat} {t : Re} {v : Value} {w w' : World} (c : Chg (fun y => y = b) w w') (hb : b < n0) (hc : copyF n0 t v w) : copyF n0 t v w' := by
  obtain ⟨vs, Z, L, h1, h2, h3, h4⟩ := hc
  exact ⟨vs, Z, L, h1, Tree.chg c (fun x hx h => by have := h4 x (.inl hx); omega) t (fun x hx h => by have := h4 x (.inr hx); omega) h2, h3, fun x hx => ⟨(h4 x hx).1, Nat.lt_of_lt_of_le (h4 x hx).2 c.size⟩⟩
set_option maxHeartbeats 2000000 in
theorem copy_c : ∀ (n : Nat) (t : Re) (w0 : World) (vs : List Value), t.size ≤ n → t.size ≤ 1000000 → setsOk t → ReAt w0 t vs →
    Ret Tryd.prog 30 #[.agg vs.toArray] w0 fun v w => copyF w0.heap.size t v w ∧ Ext w0 w := by
  intro n
  induction n with
  | zero => intro t w0 vs hn; have := t.size_pos; omega
  | succ n ih =>
  intro t w0 vs hn hM hso ht
  have ht0 := ht
  obtain ⟨sa, sc, aa, ac, rfl, hts, hac, _⟩ := ht.form
  have hal : t.args.length ≤ t.size := by
    have h1 := t.size_eq
    have : ∀ ts : List Re, ts.length ≤ Re.sizes ts := by
      intro ts
      induction ts with
      | nil => simp
      | cons x xs ih => have := x.size_pos; simp only [List.length_cons, Re.sizes]; omega
    have := this t.args
    omega
  refine Ret_of Tryd.func30 rfl Tryd.ntmps30 (Nat.le_of_ble_eq_true rfl) ?_
  have E : Chg none1 w0 w0 := Chg.refl _ _
  refine Wp_seq_region ?_
  refine s_box (v := (.agg #[(.int .i64 t.kind), (.slice sa t.set.length sc), (.slice aa t.args.length ac), (.int .i64 t.mn), (.int .i64 t.mx), (.bool t.neg)])) (c := #[(.int .i64 t.kind), (.slice sa t.set.length sc), (.slice aa t.args.length ac), (.int .i64 t.mn), (.int .i64 t.mx), (.bool t.neg)]) (by decide) rfl rfl ?_
  intro br wr Nr
  have Fr := Nr.ge E
  replace E := E.ext Nr.ext
  have Br := Nr.blk
  refine s_alloc (c := #[(.int .i64 0), (.slice none 0 0), (.slice none 0 0), (.int .i64 0), (.int .i64 0), (.bool false)]) (by decide) zer27 rfl ?_
  intro bp wp Np
  have Fp := Np.ge E
  have Op_br := Np.lt Br
  replace Br := Np.keep Br
  replace E := E.ext Np.ext
  have Bp := Np.blk
  refine WpL_nil ?_
  refine Wp_seq_region ?_
  refine WpL_val rfl rfl (by decide) (r_loadAgg (vs := [(.int .i64 t.kind), (.slice sa t.set.length sc), (.slice aa t.args.length ac), (.int .i64 t.mn), (.int .i64 t.mx), (.bool t.neg)]) rfl agg27 siz27 rfl (Br.cells rfl)) ?_
  refine s_allocStore (v := (.agg #[(.int .i64 t.kind), (.slice sa t.set.length sc), (.slice aa t.args.length ac), (.int .i64 t.mn), (.int .i64 t.mx), (.bool t.neg)])) (c := #[(.int .i64 t.kind), (.slice sa t.set.length sc), (.slice aa t.args.length ac), (.int .i64 t.mn), (.int .i64 t.mx), (.bool t.neg)]) (n := 6) (by decide) zer27 rfl siz27 rfl rfl rfl (by simp [Value.oneCell']) ?_
  intro bq wq Nq
  have Fq := Nq.ge E
  have Oq_br := Nq.lt Br
  have Oq_bp := Nq.lt Bp
  replace Br := Nq.keep Br
  replace Bp := Nq.keep Bp
  replace E := E.ext Nq.ext
  have Bq := Nq.blk
  refine WpL_nil ?_
  refine Wp_seq_region ?_
  refine WpL_val rfl rfl (by decide) (r_fieldAddr (b := br) (o := 0) (o' := 1) rfl Tryd.underlying27 rfl siz24 rfl) ?_
  refine WpL_val rfl rfl (by decide) (r_load (v := (.slice sa t.set.length sc)) rfl flat24 (Br.cell rfl)) ?_
  obtain ⟨n3, hn3⟩ : ∃ n3, n3 = wq.heap.size := ⟨_, rfl⟩
  have hq3 := Bq.lt
  refine WpL_enter rfl rfl (by decide) (r_callF (vs := [(.slice sa t.set.length sc)]) Tryd.func52 nm52 bd52 rfl) (clone_c _ _ t.set (SlAt.ext hts E) (setsOk_set hso)) ?_
  rintro _ w9 ⟨sa3, sc3, rfl, hset, X9⟩
  replace Br := X9.keep Br
  replace Bp := X9.keep Bp
  replace Bq := X9.keep Bq
  replace E := E.ext X9
  obtain ⟨base, hbase⟩ : ∃ base, base = w9.heap.size := ⟨_, rfl⟩
  have hs9 := X9.size
  rw [← hbase, ← hn3] at hset
  have hbs : base ≤ w9.heap.size := by omega
  refine WpL_val rfl rfl (by decide) (r_fieldAddr (b := bq) (o := 0) (o' := 1) rfl Tryd.underlying27 rfl siz24 rfl) ?_
  refine s_store (b := bq) (o := 1) (c' := #[(.int .i64 t.kind), (.slice sa3 t.set.length sc3), (.slice aa t.args.length ac), (.int .i64 t.mn), (.int .i64 t.mx), (.bool t.neg)]) (v := (.slice sa3 t.set.length sc3)) rfl rfl rfl siz24 Bq (by simp) rfl ?_
  intro w1 S1
  replace hbs := Nat.le_trans hbs S1.chg.size
  replace hset := SlIn.chg hset S1.chg (fun x hx hm => by have hx' := hx; have hm' : x = bq := hm; omega)
  replace Br := S1.keep (by omega) Br
  replace Bp := S1.keep (by omega) Bp
  replace E := S1.step E (by first | exact Or.inl (by omega) | exact Or.inr rfl | exact Or.inr (by assumption) | exact Or.inr (by simp) | exact Or.inr (by omega) | exact Or.inr (by dsimp only; omega))
  replace Bq := S1.blk
  refine WpL_val rfl rfl (by decide) (r_fieldAddr (b := bq) (o := 0) (o' := 2) rfl Tryd.underlying27 rfl siz25 rfl) ?_
  refine s_store (b := bq) (o := 2) (c' := #[(.int .i64 t.kind), (.slice sa3 t.set.length sc3), (.slice none 0 0), (.int .i64 t.mn), (.int .i64 t.mx), (.bool t.neg)]) (v := (.slice none 0 0)) rfl rfl rfl siz25 Bq (by simp) rfl ?_
  intro w2 S2
  replace hbs := Nat.le_trans hbs S2.chg.size
  replace hset := SlIn.chg hset S2.chg (fun x hx hm => by have hx' := hx; have hm' : x = bq := hm; omega)
  replace Br := S2.keep (by omega) Br
  replace Bp := S2.keep (by omega) Bp
  replace E := S2.step E (by first | exact Or.inl (by omega) | exact Or.inr rfl | exact Or.inr (by assumption) | exact Or.inr (by simp) | exact Or.inr (by omega) | exact Or.inr (by dsimp only; omega))
  replace Bq := S2.blk
  refine WpL_nil ?_
  refine Wp_seq ?_
  refine Wp_seq_region ?_
  refine WpL_val rfl rfl (by decide) (r_fieldAddr (b := br) (o := 0) (o' := 2) rfl Tryd.underlying27 rfl siz25 rfl) ?_
  refine WpL_val rfl rfl (by decide) (r_load (v := (.slice aa t.args.length ac)) rfl flat25 (Br.cell rfl)) ?_
  refine WpL_val rfl rfl (by decide) (r_lenSlice (ad := aa) (n := t.args.length) (cap := ac) Tryd.underlying25 rfl) ?_
  refine WpL_val rfl rfl (by decide) (r_move (v := (.int .i64 0)) rfl) ?_
  refine WpL_nil ?_
  refine Wp_block ?_
  refine Wp_loop (fun nn_ σ W3 => ∃ (k : Nat) (la : Option Addr) (lc : Nat) (rows : List (List Value)) (Z : Nat → Prop) (L : Nat → Prop), (∃ jj_, σ = upds jj_ [(2, (.pointer (some ⟨bp, 0, none⟩))), (3, (.pointer (some ⟨bq, 0, none⟩))), (13, (.slice aa t.args.length ac)), (14, (.int .i64 ((t.args.length : Nat) : Int))), (15, (.int .i64 ((k : Nat) : Int)))]) ∧ Chg none1 w0 W3 ∧ Blk W3 br #[(.int .i64 t.kind), (.slice sa t.set.length sc), (.slice aa t.args.length ac), (.int .i64 t.mn), (.int .i64 t.mx), (.bool t.neg)] 27 ∧ Blk W3 bp #[(.int .i64 0), (.slice none 0 0), (.slice none 0 0), (.int .i64 0), (.int .i64 0), (.bool false)] 27 ∧ Blk W3 bq (#[(.int .i64 t.kind), (.slice sa3 t.set.length sc3), (.slice la k lc), (.int .i64 t.mn), (.int .i64 t.mx), (.bool t.neg)]) 27 ∧ (k ≤ t.args.length) ∧ (W3.ownsRow base TRe 6 (.slice la k lc) k rows.flatten) ∧ (Trees Z W3 (t.args.take k) rows L) ∧ (∀ x, Z x → ¬ L x) ∧ (∀ x, Z x ∨ L x → base ≤ x ∧ x < W3.heap.size) ∧ (∀ x, (Value.slice la k lc).ownBlock = some x → ¬ Z x ∧ ¬ L x) ∧ (base ≤ W3.heap.size) ∧ (SlIn (fun b => n3 ≤ b ∧ b < base) W3 2 (.slice sa3 t.set.length sc3) (t.set.map spanV)) ∧ nn_ = t.args.length - k) (n := t.args.length - 0) ?_ ?_
  · exact ⟨0, none, 0, [], (fun _ => False), (fun _ => False), Fits.out ⟨rfl, rfl, rfl, rfl, rfl, trivial⟩, E, Br, Bp, Bq, Nat.zero_le _, World.ownsRow_nil _ _ _ _, (by simp only [List.take_zero, Trees]), (fun _ f _ => f), (by rintro x (f | f) <;> exact f.elim), (by simp [Value.ownBlock]), hbs, hset, rfl⟩
  · clear E Br Bp Bq
    rintro _ _ W3 ⟨k, la, lc, rows, Z, L, ⟨j3, rfl⟩, E, Br, Bp, Bq, hk, hown, hTs, hd1, hd2, hd3, hbs, hset, rfl⟩
    refine Wp_seq_region ?_
    refine WpL_val rfl rfl (by decide) (r_lss (k := .i64) (a := ((k : Nat) : Int)) (b := ((t.args.length : Nat) : Int)) rfl rfl) ?_
    refine WpL_nil ?_
    refine Wp_seq ?_
    refine Wp_cond (b := decide ((((k : Nat) : Int) : Int) < ((t.args.length : Nat) : Int))) rfl (fun hlt => ?_) (fun hlt => ?_)
    · have khlt := hlt
      replace hlt := of_decide_eq_true hlt
      obtain ⟨x, hx⟩ := get_of_lt (l := t.args) (i := k) (by omega)
      obtain ⟨b, o, rfl, hcl⟩ := (ReAt.rs ht0).cells (by omega)
      obtain ⟨xs, hcx, hrx⟩ := hcl k x hx
      have hrx0 := hrx
      obtain ⟨xsa, xsc, xaa, xac, rfl, _, _, _⟩ := hrx.form
      obtain ⟨nk, hnk⟩ : ∃ nk, nk = (W3).heap.size := ⟨_, rfl⟩
      have hnkle : nk ≤ (W3).heap.size := by omega
      have hlt3 := hown.lt
      rw [← hnk] at hd2 hlt3
      refine Wp_skip ?_
      refine thn_normal ?_
      refine Wp_seq ?_
      refine Wp_block ?_
      refine Wp_seq_region ?_
      refine WpL_val rfl rfl (by decide) (r_indexSlice (b := b) (o := o) (len := t.args.length) (cap := ac) (i := k) (o' := o + k * 6) rfl rfl rfl Tryd.underlying25 siz27 (by omega) (by omega)) ?_
      refine WpL_val rfl rfl (by decide) (r_loadAgg (vs := [(.int .i64 x.kind), (.slice xsa x.set.length xsc), (.slice xaa x.args.length xac), (.int .i64 x.mn), (.int .i64 x.mx), (.bool x.neg)]) rfl agg27 siz27 rfl (hcx.ext E)) ?_
      refine s_allocStore (v := (.agg #[(.int .i64 x.kind), (.slice xsa x.set.length xsc), (.slice xaa x.args.length xac), (.int .i64 x.mn), (.int .i64 x.mx), (.bool x.neg)])) (c := #[(.int .i64 x.kind), (.slice xsa x.set.length xsc), (.slice xaa x.args.length xac), (.int .i64 x.mn), (.int .i64 x.mx), (.bool x.neg)]) (n := 6) (by decide) zer27 rfl siz27 rfl rfl rfl (by simp [Value.oneCell']) ?_
      intro bs ws Ns
      have Fs := Ns.ge E
      have Os_br := Ns.lt Br
      have Os_bp := Ns.lt Bp
      have Os_bq := Ns.lt Bq
      replace Br := Ns.keep Br
      replace Bp := Ns.keep Bp
      replace Bq := Ns.keep Bq
      replace hset := SlIn.chg hset Ns.ext (fun _ _ f => f)
      replace hbs := Nat.le_trans hbs Ns.ext.size
      replace hnkle := Nat.le_trans hnkle Ns.ext.size
      replace hown := own_ext hown Ns.ext
      replace hTs := Trees.ext Ns.ext _ hTs
      replace E := E.ext Ns.ext
      have Bs := Ns.blk
      refine WpL_nil ?_
      obtain ⟨n1, hn1⟩ : ∃ n1, n1 = ws.heap.size := ⟨_, rfl⟩
      have hnk1 : nk ≤ n1 := by rw [hn1]; exact hnkle
      have hn1le : n1 ≤ ws.heap.size := by omega
      have hbn1 : base ≤ n1 := by rw [hn1]; exact hbs
      obtain ⟨Fs5, hFs5⟩ : ∃ Fs : List (FactT (none1)), Fs = [.eq (.pointer (some ⟨bq, 2, none⟩)), .eq (.slice la k lc), .eq (.agg #[(.int .i64 x.kind), (.slice xsa x.set.length xsc), (.slice xaa x.args.length xac), (.int .i64 x.mn), (.int .i64 x.mx), (.bool x.neg)]), .gen (copyF n1 x) (copyF_ext n1 x), .gen (copyG n1 x) (copyG_ext n1 x)] := ⟨_, rfl⟩
      refine Wp_dagT (none1) 5 3 [19, 20, 21, 22, 23] [[], [0], [], [2], [3]] Fs5 hFs5 rfl mixed (by kernel_rfl) (by kernel_rfl) (by kernel_rfl) ?_ ?_
      · intro wd X0
        refine DagStepsT.cons (fun s' w' X U H => ?_) ?_
        · exact DoesT_val (r_fieldAddr (b := bq) (o := 0) (o' := 2) (U 3 rfl) Tryd.underlying27 rfl siz25 rfl) (Chg.refl _ _) rfl
        refine DagStepsT.cons (fun s' w' X U H => ?_) ?_
        · have e19 : s' 19 = (.pointer (some ⟨bq, 2, none⟩)) := H 0 rfl 19 (.eq (.pointer (some ⟨bq, 2, none⟩))) rfl (by rw [hFs5]; rfl)
          exact DoesT_val (r_load (v := (.slice la k lc)) e19 flat25 ((Chg.keep X (fun f => f) (X0.keep Bq)).cell rfl)) (Chg.refl _ _) rfl
        refine DagStepsT.cons (fun s' w' X U H => ?_) ?_
        · exact DoesT_val (r_loadAgg (vs := [(.int .i64 x.kind), (.slice xsa x.set.length xsc), (.slice xaa x.args.length xac), (.int .i64 x.mn), (.int .i64 x.mx), (.bool x.neg)]) (U 5 rfl) agg27 siz27 rfl ((Chg.keep X (fun f => f) (X0.keep Bs)).cells rfl)) (Chg.refl _ _) rfl
        refine DagStepsT.cons (fun s' w' X U H => ?_) ?_
        · have e21 : s' 21 = (.agg #[(.int .i64 x.kind), (.slice xsa x.set.length xsc), (.slice xaa x.args.length xac), (.int .i64 x.mn), (.int .i64 x.mx), (.bool x.neg)]) := H 2 rfl 21 (.eq (.agg #[(.int .i64 x.kind), (.slice xsa x.set.length xsc), (.slice xaa x.args.length xac), (.int .i64 x.mn), (.int .i64 x.mx), (.bool x.neg)])) rfl (by rw [hFs5]; rfl)
          exact DoesT_enter (r_callF (vs := [(.agg #[(.int .i64 x.kind), (.slice xsa x.set.length xsc), (.slice xaa x.args.length xac), (.int .i64 x.mn), (.int .i64 x.mx), (.bool x.neg)])]) Tryd.func30 nm30 bd30 (lst1 e21)) ((ih x _ _ (by have := Re.size_arg hx; omega) (by have := Re.size_arg hx; omega) (setsOk_arg hso hx) (ReAt.ext ((Ext.trans E X0).trans X) x hrx0)).mono (fun v w2 h => ⟨copyF_le (by have := X0.size; have := X.size; omega) h.1, h.2⟩))
        refine DagStepsT.cons (fun s' w' X U H => ?_) ?_
        · obtain ⟨v22, Z22, L22, e22, T22, D22, R22⟩ := (show (.gen (copyF n1 x) (copyF_ext n1 x) : FactT (none1)).In (s' 22) w' from H 3 rfl 22 (.gen (copyF n1 x) (copyF_ext n1 x)) rfl (by rw [hFs5]; rfl))
          exact (DoesT_one e22 T22 D22 R22)
        exact DagStepsT.nil
      · intro s' wd5 w5 X0 X5 U H
        have e20 : s' 20 = (.slice la k lc) := H 1 20 (.eq (.slice la k lc)) rfl (by rw [hFs5]; rfl)
        obtain ⟨v22, Z22, L22, e22, T22, D22, R22⟩ := (show (.gen (copyF n1 x) (copyF_ext n1 x) : FactT (none1)).In (s' 22) w5 from H 3 22 (.gen (copyF n1 x) (copyF_ext n1 x)) rfl (by rw [hFs5]; rfl))
        obtain ⟨b23, v23, Z23, L23, e23, B23, T23, D23, R23⟩ := (show (.gen (copyG n1 x) (copyG_ext n1 x) : FactT (none1)).In (s' 23) w5 from H 4 23 (.gen (copyG n1 x) (copyG_ext n1 x)) rfl (by rw [hFs5]; rfl))
        obtain ⟨j5, rfl⟩ := Fits.out (σ := s') (l := [(2, (.pointer (some ⟨bp, 0, none⟩))), (3, (.pointer (some ⟨bq, 0, none⟩))), (13, (.slice (some ⟨b, o, none⟩) t.args.length ac)), (14, (.int .i64 ((t.args.length : Nat) : Int))), (15, (.int .i64 ((k : Nat) : Int))), (20, (.slice la k lc)), (23, (.slice (some ⟨b23, 0, none⟩) 1 1))]) ⟨U 2 rfl, U 3 rfl, U 13 rfl, U 14 rfl, U 15 rfl, e20, e23, trivial⟩
        clear U H
        replace Br := Chg.keep X5 (fun f => f) (X0.keep Br)
        replace Bp := Chg.keep X5 (fun f => f) (X0.keep Bp)
        replace Bq := Chg.keep X5 (fun f => f) (X0.keep Bq)
        replace Bs := Chg.keep X5 (fun f => f) (X0.keep Bs)
        replace hset := SlIn.chg hset X0 (fun _ _ f => f)
        replace hset := SlIn.chg hset X5 (fun _ _ f => f)
        replace hbs := Nat.le_trans hbs X0.size
        replace hbs := Nat.le_trans hbs X5.size
        replace hnkle := Nat.le_trans hnkle X0.size
        replace hnkle := Nat.le_trans hnkle X5.size
        replace hown := own_ext hown X0
        replace hown := own_ext hown X5
        replace hTs := Trees.ext X0 _ hTs
        replace hTs := Trees.ext X5 _ hTs
        replace hn1le := Nat.le_trans hn1le X0.size
        replace hn1le := Nat.le_trans hn1le X5.size
        replace E := (E.ext X0).step X5 (fun _ _ f => f.elim)
        refine s_append (base := base) (n := k) (m := 1) (xs := rows.flatten) (news := v23) (size := 6) (bytes := 80) (v := (.slice la k lc)) (by decide) Tryd.underlying25 siz27 byt27 zer27 rfl (by decide) rfl hown rfl (by rw [T23.len]) (B23.cells (by simp)) (T23.one) (by unfold maxLen; omega) (by omega) (hbs) ?_
        intro v9 w29 Ov9 Cv9 Dv9
        replace Br := Cv9.keep (fun h => by have := (hown.lt _ h).1; omega) Br
        replace Bp := Cv9.keep (fun h => by have := (hown.lt _ h).1; omega) Bp
        replace Bq := Cv9.keep (fun h => by have := (hown.lt _ h).1; omega) Bq
        replace E := E.step Cv9 (fun x hx h => absurd (hown.lt x h).1 (by omega))
        obtain ⟨la2, lc2, rfl⟩ := own_form Ov9
        have hC3 : Chg (fun y => y = bq) w29 w29 := Chg.refl _ _
        replace hset := SlIn.chg hset Cv9 (fun y hy hm => by have := (hown.lt y hm).1; have hy' := hy; omega)
        replace hbs := Nat.le_trans hbs Cv9.size
        refine WpL_val rfl rfl (by decide) (r_fieldAddr (b := bq) (o := 0) (o' := 2) rfl Tryd.underlying27 rfl siz25 rfl) ?_
        refine s_store (b := bq) (o := 2) (c' := #[(.int .i64 t.kind), (.slice sa3 t.set.length sc3), (.slice la2 (k + 1) lc2), (.int .i64 t.mn), (.int .i64 t.mx), (.bool t.neg)]) (v := (.slice la2 (k + 1) lc2)) rfl rfl rfl siz25 Bq (by simp) rfl ?_
        intro w6 S6
        replace hbs := Nat.le_trans hbs S6.chg.size
        replace hset := SlIn.chg hset S6.chg (fun x hx hm => by have hx' := hx; have hm' : x = bq := hm; omega)
        replace hC3 := S6.chg
        replace Br := S6.keep (by omega) Br
        replace Bp := S6.keep (by omega) Bp
        replace E := S6.step E (by first | exact Or.inl (by omega) | exact Or.inr rfl | exact Or.inr (by assumption) | exact Or.inr (by simp) | exact Or.inr (by omega) | exact Or.inr (by dsimp only; omega))
        replace Bq := S6.blk
        refine WpL_nil ?_
        refine inB_normal ?_
        refine thn_normal ?_
        refine Wp_region ?_
        refine WpL_val rfl rfl (by decide) (r_add (k := .i64) (a := ((k : Nat) : Int)) (b := 1) (c := ((k : Nat) : Int) + 1) rfl rfl (wI64 (by omega))) ?_
        refine WpL_val rfl rfl (by decide) (r_move (v := (.int .i64 (((k : Nat) : Int) + 1))) rfl) ?_
        refine WpL_nil ?_
        refine thn_normal ?_
        have hstep := copy_step (base := base) (n1 := n1) (b3 := bq) hTs T23 hd1 (fun y hy => by have := hd2 y hy; omega) (fun q hq => ⟨hd3 q hq, by have := hlt3 q hq; omega⟩) D23 R23 Cv9 Dv9 hC3 (by omega) hbn1 hn1le
        exact ⟨t.args.length - (k + 1), by omega, k + 1, la2, lc2, rows ++ [v23], (fun y => Z y ∨ Z23 y), (fun y => L y ∨ L23 y), Fits.out ⟨rfl, rfl, rfl, rfl, rfl, trivial⟩, E, Br, Bp, Bq, (by omega), (by have h := own_chg Ov9 hC3 (fun q hq hm => by have := (Ov9.lt q hq).1; have hm' : q = bq := hm; omega); simpa using h), (by rw [List.take_add_one, hx]; exact hstep.1), hstep.2.1, hstep.2.2.1, hstep.2.2.2, hbs, hset, rfl⟩
    · have khlt := hlt
      replace hlt := of_decide_eq_false hlt
      have hkk : k = t.args.length := by omega
      subst hkk
      rw [List.take_length] at hTs
      have hcf := copy_done (n0 := n3) hown hTs hset hd1 hd2 hd3 (fun x h => h) (by omega) hbs
      refine Wp_exit ?_
      refine thn_exit ?_
      refine thn_exit ?_
      refine inB_here ?_
      refine thn_normal ?_
      refine Wp_seq_region ?_
      refine WpL_val rfl rfl (by decide) (r_loadAgg (vs := [(.int .i64 t.kind), (.slice sa3 t.set.length sc3), (.slice la t.args.length lc), (.int .i64 t.mn), (.int .i64 t.mx), (.bool t.neg)]) rfl agg27 siz27 rfl (Bq.cells rfl)) ?_
      refine s_storeAgg (b := bp) (o := 0) (c' := #[(.int .i64 t.kind), (.slice sa3 t.set.length sc3), (.slice la t.args.length lc), (.int .i64 t.mn), (.int .i64 t.mx), (.bool t.neg)]) rfl rfl (by simp [Value.oneCell']) siz27 rfl Bp (by first | (simp; done) | exact Nat.le_of_ble_eq_true rfl) rfl ?_
      intro w7 S7
      replace hcf := copyF_chg S7.chg (by omega) hcf
      replace Br := S7.keep (by omega) Br
      replace Bq := S7.keep (by omega) Bq
      replace E := S7.step E (by first | exact Or.inl (by omega) | exact Or.inr rfl | exact Or.inr (by assumption) | exact Or.inr (by simp) | exact Or.inr (by omega) | exact Or.inr (by dsimp only; omega))
      replace Bp := S7.blk
      refine WpL_nil ?_
      refine Wp_ret ?_
      refine fin_agg Tryd.results30 (vs := [(.int .i64 t.kind), (.slice sa3 t.set.length sc3), (.slice la t.args.length lc), (.int .i64 t.mn), (.int .i64 t.mx), (.bool t.neg)]) (b := bp) rfl agg27 siz27 rfl (Bp.cells rfl) ?_
      exact ⟨copyF_le (by omega) hcf, E⟩
end Go.Proofs
namespace Go.Proofs
open Go Go.Eng
set_option maxRecDepth 100000
def RowsIn (S : Nat → Prop) (w : World) : List Re → List (List Value) → Prop
  | [], rows => rows = []
  | t :: ts, rows => ∃ r rs, rows = r :: rs ∧ ReIn S w t r ∧ RowsIn S w ts rs
theorem RowsIn.ext {S : Nat → Prop} {w w' : World} (e : Ext w w') : ∀ {ts : List Re} {rows : List (List Value)}, RowsIn S w ts rows → RowsIn S w' ts rows
  | [], _, h => h
  | t :: ts, rows, h => by
    obtain ⟨r, rs, h1, h2, h3⟩ := h
    exact ⟨r, rs, h1, ReIn.ext e t h2, RowsIn.ext e h3⟩
theorem RowsIn.len {S : Nat → Prop} {w : World} : ∀ {ts : List Re} {rows : List (List Value)}, RowsIn S w ts rows → rows.length = ts.length
  | [], _, h => by simp only [RowsIn] at h; subst h; rfl
  | t :: ts, rows, h => by
    obtain ⟨r, rs, rfl, _, h3⟩ := h
    simp [RowsIn.len h3]
theorem RowsIn.six {S : Nat → Prop} {w : World} : ∀ {ts : List Re} {rows : List (List Value)}, RowsIn S w ts rows → ∀ r ∈ rows, r.length = 6
  | [], _, h => by simp only [RowsIn] at h; subst h; simp
  | t :: ts, rows, h => by
    obtain ⟨r, rs, rfl, h2, h3⟩ := h
    intro q hq
    rcases List.mem_cons.1 hq with rfl | hq
    · exact h2.len
    · exact RowsIn.six h3 q hq
theorem RowsIn.one {S : Nat → Prop} {w : World} : ∀ {ts : List Re} {rows : List (List Value)}, RowsIn S w ts rows → ∀ u ∈ rows.flatten, u.oneCell' = true
  | [], _, h => by simp only [RowsIn] at h; subst h; simp
  | t :: ts, rows, h => by
    obtain ⟨r, rs, rfl, h2, h3⟩ := h
    intro u hu
    rw [List.flatten_cons, List.mem_append] at hu
    rcases hu with hu | hu
    · exact ReAt.one (ReIn.at t h2) u hu
    · exact RowsIn.one h3 u hu
theorem RowsIn.get {S : Nat → Prop} {w : World} : ∀ {ts : List Re} {rows : List (List Value)}, RowsIn S w ts rows → ∀ {i : Nat} {t : Re}, ts[i]? = some t → ∃ r, rows[i]? = some r ∧ ReIn S w t r
  | [], _, _, i, t, hi => by simp at hi
  | t :: ts, rows, h, i, u, hi => by
    obtain ⟨r, rs, rfl, h2, h3⟩ := h
    cases i with
    | zero => simp at hi; subst hi; exact ⟨r, rfl, h2⟩
    | succ i => simp at hi; obtain ⟨q, h4, h5⟩ := RowsIn.get h3 hi; exact ⟨q, by simpa using h4, h5⟩
theorem RowsIn.append {S : Nat → Prop} {w : World} {us : List Re} {qs : List (List Value)} (hu : RowsIn S w us qs) : ∀ {ts : List Re} {rows : List (List Value)}, RowsIn S w ts rows → RowsIn S w (ts ++ us) (rows ++ qs)
  | [], _, h => by simp only [RowsIn] at h; subst h; simpa using hu
  | t :: ts, rows, h => by
    obtain ⟨r, rs, rfl, h2, h3⟩ := h
    exact ⟨r, rs ++ qs, rfl, h2, RowsIn.append hu h3⟩
theorem RowsIn.single {S : Nat → Prop} {w : World} {t : Re} {r : List Value} (h : ReIn S w t r) : RowsIn S w [t] [r] := ⟨r, [], rfl, h, rfl⟩
theorem ResIn.rows {S : Nat → Prop} {w : World} {b : Nat} : ∀ {ts : List Re} {o : Nat}, ResIn S w b o ts → ∃ rows, RowsIn S w ts rows ∧ CellsAt w b o rows.flatten
  | [], _, _ => ⟨[], rfl, fun i v hv => by simp at hv⟩
  | t :: ts, o, h => by
    simp only [ResIn] at h
    obtain ⟨⟨vs, h1, h2⟩, h3⟩ := h
    obtain ⟨rows, h4, h5⟩ := ResIn.rows h3
    refine ⟨vs :: rows, ⟨vs, rows, rfl, h2, h4⟩, fun i v hv => ?_⟩
    have hl := h2.len
    rw [List.flatten_cons] at hv
    rcases Nat.lt_or_ge i 6 with hi | hi
    · rw [List.getElem?_append_left (by omega)] at hv
      exact h1 i v hv
    · rw [List.getElem?_append_right (by omega)] at hv
      have := h5 (i - vs.length) v hv
      rwa [show o + 6 + (i - vs.length) = o + i from by omega] at this
def RsIn (S : Nat → Prop) (w : World) (v : Value) (ts : List Re) : Prop := ∃ aa ac, v = .slice aa ts.length ac ∧ (ts.length ≤ ac ∧ ac ≤ 9223372036854775807) ∧ (ts = [] ∨ ∃ b o, S b ∧ aa = some ⟨b, o, none⟩ ∧ ResIn S w b o ts)
theorem RsIn.cells {S : Nat → Prop} {w : World} {aa : Option Addr} {n ac : Nat} {ts : List Re} (h : RsIn S w (.slice aa n ac) ts) (hn : 0 < n) : ∃ b o, aa = some ⟨b, o, none⟩ ∧ ∀ i t, ts[i]? = some t → ∃ vs, CellsAt w b (o + i * 6) vs ∧ ReIn S w t vs := by
  obtain ⟨aa', ac', h1, h2, h3⟩ := h
  simp only [Value.slice.injEq] at h1
  obtain ⟨rfl, rfl, rfl⟩ := h1
  rcases h3 with rfl | ⟨b, o, _, h4, h5⟩
  · simp at hn
  · exact ⟨b, o, h4, fun i t ht => ResIn.get h5 ht⟩
theorem len_sizes : ∀ ts : List Re, ts.length ≤ Re.sizes ts
  | [] => by simp
  | x :: xs => by have := x.size_pos; have := len_sizes xs; simp only [List.length_cons, Re.sizes]; omega
end Go.Proofs
namespace Go.Proofs
open Go Go.Eng
set_option maxRecDepth 100000
theorem RowsIn.take {S : Nat → Prop} {w : World} : ∀ {ts : List Re} {rows : List (List Value)} (i : Nat), RowsIn S w ts rows → RowsIn S w (ts.take i) (rows.take i)
  | [], _, i, h => by simp only [RowsIn] at h; subst h; cases i <;> rfl
  | t :: ts, rows, 0, h => rfl
  | t :: ts, rows, i + 1, h => by
    obtain ⟨r, rs, rfl, h2, h3⟩ := h
    exact ⟨r, rs.take i, rfl, h2, RowsIn.take i h3⟩
end Go.Proofs
namespace Go.Proofs
open Go Go.Eng
set_option maxRecDepth 100000
theorem RsIn.ext {S : Nat → Prop} {w w' : World} {v : Value} {ts : List Re} (h : RsIn S w v ts) (e : Ext w w') : RsIn S w' v ts := by
  obtain ⟨aa, ac, h1, h2, h3⟩ := h
  refine ⟨aa, ac, h1, h2, ?_⟩
  rcases h3 with h | ⟨b, o, hb, h4, h5⟩
  · exact .inl h
  · exact .inr ⟨b, o, hb, h4, ResIn.chg e (fun _ _ f => f) ts hb h5⟩
end Go.Proofs
namespace Go.Proofs
open Go Go.Eng
set_option maxRecDepth 100000
theorem RowsIn.chg {S M : Nat → Prop} {w w' : World} (c : Chg M w w') (hm : ∀ b, S b → ¬ M b) : ∀ {ts : List Re} {rows : List (List Value)}, RowsIn S w ts rows → RowsIn S w' ts rows
  | [], _, h => h
  | t :: ts, rows, h => by
    obtain ⟨r, rs, h1, h2, h3⟩ := h
    exact ⟨r, rs, h1, ReIn.chg c hm t h2, RowsIn.chg c hm h3⟩
theorem RowsIn.mono {S S' : Nat → Prop} {w : World} (hs : ∀ b, S b → S' b) : ∀ {ts : List Re} {rows : List (List Value)}, RowsIn S w ts rows → RowsIn S' w ts rows
  | [], _, h => h
  | t :: ts, rows, h => by
    obtain ⟨r, rs, h1, h2, h3⟩ := h
    exact ⟨r, rs, h1, ReIn.mono hs t h2, RowsIn.mono hs h3⟩
theorem SlIn.lt {S : Nat → Prop} {w : World} {v : Value} {l : List (Int × Int)} (h : SlIn S w 2 v (l.map spanV)) : SlIn (fun b => S b ∧ b < w.heap.size) w 2 v (l.map spanV) := by
  obtain ⟨a, cap, h1, h2, h3, h4⟩ := h
  refine ⟨a, cap, h1, h2, h3, ?_⟩
  rcases h4 with h | ⟨b, o, hb, h5, h6⟩
  · exact .inl h
  · cases l with
    | nil => exact .inl rfl
    | cons s r =>
      have := h6 0 (spanV s) rfl 0 _ rfl
      exact .inr ⟨b, o, ⟨hb, World.block_lt_of_cell? w _ this⟩, h5, h6⟩
mutual
theorem ReIn.lt {S : Nat → Prop} {w : World} : ∀ (t : Re) {vs : List Value}, ReIn S w t vs → ReIn (fun b => S b ∧ b < w.heap.size) w t vs
  | .mk k set args mn mx ng, vs, h => by
    simp only [ReIn] at h ⊢
    obtain ⟨sa, sc, aa, ac, hv, hs, hl, ha⟩ := h
    refine ⟨sa, sc, aa, ac, hv, SlIn.lt hs, hl, ?_⟩
    rcases ha with h | ⟨b, o, hb, h1, h2⟩
    · exact .inl h
    · match args, h2 with
      | [], _ => exact .inl rfl
      | t :: ts, h2 =>
        have h3 := h2
        simp only [ResIn] at h3
        obtain ⟨⟨us, h4, h5⟩, _⟩ := h3
        obtain ⟨_, _, _, _, rfl, _⟩ := h5.form
        have := h4 0 _ rfl
        exact .inr ⟨b, o, ⟨hb, World.block_lt_of_cell? w _ this⟩, h1, ResIn.lt (t :: ts) h2⟩
theorem ResIn.lt {S : Nat → Prop} {w : World} {b : Nat} : ∀ (ts : List Re) {o : Nat}, ResIn S w b o ts → ResIn (fun b => S b ∧ b < w.heap.size) w b o ts
  | [], _, _ => by simp only [ResIn]
  | t :: ts, o, h => by
    simp only [ResIn] at h ⊢
    obtain ⟨⟨vs, h1, h2⟩, h3⟩ := h
    exact ⟨⟨vs, h1, ReIn.lt t h2⟩, ResIn.lt ts h3⟩
end
theorem RsIn.lt {S : Nat → Prop} {w : World} {v : Value} {ts : List Re} (h : RsIn S w v ts) : RsIn (fun b => S b ∧ b < w.heap.size) w v ts := by
  obtain ⟨aa, ac, h1, h2, h3⟩ := h
  refine ⟨aa, ac, h1, h2, ?_⟩
  rcases h3 with h | ⟨b, o, hb, h4, h5⟩
  · exact .inl h
  · match ts, h5 with
    | [], _ => exact .inl rfl
    | t :: ts, h5 =>
      have h6 := h5
      simp only [ResIn] at h6
      obtain ⟨⟨us, h7, h8⟩, _⟩ := h6
      obtain ⟨_, _, _, _, rfl, _⟩ := h8.form
      have := h7 0 _ rfl
      exact .inr ⟨b, o, ⟨hb, World.block_lt_of_cell? w _ this⟩, h4, ResIn.lt (t :: ts) h5⟩
/-- The arguments while they are made normal one by one. -/
def NSt (f : Re → Re) (Z L : Nat → Prop) (n0 : Nat) (w : World) (aa : Option Addr) (args : List Re) (k : Nat) : Prop :=
  args = [] ∨ ∃ (b : Nat) (rows : List (List Value)) (rest : List Value) (D K : Nat → Prop), aa = some ⟨b, 0, none⟩ ∧ L b ∧ Blk w b (rows.flatten ++ rest).toArray TRe ∧ RowsIn (fun y => Z y ∨ D y ∨ n0 ≤ y) w ((args.take k).map f) (rows.take k) ∧ Trees Z w (args.drop k) (rows.drop k) K ∧ rows.length = args.length ∧ (∀ r ∈ rows, r.length = 6) ∧ (∀ y, D y → L y ∧ y ≠ b ∧ ¬ K y) ∧ (∀ y, K y → L y ∧ y ≠ b)
theorem NSt.ext {f : Re → Re} {Z L : Nat → Prop} {n0 : Nat} {w w' : World} {aa : Option Addr} {args : List Re} {k : Nat} (h : NSt f Z L n0 w aa args k) (e : Ext w w') : NSt f Z L n0 w' aa args k := by
  rcases h with h | ⟨b, rows, rest, D, K, h1, h2, h3, h4, h5, h6⟩
  · exact .inl h
  · exact .inr ⟨b, rows, rest, D, K, h1, h2, e.keep h3, h4.ext e, Trees.ext e _ h5, h6⟩
theorem nst_start {f : Re → Re} {Z L : Nat → Prop} {n0 : Nat} {w : World} {aa : Option Addr} {args : List Re} (h : args = [] ∨ ∃ b rows rest L', L b ∧ aa = some ⟨b, 0, none⟩ ∧ Blk w b (rows.flatten ++ rest).toArray TRe ∧ (∀ r ∈ rows, r.length = 6) ∧ Trees Z w args rows L' ∧ (∀ x, L' x → L x ∧ x ≠ b)) : NSt f Z L n0 w aa args 0 := by
  rcases h with h | ⟨b, rows, rest, L', h1, h2, h3, h4, h5, h6⟩
  · exact .inl h
  · exact .inr ⟨b, rows, rest, fun _ => False, L', h2, h1, h3, rfl, h5, h5.len, h4, fun _ f => f.elim, h6⟩
theorem nst_end {f : Re → Re} {Z L : Nat → Prop} {n0 : Nat} {w : World} {aa : Option Addr} {ac : Nat} {args : List Re} (h : NSt f Z L n0 w aa args args.length) (hac : args.length ≤ ac ∧ ac ≤ 9223372036854775807) : RsIn (fun y => Z y ∨ L y ∨ n0 ≤ y) w (.slice aa args.length ac) (args.map f) := by
  refine ⟨aa, ac, by rw [List.length_map], by rw [List.length_map]; exact hac, ?_⟩
  rcases h with h | ⟨b, rows, rest, D, K, h1, h2, h3, h4, h5, h6, h7, h8, h9⟩
  · left; rw [h]; rfl
  · refine .inr ⟨b, 0, .inr (.inl h2), h1, resin_of fun i t ht => ?_⟩
    rw [List.take_length, List.take_of_length_le (by omega)] at h4
    obtain ⟨r, h10, h11⟩ := h4.get ht
    exact ⟨r, by rw [Nat.zero_add]; exact rows_at h3 h7 h10, ReIn.mono (fun y hy => by rcases hy with h | h | h; exact .inl h; exact .inr (.inl (h8 y h).1); exact .inr (.inr h)) t h11⟩
theorem drop_head {α : Type} {l r : List α} {k : Nat} {x : α} (h : l.drop k = x :: r) : l[k]? = some x ∧ r = l.drop (k + 1) := by
  have h1 : (l.drop k)[0]? = some x := by rw [h]; rfl
  rw [List.getElem?_drop] at h1
  have h2 : (l.drop k).drop 1 = r := by rw [h]; rfl
  rw [List.drop_drop] at h2
  exact ⟨by simpa using h1, h2.symm⟩
theorem RowsIn.lt {S : Nat → Prop} {w : World} : ∀ {ts : List Re} {rows : List (List Value)}, RowsIn S w ts rows → RowsIn (fun b => S b ∧ b < w.heap.size) w ts rows
  | [], _, h => h
  | t :: ts, rows, h => by
    obtain ⟨r, rs, h1, h2, h3⟩ := h
    exact ⟨r, rs, h1, ReIn.lt t h2, RowsIn.lt h3⟩
end Go.Proofs
namespace Go.Proofs
open Go Go.Eng Go.Sort
set_option maxRecDepth 100000
theorem foldT_eq (cl : Sps → Sps) (t : Re) : foldT cl t = .mk t.kind (if t.kind = 2 then cl t.set else t.set) (t.args.map (foldT cl)) t.mn t.mx t.neg := by
  cases t; simp only [foldT, foldTs_map, Re.kind, Re.set, Re.args, Re.mn, Re.mx, Re.neg]; rfl
theorem mid_get {pre vs post : List Value} {po i : Nat} {v : Value} (h : pre.length = po) (hv : vs[i]? = some v) : (pre ++ vs ++ post).toArray[po + i]? = some v := by
  have hi := lt_of_get hv
  rw [List.getElem?_toArray, List.append_assoc, List.getElem?_append_right (by omega), show po + i - pre.length = i by omega, List.getElem?_append_left hi]
  exact hv
theorem mid_set {pre vs post : List Value} {po i : Nat} {v : Value} (h : pre.length = po) (hi : i < vs.length) : (pre ++ vs ++ post).set (po + i) v = pre ++ vs.set i v ++ post := by
  rw [List.append_assoc, List.set_append_right _ _ (by omega), show po + i - pre.length = i by omega, List.set_append_left _ _ hi, List.append_assoc]
theorem rows_mid : ∀ {rows : List (List Value)} {rest : List Value} {k : Nat} {xs : List Value}, rows[k]? = some xs → rows.flatten ++ rest = (rows.take k).flatten ++ xs ++ ((rows.drop (k + 1)).flatten ++ rest)
  | [], _, _, _, h => by simp at h
  | r :: rows, rest, 0, xs, h => by
    simp at h; subst h; simp
  | r :: rows, rest, k + 1, xs, h => by
    have := rows_mid (rows := rows) (rest := rest) (k := k) (xs := xs) (by simpa using h)
    simp only [List.flatten_cons, List.append_assoc, List.take_succ_cons, List.drop_succ_cons] at this ⊢
    rw [this]
theorem rows_put : ∀ {rows : List (List Value)} {rest : List Value} {k : Nat} {xs : List Value}, k < rows.length → (rows.take k).flatten ++ xs ++ ((rows.drop (k + 1)).flatten ++ rest) = (rows.set k xs).flatten ++ rest
  | [], _, _, _, h => by simp at h
  | r :: rows, rest, 0, xs, h => by simp
  | r :: rows, rest, k + 1, xs, h => by
    have := rows_put (rows := rows) (rest := rest) (k := k) (xs := xs) (by simpa using h)
    simp only [List.flatten_cons, List.append_assoc, List.take_succ_cons, List.drop_succ_cons, List.set_cons_succ] at this ⊢
    rw [this]
theorem NSt.chg {f : Re → Re} {Z L M : Nat → Prop} {n0 : Nat} {w w' : World} {aa : Option Addr} {args : List Re} {k : Nat} (h : NSt f Z L n0 w aa args k) (c : Chg M w w') (hm : ∀ y, Z y ∨ L y ∨ n0 ≤ y → ¬ M y) : NSt f Z L n0 w' aa args k := by
  rcases h with h | ⟨b, rows, rest, D, K, h1, h2, h3, h4, h5, h6, h7, h8, h9⟩
  · exact .inl h
  · exact .inr ⟨b, rows, rest, D, K, h1, h2, c.keep (hm b (.inr (.inl h2))) h3, RowsIn.chg c (fun y hy => hm y (by rcases hy with h | h | h; exact .inl h; exact .inr (.inl (h8 y h).1); exact .inr (.inr h))) h4, Trees.chg c (fun y hy => hm y (.inl hy)) _ (fun y hy => hm y (.inr (.inl (h9 y hy).1))) h5, h6, h7, h8, h9⟩
theorem nst_put {f : Re → Re} {Z L D K L1 K2 : Nat → Prop} {n0 b k : Nat} {w1 w3 : World} {args : List Re} {rows : List (List Value)} {rest : List Value} {x : Re} {vs' : List Value}
    (hz : ∀ y, Z y → ¬ L y) (hb : ∀ y, Z y ∨ L y → y < n0) (hLb : L b) (hx : args[k]? = some x)
    (hR : RowsIn (fun y => Z y ∨ D y ∨ n0 ≤ y) w1 ((args.take k).map f) (rows.take k)) (hT2 : Trees Z w1 (args.drop (k + 1)) (rows.drop (k + 1)) K2) (hl : rows.length = args.length) (h6 : ∀ r ∈ rows, r.length = 6)
    (hD : ∀ y, D y → L y ∧ y ≠ b ∧ ¬ K y) (hK : ∀ y, K y → L y ∧ y ≠ b) (h1 : ∀ y, L1 y → K y ∧ ¬ K2 y) (h2 : ∀ y, K2 y → K y)
    (C : Chg (fun y => y = b ∨ L1 y) w1 w3) (hv : ReIn (fun y => Z y ∨ L1 y ∨ n0 ≤ y) w3 (f x) vs') (P3 : Blk w3 b ((rows.set k vs').flatten ++ rest).toArray TRe) : NSt f Z L n0 w3 (some ⟨b, 0, none⟩) args (k + 1) := by
  have hk : k < args.length := lt_of_get hx
  have hbn := hb b (.inr hLb)
  have hLL : ∀ y, L1 y → L y := fun y hy => (hK y (h1 y hy).1).1
  refine .inr ⟨b, rows.set k vs', rest, fun y => D y ∨ L1 y, K2, rfl, hLb, P3, ?_, ?_, by simpa using hl, ?_, ?_, fun y hy => hK y (h2 y hy)⟩
  · have e1 : (args.take (k + 1)).map f = (args.take k).map f ++ [f x] := by rw [List.take_add_one, hx]; simp
    have e2 : (rows.set k vs').take (k + 1) = rows.take k ++ [vs'] := by
      rw [List.take_add_one, List.take_set_of_le (Nat.le_refl _), List.getElem?_set_self (by omega)]; rfl
    rw [e1, e2]
    refine RowsIn.append (RowsIn.single ?_) ?_
    · exact ReIn.mono (S := fun y => Z y ∨ L1 y ∨ n0 ≤ y) (fun y hy => by rcases hy with h | h | h; exact .inl h; exact .inr (.inl (.inr h)); exact .inr (.inr h)) _ hv
    · refine RowsIn.mono (S := fun y => Z y ∨ D y ∨ n0 ≤ y) (fun y hy => by rcases hy with h | h | h; exact .inl h; exact .inr (.inl (.inl h)); exact .inr (.inr h)) (RowsIn.chg C (fun y hy he => ?_) hR)
      rcases he with he | he
      · subst he
        rcases hy with h | h | h
        · exact hz y h hLb
        · exact (hD y h).2.1 rfl
        · omega
      · rcases hy with h | h | h
        · exact hz y h (hLL y he)
        · exact (hD y h).2.2 (h1 y he).1
        · have := hb y (.inr (hLL y he)); omega
  · have e3 : (rows.set k vs').drop (k + 1) = rows.drop (k + 1) := by rw [List.drop_set_of_lt (by omega)]
    rw [e3]
    refine Trees.chg C (fun y hy he => ?_) _ (fun y hy he => ?_) hT2
    · rcases he with he | he
      · subst he; exact hz y hy hLb
      · exact hz y hy (hLL y he)
    · rcases he with he | he
      · exact (hK y (h2 y hy)).2 he
      · exact (h1 y he).2 hy
  · intro r hr
    rcases List.mem_or_eq_of_mem_set hr with h | h
    · exact h6 r h
    · rw [h]; exact hv.len
  · intro y hy
    rcases hy with h | h
    · exact ⟨(hD y h).1, (hD y h).2.1, fun h3 => (hD y h).2.2 (h2 y h3)⟩
    · exact ⟨hLL y h, (hK y (h1 y h).1).2, (h1 y h).2⟩
/-- What is asked of fold.Close: sets of a kind are closed without error, in new memory. -/
def ClOk (cl : Sps → Sps) (p : Re → Prop) : Prop := ∀ (w : World) (u : Value) (t : Re), t.kind = 2 → p t → SpansAt w u t.set → Ret Tryd.prog 53 #[u] w fun r w' => (∃ a c, r = .tuple #[.slice a (cl t.set).length c, .int .i64 0] ∧ SlIn (fun y => w.heap.size ≤ y) w' 2 (.slice a (cl t.set).length c) ((cl t.set).map spanV)) ∧ Ext w w'
theorem allRes_get {p : Re → Prop} {ts : List Re} (h : allRes p ts) {i : Nat} {x : Re} (hx : ts[i]? = some x) : allRe p x := by
  induction ts generalizing i with
  | nil => simp at hx
  | cons t ts ih =>
    simp only [allRes] at h
    cases i with
    | zero => simp at hx; subst hx; exact h.1
    | succ i => exact ih h.2 (by simpa using hx)
theorem allRe_at {p : Re → Prop} {t : Re} (h : allRe p t) : p t ∧ allRes p t.args := by cases t; simp only [allRe] at h; exact h
theorem fold_ret {S : Nat → Prop} {w : World} {cl : Sps → Sps} {t : Re} {ca aa : Option Addr} {cc ac : Nat} (hs : SlIn S w 2 (.slice ca (if t.kind = 2 then cl t.set else t.set).length cc) ((if t.kind = 2 then cl t.set else t.set).map spanV)) (hr : RsIn S w (.slice aa t.args.length ac) (t.args.map (foldT cl))) :
    ReIn S w (foldT cl t) [.int .i64 t.kind, .slice ca (if t.kind = 2 then cl t.set else t.set).length cc, .slice aa t.args.length ac, .int .i64 t.mn, .int .i64 t.mx, .bool t.neg] := by
  obtain ⟨aa', ac', h1, h2, h3⟩ := hr
  simp only [List.length_map, Value.slice.injEq, true_and] at h1
  obtain ⟨rfl, rfl⟩ := h1
  rw [foldT_eq]
  have h4 := ReIn.of (S := S) (w := w) (k := t.kind) (set := if t.kind = 2 then cl t.set else t.set) (args := t.args.map (foldT cl)) (mn := t.mn) (mx := t.mx) (ng := t.neg) hs h2 h3
  rw [List.length_map] at h4
  exact h4
set_option maxHeartbeats 4000000 in
theorem folded_c {cl : Sps → Sps} {p : Re → Prop} (hcl : ClOk cl p) : ∀ (n : Nat) (t : Re) (w0 : World) (vs pre post : List Value) (Z L : Nat → Prop) (pb po T : Nat), t.size ≤ n → t.size ≤ 1000000 → allRe p t → Tree Z w0 t vs L → Blk w0 pb (pre ++ vs ++ post).toArray T → pre.length = po → ¬ Z pb → ¬ L pb → (∀ y, Z y → ¬ L y) → (∀ y, Z y ∨ L y → y < w0.heap.size) →
    Ret Tryd.prog 31 #[.pointer (some ⟨pb, po, none⟩)] w0 fun r w => (r = .int .i64 0 ∧ ∃ vs', Blk w pb (pre ++ vs' ++ post).toArray T ∧ ReIn (fun y => Z y ∨ L y ∨ w0.heap.size ≤ y) w (foldT cl t) vs') ∧ Chg (fun y => y = pb ∨ L y) w0 w := by
  intro n
  induction n with
  | zero => intro t w0 vs pre post Z L pb po T hn; have := t.size_pos; omega
  | succ n ih =>
  intro t w0 vs pre post Z L pb po T hn hM hall hT hB hpo hZp hLp hz hb
  obtain ⟨sa, sc, aa, ac, rfl, hset, hac, hta⟩ := hT.form
  have hal := len_sizes t.args
  have hsze := t.size_eq
  have hpb := hB.lt
  obtain ⟨hp1, hp2⟩ := allRe_at hall
  obtain ⟨n0, hn0⟩ : ∃ n0, n0 = w0.heap.size := ⟨_, rfl⟩
  rw [← hn0] at hb ⊢
  have hst : NSt (foldT cl) Z L n0 w0 aa t.args 0 := nst_start hta
  have hsetN : SlIn (fun y => Z y ∨ n0 ≤ y) w0 2 (.slice sa t.set.length sc) (t.set.map spanV) := hset.mono fun y h => .inl h
  have hne : ∀ y, Z y ∨ L y ∨ n0 ≤ y → ¬ y = pb := by
    rintro y (h | h | h) rfl
    · exact hZp h
    · exact hLp h
    · omega
  refine Ret_of Tryd.func31 rfl Tryd.ntmps31 (Nat.le_of_ble_eq_true rfl) ?_
  have E : Chg (fun y => y = pb ∨ L y) w0 w0 := Chg.refl _ _
  refine Wp_seq_region ?_
  refine WpL_val rfl rfl (by decide) (r_assign (v := (.int .i64 0)) rfl) ?_
  refine WpL_nil ?_
  refine Wp_cut (fun σ W1 => ∃ (ca : Option Addr) (cc : Nat), (∃ jj_, σ = upds jj_ [(0, (.pointer (some ⟨pb, po, none⟩)))]) ∧ Chg (fun y => y = pb ∨ L y) w0 W1 ∧ Blk W1 pb ((pre ++ [Value.int .i64 t.kind, .slice ca (if t.kind = 2 then cl t.set else t.set).length cc, .slice aa t.args.length ac, .int .i64 t.mn, .int .i64 t.mx, .bool t.neg] ++ post).toArray) T ∧ (SlIn (fun y => Z y ∨ n0 ≤ y) W1 2 (.slice ca (if t.kind = 2 then cl t.set else t.set).length cc) ((if t.kind = 2 then cl t.set else t.set).map spanV)) ∧ (NSt (foldT cl) Z L n0 W1 aa t.args 0)) ?_ ?_
  · skip
    refine Wp_seq_region ?_
    refine WpL_val rfl rfl (by decide) (r_move (v := (.pointer (some ⟨pb, po, none⟩))) rfl) ?_
    refine WpL_val rfl rfl (by decide) (r_nilCheck (a := ⟨pb, po, none⟩) rfl) ?_
    refine WpL_val rfl rfl (by decide) (r_fieldAddr (b := pb) (o := po) (o' := po) rfl Tryd.underlying27 rfl siz3 rfl) ?_
    refine WpL_val rfl rfl (by decide) (r_load (v := (.int .i64 t.kind)) rfl flat3 (hB.cell (mid_get (i := 0) hpo rfl))) ?_
    refine WpL_val rfl rfl (by decide) (r_eql (k := .i64) (a := t.kind) (b := 2) rfl rfl) ?_
    refine WpL_nil ?_
    refine Wp_cond (b := decide ((t.kind : Int) = 2)) rfl (fun hk => ?_) (fun hk => ?_)
    · have khk := hk
      replace hk := of_decide_eq_true hk
      refine Wp_seq_region ?_
      refine WpL_val rfl rfl (by decide) (r_move (v := (.pointer (some ⟨pb, po, none⟩))) rfl) ?_
      refine WpL_val rfl rfl (by decide) (r_nilCheck (a := ⟨pb, po, none⟩) rfl) ?_
      refine WpL_val rfl rfl (by decide) (r_fieldAddr (b := pb) (o := po) (o' := po + 1) rfl Tryd.underlying27 rfl siz24 rfl) ?_
      refine WpL_val rfl rfl (by decide) (r_load (v := (.slice sa t.set.length sc)) rfl flat24 (hB.cell (mid_get (i := 1) hpo rfl))) ?_
      refine WpL_enter rfl rfl (by decide) (r_callF (vs := [(.slice sa t.set.length sc)]) Tryd.func53 nm53 bd53 rfl) (hcl _ _ t hk hp1 (SlIn.at hsetN)) ?_
      rintro _ w9 ⟨⟨ca, cc, rfl, hcs⟩, X9⟩
      replace hB := X9.keep hB
      replace hst := NSt.ext hst X9
      replace hsetN := SlIn.chg hsetN X9 (fun _ _ f => f)
      replace E := E.ext X9
      have hcs2 : SlIn (fun y => Z y ∨ n0 ≤ y) w9 2 (.slice ca (cl t.set).length cc) ((cl t.set).map spanV) := hcs.mono fun y h => .inr (by have := E.size; omega)
      refine WpL_val rfl rfl (by decide) (r_move (v := (.tuple #[(.slice ca ((cl t.set).length) cc), (.int .i64 0)])) rfl) ?_
      refine WpL_val rfl rfl (by decide) (r_extract (vs := #[(.slice ca ((cl t.set).length) cc), (.int .i64 0)]) (v := (.slice ca ((cl t.set).length) cc)) rfl rfl) ?_
      refine WpL_val rfl rfl (by decide) (r_extract (vs := #[(.slice ca ((cl t.set).length) cc), (.int .i64 0)]) (v := (.int .i64 0)) rfl rfl) ?_
      refine WpL_val rfl rfl (by decide) (r_assign (v := (.slice ca ((cl t.set).length) cc)) rfl) ?_
      refine WpL_val rfl rfl (by decide) (r_assign (v := (.int .i64 0)) rfl) ?_
      refine WpL_nil ?_
      refine Wp_seq ?_
      refine Wp_seq_region ?_
      refine WpL_val rfl rfl (by decide) (r_move (v := (.int .i64 0)) rfl) ?_
      refine WpL_val rfl rfl (by decide) (r_neq (k := .i64) (a := 0) (b := 0) rfl rfl) ?_
      refine WpL_nil ?_
      refine Wp_cond_false rfl ?_
      refine Wp_skip ?_
      refine thn_normal ?_
      refine Wp_region ?_
      refine WpL_val rfl rfl (by decide) (r_move (v := (.pointer (some ⟨pb, po, none⟩))) rfl) ?_
      refine WpL_val rfl rfl (by decide) (r_move (v := (.slice ca ((cl t.set).length) cc)) rfl) ?_
      refine WpL_val rfl rfl (by decide) (r_nilCheck (a := ⟨pb, po, none⟩) rfl) ?_
      refine WpL_val rfl rfl (by decide) (r_fieldAddr (b := pb) (o := po) (o' := po + 1) rfl Tryd.underlying27 rfl siz24 rfl) ?_
      refine s_store (b := pb) (o := po + 1) (c' := (pre ++ [Value.int .i64 t.kind, .slice ca (cl t.set).length cc, .slice aa t.args.length ac, .int .i64 t.mn, .int .i64 t.mx, .bool t.neg] ++ post).toArray) (v := (.slice ca ((cl t.set).length) cc)) rfl rfl rfl siz24 hB (by simp; omega) (by rw [List.setIfInBounds_toArray]; exact congrArg List.toArray (mid_set (i := 1) hpo (by simp))) ?_
      intro w3 S3
      replace hst := NSt.chg hst S3.chg (fun y hy hm => hne y hy hm)
      replace hcs2 := SlIn.chg hcs2 S3.chg (fun y hy hm => hne y (hy.imp_right .inr) hm)
      replace E := S3.step E (by first | exact Or.inl (by omega) | exact Or.inr rfl | exact Or.inr (by assumption) | exact Or.inr (by simp) | exact Or.inr (by omega) | exact Or.inr (by dsimp only; omega))
      replace hB := S3.blk
      have hB5 : Blk (w3) pb (pre ++ [Value.int .i64 t.kind, .slice ca (if t.kind = 2 then cl t.set else t.set).length cc, .slice aa t.args.length ac, .int .i64 t.mn, .int .i64 t.mx, .bool t.neg] ++ post).toArray T := by rw [if_pos hk]; exact hB
      refine WpL_nil ?_
      refine thn_normal ?_
      exact ⟨ca, cc, Fits.out ⟨rfl, trivial⟩, E, hB5, (by simpa [hk] using hcs2), hst⟩
    · have khk := hk
      replace hk := of_decide_eq_false hk
      have hB5 : Blk (w0) pb (pre ++ [Value.int .i64 t.kind, .slice sa (if t.kind = 2 then cl t.set else t.set).length sc, .slice aa t.args.length ac, .int .i64 t.mn, .int .i64 t.mx, .bool t.neg] ++ post).toArray T := by rw [if_neg hk]; exact hB
      refine Wp_skip ?_
      refine thn_normal ?_
      exact ⟨sa, sc, Fits.out ⟨rfl, trivial⟩, E, hB5, (by simpa [hk] using hsetN), hst⟩
  · clear E hB
    rintro _ W1 ⟨ca, cc, ⟨j1, rfl⟩, E, hB, hsN, hst⟩
    refine Wp_seq ?_
    refine Wp_seq_region ?_
    refine WpL_val rfl rfl (by decide) (r_move (v := (.pointer (some ⟨pb, po, none⟩))) rfl) ?_
    refine WpL_val rfl rfl (by decide) (r_nilCheck (a := ⟨pb, po, none⟩) rfl) ?_
    refine WpL_val rfl rfl (by decide) (r_fieldAddr (b := pb) (o := po) (o' := po + 2) rfl Tryd.underlying27 rfl siz25 rfl) ?_
    refine WpL_val rfl rfl (by decide) (r_load (v := (.slice aa t.args.length ac)) rfl flat25 (hB.cell (mid_get (i := 2) hpo rfl))) ?_
    refine WpL_val rfl rfl (by decide) (r_lenSlice (ad := aa) (n := t.args.length) (cap := ac) Tryd.underlying25 rfl) ?_
    refine WpL_val rfl rfl (by decide) (r_move (v := (.int .i64 0)) rfl) ?_
    refine WpL_nil ?_
    refine Wp_block ?_
    refine Wp_loop (fun nn_ σ W4 => ∃ (k : Nat), (∃ jj_, σ = upds jj_ [(0, (.pointer (some ⟨pb, po, none⟩))), (31, (.int .i64 ((t.args.length : Nat) : Int))), (32, (.int .i64 ((k : Nat) : Int)))]) ∧ Chg (fun y => y = pb ∨ L y) w0 W4 ∧ Blk W4 pb ((pre ++ [Value.int .i64 t.kind, .slice ca (if t.kind = 2 then cl t.set else t.set).length cc, .slice aa t.args.length ac, .int .i64 t.mn, .int .i64 t.mx, .bool t.neg] ++ post).toArray) T ∧ (k ≤ t.args.length) ∧ (NSt (foldT cl) Z L n0 W4 aa t.args k) ∧ (SlIn (fun y => Z y ∨ n0 ≤ y) W4 2 (.slice ca (if t.kind = 2 then cl t.set else t.set).length cc) ((if t.kind = 2 then cl t.set else t.set).map spanV)) ∧ (n0 ≤ W4.heap.size) ∧ nn_ = t.args.length - k) (n := t.args.length - 0) ?_ ?_
    · exact ⟨0, Fits.out ⟨rfl, rfl, rfl, trivial⟩, E, hB, Nat.zero_le _, hst, hsN, (by have := E.size; omega), rfl⟩
    · clear E hB
      rintro _ _ W4 ⟨k, ⟨j4, rfl⟩, E, hB, hk, hst, hsN, hsz, rfl⟩
      refine Wp_seq_region ?_
      refine WpL_val rfl rfl (by decide) (r_lss (k := .i64) (a := ((k : Nat) : Int)) (b := ((t.args.length : Nat) : Int)) rfl rfl) ?_
      refine WpL_nil ?_
      refine Wp_seq ?_
      refine Wp_cond (b := decide ((((k : Nat) : Int) : Int) < ((t.args.length : Nat) : Int))) rfl (fun hlt => ?_) (fun hlt => ?_)
      · have khlt := hlt
        replace hlt := of_decide_eq_true hlt
        obtain ⟨x, hx⟩ := get_of_lt (l := t.args) (i := k) (by omega)
        obtain ⟨b, rows, rest, D, K, haa, hLb, hBb, hR, hT, hl, h6, hD, hK⟩ := hst.resolve_left (fun h => by rw [h] at hx; simp at hx)
        have hbb := hb b (.inr hLb)
        rw [drop_cons hx] at hT
        simp only [Trees] at hT
        obtain ⟨xs, rs2, L1, K2, hrows, hTx, hT2, h1, h2⟩ := hT
        obtain ⟨hrx, rfl⟩ := drop_head hrows
        have hLL : ∀ y, L1 y → L y := fun y hy => (hK y (h1 y hy).1).1
        refine Wp_skip ?_
        refine thn_normal ?_
        refine Wp_seq ?_
        refine Wp_block ?_
        refine Wp_seq_region ?_
        refine WpL_val rfl rfl (by decide) (r_move (v := (.int .i64 ((k : Nat) : Int))) rfl) ?_
        refine WpL_val rfl rfl (by decide) (r_assign (v := (.int .i64 ((k : Nat) : Int))) rfl) ?_
        refine WpL_nil ?_
        refine Wp_seq_region ?_
        refine WpL_val rfl rfl (by decide) (r_move (v := (.pointer (some ⟨pb, po, none⟩))) rfl) ?_
        refine WpL_val rfl rfl (by decide) (r_nilCheck (a := ⟨pb, po, none⟩) rfl) ?_
        refine WpL_val rfl rfl (by decide) (r_fieldAddr (b := pb) (o := po) (o' := po + 2) rfl Tryd.underlying27 rfl siz25 rfl) ?_
        refine WpL_val rfl rfl (by decide) (r_load (v := (.slice (some ⟨b, 0, none⟩) t.args.length ac)) rfl flat25 ((hB.cell (mid_get (i := 2) hpo rfl)).trans (by rw [haa]))) ?_
        refine WpL_val rfl rfl (by decide) (r_move (v := (.int .i64 ((k : Nat) : Int))) rfl) ?_
        refine WpL_val rfl rfl (by decide) (r_indexSlice (b := b) (o := 0) (len := t.args.length) (cap := ac) (i := k) (o' := 0 + k * 6) rfl rfl rfl Tryd.underlying25 siz27 (by omega) (by omega)) ?_
        refine WpL_enter rfl rfl (by decide) (r_callF (vs := [(.pointer (some ⟨b, 0 + k * 6, none⟩))]) Tryd.func31 nm31 bd31 rfl) (ih x _ xs (rows.take k).flatten ((rows.drop (k + 1)).flatten ++ rest) Z L1 b (0 + k * 6) TRe (by have := Re.size_arg hx; omega) (by have := Re.size_arg hx; omega) (allRes_get hp2 hx) hTx (by rw [← rows_mid hrx]; exact hBb) (by rw [rows_len (k := 6) (fun r hr => h6 r (List.mem_of_mem_take hr)), List.length_take]; omega) (fun h => hz b h hLb) (fun h => (hK b (h1 b h).1).2 rfl) (fun y hy h => hz y hy (hLL y h)) (fun y hy => by have := hb y (hy.imp_right (hLL y)); omega)) ?_
        rintro _ w9 ⟨⟨rfl, vs', hB9, hv9⟩, C9⟩
        replace hB := C9.keep (fun h => by rcases h with h | h; exact hLp (h ▸ hLb); exact hLp (hLL _ h)) hB
        replace E := E.step C9 (fun q _ hq => .inr (by rcases hq with h | h; exact h ▸ hLb; exact hLL _ h))
        have hkr : k < rows.length := by omega
        rw [rows_put hkr] at hB9
        have hst9 := nst_put hz hb hLb hx hR hT2 hl h6 hD hK h1 h2 C9 (ReIn.mono (fun y hy => by rcases hy with h | h | h; exact .inl h; exact .inr (.inl h); exact .inr (.inr (by omega))) _ hv9) hB9
        rw [← haa] at hst9
        refine WpL_val rfl rfl (by decide) (r_assign (v := (.int .i64 0)) rfl) ?_
        refine WpL_nil ?_
        refine Wp_seq_region ?_
        refine WpL_val rfl rfl (by decide) (r_move (v := (.int .i64 0)) rfl) ?_
        refine WpL_val rfl rfl (by decide) (r_neq (k := .i64) (a := 0) (b := 0) rfl rfl) ?_
        refine WpL_nil ?_
        refine Wp_cond_false rfl ?_
        refine Wp_skip ?_
        refine inB_normal ?_
        refine thn_normal ?_
        refine Wp_region ?_
        refine WpL_val rfl rfl (by decide) (r_add (k := .i64) (a := ((k : Nat) : Int)) (b := 1) (c := ((k : Nat) : Int) + 1) rfl rfl (wI64 (by omega))) ?_
        refine WpL_val rfl rfl (by decide) (r_move (v := (.int .i64 (((k : Nat) : Int) + 1))) rfl) ?_
        refine WpL_nil ?_
        refine thn_normal ?_
        exact ⟨t.args.length - (k + 1), by omega, k + 1, Fits.out ⟨rfl, rfl, rfl, trivial⟩, E, hB, (by omega), hst9, SlIn.chg hsN C9 (fun y hy hm => by rcases hm with h | h; (rw [h] at hy; rcases hy with g | g; exact hz b g hLb; omega); (rcases hy with g | g; exact hz y g (hLL y h); have := hb y (.inr (hLL y h)); omega)), (by have := C9.size; omega), rfl⟩
      · have khlt := hlt
        replace hlt := of_decide_eq_false hlt
        have hkk : k = t.args.length := by omega
        subst hkk
        refine Wp_exit ?_
        refine thn_exit ?_
        refine thn_exit ?_
        refine inB_here ?_
        refine thn_normal ?_
        refine Wp_seq_region ?_
        refine WpL_val rfl rfl (by decide) (r_assign (v := (.int .i64 0)) rfl) ?_
        refine WpL_nil ?_
        refine Wp_ret ?_
        refine fin_tmp Tryd.results31 (v := (.int .i64 0)) rfl ?_
        exact ⟨⟨rfl, _, hB, fold_ret (hsN.mono fun y h => h.imp_right .inr) (nst_end hst hac)⟩, E⟩
end Go.Proofs
namespace Go.Proofs
open Go.Shelf
def Tryd.sortSp_ren : Go.Shelf.Ren := ⟨fun | 6 => 77 | 15 => 80 | 14 => 79 | 28 => 91 | 29 => 92 | 20 => 83 | 21 => 84 | 22 => 85 | 23 => 86 | 24 => 87 | 25 => 88 | 26 => 89 | 27 => 90 | 46 => 94 | 47 => 95 | 48 => 96 | 49 => 97 | 50 => 98 | 57 => 99 | n => n, fun | 22 => 24 | 24 => 82 | 25 => 124 | 3 => 3 | 39 => 107 | 0 => 0 | 53 => 64 | 55 => 137 | 4 => 4 | 46 => 130 | 45 => 129 | 50 => 134 | 5 => 5 | 9 => 9 | 66 => 138 | 70 => 142 | 76 => 144 | 77 => 145 | n => n, fun | n => n⟩
theorem Tryd.sortSp : Go.Proofs.SlLaysF0.n6 Tryd.prog Tryd.sortSp_ren := {
  mixed := by kernel_rfl
  f6 := ⟨Tryd.f77.name, by decide, Tryd.func77.trans (congrArg some (by kernel_rfl))⟩
  f14 := ⟨Tryd.f79.name, by decide, Tryd.func79.trans (congrArg some (by kernel_rfl))⟩
  f15 := Tryd.func80.trans (congrArg some (by kernel_rfl))
  f20 := ⟨Tryd.f83.name, by decide, Tryd.func83.trans (congrArg some (by kernel_rfl))⟩
  f21 := ⟨Tryd.f84.name, by decide, Tryd.func84.trans (congrArg some (by kernel_rfl))⟩
  f22 := ⟨Tryd.f85.name, by decide, Tryd.func85.trans (congrArg some (by kernel_rfl))⟩
  f23 := ⟨Tryd.f86.name, by decide, Tryd.func86.trans (congrArg some (by kernel_rfl))⟩
  f24 := ⟨Tryd.f87.name, by decide, Tryd.func87.trans (congrArg some (by kernel_rfl))⟩
  f25 := ⟨Tryd.f88.name, by decide, Tryd.func88.trans (congrArg some (by kernel_rfl))⟩
  f26 := ⟨Tryd.f89.name, by decide, Tryd.func89.trans (congrArg some (by kernel_rfl))⟩
  f27 := ⟨Tryd.f90.name, by decide, Tryd.func90.trans (congrArg some (by kernel_rfl))⟩
  f28 := Tryd.func91.trans (congrArg some (by kernel_rfl))
  f29 := Tryd.func92.trans (congrArg some (by kernel_rfl))
  f46 := ⟨Tryd.f94.name, by decide, Tryd.func94.trans (congrArg some (by kernel_rfl))⟩
  f47 := Tryd.func95.trans (congrArg some (by kernel_rfl))
  f48 := Tryd.func96.trans (congrArg some (by kernel_rfl))
  f49 := ⟨Tryd.f97.name, by decide, Tryd.func97.trans (congrArg some (by kernel_rfl))⟩
  f50 := ⟨Tryd.f98.name, by decide, Tryd.func98.trans (congrArg some (by kernel_rfl))⟩
  f57 := ⟨Tryd.f99.name, by decide, Tryd.func99.trans (congrArg some (by kernel_rfl))⟩
  t0 := Tryd.underlying0
  a0 := Tryd.isAgg0
  z0 := Tryd.sizeOf0
  v0 := Tryd.zeroValue0
  t3 := Tryd.underlying3
  a3 := Tryd.isAgg3
  z3 := Tryd.sizeOf3
  v3 := Tryd.zeroValue3
  t4 := Tryd.underlying4
  a4 := Tryd.isAgg4
  z4 := Tryd.sizeOf4
  v4 := Tryd.zeroValue4
  t5 := Tryd.underlying5
  a5 := Tryd.isAgg5
  z5 := Tryd.sizeOf5
  v5 := Tryd.zeroValue5
  t9 := Tryd.underlying9
  a9 := Tryd.isAgg9
  z9 := Tryd.sizeOf9
  v9 := Tryd.zeroValue9
  t22 := Tryd.underlying24
  a22 := Tryd.isAgg24
  z22 := Tryd.sizeOf24
  v22 := Tryd.zeroValue24
  t25 := Tryd.underlying124
  a25 := Tryd.isAgg124
  z25 := Tryd.sizeOf124
  v25 := Tryd.zeroValue124
  t39 := Tryd.underlying107
  a39 := Tryd.isAgg107
  z39 := Tryd.sizeOf107
  v39 := Tryd.zeroValue107
  t45 := Tryd.underlying129
  a45 := Tryd.isAgg129
  z45 := Tryd.sizeOf129
  v45 := Tryd.zeroValue129
  t46 := Tryd.underlying130
  a46 := Tryd.isAgg130
  z46 := Tryd.sizeOf130
  v46 := Tryd.zeroValue130
  t50 := Tryd.underlying134
  a50 := Tryd.isAgg134
  z50 := Tryd.sizeOf134
  v50 := Tryd.zeroValue134
  t53 := Tryd.underlying64
  a53 := Tryd.isAgg64
  z53 := Tryd.sizeOf64
  v53 := Tryd.zeroValue64
  t55 := Tryd.underlying137
  a55 := Tryd.isAgg137
  z55 := Tryd.sizeOf137
  v55 := Tryd.zeroValue137
  t66 := Tryd.underlying138
  a66 := Tryd.isAgg138
  z66 := Tryd.sizeOf138
  v66 := Tryd.zeroValue138
  t70 := Tryd.underlying142
  a70 := Tryd.isAgg142
  z70 := Tryd.sizeOf142
  v70 := Tryd.zeroValue142
  t76 := Tryd.underlying144
  a76 := Tryd.isAgg144
  z76 := Tryd.sizeOf144
  v76 := Tryd.zeroValue144
  t77 := Tryd.underlying145
  a77 := Tryd.isAgg145
  z77 := Tryd.sizeOf145
  v77 := Tryd.zeroValue145 }
end Go.Proofs
namespace Go.Proofs
open Go Go.Eng Go.Sort
set_option maxRecDepth 100000
structure VSp where
  s : Sp
  ok : vSp s
instance : Inhabited VSp := ⟨⟨(0, 0), by unfold vSp; simp⟩⟩
def encV (s : VSp) : List Value := spanV s.s
theorem sortW_chg {α : Type} [Inhabited α] (enc : α → List Value) (k : Nat) (w : World) (g off m : Nat) (dk : Array α) (os : Array Obj) : Chg (fun x => x = g) w (sortWorldK enc k w g off m dk os) := by
  refine ⟨rfl, rfl, rfl, Nat.le_add_right _ _, ?_, fun b hb hne => ?_⟩
  · simp [sortWorldK, grow, putRowK, putRow, mapBlock, ahead]
  · simp only [sortWorldK, grow, putRowK, putRow, mapBlock, ahead]
    rw [Array.getElem?_append_left (by simpa using hb), Array.getElem?_modify, if_neg (fun h => hne h.symm)]; rfl
theorem own_holds {w : World} {base g n c : Nat} {d : List VSp} (h : w.ownsRow base TSp 2 (.slice (some ⟨g, 0, none⟩) n c) n ((d.map VSp.s).map spanV).flatten) (hn : d.length = n) : HoldsK encV 2 w g 0 d.toArray := by
  have hat : SpansAt w (.slice (some ⟨g, 0, none⟩) n c) (d.map VSp.s) := own_slat h (by intro x hx; simp only [List.mem_map] at hx; obtain ⟨p, _, rfl⟩ := hx; rfl) (by simpa using hn) (by decide)
  intro j hj
  rw [size_flatK] at hj
  simp only [List.size_toArray] at hj
  have hj2 : j / 2 < d.length := by omega
  obtain ⟨b, o, hab, hcl⟩ := spans_cells hat (by omega)
  simp only [Option.some.injEq, Addr.mk.injEq, and_true] at hab
  obtain ⟨rfl, rfl⟩ := hab
  have hx : (d.map VSp.s)[j / 2]? = some d[j / 2].s := by rw [List.getElem?_map, List.getElem?_eq_getElem hj2]; rfl
  have hc := hcl (j / 2) _ hx
  rw [get_flatK _ _ _ _ (by simpa using hj)]
  have he : d.toArray[j / 2]! = d[j / 2] := by rw [getElem!_pos d.toArray (j / 2) (by simpa using hj2)]; simp
  rw [he]
  constructor
  · rcases Nat.mod_two_eq_zero_or_one j with h2 | h2
    · have := hc.at0
      rw [h2]
      rw [show 0 + j / 2 * 2 = 0 + j from by omega] at this
      simpa [encV, spanV] using this
    · have := hc.at1
      rw [h2]
      rw [show 0 + j / 2 * 2 + 1 = 0 + j from by omega] at this
      simpa [encV, spanV] using this
  · rcases h.2 with ⟨h1, _⟩ | ⟨g', cap, cur, hv, _, hg, _⟩
    · simp at h1
    · simp only [Value.slice.injEq, Option.some.injEq, Addr.mk.injEq, and_true] at hv
      obtain ⟨rfl, _⟩ := hv
      simp [World.frozen?, hg]
theorem holds_spans {w : World} {g n c : Nat} {d : Array VSp} (h : HoldsK encV 2 w g 0 d) (hn : d.size = n) (hc : n ≤ c) (hl : n ≤ 8796093022208) : SpansAt w (.slice (some ⟨g, 0, none⟩) n c) (d.toList.map VSp.s) := by
  refine ⟨_, c, by simp [hn], by simp; omega, by simp; omega, .inr ⟨g, 0, rfl, fun i r hr j u hu => ?_⟩⟩
  simp only [List.getElem?_map, Option.map_eq_some_iff] at hr
  obtain ⟨s, ⟨x, hx, rfl⟩, rfl⟩ := hr
  have hi : i < d.size := by have := lt_of_get hx; simpa using this
  have hj : j < 2 := by have := lt_of_get hu; simpa [spanV] using this
  have h1 := (HoldsK.cell h hi hj).1
  have he : d[i]! = x := by
    rw [getElem!_pos d i hi]
    rw [Array.getElem?_toList, Array.getElem?_eq_getElem hi] at hx
    simpa using hx
  rw [h1, he]
  match j, hj, hu with
  | 0, _, hu => simpa [encV, spanV] using hu
  | 1, _, hu => simpa [encV, spanV] using hu
theorem enters_callee {P : Program} {f : FuncId} {fn : Func} (hf : P.funcs[f]? = some fn) (hn : (fn.name == "runtime.NumGoroutine") = false) (hb : fn.body.isNone = false) : ∀ args w, (callFunc f args).run P w = .ok (.enter f args) w := fun args w => run_callF (vs := args) (w := w) hf hn hb
theorem bitsLen_c (w0 : World) : Ret Tryd.prog 80 #[.int .u64 0] w0 fun v w => v = .int .i64 (Lib.bitLen 0 : Nat) ∧ Ext w0 w :=
  (Any.bits_Len (SlLaysF0.n15.bits (P := Tryd.prog) (ρ := Tryd.sortSp_ren) { Tryd.sortSp with }) 0 w0 (by omega) (by omega)).mono fun _ _ ⟨he, hw⟩ => ⟨_, he, rfl, by rw [hw]; exact Ext.refl _⟩
theorem ins0_c (w0 : World) (a : Option Addr) (c : Nat) (fv : Value) : Ret Tryd.prog 83 #[.slice a 0 c, .int .i64 0, .int .i64 0, fv] w0 fun v w => v = .tuple #[] ∧ Ext w0 w := by
  refine Ret_of Tryd.func83 rfl Tryd.ntmps83 (Nat.le_of_ble_eq_true rfl) ?_
  have E : Chg none1 w0 w0 := Chg.refl _ _
  refine Wp_seq_region ?_
  refine WpL_val rfl rfl (by decide) (r_move (v := (.int .i64 0)) rfl) ?_
  refine WpL_val rfl rfl (by decide) (r_add (k := .i64) (a := 0) (b := 1) (c := 1) rfl rfl (by decide)) ?_
  refine WpL_val rfl rfl (by decide) (r_assign (v := (.int .i64 1)) rfl) ?_
  refine WpL_nil ?_
  refine Wp_block ?_
  refine Wp_loop (fun nn_ σ W1 => (∃ jj_, σ = upds jj_ [(0, (.slice a 0 c)), (1, (.int .i64 0)), (2, (.int .i64 0)), (3, fv), (8, (.int .i64 1))]) ∧ Chg none1 w0 W1 ∧ nn_ = (0 : Nat)) (n := (0 : Nat)) ?_ ?_
  · exact ⟨Fits.out ⟨rfl, rfl, rfl, rfl, rfl, trivial⟩, E, rfl⟩
  · clear E
    rintro _ _ W1 ⟨⟨j1, rfl⟩, E, rfl⟩
    refine Wp_seq ?_
    refine Wp_seq_region ?_
    refine WpL_val rfl rfl (by decide) (r_move (v := (.int .i64 1)) rfl) ?_
    refine WpL_val rfl rfl (by decide) (r_move (v := (.int .i64 0)) rfl) ?_
    refine WpL_val rfl rfl (by decide) (r_lss (k := .i64) (a := 1) (b := 0) rfl rfl) ?_
    refine WpL_nil ?_
    refine Wp_cond_false rfl ?_
    refine Wp_exit ?_
    refine thn_exit ?_
    refine thn_exit ?_
    refine inB_here ?_
    refine fin_none Tryd.results83 ?_
    exact ⟨rfl, E⟩
theorem pdq0_c (w0 : World) (a : Option Addr) (c : Nat) (n : Int) (fv : Value) : Ret Tryd.prog 79 #[.slice a 0 c, .int .i64 0, .int .i64 0, .int .i64 n, fv] w0 fun v w => v = .tuple #[] ∧ Ext w0 w := by
  refine Ret_of Tryd.func79 rfl Tryd.ntmps79 (Nat.le_of_ble_eq_true rfl) ?_
  have E : Chg none1 w0 w0 := Chg.refl _ _
  refine Wp_seq_region ?_
  refine WpL_val rfl rfl (by decide) (r_assign (v := (.bool true)) rfl) ?_
  refine WpL_nil ?_
  refine Wp_seq_region ?_
  refine WpL_val rfl rfl (by decide) (r_assign (v := (.bool true)) rfl) ?_
  refine WpL_nil ?_
  refine Wp_block ?_
  refine Wp_loop (fun nn_ σ W1 => (∃ jj_, σ = upds jj_ [(0, (.slice a 0 c)), (1, (.int .i64 0)), (2, (.int .i64 0)), (4, fv)]) ∧ Chg none1 w0 W1 ∧ nn_ = (0 : Nat)) (n := (0 : Nat)) ?_ ?_
  · exact ⟨Fits.out ⟨rfl, rfl, rfl, rfl, trivial⟩, E, rfl⟩
  · clear E
    rintro _ _ W1 ⟨⟨j1, rfl⟩, E, rfl⟩
    refine Wp_block ?_
    refine Wp_seq_region ?_
    refine WpL_val rfl rfl (by decide) (r_move (v := (.int .i64 0)) rfl) ?_
    refine WpL_val rfl rfl (by decide) (r_move (v := (.int .i64 0)) rfl) ?_
    refine WpL_val rfl rfl (by decide) (r_sub (k := .i64) (a := 0) (b := 0) (c := 0) rfl rfl (by decide)) ?_
    refine WpL_val rfl rfl (by decide) (r_assign (v := (.int .i64 0)) rfl) ?_
    refine WpL_nil ?_
    refine Wp_seq ?_
    refine Wp_seq_region ?_
    refine WpL_val rfl rfl (by decide) (r_move (v := (.int .i64 0)) rfl) ?_
    refine WpL_val rfl rfl (by decide) (r_leq (k := .i64) (a := 0) (b := 12) rfl rfl) ?_
    refine WpL_nil ?_
    refine Wp_cond_true rfl ?_
    refine Wp_seq_region ?_
    refine WpL_val rfl rfl (by decide) (r_move (v := (.slice a 0 c)) rfl) ?_
    refine WpL_val rfl rfl (by decide) (r_move (v := (.int .i64 0)) rfl) ?_
    refine WpL_val rfl rfl (by decide) (r_move (v := (.int .i64 0)) rfl) ?_
    refine WpL_val rfl rfl (by decide) (r_move (v := fv) rfl) ?_
    refine WpL_enter rfl rfl (by decide) (r_callF (vs := [(.slice a 0 c), (.int .i64 0), (.int .i64 0), fv]) Tryd.func83 nm83 bd83 rfl) (ins0_c _ a c fv) ?_
    rintro _ w9 ⟨rfl, X9⟩
    replace E := E.ext X9
    refine WpL_nil ?_
    refine Wp_ret ?_
    refine thn_ret ?_
    refine inB_ret ?_
    refine thn_ret ?_
    refine inB_ret ?_
    refine fin_noneR Tryd.results79 ?_
    exact ⟨rfl, E⟩
theorem sort0_c (w0 : World) (a : Option Addr) (c : Nat) (fv : Value) : Ret Tryd.prog 77 #[.slice a 0 c, fv] w0 fun v w => v = .tuple #[] ∧ Ext w0 w := by
  refine Ret_of Tryd.func77 rfl Tryd.ntmps77 (Nat.le_of_ble_eq_true rfl) ?_
  have E : Chg none1 w0 w0 := Chg.refl _ _
  refine Wp_seq_region ?_
  refine WpL_val rfl rfl (by decide) (r_move (v := (.slice a 0 c)) rfl) ?_
  refine WpL_val rfl rfl (by decide) (r_lenSlice (ad := a) (n := 0) (cap := c) Tryd.underlying24 rfl) ?_
  refine WpL_val rfl rfl (by decide) (r_assign (v := (.int .i64 0)) rfl) ?_
  refine WpL_nil ?_
  refine Wp_region ?_
  refine WpL_val rfl rfl (by decide) (r_move (v := (.slice a 0 c)) rfl) ?_
  refine WpL_val rfl rfl (by decide) (r_move (v := (.int .i64 0)) rfl) ?_
  refine WpL_val rfl rfl (by decide) (r_move (v := (.int .i64 0)) rfl) ?_
  refine WpL_val rfl rfl (by decide) (r_convInt (k := .i64) (k' := .u64) (n := 0) (c := 0) ⟨_, Tryd.underlying3⟩ Tryd.underlying107 rfl (wU64 (by omega))) ?_
  refine WpL_enter rfl rfl (by decide) (r_callF (vs := [(.int .u64 0)]) Tryd.func80 nm80 bd80 rfl) (bitsLen_c _) ?_
  rintro _ w8 ⟨rfl, X8⟩
  replace E := E.ext X8
  refine WpL_val rfl rfl (by decide) (r_move (v := fv) rfl) ?_
  refine WpL_enter rfl rfl (by decide) (r_callF (vs := [(.slice a 0 c), (.int .i64 0), (.int .i64 0), (.int .i64 (Lib.bitLen 0 : Nat)), fv]) Tryd.func79 nm79 bd79 rfl) (pdq0_c _ a c _ fv) ?_
  rintro _ w9 ⟨rfl, X9⟩
  replace E := E.ext X9
  refine WpL_nil ?_
  refine fin_none Tryd.results77 ?_
  exact ⟨rfl, E⟩
theorem sorts_c (cf : VSp → VSp → Int) (hO : SWO (ltOf cf)) {f : FuncId} {fn : Func} (hf : (Tryd.prog).funcs[f]? = some fn) (hn : (fn.name == "runtime.NumGoroutine") = false) (hb : fn.body.isNone = false)
    (hcmp : ∀ (W : World) (x y : VSp), Ret Tryd.prog f #[.agg #[.int .i64 x.s.1, .int .i64 x.s.2], .agg #[.int .i64 y.s.1, .int .i64 y.s.2]] W fun v w => v = .int .i64 (cf x y) ∧ Ext W w)
    (w0 : World) (base : Nat) (v : Value) (l : List Sp) (h : OwnS w0 base v l) (hl : l.length ≤ 8796093022208) (hok : ∀ s ∈ l, vSp s) :
    Ret Tryd.prog 77 #[v, .func (.func f) #[] #[]] w0 fun r w => r = .tuple #[] ∧ (∃ l' : List VSp, (l'.map VSp.s).Perm l ∧ l'.Pairwise (fun s t => ¬ cf t s < 0) ∧ SpansAt w v (l'.map VSp.s)) ∧ Chg (fun x => v.ownBlock = some x) w0 w := by
  have eg := enters_callee hf hn hb
  obtain ⟨d, rfl⟩ : ∃ d : List VSp, d.map VSp.s = l := ⟨l.pmap VSp.mk hok, by rw [List.map_pmap]; simp⟩
  have ht : ∀ w, (isAgg (Tryd.sortSp_ren.t 24)).run Tryd.prog w = .ok true w := fun w => aggB.run agg82 w
  have hs : ∀ w, (Go.sizeOf (Tryd.sortSp_ren.t 24)).run Tryd.prog w = .ok 2 w := fun w => siz82.run w
  rcases h.2.2 with ⟨rfl, h0⟩ | ⟨g, cap, cur, rfl, hbg, hg, hnc, hcm, hcs, htake⟩
  · have hd : d = [] := List.eq_nil_of_length_eq_zero (by simpa using h0)
    subst hd
    exact (sort0_c w0 none 0 (.func (.func f) #[] #[])).mono fun v w' ⟨hv, hw⟩ => ⟨hv, ⟨[], List.Perm.refl _, List.Pairwise.nil, SlAt.nil _ _ _ _⟩, Ext.chg hw⟩
  · simp only [List.length_map] at *
    have hH := own_holds (d := d) (n := d.length) (by have := h.2; rwa [List.length_map] at this) rfl
    have hblk : g < w0.heap.size := (Array.getElem?_eq_some_iff.1 hg).1
    have hc : CmpLays Tryd.prog f #[] encV 2 cf g 0 d.toArray.size w0 := fun m os dk _ x y => by
      refine Calls.mono (hcmp _ x y) ?_
      rintro e w' ⟨v, rfl, rfl, hx⟩
      obtain ⟨q, os', hw⟩ := Ext.grown hx
      exact ⟨rfl, q, os', hw⟩
    have hcon := AnyQ.slices_SortFunc Tryd.sortSp 2 ht hs encV (fun _ => rfl) (fun x u hu => by simp [encV, spanV] at hu; rcases hu with rfl | rfl <;> rfl) cf hO f #[] g 0 cap d.toArray w0 eg hc hH hblk (by simp; omega)
    refine Calls.mono hcon ?_
    rintro e w' ⟨rfl, d', n, os, hp, hso, rfl⟩
    have hsz : d'.size = d.length := by have := hp.1; simpa using this
    have hperm : d'.toList.Perm d := by
      have h3 := hp.2.2
      simp only [List.size_toArray] at h3
      rw [show d.length = d'.size from hsz.symm, Array.extract_size] at h3
      rw [hsz] at h3
      simpa using h3
    refine ⟨_, rfl, rfl, ⟨d'.toList, hperm.map _, ?_, ?_⟩, (sortW_chg encV 2 w0 g 0 n d' os).mono fun x _ hx => by subst hx; rfl⟩
    · rw [List.pairwise_iff_getElem]
      intro i j hi hj hij
      have h4 := hso i j (Nat.zero_le _) hij (by simp at hj ⊢; omega)
      simp only [Array.length_toList] at hi hj
      rw [getElem!_pos d' i hi, getElem!_pos d' j hj] at h4
      simpa [ltOf] using h4
    · exact holds_spans (holdsK_sortWorldK_c encV 2 w0 g 0 d.toArray d' n os hH hblk (by simpa using hsz)) hsz hnc hl
end Go.Proofs
namespace Go.Proofs
open Go Go.Eng Go.Sort
set_option maxRecDepth 100000
def orL : List Int → Int
  | [] => 0
  | x :: r => if x ≠ 0 then x else orL r
theorem sor_c (w0 : World) (v : Value) (l : List Int) (h : IntsAt w0 v l) : Ret Tryd.prog 81 #[v] w0 fun r w => r = .int .i64 (orL l) ∧ Ext w0 w := by
  obtain ⟨a, c, rfl⟩ := SlAt.form h
  have hlen : l.length ≤ 9223372036854775807 := by simpa using SlAt.le h
  simp only [List.length_map] at h ⊢
  refine Ret_of Tryd.func81 rfl Tryd.ntmps81 (Nat.le_of_ble_eq_true rfl) ?_
  have E : Chg none1 w0 w0 := Chg.refl _ _
  refine Wp_seq_region ?_
  refine WpL_val rfl rfl (by decide) (r_assign (v := (.int .i64 0)) rfl) ?_
  refine WpL_nil ?_
  refine Wp_seq_region ?_
  refine WpL_val rfl rfl (by decide) (r_assign (v := (.int .i64 0)) rfl) ?_
  refine WpL_nil ?_
  refine Wp_seq ?_
  refine Wp_seq_region ?_
  refine WpL_val rfl rfl (by decide) (r_move (v := (.slice a l.length c)) rfl) ?_
  refine WpL_val rfl rfl (by decide) (r_lenSlice (ad := a) (n := l.length) (cap := c) Tryd.underlying22 rfl) ?_
  refine WpL_val rfl rfl (by decide) (r_move (v := (.int .i64 0)) rfl) ?_
  refine WpL_nil ?_
  refine Wp_block ?_
  refine Wp_loop (fun nn_ σ W1 => ∃ (k : Nat), (∃ jj_, σ = upds jj_ [(3, (.int .i64 0)), (6, (.slice a l.length c)), (7, (.int .i64 ((l.length : Nat) : Int))), (8, (.int .i64 ((k : Nat) : Int)))]) ∧ Chg none1 w0 W1 ∧ (k ≤ l.length) ∧ (orL (l.drop k) = orL l) ∧ nn_ = l.length - k) (n := l.length - 0) ?_ ?_
  · exact ⟨0, Fits.out ⟨rfl, rfl, rfl, rfl, trivial⟩, E, Nat.zero_le _, rfl, rfl⟩
  · clear E
    rintro _ _ W1 ⟨k, ⟨j1, rfl⟩, E, hk, ho, rfl⟩
    refine Wp_seq_region ?_
    refine WpL_val rfl rfl (by decide) (r_lss (k := .i64) (a := ((k : Nat) : Int)) (b := ((l.length : Nat) : Int)) rfl rfl) ?_
    refine WpL_nil ?_
    refine Wp_seq ?_
    refine Wp_cond (b := decide ((((k : Nat) : Int) : Int) < ((l.length : Nat) : Int))) rfl (fun hlt => ?_) (fun hlt => ?_)
    · have khlt := hlt
      replace hlt := of_decide_eq_true hlt
      obtain ⟨x, hx⟩ := get_of_lt (l := l) (i := k) (by omega)
      obtain ⟨b, o, rfl, hcl⟩ := ints_cells h (by omega)
      rw [drop_cons hx] at ho
      refine Wp_skip ?_
      refine thn_normal ?_
      refine Wp_seq ?_
      refine Wp_block ?_
      refine Wp_seq_region ?_
      refine WpL_val rfl rfl (by decide) (r_indexSlice (b := b) (o := o) (len := l.length) (cap := c) (i := k) (o' := o + k) rfl rfl rfl Tryd.underlying22 siz3 (by omega) (by omega)) ?_
      refine WpL_val rfl rfl (by decide) (r_load (v := (.int .i64 x)) rfl flat3 (E.cell (fun f => f) (hcl k x hx))) ?_
      refine WpL_val rfl rfl (by decide) (r_assign (v := (.int .i64 x)) rfl) ?_
      refine WpL_nil ?_
      refine Wp_seq_region ?_
      refine WpL_val rfl rfl (by decide) (r_move (v := (.int .i64 x)) rfl) ?_
      refine WpL_val rfl rfl (by decide) (r_move (v := (.int .i64 0)) rfl) ?_
      refine WpL_val rfl rfl (by decide) (r_neq (k := .i64) (a := x) (b := 0) rfl rfl) ?_
      refine WpL_nil ?_
      refine Wp_cond (b := decide ((x : Int) ≠ 0)) rfl (fun hne => ?_) (fun hne => ?_)
      · have khne := hne
        replace hne := of_decide_eq_true hne
        refine Wp_seq_region ?_
        refine WpL_val rfl rfl (by decide) (r_move (v := (.int .i64 x)) rfl) ?_
        refine WpL_val rfl rfl (by decide) (r_assign (v := (.int .i64 x)) rfl) ?_
        refine WpL_nil ?_
        refine Wp_ret ?_
        refine inB_ret ?_
        refine thn_ret ?_
        refine thn_ret ?_
        refine inB_ret ?_
        refine thn_ret ?_
        refine fin_tmp Tryd.results81 (v := (.int .i64 x)) rfl ?_
        exact ⟨int_eq (by rw [← ho, orL, if_pos hne]), E⟩
      · have khne := hne
        replace hne := of_decide_eq_false hne
        refine Wp_skip ?_
        refine inB_normal ?_
        refine thn_normal ?_
        refine Wp_region ?_
        refine WpL_val rfl rfl (by decide) (r_add (k := .i64) (a := ((k : Nat) : Int)) (b := 1) (c := ((k : Nat) : Int) + 1) rfl rfl (wI64 (by omega))) ?_
        refine WpL_val rfl rfl (by decide) (r_move (v := (.int .i64 (((k : Nat) : Int) + 1))) rfl) ?_
        refine WpL_nil ?_
        refine thn_normal ?_
        exact ⟨l.length - (k + 1), by omega, k + 1, Fits.out ⟨rfl, rfl, rfl, rfl, trivial⟩, E, (by omega), (by rw [← ho, orL, if_neg hne]), rfl⟩
    · have khlt := hlt
      replace hlt := of_decide_eq_false hlt
      have hkk : k = l.length := by omega
      refine Wp_exit ?_
      refine thn_exit ?_
      refine thn_exit ?_
      refine inB_here ?_
      refine thn_normal ?_
      refine Wp_seq_region ?_
      refine WpL_val rfl rfl (by decide) (r_move (v := (.int .i64 0)) rfl) ?_
      refine WpL_val rfl rfl (by decide) (r_assign (v := (.int .i64 0)) rfl) ?_
      refine WpL_nil ?_
      refine Wp_ret ?_
      refine fin_tmp Tryd.results81 (v := (.int .i64 0)) rfl ?_
      exact ⟨int_eq (by rw [← ho, hkk, List.drop_length]; rfl), E⟩
def ints2F (a b : Int) : Fct := fun v w => ∃ bb, v = .slice (some ⟨bb, 0, none⟩) 2 2 ∧ IntsAt w v [a, b]
theorem ints2F_ext (a b : Int) : Stable (ints2F a b) := by
  rintro v w w' e ⟨bb, h1, h2⟩
  exact ⟨bb, h1, h2.ext e⟩
theorem Does_ints2 {N : Nat} {σ : Env} {w : World} {dst : Option Tmp} {ty : TypeId} {pos : String} {af : Array Edge} {g : Option (Nat × Bool)} {x y : Operand} {a b : Int} (hx : ev σ x = .int .i64 a) (hy : ev σ y = .int .i64 b) :
    Does Tryd.prog N ⟨dst, .buildSlice 22 2 #[(0, x), (1, y)], ty, pos, af, g⟩ (ints2F a b) σ w := by
  have hn := New.mk' w #[.int .i64 a, .int .i64 b] 3
  refine Does_val (run_buildSlice (parts := [(0, x), (1, y)]) (ps := [(0, .int .i64 a), (1, .int .i64 b)]) (by simp only [List.map, hx, hy]) Tryd.underlying22 siz3 zer3 (by decide) (by decide) (by kernel_rfl)) hn.ext ?_
  exact ⟨_, rfl, ints_of_blk [a, b] hn.blk (by simp) (by simp)⟩
def cfS (x y : VSp) : Int := orL [cmpI x.s.1 y.s.1, cmpI x.s.2 y.s.2]
theorem cfS_c (w0 : World) (x y : VSp) : Ret Tryd.prog 78 #[.agg #[.int .i64 x.s.1, .int .i64 x.s.2], .agg #[.int .i64 y.s.1, .int .i64 y.s.2]] w0 fun v w => v = .int .i64 (cfS x y) ∧ Ext w0 w := by
  refine Ret_of Tryd.func78 rfl Tryd.ntmps78 (Nat.le_of_ble_eq_true rfl) ?_
  have E : Chg none1 w0 w0 := Chg.refl _ _
  refine Wp_seq_region ?_
  refine s_box (v := (.agg #[(.int .i64 x.s.1), (.int .i64 x.s.2)])) (c := #[(.int .i64 x.s.1), (.int .i64 x.s.2)]) (by decide) rfl rfl ?_
  intro b1 w1 N1
  have F1 := N1.ge E
  replace E := E.ext N1.ext
  have B1 := N1.blk
  refine s_box (v := (.agg #[(.int .i64 y.s.1), (.int .i64 y.s.2)])) (c := #[(.int .i64 y.s.1), (.int .i64 y.s.2)]) (by decide) rfl rfl ?_
  intro b2 w2 N2
  have F2 := N2.ge E
  have O2_b1 := N2.lt B1
  replace B1 := N2.keep B1
  replace E := E.ext N2.ext
  have B2 := N2.blk
  refine WpL_val rfl rfl (by decide) (r_assign (v := (.int .i64 0)) rfl) ?_
  refine WpL_nil ?_
  refine Wp_seq ?_
  obtain ⟨Fs3, hFs3⟩ : ∃ Fs : List Fact, Fs = [.eq (.pointer (some ⟨b1, 0, none⟩)), .eq (.int .i64 x.s.1), .eq (.pointer (some ⟨b2, 0, none⟩)), .eq (.int .i64 y.s.1), .eq (.int .i64 (cmpI x.s.1 y.s.1)), .eq (.pointer (some ⟨b1, 1, none⟩)), .eq (.int .i64 x.s.2), .eq (.pointer (some ⟨b2, 1, none⟩)), .eq (.int .i64 y.s.2), .eq (.int .i64 (cmpI x.s.2 y.s.2)), .gen (ints2F (cmpI x.s.1 y.s.1) (cmpI x.s.2 y.s.2)) (ints2F_ext _ _), .eq (.int .i64 (cfS x y)), .eq (.int .i64 (cfS x y))] := ⟨_, rfl⟩
  refine Wp_dag [5, 6, 7, 8, 9, 10, 11, 12, 13, 14, 15, 16, 4] [[], [0], [], [2], [1, 3], [], [5], [], [7], [4, 6, 8], [4, 9], [9, 10], [0, 1, 2, 3, 4, 5, 6, 7, 8, 9, 10, 11]] Fs3 hFs3 mixed (by kernel_rfl) (by kernel_rfl) ?_ ?_
  · intro wd X0
    refine DagSteps.cons (fun s' w' X U H => Or.inl ⟨?_, ?_⟩) ?_
    · exact Guarded_none rfl
    · exact Does_val (r_fieldAddr (b := b1) (o := 0) (o' := 0) (U 2 rfl) Tryd.underlying82 rfl siz3 rfl) (Ext.refl _) rfl
    refine DagSteps.cons (fun s' w' X U H => Or.inl ⟨?_, ?_⟩) ?_
    · exact Guarded_none rfl
    · have e5 : s' 5 = (.pointer (some ⟨b1, 0, none⟩)) := H 0 rfl 5 (.eq (.pointer (some ⟨b1, 0, none⟩))) rfl (by rw [hFs3]; rfl)
      exact Does_val (r_load (v := (.int .i64 x.s.1)) e5 flat3 (((X0.trans X).keep B1).cell rfl)) (Ext.refl _) rfl
    refine DagSteps.cons (fun s' w' X U H => Or.inl ⟨?_, ?_⟩) ?_
    · exact Guarded_none rfl
    · exact Does_val (r_fieldAddr (b := b2) (o := 0) (o' := 0) (U 3 rfl) Tryd.underlying82 rfl siz3 rfl) (Ext.refl _) rfl
    refine DagSteps.cons (fun s' w' X U H => Or.inl ⟨?_, ?_⟩) ?_
    · exact Guarded_none rfl
    · have e7 : s' 7 = (.pointer (some ⟨b2, 0, none⟩)) := H 2 rfl 7 (.eq (.pointer (some ⟨b2, 0, none⟩))) rfl (by rw [hFs3]; rfl)
      exact Does_val (r_load (v := (.int .i64 y.s.1)) e7 flat3 (((X0.trans X).keep B2).cell rfl)) (Ext.refl _) rfl
    refine DagSteps.cons (fun s' w' X U H => Or.inl ⟨?_, ?_⟩) ?_
    · exact Guarded_none rfl
    · have e6 : s' 6 = (.int .i64 x.s.1) := H 1 rfl 6 (.eq (.int .i64 x.s.1)) rfl (by rw [hFs3]; rfl)
      have e8 : s' 8 = (.int .i64 y.s.1) := H 3 rfl 8 (.eq (.int .i64 y.s.1)) rfl (by rw [hFs3]; rfl)
      exact Does_enter (r_callF (vs := [(.int .i64 x.s.1), (.int .i64 y.s.1)]) Tryd.func82 nm82 bd82 (lst2 e6 e8)) (compare_c _ _ _)
    refine DagSteps.cons (fun s' w' X U H => Or.inl ⟨?_, ?_⟩) ?_
    · exact Guarded_none rfl
    · exact Does_val (r_fieldAddr (b := b1) (o := 0) (o' := 1) (U 2 rfl) Tryd.underlying82 rfl siz3 rfl) (Ext.refl _) rfl
    refine DagSteps.cons (fun s' w' X U H => Or.inl ⟨?_, ?_⟩) ?_
    · exact Guarded_none rfl
    · have e10 : s' 10 = (.pointer (some ⟨b1, 1, none⟩)) := H 5 rfl 10 (.eq (.pointer (some ⟨b1, 1, none⟩))) rfl (by rw [hFs3]; rfl)
      exact Does_val (r_load (v := (.int .i64 x.s.2)) e10 flat3 (((X0.trans X).keep B1).cell rfl)) (Ext.refl _) rfl
    refine DagSteps.cons (fun s' w' X U H => Or.inl ⟨?_, ?_⟩) ?_
    · exact Guarded_none rfl
    · exact Does_val (r_fieldAddr (b := b2) (o := 0) (o' := 1) (U 3 rfl) Tryd.underlying82 rfl siz3 rfl) (Ext.refl _) rfl
    refine DagSteps.cons (fun s' w' X U H => Or.inl ⟨?_, ?_⟩) ?_
    · exact Guarded_none rfl
    · have e12 : s' 12 = (.pointer (some ⟨b2, 1, none⟩)) := H 7 rfl 12 (.eq (.pointer (some ⟨b2, 1, none⟩))) rfl (by rw [hFs3]; rfl)
      exact Does_val (r_load (v := (.int .i64 y.s.2)) e12 flat3 (((X0.trans X).keep B2).cell rfl)) (Ext.refl _) rfl
    refine DagSteps.cons (fun s' w' X U H => Or.inl ⟨?_, ?_⟩) ?_
    · exact Guarded_none rfl
    · have e11 : s' 11 = (.int .i64 x.s.2) := H 6 rfl 11 (.eq (.int .i64 x.s.2)) rfl (by rw [hFs3]; rfl)
      have e13 : s' 13 = (.int .i64 y.s.2) := H 8 rfl 13 (.eq (.int .i64 y.s.2)) rfl (by rw [hFs3]; rfl)
      exact Does_enter (r_callF (vs := [(.int .i64 x.s.2), (.int .i64 y.s.2)]) Tryd.func82 nm82 bd82 (lst2 e11 e13)) (compare_c _ _ _)
    refine DagSteps.cons (fun s' w' X U H => Or.inl ⟨?_, ?_⟩) ?_
    · exact Guarded_none rfl
    · have e9 : s' 9 = (.int .i64 (cmpI x.s.1 y.s.1)) := H 4 rfl 9 (.eq (.int .i64 (cmpI x.s.1 y.s.1))) rfl (by rw [hFs3]; rfl)
      have e14 : s' 14 = (.int .i64 (cmpI x.s.2 y.s.2)) := H 9 rfl 14 (.eq (.int .i64 (cmpI x.s.2 y.s.2))) rfl (by rw [hFs3]; rfl)
      exact Does_ints2 e9 e14
    refine DagSteps.cons (fun s' w' X U H => Or.inl ⟨?_, ?_⟩) ?_
    · exact Guarded_none rfl
    · obtain ⟨b15, e15, i15⟩ := H 10 rfl 15 (.gen (ints2F (cmpI x.s.1 y.s.1) (cmpI x.s.2 y.s.2)) (ints2F_ext _ _)) rfl (by rw [hFs3]; rfl)
      exact Does_enter (r_callF (vs := [(.slice (some ⟨b15, 0, none⟩) 2 2)]) Tryd.func81 nm81 bd81 (lst1 e15)) (sor_c _ _ _ (e15 ▸ i15))
    refine DagSteps.cons (fun s' w' X U H => Or.inl ⟨?_, ?_⟩) ?_
    · exact Guarded_none rfl
    · have e16 : s' 16 = (.int .i64 (cfS x y)) := H 11 rfl 16 (.eq (.int .i64 (cfS x y))) rfl (by rw [hFs3]; rfl)
      exact Does_val (r_assign (v := (.int .i64 (cfS x y))) e16) (Ext.refl _) rfl
    exact DagSteps.nil
  · intro s' w3 X3 U H
    obtain ⟨j3, rfl⟩ := Fits.out (σ := s') (l := [(4, (.int .i64 (cfS x y)))]) ⟨(show s' 4 = (.int .i64 (cfS x y)) from H 12 4 (.eq (.int .i64 (cfS x y))) rfl (by rw [hFs3]; rfl)), trivial⟩
    clear U H
    replace B1 := X3.keep B1
    replace B2 := X3.keep B2
    replace E := E.ext X3
    refine thn_normal ?_
    refine Wp_ret ?_
    refine fin_tmp Tryd.results78 (v := (.int .i64 (cfS x y))) rfl ?_
    exact ⟨rfl, E⟩
theorem cfS_lt (x y : VSp) : cfS x y < 0 ↔ x.s.1 < y.s.1 ∨ x.s.1 = y.s.1 ∧ x.s.2 < y.s.2 := by
  unfold cfS orL orL orL cmpI
  (repeat' split) <;> omega
theorem swoS : SWO (ltOf cfS) := by
  refine ⟨fun x => ?_, fun x y z => ?_, fun x y z => ?_⟩ <;> simp only [ltOf, decide_eq_true_eq, decide_eq_false_iff_not, cfS_lt] <;> omega
theorem sortC_c (w0 : World) (base : Nat) (v : Value) (l : List Sp) (h : OwnS w0 base v l) (hl : l.length ≤ 8796093022208) (hok : ∀ s ∈ l, vSp s) :
    Ret Tryd.prog 77 #[v, .func (.func 78) #[] #[]] w0 fun r w => r = .tuple #[] ∧ (∃ ls : List Sp, ls.Perm l ∧ ls.Pairwise (fun s t => s.1 ≤ t.1) ∧ SpansAt w v ls) ∧ Chg (fun x => v.ownBlock = some x) w0 w :=
  (sorts_c cfS swoS Tryd.func78 nm78 bd78 cfS_c w0 base v l h hl hok).mono fun r w ⟨h1, ⟨l', h2, h3, h4⟩, h5⟩ =>
    ⟨h1, ⟨_, h2, List.pairwise_map.2 (h3.imp fun {s t} hst => by rw [cfS_lt] at hst; omega), h4⟩, h5⟩
theorem own_write {w w' : World} {base e size n cap g i : Nat} {xs : List Value} {cur : Array Value} {v : Value} (h : w.ownsRow base e size (.slice (some ⟨g, 0, none⟩) n cap) n xs) (hB : Blk w g cur e) (hi : i < n * size) (hB' : Blk w' g (cur.setIfInBounds i v) e) : w'.ownsRow base e size (.slice (some ⟨g, 0, none⟩) n cap) n (xs.set i v) := by
  rcases h.2 with ⟨h1, _⟩ | ⟨g', cap', cur', hv, hbg, hg, hnc, hcm, hcs, htake⟩
  · simp at h1
  · simp only [Value.slice.injEq, Option.some.injEq, Addr.mk.injEq, and_true] at hv
    obtain ⟨rfl, _, rfl⟩ := hv
    unfold Blk at hB hB'
    rw [hB] at hg
    simp only [Option.some.injEq, Obj.cells.injEq, and_true] at hg
    obtain ⟨rfl, _⟩ := hg
    refine ⟨by simpa using h.1, .inr ⟨g, cap, _, rfl, hbg, hB', hnc, hcm, by simpa using hcs, ?_⟩⟩
    rw [← htake, Array.toList_setIfInBounds, List.take_set]
theorem own_blk {w : World} {base e size n cap g : Nat} {xs : List Value} (h : w.ownsRow base e size (.slice (some ⟨g, 0, none⟩) n cap) n xs) : ∃ cur, Blk w g cur e ∧ n * size ≤ cur.size := by
  rcases h.2 with ⟨h1, _⟩ | ⟨g', cap', cur', hv, hbg, hg, hnc, hcm, hcs, htake⟩
  · simp at h1
  · simp only [Value.slice.injEq, Option.some.injEq, Addr.mk.injEq, and_true] at hv
    obtain ⟨rfl, _, rfl⟩ := hv
    exact ⟨cur', hg, by rw [hcs]; exact Nat.mul_le_mul_right _ hnc⟩
theorem span_last (o : List Sp) (c : Sp) : ((o ++ [c]).map spanV).flatten[o.length * 2 + 1]? = some (.int .i64 c.2) := by
  rw [spanV_snoc, List.getElem?_append_right (by rw [spans_six]; omega), spans_six]
  rw [show o.length * 2 + 1 - o.length * 2 = 1 from by omega]; rfl
theorem span_set (o : List Sp) (c : Sp) (x : Int) : ((o ++ [c]).map spanV).flatten.set (o.length * 2 + 1) (.int .i64 x) = ((o ++ [(c.1, x)]).map spanV).flatten := by
  rw [spanV_snoc, spanV_snoc, List.set_append, if_neg (by rw [spans_six]; omega), spans_six, show o.length * 2 + 1 - o.length * 2 = 1 from by omega]; rfl
set_option maxHeartbeats 2000000 in
theorem join_c (w0 : World) (v : Value) (l : List Sp) (h : SpansAt w0 v l) (hl : l.length ≤ 8796093022208) (hok : ∀ s ∈ l, vSp s) :
    Ret Tryd.prog 76 #[v] w0 fun r w => (∃ out, JoinOf l out ∧ OwnS w w0.heap.size r out) ∧ Ext w0 w := by
  refine Ret_of Tryd.func76 rfl Tryd.ntmps76 (Nat.le_of_ble_eq_true rfl) ?_
  have E : Chg none1 w0 w0 := Chg.refl _ _
  refine Wp_seq_region ?_
  refine WpL_val rfl rfl (by decide) (r_assign (v := (.slice none 0 0)) rfl) ?_
  refine WpL_nil ?_
  refine Wp_seq_region ?_
  refine WpL_val rfl rfl (by decide) (r_move (v := v) rfl) ?_
  refine WpL_enter rfl rfl (by decide) (r_callF (vs := [v]) Tryd.func52 nm52 bd52 rfl) (clones_c _ v l h (by omega)) ?_
  rintro _ w9 ⟨⟨⟨a9, c9, rfl⟩, O9⟩, X9⟩
  replace E := E.ext X9
  refine WpL_val rfl rfl (by decide) (r_assign (v := (.slice a9 l.length c9)) rfl) ?_
  refine WpL_nil ?_
  refine Wp_seq_region ?_
  refine WpL_val rfl rfl (by decide) (r_move (v := (.slice a9 l.length c9)) rfl) ?_
  refine WpL_enter rfl rfl (by decide) (r_callF (vs := [(.slice a9 l.length c9), (.func (.func 78) #[] #[])]) Tryd.func77 nm77 bd77 rfl) (sortC_c _ w0.heap.size (.slice a9 l.length c9) l ⟨⟨_, _, rfl⟩, O9⟩ (by omega) hok) ?_
  rintro _ w10 ⟨rfl, ⟨ls, hperm, hsort, hat⟩, C10⟩
  replace E := E.step C10 (fun x hx hm => absurd (O9.lt x hm).1 (by omega))
  have hlen : ls.length = l.length := hperm.length_eq
  have hokl : ∀ s ∈ ls, vSp s := fun s hs => hok s (hperm.mem_iff.1 hs)
  have hsz0 : w0.heap.size ≤ w10.heap.size := E.size
  obtain ⟨base, hbase⟩ : ∃ base, base = w10.heap.size := ⟨_, rfl⟩
  have E2 : Chg none1 w10 w10 := Chg.refl _ _
  refine WpL_nil ?_
  refine Wp_seq_region ?_
  refine WpL_val rfl rfl (by decide) (r_assign (v := (.slice none 0 0)) rfl) ?_
  refine WpL_nil ?_
  refine Wp_seq ?_
  refine Wp_seq_region ?_
  refine WpL_val rfl rfl (by decide) (r_move (v := (.slice a9 l.length c9)) rfl) ?_
  refine WpL_val rfl rfl (by decide) (r_lenSlice (ad := a9) (n := l.length) (cap := c9) Tryd.underlying24 rfl) ?_
  refine WpL_val rfl rfl (by decide) (r_move (v := (.int .i64 0)) rfl) ?_
  refine WpL_nil ?_
  refine Wp_block ?_
  refine Wp_loop (fun nn_ σ W1 => ∃ (k : Nat) (la : Option Addr) (lc : Nat) (m : Nat) (ou : List Sp), (∃ jj_, σ = upds jj_ [(11, (.slice a9 l.length c9)), (12, (.int .i64 ((l.length : Nat) : Int))), (13, (.int .i64 ((k : Nat) : Int))), (3, (.slice la m lc))]) ∧ Chg none1 w0 W1 ∧ Chg none1 w10 W1 ∧ (k ≤ l.length) ∧ (m = ou.length) ∧ (m ≤ k) ∧ (∀ s ∈ ou, 0 ≤ s.2 ∧ s.2 ≤ 1114111) ∧ ((ls.drop k).foldl jstep ou = joinF ls) ∧ (W1.ownsRow base TSp 2 (.slice la m lc) m (ou.map spanV).flatten) ∧ (base ≤ W1.heap.size) ∧ nn_ = l.length - k) (n := l.length - 0) ?_ ?_
  · exact ⟨0, none, 0, 0, [], Fits.out ⟨rfl, rfl, rfl, rfl, trivial⟩, E, E2, Nat.zero_le _, rfl, Nat.le_refl _, (fun s hs => absurd hs List.not_mem_nil), rfl, World.ownsRow_nil _ _ _ _, (by omega), rfl⟩
  · clear E E2
    rintro _ _ W1 ⟨k, la, lc, m, ou, ⟨j1, rfl⟩, E, E2, hk, hm, hlo, hvo, hou, hown, hbs, rfl⟩
    refine Wp_seq_region ?_
    refine WpL_val rfl rfl (by decide) (r_lss (k := .i64) (a := ((k : Nat) : Int)) (b := ((l.length : Nat) : Int)) rfl rfl) ?_
    refine WpL_nil ?_
    refine Wp_seq ?_
    refine Wp_cond (b := decide ((((k : Nat) : Int) : Int) < ((l.length : Nat) : Int))) rfl (fun hlt => ?_) (fun hlt => ?_)
    · have khlt := hlt
      replace hlt := of_decide_eq_true hlt
      obtain ⟨s, hs⟩ := get_of_lt (l := ls) (i := k) (by omega)
      have hv := hokl s (List.mem_of_getElem? hs)
      unfold vSp at hv
      obtain ⟨b, o, hab, hcl⟩ := spans_cells hat (by omega)
      subst hab
      rw [drop_cons hs, List.foldl_cons] at hou
      have hown0 := hown
      refine Wp_skip ?_
      refine thn_normal ?_
      refine Wp_seq ?_
      refine Wp_block ?_
      refine Wp_seq_region ?_
      refine WpL_val rfl rfl (by decide) (r_indexSlice (b := b) (o := o) (len := l.length) (cap := c9) (i := k) (o' := o + k * 2) rfl rfl rfl Tryd.underlying24 siz82 (by omega) (by omega)) ?_
      refine WpL_val rfl rfl (by decide) (r_loadAgg (vs := [(.int .i64 s.1), (.int .i64 s.2)]) rfl agg82 siz82 rfl ((hcl k s hs).ext E2)) ?_
      refine s_allocStore (v := (.agg #[(.int .i64 s.1), (.int .i64 s.2)])) (c := #[(.int .i64 s.1), (.int .i64 s.2)]) (n := 2) (by decide) zer82 rfl siz82 rfl rfl rfl (by simp [Value.oneCell']) ?_
      intro bq wq Nq
      have Fq := Nq.ge E
      have Fq_E2 := Nq.ge E2
      replace hown := own_ext hown Nq.ext
      replace hbs := Nat.le_trans hbs Nq.ext.size
      replace E := E.ext Nq.ext
      have Bq := Nq.blk
      replace E2 := E2.ext Nq.ext
      refine WpL_nil ?_
      rcases Bool.eq_false_or_eq_true (decide ((0 : Int) < ((m : Nat) : Int))) with hm0 | hm0
      · have khm0 := hm0
        replace khm0 := of_decide_eq_true khm0
        obtain ⟨oo, cc, hoc⟩ : ∃ oo cc, ou = oo ++ [cc] := by rcases snoc_cases ou with rfl | h1; simp at hm; omega; exact h1
        subst hoc
        have hvc := hvo cc (by simp)
        have hmo : m = oo.length + 1 := by simpa using hm
        obtain ⟨g, rfl, hgb, hgc⟩ := own_cells hown (by omega)
        have hgn : g ≠ bq := fun h1 => by have := (hown0.lt g rfl).2; have := Nq.eq; omega
        refine Wp_seq_region ?_
        refine WpL_val rfl rfl (by decide) (r_move (v := (.slice (some ⟨g, 0, none⟩) m lc)) rfl) ?_
        refine WpL_val rfl rfl (by decide) (r_lenSlice (ad := some ⟨g, 0, none⟩) (n := m) (cap := lc) Tryd.underlying24 rfl) ?_
        refine WpL_val rfl rfl (by decide) (r_assign (v := (.int .i64 ((m : Nat) : Int))) rfl) ?_
        refine WpL_nil ?_
        refine Wp_seq_draw 13 mixed (by kernel_rfl) ?_
        intro w3 X3 _
        replace Bq := X3.keep Bq
        replace hown := own_ext hown X3
        replace hbs := Nat.le_trans hbs X3.size
        replace E := E.ext X3
        replace E2 := E2.ext X3
        refine WpT_val rfl rfl (by decide) (r_move (v := (.int .i64 ((m : Nat) : Int))) rfl) ?_
        refine WpT_val rfl rfl (by decide) (r_gtr (k := .i64) (a := ((m : Nat) : Int)) (b := 0) rfl rfl) ?_
        refine WpT_val rfl rfl (by decide) (r_move (v := (.bool (decide ((0 : Int) < ((m : Nat) : Int))))) rfl) ?_
        refine WpT_guard_yes (oj := _) rfl rfl (by decide) (congrArg Value.bool hm0) ?_
        refine WpT_val rfl rfl (by decide) (r_fieldAddr (b := bq) (o := 0) (o' := 0) rfl Tryd.underlying82 rfl siz3 rfl) ?_
        refine WpT_guard_yes (oj := _) rfl rfl (by decide) (congrArg Value.bool hm0) ?_
        refine WpT_val rfl rfl (by decide) (r_load (v := (.int .i64 s.1)) rfl flat3 (Bq.cell rfl)) ?_
        refine WpT_guard_yes (oj := _) rfl rfl (by decide) (congrArg Value.bool hm0) ?_
        refine WpT_val rfl rfl (by decide) (r_move (v := (.slice (some ⟨g, 0, none⟩) m lc)) rfl) ?_
        refine WpT_guard_yes (oj := _) rfl rfl (by decide) (congrArg Value.bool hm0) ?_
        refine WpT_val rfl rfl (by decide) (r_move (v := (.int .i64 ((m : Nat) : Int))) rfl) ?_
        refine WpT_guard_yes (oj := _) rfl rfl (by decide) (congrArg Value.bool hm0) ?_
        refine WpT_val rfl rfl (by decide) (r_sub (k := .i64) (a := ((m : Nat) : Int)) (b := 1) (c := ((m : Nat) : Int) - 1) rfl rfl (wI64 (by omega))) ?_
        refine WpT_guard_yes (oj := _) rfl rfl (by decide) (congrArg Value.bool hm0) ?_
        refine WpT_val rfl rfl (by decide) (r_indexSlice (b := g) (o := 0) (len := m) (cap := lc) (i := m - 1) (o' := 0 + (m - 1) * 2) rfl rfl (by omega) Tryd.underlying24 siz82 (by omega) (by omega)) ?_
        refine WpT_guard_yes (oj := _) rfl rfl (by decide) (congrArg Value.bool hm0) ?_
        refine WpT_val rfl rfl (by decide) (r_fieldAddr (b := g) (o := 0 + (m - 1) * 2) (o' := 0 + (m - 1) * 2 + 1) rfl Tryd.underlying82 rfl siz3 rfl) ?_
        refine WpT_guard_yes (oj := _) rfl rfl (by decide) (congrArg Value.bool hm0) ?_
        refine WpT_val rfl rfl (by decide) (r_load (v := (.int .i64 cc.2)) rfl flat3 ((by have h1 := (hown.cells (g := g) rfl) (oo.length * 2 + 1) _ (span_last oo cc); rwa [Addr.add_lit, show 0 + (oo.length * 2 + 1) = 0 + (m - 1) * 2 + 1 from by omega] at h1))) ?_
        refine WpT_guard_yes (oj := _) rfl rfl (by decide) (congrArg Value.bool hm0) ?_
        refine WpT_val rfl rfl (by decide) (r_add (k := .i64) (a := cc.2) (b := 1) (c := cc.2 + 1) rfl rfl (wI64 (by omega))) ?_
        refine WpT_guard_yes (oj := _) rfl rfl (by decide) (congrArg Value.bool hm0) ?_
        refine WpT_val rfl rfl (by decide) (r_leq (k := .i64) (a := s.1) (b := cc.2 + 1) rfl rfl) ?_
        refine WpT_zero ?_
        refine WpL_val rfl rfl (by decide) (r_pick (b := decide ((0 : Int) < ((m : Nat) : Int))) (v := (.bool (decide ((s.1 : Int) ≤ cc.2 + 1)))) rfl (by rw [hm0]; rfl)) ?_
        refine WpL_nil ?_
        refine Wp_cond (b := decide ((s.1 : Int) ≤ cc.2 + 1)) rfl (fun hj => ?_) (fun hj => ?_)
        · have khj := hj
          replace hj := of_decide_eq_true hj
          obtain ⟨cur, hB, hcs⟩ := own_blk hown
          refine Wp_draw 14 mixed (by kernel_rfl) ?_
          intro w5 X5 _
          replace Bq := X5.keep Bq
          replace hB := X5.keep hB
          replace hown := own_ext hown X5
          replace hbs := Nat.le_trans hbs X5.size
          replace E := E.ext X5
          replace E2 := E2.ext X5
          refine WpT_val rfl rfl (by decide) (r_move (v := (.slice (some ⟨g, 0, none⟩) m lc)) rfl) ?_
          refine WpT_val rfl rfl (by decide) (r_move (v := (.int .i64 ((m : Nat) : Int))) rfl) ?_
          refine WpT_val rfl rfl (by decide) (r_sub (k := .i64) (a := ((m : Nat) : Int)) (b := 1) (c := ((m : Nat) : Int) - 1) rfl rfl (wI64 (by omega))) ?_
          refine WpT_val rfl rfl (by decide) (r_move (v := (.slice (some ⟨g, 0, none⟩) m lc)) rfl) ?_
          refine WpT_val rfl rfl (by decide) (r_move (v := (.int .i64 ((m : Nat) : Int))) rfl) ?_
          refine WpT_val rfl rfl (by decide) (r_sub (k := .i64) (a := ((m : Nat) : Int)) (b := 1) (c := ((m : Nat) : Int) - 1) rfl rfl (wI64 (by omega))) ?_
          refine WpT_val rfl rfl (by decide) (r_indexSlice (b := g) (o := 0) (len := m) (cap := lc) (i := m - 1) (o' := 0 + (m - 1) * 2) rfl rfl (by omega) Tryd.underlying24 siz82 (by omega) (by omega)) ?_
          refine WpT_val rfl rfl (by decide) (r_fieldAddr (b := g) (o := 0 + (m - 1) * 2) (o' := 0 + (m - 1) * 2 + 1) rfl Tryd.underlying82 rfl siz3 rfl) ?_
          refine WpT_val rfl rfl (by decide) (r_load (v := (.int .i64 cc.2)) rfl flat3 ((by have h1 := (hown.cells (g := g) rfl) (oo.length * 2 + 1) _ (span_last oo cc); rwa [Addr.add_lit, show 0 + (oo.length * 2 + 1) = 0 + (m - 1) * 2 + 1 from by omega] at h1))) ?_
          refine WpT_val rfl rfl (by decide) (r_fieldAddr (b := bq) (o := 0) (o' := 1) rfl Tryd.underlying82 rfl siz3 rfl) ?_
          refine WpT_val rfl rfl (by decide) (r_load (v := (.int .i64 s.2)) rfl flat3 (Bq.cell rfl)) ?_
          refine WpT_val rfl rfl (by decide) (r_maxI rfl rfl rfl) ?_
          refine WpT_val rfl rfl (by decide) (r_indexSlice (b := g) (o := 0) (len := m) (cap := lc) (i := m - 1) (o' := 0 + (m - 1) * 2) rfl rfl (by omega) Tryd.underlying24 siz82 (by omega) (by omega)) ?_
          refine WpT_val rfl rfl (by decide) (r_fieldAddr (b := g) (o := 0 + (m - 1) * 2) (o' := 0 + (m - 1) * 2 + 1) rfl Tryd.underlying82 rfl siz3 rfl) ?_
          refine WpT_zero ?_
          have hB0 := hB
          refine s_store (b := g) (o := 0 + (m - 1) * 2 + 1) (c' := cur.setIfInBounds (0 + (m - 1) * 2 + 1) (.int .i64 (max cc.2 s.2))) (v := (.int .i64 (max cc.2 s.2))) rfl rfl rfl siz3 hB (by omega) (rfl) ?_
          intro w6 S6
          replace Bq := S6.keep (by omega) Bq
          replace E := S6.step E (by first | exact Or.inl (by omega) | exact Or.inr rfl | exact Or.inr (by assumption) | exact Or.inr (by simp) | exact Or.inr (by omega) | exact Or.inr (by dsimp only; omega))
          replace E2 := S6.step E2 (Or.inl (by omega))
          replace hB := S6.blk
          have hown1 := own_write hown hB0 (i := 0 + (m - 1) * 2 + 1) (by omega) hB
          refine WpL_nil ?_
          refine inB_normal ?_
          refine thn_normal ?_
          refine Wp_region ?_
          refine WpL_val rfl rfl (by decide) (r_add (k := .i64) (a := ((k : Nat) : Int)) (b := 1) (c := ((k : Nat) : Int) + 1) rfl rfl (wI64 (by omega))) ?_
          refine WpL_val rfl rfl (by decide) (r_move (v := (.int .i64 (((k : Nat) : Int) + 1))) rfl) ?_
          refine WpL_nil ?_
          refine thn_normal ?_
          exact ⟨l.length - (k + 1), by omega, k + 1, some ⟨g, 0, none⟩, lc, m, oo ++ [(cc.1, max cc.2 s.2)], Fits.out ⟨rfl, rfl, rfl, rfl, trivial⟩, E, E2, (by omega), (by simp [hmo]), (by omega), (fun u hu => by rcases List.mem_append.1 hu with hu | hu; exact hvo u (by simp [hu]); rw [List.mem_singleton] at hu; subst hu; simp only; omega), (by rw [← hou, jstep_snoc, if_pos hj]), (by rw [show 0 + (m - 1) * 2 + 1 = oo.length * 2 + 1 from by omega, span_set] at hown1; exact hown1), (by have := hown1.lt g rfl; omega), rfl⟩
        · have khj := hj
          replace hj := of_decide_eq_false hj
          refine Wp_region ?_
          refine WpL_val rfl rfl (by decide) (r_move (v := (.slice (some ⟨g, 0, none⟩) m lc)) rfl) ?_
          refine WpL_val rfl rfl (by decide) (r_loadAgg (vs := [(.int .i64 s.1), (.int .i64 s.2)]) rfl agg82 siz82 rfl (Bq.cells rfl)) ?_
          refine s_buildSlice (ps := [(0, (.agg #[(.int .i64 s.1), (.int .i64 s.2)]))]) (c := #[(.int .i64 s.1), (.int .i64 s.2)]) (by decide) rfl Tryd.underlying24 siz82 zer82 (by decide) (by decide) (by kernel_rfl) ?_
          intro br wr Nr
          have Fr := Nr.ge E
          have Fr_E2 := Nr.ge E2
          have Or_bq := Nr.lt Bq
          replace Bq := Nr.keep Bq
          replace hown := own_ext hown Nr.ext
          replace hbs := Nat.le_trans hbs Nr.ext.size
          replace E := E.ext Nr.ext
          have Br := Nr.blk
          replace E2 := E2.ext Nr.ext
          refine s_append (base := base) (n := m) (m := 1) (xs := ((oo ++ [cc]).map spanV).flatten) (news := [(.int .i64 s.1), (.int .i64 s.2)]) (size := 2) (bytes := 16) (v := (.slice (some ⟨g, 0, none⟩) m lc)) (by decide) Tryd.underlying24 siz82 byt82 zer82 rfl (by decide) rfl hown rfl (rfl) (Br.cells rfl) (by simp [Value.oneCell']) (by unfold maxLen; omega) (by omega) (hbs) ?_
          intro v9 w29 Ov9 Cv9 Dv9
          replace Bq := Cv9.keep (fun h => by have := (hown0.lt _ h).2; have := Nq.eq; omega) Bq
          replace E := E.step Cv9 (fun x hx h => absurd (hown.lt x h).1 (by omega))
          replace E2 := E2.step Cv9 (fun x hx h => absurd (hown.lt x h).1 (by omega))
          obtain ⟨la2, lc2, rfl⟩ := own_form Ov9
          refine WpL_val rfl rfl (by decide) (r_assign (v := (.slice la2 (m + 1) lc2)) rfl) ?_
          refine WpL_nil ?_
          refine inB_normal ?_
          refine thn_normal ?_
          refine Wp_region ?_
          refine WpL_val rfl rfl (by decide) (r_add (k := .i64) (a := ((k : Nat) : Int)) (b := 1) (c := ((k : Nat) : Int) + 1) rfl rfl (wI64 (by omega))) ?_
          refine WpL_val rfl rfl (by decide) (r_move (v := (.int .i64 (((k : Nat) : Int) + 1))) rfl) ?_
          refine WpL_nil ?_
          refine thn_normal ?_
          exact ⟨l.length - (k + 1), by omega, k + 1, la2, lc2, m + 1, oo ++ [cc] ++ [s], Fits.out ⟨rfl, rfl, rfl, rfl, trivial⟩, E, E2, (by omega), (by simp [hmo]), (by omega), (fun u hu => by rcases List.mem_append.1 hu with hu | hu; exact hvo u hu; rw [List.mem_singleton] at hu; subst hu; omega), (by rw [← hou, jstep_snoc, if_neg hj]), (by rw [spanV_snoc]; exact Ov9), Nat.le_trans hbs Cv9.size, rfl⟩
      · have khm0 := hm0
        replace khm0 := of_decide_eq_false khm0
        have hm1 : m = 0 := by omega
        have hou0 : ou = [] := List.eq_nil_of_length_eq_zero (by omega)
        subst hou0
        refine Wp_seq_region ?_
        refine WpL_val rfl rfl (by decide) (r_move (v := (.slice la m lc)) rfl) ?_
        refine WpL_val rfl rfl (by decide) (r_lenSlice (ad := la) (n := m) (cap := lc) Tryd.underlying24 rfl) ?_
        refine WpL_val rfl rfl (by decide) (r_assign (v := (.int .i64 ((m : Nat) : Int))) rfl) ?_
        refine WpL_nil ?_
        refine Wp_seq_draw 13 mixed (by kernel_rfl) ?_
        intro w7 X7 _
        replace Bq := X7.keep Bq
        replace hown := own_ext hown X7
        replace hbs := Nat.le_trans hbs X7.size
        replace E := E.ext X7
        replace E2 := E2.ext X7
        refine WpT_val rfl rfl (by decide) (r_move (v := (.int .i64 ((m : Nat) : Int))) rfl) ?_
        refine WpT_val rfl rfl (by decide) (r_gtr (k := .i64) (a := ((m : Nat) : Int)) (b := 0) rfl rfl) ?_
        refine WpT_val rfl rfl (by decide) (r_move (v := (.bool (decide ((0 : Int) < ((m : Nat) : Int))))) rfl) ?_
        refine WpT_guard_no (oj := _) rfl rfl (by decide) (v := .bool false) (congrArg Value.bool hm0) (Or.inl rfl) ?_
        refine WpT_guard_no (oj := _) rfl rfl (by decide) (v := .bool false) (congrArg Value.bool hm0) (Or.inl rfl) ?_
        refine WpT_guard_no (oj := _) rfl rfl (by decide) (v := .bool false) (congrArg Value.bool hm0) (Or.inl rfl) ?_
        refine WpT_guard_no (oj := _) rfl rfl (by decide) (v := .bool false) (congrArg Value.bool hm0) (Or.inl rfl) ?_
        refine WpT_guard_no (oj := _) rfl rfl (by decide) (v := .bool false) (congrArg Value.bool hm0) (Or.inl rfl) ?_
        refine WpT_guard_no (oj := _) rfl rfl (by decide) (v := .bool false) (congrArg Value.bool hm0) (Or.inl rfl) ?_
        refine WpT_guard_no (oj := _) rfl rfl (by decide) (v := .bool false) (congrArg Value.bool hm0) (Or.inl rfl) ?_
        refine WpT_guard_no (oj := _) rfl rfl (by decide) (v := .bool false) (congrArg Value.bool hm0) (Or.inl rfl) ?_
        refine WpT_guard_no (oj := _) rfl rfl (by decide) (v := .bool false) (congrArg Value.bool hm0) (Or.inl rfl) ?_
        refine WpT_guard_no (oj := _) rfl rfl (by decide) (v := .bool false) (congrArg Value.bool hm0) (Or.inl rfl) ?_
        refine WpT_zero ?_
        refine WpL_val rfl rfl (by decide) (r_pick (b := decide ((0 : Int) < ((m : Nat) : Int))) (v := (.bool false)) rfl (by rw [hm0]; rfl)) ?_
        refine WpL_nil ?_
        refine Wp_cond_false rfl ?_
        refine Wp_region ?_
        refine WpL_val rfl rfl (by decide) (r_move (v := (.slice la m lc)) rfl) ?_
        refine WpL_val rfl rfl (by decide) (r_loadAgg (vs := [(.int .i64 s.1), (.int .i64 s.2)]) rfl agg82 siz82 rfl (Bq.cells rfl)) ?_
        refine s_buildSlice (ps := [(0, (.agg #[(.int .i64 s.1), (.int .i64 s.2)]))]) (c := #[(.int .i64 s.1), (.int .i64 s.2)]) (by decide) rfl Tryd.underlying24 siz82 zer82 (by decide) (by decide) (by kernel_rfl) ?_
        intro b8 w8 N8
        have F8 := N8.ge E
        have F8_E2 := N8.ge E2
        have O8_bq := N8.lt Bq
        replace Bq := N8.keep Bq
        replace hown := own_ext hown N8.ext
        replace hbs := Nat.le_trans hbs N8.ext.size
        replace E := E.ext N8.ext
        have B8 := N8.blk
        replace E2 := E2.ext N8.ext
        refine s_append (base := base) (n := m) (m := 1) (xs := []) (news := [(.int .i64 s.1), (.int .i64 s.2)]) (size := 2) (bytes := 16) (v := (.slice la m lc)) (by decide) Tryd.underlying24 siz82 byt82 zer82 rfl (by decide) rfl hown rfl (rfl) (B8.cells rfl) (by simp [Value.oneCell']) (by unfold maxLen; omega) (by omega) (hbs) ?_
        intro v9 w29 Ov9 Cv9 Dv9
        replace Bq := Cv9.keep (fun h => by have := (hown0.lt _ h).2; have := Nq.eq; omega) Bq
        replace E := E.step Cv9 (fun x hx h => absurd (hown.lt x h).1 (by omega))
        replace E2 := E2.step Cv9 (fun x hx h => absurd (hown.lt x h).1 (by omega))
        obtain ⟨la2, lc2, rfl⟩ := own_form Ov9
        refine WpL_val rfl rfl (by decide) (r_assign (v := (.slice la2 (m + 1) lc2)) rfl) ?_
        refine WpL_nil ?_
        refine inB_normal ?_
        refine thn_normal ?_
        refine Wp_region ?_
        refine WpL_val rfl rfl (by decide) (r_add (k := .i64) (a := ((k : Nat) : Int)) (b := 1) (c := ((k : Nat) : Int) + 1) rfl rfl (wI64 (by omega))) ?_
        refine WpL_val rfl rfl (by decide) (r_move (v := (.int .i64 (((k : Nat) : Int) + 1))) rfl) ?_
        refine WpL_nil ?_
        refine thn_normal ?_
        exact ⟨l.length - (k + 1), by omega, k + 1, la2, lc2, m + 1, [s], Fits.out ⟨rfl, rfl, rfl, rfl, trivial⟩, E, E2, (by omega), (by simp [hm1]), (by omega), (fun u hu => by rw [List.mem_singleton] at hu; subst hu; omega), (by rw [← hou, jstep_nil]), (by simpa [spanV] using Ov9), Nat.le_trans hbs Cv9.size, rfl⟩
    · have khlt := hlt
      replace hlt := of_decide_eq_false hlt
      have hkk : ls.drop k = [] := List.drop_eq_nil_of_le (by omega)
      rw [hkk, List.foldl_nil] at hou
      refine Wp_exit ?_
      refine thn_exit ?_
      refine thn_exit ?_
      refine inB_here ?_
      refine thn_normal ?_
      refine Wp_seq_region ?_
      refine WpL_val rfl rfl (by decide) (r_move (v := (.slice la m lc)) rfl) ?_
      refine WpL_val rfl rfl (by decide) (r_assign (v := (.slice la m lc)) rfl) ?_
      refine WpL_nil ?_
      refine Wp_ret ?_
      refine fin_tmp Tryd.results76 (v := (.slice la m lc)) rfl ?_
      subst hou; subst hm
      exact ⟨⟨joinF ls, ⟨ls, hperm, hsort, rfl⟩, ⟨la, lc, rfl⟩, own_low hown (by omega)⟩, E⟩
theorem checkL_ok : ∀ (l : List Sp) (p : Option Int), Canon l → (∀ h, p = some h → ∀ s ∈ l, h + 2 ≤ s.1) → checkL p l = 0
  | [], _, _, _ => rfl
  | s :: r, p, hc, hp => by
    have hv := hc.head
    unfold vSp at hv
    rw [checkL_cons, if_neg (by unfold validB; simp; omega)]
    rw [if_neg, checkL_ok r (some s.2) hc.tail (fun h he t ht => by cases he; exact hc.far t ht)]
    cases p with
    | none => simp
    | some h => have := hp h rfl s List.mem_cons_self; simp; omega
theorem checkL_canon : ∀ (l : List Sp) (p : Option Int), checkL p l = 0 → Canon l ∧ (∀ h, p = some h → ∀ s ∈ l, h + 2 ≤ s.1)
  | [], _, _ => ⟨Canon.nil, fun _ _ _ h => absurd h List.not_mem_nil⟩
  | s :: r, p, h0 => by
    rw [checkL_cons] at h0
    by_cases hv : validB s = false
    · rw [if_pos hv] at h0; cases h0
    rw [if_neg hv] at h0
    have hg : checkL (some s.2) r = 0 ∧ ∀ h, p = some h → h + 2 ≤ s.1 := by
      cases p with
      | none => exact ⟨by simpa using h0, fun _ he => by cases he⟩
      | some q =>
        by_cases hq : s.1 < q + 2
        · simp [hq] at h0
        · simp [hq] at h0; exact ⟨h0, fun h he => by cases he; omega⟩
    obtain ⟨h1, h2⟩ := checkL_canon r (some s.2) hg.1
    have hv2 : vSp s := by unfold vSp; unfold validB at hv; simp at hv; omega
    have h3 := h2 s.2 rfl
    refine ⟨Canon.cons hv2 h3 h1, fun h he t ht => ?_⟩
    have h4 := hg.2 h he
    rcases List.mem_cons.1 ht with rfl | ht
    · omega
    · have := h3 t ht; unfold vSp at hv2; omega
theorem checkE_ok {l : List Sp} (h : Canon l) (hl : l.length ≤ 16) : checkE l = 0 := by
  unfold checkE; rw [if_neg (by omega)]; exact checkL_ok l none h fun _ he => by cases he
theorem checkE_canon {l : List Sp} (h : checkE l = 0) : Canon l ∧ l.length ≤ 16 := by
  unfold checkE at h
  split at h
  · cases h
  · exact ⟨(checkL_canon l none h).1, by omega⟩
def IsSet (out : List Sp) (f : Int → Bool) : Prop := Canon out ∧ ∀ r, 0 ≤ r → r ≤ 1114111 → inS out r = f r
theorem IsSet.eq {a b : List Sp} {f g : Int → Bool} (ha : IsSet a f) (hb : IsSet b g) (h : ∀ r, 0 ≤ r → r ≤ 1114111 → f r = g r) : a = b :=
  canon_ext ha.1 hb.1 fun r h0 h1 => by rw [ha.2 r h0 h1, hb.2 r h0 h1, h r h0 h1]
def SetAt (w : World) (v : Value) (out : List Sp) : Prop := (∃ a c, v = .slice a out.length c) ∧ SpansAt w v out
theorem SetAt.ext {w w' : World} {v : Value} {l : List Sp} (h : SetAt w v l) (e : Ext w w') : SetAt w' v l := ⟨h.1, h.2.ext e⟩
theorem SetAt.nil (w : World) : SetAt w (.slice none 0 0) [] := ⟨⟨none, 0, rfl⟩, SlAt.nil _ _ _ _⟩
theorem OwnS.set {w : World} {base : Nat} {r : Value} {l : List Sp} (h : OwnS w base r l) : SetAt w r l := ⟨h.1, h.at⟩
def fitsP (j out : List Sp) (e : Int) : Prop := if 16 < j.length then e = 2 ∧ out = [] else e = 0 ∧ out = j
theorem IsSet.join {l out : List Sp} (h : JoinOf l out) (hv : ∀ s ∈ l, vSp s) : IsSet out (inS l) ∧ out.length ≤ l.length :=
  let ⟨h1, h2, h3⟩ := h.all hv
  ⟨⟨h1, fun r _ _ => h2 r⟩, h3⟩
theorem IsSet.rest {l : List Sp} {f : Int → Bool} (h : IsSet l f) : IsSet (notS l) (fun r => !f r) := ⟨notS_canon h.1, fun r h0 h1 => by rw [notS_mem h.1 h0 h1, h.2 r h0 h1]⟩
theorem IsSet.self {l : List Sp} (h : Canon l) : IsSet l (inS l) := ⟨h, fun _ _ _ => rfl⟩
theorem norm1_c (s : Sp) (w0 : World) : Ret Tryd.prog 74 #[.agg #[.int .i64 s.1, .int .i64 s.2]] w0 fun u w => u = .bool (!validB s) ∧ Ext w0 w := by
  refine Ret_of Tryd.func74 rfl Tryd.ntmps74 (Nat.le_of_ble_eq_true rfl) ?_
  have E : Chg none1 w0 w0 := Chg.refl _ _
  refine Wp_seq_region ?_
  refine s_box (v := (.agg #[(.int .i64 s.1), (.int .i64 s.2)])) (c := #[(.int .i64 s.1), (.int .i64 s.2)]) (by decide) rfl rfl ?_
  intro b1 w1 N1
  have F1 := N1.ge E
  replace E := E.ext N1.ext
  have B1 := N1.blk
  refine WpL_val rfl rfl (by decide) (r_assign (v := (.bool false)) rfl) ?_
  refine WpL_nil ?_
  refine Wp_seq_region ?_
  refine WpL_val rfl rfl (by decide) (r_loadAgg (vs := [(.int .i64 s.1), (.int .i64 s.2)]) rfl agg82 siz82 rfl (B1.cells rfl)) ?_
  refine WpL_enter rfl rfl (by decide) (r_callF (vs := [(.agg #[(.int .i64 s.1), (.int .i64 s.2)])]) Tryd.func73 nm73 bd73 rfl) (valid_c s _) ?_
  rintro _ w9 ⟨rfl, X9⟩
  replace B1 := X9.keep B1
  replace E := E.ext X9
  refine WpL_val rfl rfl (by decide) (r_not (b := validB s) rfl) ?_
  refine WpL_val rfl rfl (by decide) (r_assign (v := (.bool (!(validB s)))) rfl) ?_
  refine WpL_nil ?_
  refine Wp_ret ?_
  refine fin_tmp Tryd.results74 (v := (.bool (!(validB s)))) rfl ?_
  exact ⟨rfl, E⟩
theorem validB_iff {s : Sp} : validB s = true ↔ vSp s := by unfold validB vSp; simp [and_assoc]
def normP (a out : List Sp) (e : Int) : Prop := ((∃ s ∈ a, ¬ vSp s) ∧ e = 1 ∧ out = []) ∨ ((∀ s ∈ a, vSp s) ∧ ∃ j, IsSet j (inS a) ∧ j.length ≤ a.length ∧ fitsP j out e)
end Go.Proofs
namespace Go.Proofs
open Go Go.Eng Go.Sort
set_option maxRecDepth 100000
theorem fitsP_ok {j out : List Sp} {e : Int} (h : fitsP j out e) (hl : j.length ≤ 16) : e = 0 ∧ out = j := by
  unfold fitsP at h; rwa [if_neg (by omega)] at h
end Go.Proofs
namespace Go.Proofs
open Go Go.Eng Go.Sort
set_option maxRecDepth 100000
section
variable {P : Program} {σ : Env} {w : World} {dst : Option Tmp} {ty : TypeId} {pos : String} {af : Array Edge} {g : Option (Nat × Bool)} {x y : Operand}
theorem r_indexV {t e len n i : Nat} {cs c' : Array Value} {k : IntKind} {a : Int} (hu : P.underlying t = some (.array len e)) (hs : Siz P e n) (hg : aggB P e = true) (hx : ev σ x = .agg cs) (hy : ev σ y = .int k a) (ha : a = ((i : Nat) : Int)) (hi : i < len) (hv : cs.extract (i * n) (i * n + n) = c') :
    (execOp (ev σ) ⟨dst, .index t x y, ty, pos, af, g⟩).run P w = .ok (.value (.agg c')) w := by
  subst ha; subst hv
  simp [execOp, hx, hy, Instr.index, asIntOf, run_underlying hu, hs.run, hi, part, aggB.run hg]
theorem r_sliceArr {t e len n b : Nat} (hu : P.underlying t = some (.array len e)) (hs : Siz P e n) (hx : ev σ x = .pointer (some ⟨b, 0, none⟩)) :
    (execOp (ev σ) ⟨dst, .slice t x none none none, ty, pos, af, g⟩).run P w = .ok (.value (.slice (some ⟨b, 0, none⟩) len len)) w := by
  have h0 : (if len = 0 then (⟨b, 0, none⟩ : Addr) else Addr.add ⟨b, 0, none⟩ (0 * n)) = ⟨b, 0, none⟩ := by split <;> simp [Addr.add_lit]
  simp only [execOp, hx, Option.map_none, Instr.sliceAt, Sem.run_bind, run_underlying hu, Result.andThen_ok, Instr.sureAddr, Instr.sliceBounds, Sem.run_pure, hs.run, Nat.sub_zero]
  rw [h0]
end
def upperB (r : Int) : Bool := decide ((65 ≤ r ∧ r ≤ 90) ∨ (192 ≤ r ∧ r ≤ 222 ∧ r ≠ 215) ∨ (913 ≤ r ∧ r ≤ 939 ∧ r ≠ 930))
theorem upper_c (w0 : World) (r : Int) : Ret Tryd.prog 55 #[.int .i64 r] w0 fun v w => v = .bool (upperB r) ∧ Ext w0 w := by
  refine Ret_of Tryd.func55 rfl Tryd.ntmps55 (Nat.le_of_ble_eq_true rfl) ?_
  have E : Chg none1 w0 w0 := Chg.refl _ _
  refine Wp_seq_region ?_
  refine WpL_val rfl rfl (by decide) (r_assign (v := (.bool false)) rfl) ?_
  refine WpL_nil ?_
  refine Wp_seq_region ?_
  refine WpL_val rfl rfl (by decide) (r_move (v := (.int .i64 r)) rfl) ?_
  obtain ⟨e1, he1⟩ : ∃ e, (decide ((65 : Int) ≤ r)) = e := ⟨_, rfl⟩
  refine WpL_val rfl rfl (by decide) ((r_geq (k := .i64) (a := r) (b := 65) rfl rfl).trans (by rw [he1]; try rfl)) ?_
  refine WpL_val rfl rfl (by decide) (r_move (v := (.bool e1)) rfl) ?_
  refine WpL_guard_any (oj := _) (gv := (.bool e1)) (u := (bif e1 then (.int .i64 r) else undef)) rfl rfl (by decide) (by decide) rfl (by cases e1 <;> first | exact Or.inr ⟨Or.inl rfl, rfl⟩ | exact Or.inr ⟨Or.inr rfl, rfl⟩ | exact Or.inl ⟨rfl, r_move (v := (.int .i64 r)) rfl⟩) ?_
  obtain ⟨e2, he2⟩ : ∃ e, (decide ((r : Int) ≤ 90)) = e := ⟨_, rfl⟩
  refine WpL_guard_any (oj := _) (gv := (.bool e1)) (u := (bif e1 then (.bool e2) else undef)) rfl rfl (by decide) (by decide) rfl (by cases e1 <;> first | exact Or.inr ⟨Or.inl rfl, rfl⟩ | exact Or.inr ⟨Or.inr rfl, rfl⟩ | exact Or.inl ⟨rfl, (r_leq (k := .i64) (a := r) (b := 90) rfl rfl).trans (by rw [he2]; try rfl)⟩) ?_
  obtain ⟨e3, he3⟩ : ∃ e, (e1 && e2) = e := ⟨_, rfl⟩
  refine WpL_val rfl rfl (by decide) (r_pick (b := e1) (v := .bool e3) rfl (by rw [← he3]; cases e1 <;> rfl)) ?_
  refine WpL_val rfl rfl (by decide) (r_move (v := (.bool e3)) rfl) ?_
  refine WpL_guard_any (oj := _) (gv := (.bool e3)) (u := (bif e3 then undef else (.int .i64 r))) rfl rfl (by decide) (by decide) rfl (by cases e3 <;> first | exact Or.inr ⟨Or.inl rfl, rfl⟩ | exact Or.inr ⟨Or.inr rfl, rfl⟩ | exact Or.inl ⟨rfl, r_move (v := (.int .i64 r)) rfl⟩) ?_
  obtain ⟨e4, he4⟩ : ∃ e, (decide ((192 : Int) ≤ r)) = e := ⟨_, rfl⟩
  refine WpL_guard_any (oj := _) (gv := (.bool e3)) (u := (bif e3 then undef else (.bool e4))) rfl rfl (by decide) (by decide) rfl (by cases e3 <;> first | exact Or.inr ⟨Or.inl rfl, rfl⟩ | exact Or.inr ⟨Or.inr rfl, rfl⟩ | exact Or.inl ⟨rfl, (r_geq (k := .i64) (a := r) (b := 192) rfl rfl).trans (by rw [he4]; try rfl)⟩) ?_
  refine WpL_guard_any (oj := _) (gv := (.bool e3)) (u := (bif e3 then undef else (.bool e4))) rfl rfl (by decide) (by decide) rfl (by cases e3 <;> first | exact Or.inr ⟨Or.inl rfl, rfl⟩ | exact Or.inr ⟨Or.inr rfl, rfl⟩ | exact Or.inl ⟨rfl, r_move (v := (.bool e4)) rfl⟩) ?_
  refine WpL_guard_any (oj := _) (gv := (bif e3 then undef else (.bool e4))) (u := (bif e3 then undef else (bif e4 then (.int .i64 r) else undef))) rfl rfl (by decide) (by decide) rfl (by cases e3 <;> cases e4 <;> first | exact Or.inr ⟨Or.inl rfl, rfl⟩ | exact Or.inr ⟨Or.inr rfl, rfl⟩ | exact Or.inl ⟨rfl, r_move (v := (.int .i64 r)) rfl⟩) ?_
  obtain ⟨e5, he5⟩ : ∃ e, (decide ((r : Int) ≤ 222)) = e := ⟨_, rfl⟩
  refine WpL_guard_any (oj := _) (gv := (bif e3 then undef else (.bool e4))) (u := (bif e3 then undef else (bif e4 then (.bool e5) else undef))) rfl rfl (by decide) (by decide) rfl (by cases e3 <;> cases e4 <;> first | exact Or.inr ⟨Or.inl rfl, rfl⟩ | exact Or.inr ⟨Or.inr rfl, rfl⟩ | exact Or.inl ⟨rfl, (r_leq (k := .i64) (a := r) (b := 222) rfl rfl).trans (by rw [he5]; try rfl)⟩) ?_
  obtain ⟨e6, he6⟩ : ∃ e, (e4 && e5) = e := ⟨_, rfl⟩
  refine WpL_guard_any (oj := _) (gv := (.bool e3)) (u := (bif e3 then undef else (.bool e6))) rfl rfl (by decide) (by decide) rfl (by cases e3 <;> first | exact Or.inr ⟨Or.inl rfl, rfl⟩ | exact Or.inr ⟨Or.inr rfl, rfl⟩ | exact Or.inl ⟨rfl, r_pick (b := e4) (v := .bool e6) rfl (by rw [← he6]; cases e4 <;> rfl)⟩) ?_
  refine WpL_guard_any (oj := _) (gv := (.bool e3)) (u := (bif e3 then undef else (.bool e6))) rfl rfl (by decide) (by decide) rfl (by cases e3 <;> first | exact Or.inr ⟨Or.inl rfl, rfl⟩ | exact Or.inr ⟨Or.inr rfl, rfl⟩ | exact Or.inl ⟨rfl, r_move (v := (.bool e6)) rfl⟩) ?_
  refine WpL_guard_any (oj := _) (gv := (bif e3 then undef else (.bool e6))) (u := (bif e3 then undef else (bif e6 then (.int .i64 r) else undef))) rfl rfl (by decide) (by decide) rfl (by cases e3 <;> cases e6 <;> first | exact Or.inr ⟨Or.inl rfl, rfl⟩ | exact Or.inr ⟨Or.inr rfl, rfl⟩ | exact Or.inl ⟨rfl, r_move (v := (.int .i64 r)) rfl⟩) ?_
  obtain ⟨e7, he7⟩ : ∃ e, (decide ((r : Int) ≠ 215)) = e := ⟨_, rfl⟩
  refine WpL_guard_any (oj := _) (gv := (bif e3 then undef else (.bool e6))) (u := (bif e3 then undef else (bif e6 then (.bool e7) else undef))) rfl rfl (by decide) (by decide) rfl (by cases e3 <;> cases e6 <;> first | exact Or.inr ⟨Or.inl rfl, rfl⟩ | exact Or.inr ⟨Or.inr rfl, rfl⟩ | exact Or.inl ⟨rfl, (r_neq (k := .i64) (a := r) (b := 215) rfl rfl).trans (by rw [he7]; try rfl)⟩) ?_
  obtain ⟨e8, he8⟩ : ∃ e, (e6 && e7) = e := ⟨_, rfl⟩
  refine WpL_guard_any (oj := _) (gv := (.bool e3)) (u := (bif e3 then undef else (.bool e8))) rfl rfl (by decide) (by decide) rfl (by cases e3 <;> first | exact Or.inr ⟨Or.inl rfl, rfl⟩ | exact Or.inr ⟨Or.inr rfl, rfl⟩ | exact Or.inl ⟨rfl, r_pick (b := e6) (v := .bool e8) rfl (by rw [← he8]; cases e6 <;> rfl)⟩) ?_
  obtain ⟨e9, he9⟩ : ∃ e, (e3 || e8) = e := ⟨_, rfl⟩
  refine WpL_val rfl rfl (by decide) (r_pick (b := e3) (v := .bool e9) rfl (by rw [← he9]; cases e3 <;> rfl)) ?_
  refine WpL_val rfl rfl (by decide) (r_move (v := (.bool e9)) rfl) ?_
  refine WpL_guard_any (oj := _) (gv := (.bool e9)) (u := (bif e9 then undef else (.int .i64 r))) rfl rfl (by decide) (by decide) rfl (by cases e9 <;> first | exact Or.inr ⟨Or.inl rfl, rfl⟩ | exact Or.inr ⟨Or.inr rfl, rfl⟩ | exact Or.inl ⟨rfl, r_move (v := (.int .i64 r)) rfl⟩) ?_
  obtain ⟨e10, he10⟩ : ∃ e, (decide ((913 : Int) ≤ r)) = e := ⟨_, rfl⟩
  refine WpL_guard_any (oj := _) (gv := (.bool e9)) (u := (bif e9 then undef else (.bool e10))) rfl rfl (by decide) (by decide) rfl (by cases e9 <;> first | exact Or.inr ⟨Or.inl rfl, rfl⟩ | exact Or.inr ⟨Or.inr rfl, rfl⟩ | exact Or.inl ⟨rfl, (r_geq (k := .i64) (a := r) (b := 913) rfl rfl).trans (by rw [he10]; try rfl)⟩) ?_
  refine WpL_guard_any (oj := _) (gv := (.bool e9)) (u := (bif e9 then undef else (.bool e10))) rfl rfl (by decide) (by decide) rfl (by cases e9 <;> first | exact Or.inr ⟨Or.inl rfl, rfl⟩ | exact Or.inr ⟨Or.inr rfl, rfl⟩ | exact Or.inl ⟨rfl, r_move (v := (.bool e10)) rfl⟩) ?_
  refine WpL_guard_any (oj := _) (gv := (bif e9 then undef else (.bool e10))) (u := (bif e9 then undef else (bif e10 then (.int .i64 r) else undef))) rfl rfl (by decide) (by decide) rfl (by cases e9 <;> cases e10 <;> first | exact Or.inr ⟨Or.inl rfl, rfl⟩ | exact Or.inr ⟨Or.inr rfl, rfl⟩ | exact Or.inl ⟨rfl, r_move (v := (.int .i64 r)) rfl⟩) ?_
  obtain ⟨e11, he11⟩ : ∃ e, (decide ((r : Int) ≤ 939)) = e := ⟨_, rfl⟩
  refine WpL_guard_any (oj := _) (gv := (bif e9 then undef else (.bool e10))) (u := (bif e9 then undef else (bif e10 then (.bool e11) else undef))) rfl rfl (by decide) (by decide) rfl (by cases e9 <;> cases e10 <;> first | exact Or.inr ⟨Or.inl rfl, rfl⟩ | exact Or.inr ⟨Or.inr rfl, rfl⟩ | exact Or.inl ⟨rfl, (r_leq (k := .i64) (a := r) (b := 939) rfl rfl).trans (by rw [he11]; try rfl)⟩) ?_
  obtain ⟨e12, he12⟩ : ∃ e, (e10 && e11) = e := ⟨_, rfl⟩
  refine WpL_guard_any (oj := _) (gv := (.bool e9)) (u := (bif e9 then undef else (.bool e12))) rfl rfl (by decide) (by decide) rfl (by cases e9 <;> first | exact Or.inr ⟨Or.inl rfl, rfl⟩ | exact Or.inr ⟨Or.inr rfl, rfl⟩ | exact Or.inl ⟨rfl, r_pick (b := e10) (v := .bool e12) rfl (by rw [← he12]; cases e10 <;> rfl)⟩) ?_
  refine WpL_guard_any (oj := _) (gv := (.bool e9)) (u := (bif e9 then undef else (.bool e12))) rfl rfl (by decide) (by decide) rfl (by cases e9 <;> first | exact Or.inr ⟨Or.inl rfl, rfl⟩ | exact Or.inr ⟨Or.inr rfl, rfl⟩ | exact Or.inl ⟨rfl, r_move (v := (.bool e12)) rfl⟩) ?_
  refine WpL_guard_any (oj := _) (gv := (bif e9 then undef else (.bool e12))) (u := (bif e9 then undef else (bif e12 then (.int .i64 r) else undef))) rfl rfl (by decide) (by decide) rfl (by cases e9 <;> cases e12 <;> first | exact Or.inr ⟨Or.inl rfl, rfl⟩ | exact Or.inr ⟨Or.inr rfl, rfl⟩ | exact Or.inl ⟨rfl, r_move (v := (.int .i64 r)) rfl⟩) ?_
  obtain ⟨e13, he13⟩ : ∃ e, (decide ((r : Int) ≠ 930)) = e := ⟨_, rfl⟩
  refine WpL_guard_any (oj := _) (gv := (bif e9 then undef else (.bool e12))) (u := (bif e9 then undef else (bif e12 then (.bool e13) else undef))) rfl rfl (by decide) (by decide) rfl (by cases e9 <;> cases e12 <;> first | exact Or.inr ⟨Or.inl rfl, rfl⟩ | exact Or.inr ⟨Or.inr rfl, rfl⟩ | exact Or.inl ⟨rfl, (r_neq (k := .i64) (a := r) (b := 930) rfl rfl).trans (by rw [he13]; try rfl)⟩) ?_
  obtain ⟨e14, he14⟩ : ∃ e, (e12 && e13) = e := ⟨_, rfl⟩
  refine WpL_guard_any (oj := _) (gv := (.bool e9)) (u := (bif e9 then undef else (.bool e14))) rfl rfl (by decide) (by decide) rfl (by cases e9 <;> first | exact Or.inr ⟨Or.inl rfl, rfl⟩ | exact Or.inr ⟨Or.inr rfl, rfl⟩ | exact Or.inl ⟨rfl, r_pick (b := e12) (v := .bool e14) rfl (by rw [← he14]; cases e12 <;> rfl)⟩) ?_
  obtain ⟨e15, he15⟩ : ∃ e, (e9 || e14) = e := ⟨_, rfl⟩
  refine WpL_val rfl rfl (by decide) (r_pick (b := e9) (v := .bool e15) rfl (by rw [← he15]; cases e9 <;> rfl)) ?_
  refine WpL_val rfl rfl (by decide) (r_assign (v := (.bool e15)) rfl) ?_
  refine WpL_nil ?_
  subst he15
  subst he14
  subst he13
  subst he12
  subst he11
  subst he10
  subst he9
  subst he8
  subst he7
  subst he6
  subst he5
  subst he4
  subst he3
  subst he2
  subst he1
  refine Wp_ret ?_
  refine fin_tmp Tryd.results55 (v := (.bool ((((decide ((65 : Int) ≤ r)) && (decide ((r : Int) ≤ 90))) || (((decide ((192 : Int) ≤ r)) && (decide ((r : Int) ≤ 222))) && (decide ((r : Int) ≠ 215)))) || (((decide ((913 : Int) ≤ r)) && (decide ((r : Int) ≤ 939))) && (decide ((r : Int) ≠ 930)))))) rfl ?_
  exact ⟨bool_eq (by unfold upperB; rw [Bool.eq_iff_iff]; simp only [Bool.or_eq_true, Bool.and_eq_true, decide_eq_true_eq]; omega), E⟩
def orbitL (r : Int) : List Int :=
  if r = 181 ∨ r = 924 ∨ r = 956 then [181, 924, 956] else if r = 931 ∨ r = 962 ∨ r = 963 then [931, 962, 963] else if upperB r = true then [r, r + 32] else if upperB (r - 32) = true then [r - 32, r] else [r]
def triL (k : Nat) : List Int := if k = 0 then [181, 924, 956] else [931, 962, 963]
def IntsN (n0 : Nat) (w : World) (v : Value) (l : List Int) : Prop := (∃ a c, v = .slice a l.length c) ∧ SlIn (fun b => n0 ≤ b ∧ b < w.heap.size) w 1 v (l.map intV)
theorem IntsN.at {n0 : Nat} {w : World} {v : Value} {l : List Int} (h : IntsN n0 w v l) : IntsAt w v l := SlIn.at h.2
theorem ints_new {w : World} {b T n0 : Nat} (l : List Int) (h : Blk w b (l.map intV).flatten.toArray T) (hl : l.length ≤ 1000) (h0 : n0 ≤ b) : IntsN n0 w (.slice (some ⟨b, 0, none⟩) l.length l.length) l :=
  ⟨⟨_, _, rfl⟩, SlIn.mk (ints_of_blk l h (by omega) (Nat.le_refl _)) ⟨h0, h.lt⟩⟩
theorem tri_has (k : Nat) (r : Int) : (triL k).contains r = true ↔ (k = 0 ∧ (r = 181 ∨ r = 924 ∨ r = 956)) ∨ (k ≠ 0 ∧ (r = 931 ∨ r = 962 ∨ r = 963)) := by
  unfold triL
  split <;> rename_i h <;> simp [h]
set_option maxHeartbeats 1000000 in
theorem orbit_c (w0 : World) (r : Int) (hr : 0 ≤ r ∧ r ≤ 1114111) : Ret Tryd.prog 37 #[.int .i64 r] w0 fun v w => IntsN w0.heap.size w v (orbitL r) ∧ Ext w0 w := by
  refine Ret_of Tryd.func37 rfl Tryd.ntmps37 (Nat.le_of_ble_eq_true rfl) ?_
  have E : Chg none1 w0 w0 := Chg.refl _ _
  refine Wp_seq_region ?_
  refine WpL_val rfl rfl (by decide) (r_assign (v := (.slice none 0 0)) rfl) ?_
  refine WpL_nil ?_
  refine Wp_seq ?_
  refine Wp_seq_region ?_
  refine WpL_val rfl rfl (by decide) (r_build (ps := [(0, (.int .i64 181)), (1, (.int .i64 924)), (2, (.int .i64 956))]) (v := (.agg #[(.int .i64 181), (.int .i64 924), (.int .i64 956)])) rfl (by kernel_rfl)) ?_
  refine WpL_val rfl rfl (by decide) (r_build (ps := [(0, (.int .i64 931)), (1, (.int .i64 962)), (2, (.int .i64 963))]) (v := (.agg #[(.int .i64 931), (.int .i64 962), (.int .i64 963)])) rfl (by kernel_rfl)) ?_
  refine WpL_val rfl rfl (by decide) (r_build (ps := [(0, (.agg #[(.int .i64 181), (.int .i64 924), (.int .i64 956)])), (1, (.agg #[(.int .i64 931), (.int .i64 962), (.int .i64 963)]))]) (v := (.agg #[(.int .i64 181), (.int .i64 924), (.int .i64 956), (.int .i64 931), (.int .i64 962), (.int .i64 963)])) rfl (by kernel_rfl)) ?_
  refine WpL_val rfl rfl (by decide) (r_move (v := (.int .i64 0)) rfl) ?_
  refine WpL_nil ?_
  refine Wp_block ?_
  refine Wp_loop (fun nn_ σ W1 => ∃ (k : Nat), (∃ jj_, σ = upds jj_ [(0, (.int .i64 r)), (7, (.agg #[(.int .i64 181), (.int .i64 924), (.int .i64 956), (.int .i64 931), (.int .i64 962), (.int .i64 963)])), (8, (.int .i64 ((k : Nat) : Int)))]) ∧ Chg none1 w0 W1 ∧ (k ≤ 2) ∧ (0 < k → ¬ (r = 181 ∨ r = 924 ∨ r = 956)) ∧ (1 < k → ¬ (r = 931 ∨ r = 962 ∨ r = 963)) ∧ nn_ = 2 - k) (n := 2 - 0) ?_ ?_
  · exact ⟨0, Fits.out ⟨rfl, rfl, rfl, trivial⟩, E, (by omega), (fun h => absurd h (by omega)), (fun h => absurd h (by omega)), rfl⟩
  · clear E
    rintro _ _ W1 ⟨k, ⟨j1, rfl⟩, E, hk, h0, h1, rfl⟩
    refine Wp_seq_region ?_
    refine WpL_val rfl rfl (by decide) (r_lss (k := .i64) (a := ((k : Nat) : Int)) (b := 2) rfl rfl) ?_
    refine WpL_nil ?_
    refine Wp_seq ?_
    refine Wp_cond (b := decide ((((k : Nat) : Int) : Int) < 2)) rfl (fun hlt => ?_) (fun hlt => ?_)
    · have khlt := hlt
      replace hlt := of_decide_eq_true hlt
      obtain ⟨t1, t2, t3, ht⟩ : ∃ t1 t2 t3 : Int, triL k = [t1, t2, t3] := by unfold triL; split <;> exact ⟨_, _, _, rfl⟩
      refine Wp_skip ?_
      refine thn_normal ?_
      refine Wp_seq ?_
      refine Wp_block ?_
      refine Wp_seq_region ?_
      refine WpL_val rfl rfl (by decide) (r_indexV (i := k) (n := 3) (c' := #[.int .i64 t1, .int .i64 t2, .int .i64 t3]) Tryd.underlying114 siz113 agg113 rfl rfl rfl (by omega) (by rcases (show k = 0 ∨ k = 1 by omega) with rfl | rfl <;> (simp [triL] at ht; obtain ⟨rfl, rfl, rfl⟩ := ht; rfl))) ?_
      refine s_allocStore (v := (.agg #[(.int .i64 t1), (.int .i64 t2), (.int .i64 t3)])) (c := #[(.int .i64 t1), (.int .i64 t2), (.int .i64 t3)]) (n := 3) (by decide) zer113 rfl siz113 rfl rfl rfl (by simp [Value.oneCell']) ?_
      intro bq wq Nq
      have Fq := Nq.ge E
      replace E := E.ext Nq.ext
      have Bq := Nq.blk
      refine WpL_nil ?_
      refine Wp_seq_region ?_
      refine WpL_val rfl rfl (by decide) (r_sliceArr (b := bq) Tryd.underlying113 siz3 rfl) ?_
      have hq : IntsAt wq (.slice (some ⟨bq, 0, none⟩) 3 3) (triL k) := by rw [ht]; exact ints_of_blk [t1, t2, t3] Bq (by simp) (by simp)
      refine WpL_val rfl rfl (by decide) (r_move (v := (.int .i64 r)) rfl) ?_
      refine WpL_enter rfl rfl (by decide) (r_callF (vs := [(.slice (some ⟨bq, 0, none⟩) 3 3), (.int .i64 r)]) Tryd.func35 nm35 bd35 rfl) (hasi_c _ _ r (triL k) hq) ?_
      rintro _ w9 ⟨rfl, X9⟩
      replace Bq := X9.keep Bq
      replace E := E.ext X9
      refine WpL_nil ?_
      refine Wp_cond (b := (triL k).contains r) rfl (fun hin => ?_) (fun hin => ?_)
      · have khin := hin
        refine Wp_seq_region ?_
        refine WpL_val rfl rfl (by decide) (r_sliceArr (b := bq) Tryd.underlying113 siz3 rfl) ?_
        refine WpL_enter rfl rfl (by decide) (r_callF (vs := [(.slice (some ⟨bq, 0, none⟩) 3 3)]) Tryd.func16 nm16 bd16 rfl) (clonei_c _ _ (triL k) (hq.ext X9) (by rw [ht]; simp)) ?_
        rintro _ w8 ⟨ca, cc, rfl, hlc, hcl, X8⟩
        replace Bq := X8.keep Bq
        replace E := E.ext X8
        refine WpL_val rfl rfl (by decide) (r_assign (v := (.slice ca ((triL k).length) cc)) rfl) ?_
        refine WpL_nil ?_
        refine Wp_ret ?_
        refine inB_ret ?_
        refine thn_ret ?_
        refine thn_ret ?_
        refine inB_ret ?_
        refine thn_ret ?_
        refine fin_tmp Tryd.results37 (v := (.slice ca ((triL k).length) cc)) rfl ?_
        have hin2 := (tri_has k r).1 hin
        have he : orbitL r = triL k := by
          unfold orbitL
          rcases hin2 with ⟨hk0, h2⟩ | ⟨hk0, h2⟩
          · rw [if_pos h2, hk0]; rfl
          · rw [if_neg (h0 (by omega)), if_pos h2]; unfold triL; rw [if_neg hk0]
        refine ⟨⟨⟨ca, cc, by rw [he]⟩, ?_⟩, E⟩
        rw [he]
        rcases hcl with hn | ⟨b, rest, rfl, hge, hB⟩
        · rw [ht] at hn; cases hn
        · exact SlIn.mk (ints_own hB hlc (by rw [ht]; simp)) ⟨by have := Fq; have := X9.size; have := Nq.eq; have := Nq.size; omega, hB.lt⟩
      · have khin := hin
        have hin2 : ¬ ((k = 0 ∧ (r = 181 ∨ r = 924 ∨ r = 956)) ∨ (k ≠ 0 ∧ (r = 931 ∨ r = 962 ∨ r = 963))) := fun hh => by have := (tri_has k r).2 hh; rw [hin] at this; cases this
        refine Wp_skip ?_
        refine inB_normal ?_
        refine thn_normal ?_
        refine Wp_region ?_
        refine WpL_val rfl rfl (by decide) (r_add (k := .i64) (a := ((k : Nat) : Int)) (b := 1) (c := ((k : Nat) : Int) + 1) rfl rfl (wI64 (by omega))) ?_
        refine WpL_val rfl rfl (by decide) (r_move (v := (.int .i64 (((k : Nat) : Int) + 1))) rfl) ?_
        refine WpL_nil ?_
        refine thn_normal ?_
        exact ⟨2 - (k + 1), by omega, k + 1, Fits.out ⟨rfl, rfl, rfl, trivial⟩, E, (by omega), (fun _ => by omega), (fun _ => by omega), rfl⟩
    · have khlt := hlt
      replace hlt := of_decide_eq_false hlt
      have hk2 : k = 2 := by omega
      have q0 := h0 (by omega)
      have q1 := h1 (by omega)
      refine Wp_exit ?_
      refine thn_exit ?_
      refine thn_exit ?_
      refine inB_here ?_
      refine thn_normal ?_
      refine Wp_seq ?_
      refine Wp_block ?_
      refine Wp_seq_region ?_
      refine WpL_val rfl rfl (by decide) (r_move (v := (.int .i64 r)) rfl) ?_
      refine WpL_enter rfl rfl (by decide) (r_callF (vs := [(.int .i64 r)]) Tryd.func55 nm55 bd55 rfl) (upper_c _ r) ?_
      rintro _ w9 ⟨rfl, X9⟩
      replace E := E.ext X9
      refine WpL_val rfl rfl (by decide) (r_assign (v := (.bool (upperB r))) rfl) ?_
      refine WpL_nil ?_
      refine Wp_cond (b := upperB r) rfl (fun hu => ?_) (fun hu => ?_)
      · have khu := hu
        refine Wp_seq_region ?_
        refine WpL_val rfl rfl (by decide) (r_move (v := (.int .i64 r)) rfl) ?_
        refine WpL_val rfl rfl (by decide) (r_move (v := (.int .i64 r)) rfl) ?_
        refine WpL_val rfl rfl (by decide) (r_add (k := .i64) (a := r) (b := 32) (c := r + 32) rfl rfl (wI64 (by omega))) ?_
        refine s_buildSlice (ps := [(0, (.int .i64 r)), (1, (.int .i64 (r + 32)))]) (c := #[(.int .i64 r), (.int .i64 (r + 32))]) (by decide) rfl Tryd.underlying22 siz3 zer3 (by decide) (by decide) (by kernel_rfl) ?_
        intro bq wq Nq
        have Fq := Nq.ge E
        replace E := E.ext Nq.ext
        have Bq := Nq.blk
        refine WpL_val rfl rfl (by decide) (r_assign (v := (.slice (some ⟨bq, 0, none⟩) 2 2)) rfl) ?_
        refine WpL_nil ?_
        refine Wp_ret ?_
        refine inB_ret ?_
        refine thn_ret ?_
        refine fin_tmp Tryd.results37 (v := (.slice (some ⟨bq, 0, none⟩) 2 2)) rfl ?_
        have he : orbitL r = [r, r + 32] := by unfold orbitL; rw [if_neg q0, if_neg q1, if_pos hu]
        rw [he]
        exact ⟨ints_new [r, r + 32] Bq (by simp) Fq, E⟩
      · have khu := hu
        refine Wp_seq_region ?_
        refine WpL_val rfl rfl (by decide) (r_move (v := (.int .i64 r)) rfl) ?_
        refine WpL_val rfl rfl (by decide) (r_sub (k := .i64) (a := r) (b := 32) (c := r - 32) rfl rfl (wI64 (by omega))) ?_
        refine WpL_enter rfl rfl (by decide) (r_callF (vs := [(.int .i64 (r - 32))]) Tryd.func55 nm55 bd55 rfl) (upper_c _ (r - 32)) ?_
        rintro _ w8 ⟨rfl, X8⟩
        replace E := E.ext X8
        refine WpL_val rfl rfl (by decide) (r_assign (v := (.bool (upperB (r - 32)))) rfl) ?_
        refine WpL_nil ?_
        refine Wp_cond (b := upperB (r - 32)) rfl (fun hv => ?_) (fun hv => ?_)
        · have khv := hv
          refine Wp_seq_region ?_
          refine WpL_val rfl rfl (by decide) (r_move (v := (.int .i64 r)) rfl) ?_
          refine WpL_val rfl rfl (by decide) (r_sub (k := .i64) (a := r) (b := 32) (c := r - 32) rfl rfl (wI64 (by omega))) ?_
          refine WpL_val rfl rfl (by decide) (r_move (v := (.int .i64 r)) rfl) ?_
          refine s_buildSlice (ps := [(0, (.int .i64 (r - 32))), (1, (.int .i64 r))]) (c := #[(.int .i64 (r - 32)), (.int .i64 r)]) (by decide) rfl Tryd.underlying22 siz3 zer3 (by decide) (by decide) (by kernel_rfl) ?_
          intro bq wq Nq
          have Fq := Nq.ge E
          replace E := E.ext Nq.ext
          have Bq := Nq.blk
          refine WpL_val rfl rfl (by decide) (r_assign (v := (.slice (some ⟨bq, 0, none⟩) 2 2)) rfl) ?_
          refine WpL_nil ?_
          refine Wp_ret ?_
          refine inB_ret ?_
          refine thn_ret ?_
          refine fin_tmp Tryd.results37 (v := (.slice (some ⟨bq, 0, none⟩) 2 2)) rfl ?_
          have he : orbitL r = [r - 32, r] := by unfold orbitL; rw [if_neg q0, if_neg q1, if_neg (by simp [hu]), if_pos hv]
          rw [he]
          exact ⟨ints_new [r - 32, r] Bq (by simp) Fq, E⟩
        · have khv := hv
          refine Wp_skip ?_
          refine inB_normal ?_
          refine thn_normal ?_
          refine Wp_seq_region ?_
          refine WpL_val rfl rfl (by decide) (r_move (v := (.int .i64 r)) rfl) ?_
          refine s_buildSlice (ps := [(0, (.int .i64 r))]) (c := #[(.int .i64 r)]) (by decide) rfl Tryd.underlying22 siz3 zer3 (by decide) (by decide) (by kernel_rfl) ?_
          intro bq wq Nq
          have Fq := Nq.ge E
          replace E := E.ext Nq.ext
          have Bq := Nq.blk
          refine WpL_val rfl rfl (by decide) (r_assign (v := (.slice (some ⟨bq, 0, none⟩) 1 1)) rfl) ?_
          refine WpL_nil ?_
          refine Wp_ret ?_
          refine fin_tmp Tryd.results37 (v := (.slice (some ⟨bq, 0, none⟩) 1 1)) rfl ?_
          have he : orbitL r = [r] := by unfold orbitL; rw [if_neg q0, if_neg q1, if_neg (by simp [hu]), if_neg (by simp [hv])]
          rw [he]
          exact ⟨ints_new [r] Bq (by simp) Fq, E⟩
def orbOk (n : Nat) : Bool := ((orbitL n).all fun x => decide (0 ≤ x) && decide (x < 1000) && decide (orbitL x = orbitL n)) && (orbitL n).contains (n : Int)
theorem orb_fin : (List.range 1000).all orbOk = true := by decide +kernel
theorem orb_lt {n : Nat} (h : n < 1000) : orbOk n = true := List.all_eq_true.1 orb_fin n (List.mem_range.2 h)
theorem orb_big {r : Int} (h : 1000 ≤ r) : orbitL r = [r] := by
  have h1 : upperB r = false := by unfold upperB; rw [decide_eq_false_iff_not]; omega
  have h2 : upperB (r - 32) = false := by unfold upperB; rw [decide_eq_false_iff_not]; omega
  unfold orbitL
  rw [if_neg (by omega), if_neg (by omega), h1, h2]; rfl
theorem orb_self {r : Int} (h : 0 ≤ r) : r ∈ orbitL r := by
  rcases ltLe r 1000 with h1 | h1
  · obtain ⟨n, rfl⟩ := Int.eq_ofNat_of_zero_le h
    have h2 := orb_lt (n := n) (by omega)
    unfold orbOk at h2
    rw [Bool.and_eq_true] at h2
    simpa using h2.2
  · rw [orb_big h1]; simp
theorem orb_same {r x : Int} (h : 0 ≤ r) (hx : x ∈ orbitL r) : orbitL x = orbitL r ∧ 0 ≤ x ∧ (r < 1000 → x < 1000) ∧ (1000 ≤ r → x = r) := by
  rcases ltLe r 1000 with h1 | h1
  · obtain ⟨n, rfl⟩ := Int.eq_ofNat_of_zero_le h
    have h2 := orb_lt (n := n) (by omega)
    unfold orbOk at h2
    rw [Bool.and_eq_true] at h2
    have h3 := List.all_eq_true.1 h2.1 x hx
    simp only [Bool.and_eq_true, decide_eq_true_eq] at h3
    exact ⟨h3.2, h3.1.1, fun _ => h3.1.2, fun h4 => by omega⟩
  · rw [orb_big h1, List.mem_singleton] at hx
    subst hx
    exact ⟨rfl, h, fun h4 => by omega, fun _ => rfl⟩
theorem orb_len (r : Int) : (orbitL r).length ≤ 3 := by
  unfold orbitL; (repeat' split) <;> simp
def pts (l : List Int) : List Sp := l.map fun x => (x, x)
def clo (l : List Sp) (n : Nat) : List Sp := (List.range n).flatMap fun r => if inS l ((r : Nat) : Int) then pts (orbitL ((r : Nat) : Int)) else []
theorem clo_succ (l : List Sp) (n : Nat) : clo l (n + 1) = clo l n ++ if inS l ((n : Nat) : Int) then pts (orbitL ((n : Nat) : Int)) else [] := by
  unfold clo; rw [List.range_succ, List.flatMap_append]; simp
theorem clo_len (l : List Sp) : ∀ n, (clo l n).length ≤ 3 * n
  | 0 => by simp [clo]
  | n + 1 => by
    have h1 := clo_len l n
    have h2 := orb_len ((n : Nat) : Int)
    rw [clo_succ, List.length_append]
    split
    · simp only [pts, List.length_map]; omega
    · simp only [List.length_nil]; omega
def closeAll (l : List Sp) : List Sp := l ++ clo l 1000
theorem mem_pts {l : List Int} {s : Sp} : s ∈ pts l ↔ s.1 ∈ l ∧ s.2 = s.1 := by
  unfold pts
  rw [List.mem_map]
  constructor
  · rintro ⟨x, hx, rfl⟩; exact ⟨hx, rfl⟩
  · rintro ⟨h1, h2⟩; exact ⟨s.1, h1, Prod.ext rfl h2.symm⟩
theorem mem_clo {l : List Sp} {s : Sp} {n : Nat} : s ∈ clo l n ↔ ∃ q : Nat, q < n ∧ inS l ((q : Nat) : Int) = true ∧ s.1 ∈ orbitL ((q : Nat) : Int) ∧ s.2 = s.1 := by
  unfold clo
  rw [List.mem_flatMap]
  constructor
  · rintro ⟨q, hq, h⟩
    split at h
    · rename_i h1; obtain ⟨h2, h3⟩ := mem_pts.1 h; exact ⟨q, List.mem_range.1 hq, h1, h2, h3⟩
    · cases h
  · rintro ⟨q, hq, h1, h2, h3⟩
    refine ⟨q, List.mem_range.2 hq, ?_⟩
    rw [if_pos h1]; exact mem_pts.2 ⟨h2, h3⟩
theorem inS_close {l : List Sp} {r : Int} : inS (closeAll l) r = true ↔ inS l r = true ∨ ∃ q : Nat, q < 1000 ∧ inS l ((q : Nat) : Int) = true ∧ r ∈ orbitL ((q : Nat) : Int) := by
  unfold closeAll
  rw [inS_append, Bool.or_eq_true]
  refine or_congr Iff.rfl ?_
  rw [inS_iff]
  constructor
  · rintro ⟨s, hs, h1, h2⟩
    obtain ⟨q, hq, h3, h4, h5⟩ := mem_clo.1 hs
    have : s.1 = r := by omega
    exact ⟨q, hq, h3, this ▸ h4⟩
  · rintro ⟨q, hq, h3, h4⟩
    exact ⟨(r, r), mem_clo.2 ⟨q, hq, h3, h4, rfl⟩, Int.le_refl _, Int.le_refl _⟩
theorem close_ok {l : List Sp} (h : Canon l) : ∀ s ∈ closeAll l, vSp s := by
  intro s hs
  rcases List.mem_append.1 hs with hs | hs
  · exact h.ok s hs
  · obtain ⟨q, hq, h3, h4, h5⟩ := mem_clo.1 hs
    have h6 := orb_same (by omega) h4
    have := h6.2.2.1 (by omega)
    unfold vSp; omega
theorem close_orb {l : List Sp} (h : Canon l) {r : Int} (h0 : 0 ≤ r) : inS (closeAll l) r = (orbitL r).any (inS l) := by
  rw [Bool.eq_iff_iff, inS_close, List.any_eq_true]
  constructor
  · rintro (h1 | ⟨q, hq, h1, h2⟩)
    · exact ⟨r, orb_self h0, h1⟩
    · refine ⟨((q : Nat) : Int), ?_, h1⟩
      rw [(orb_same (by omega) h2).1]; exact orb_self (by omega)
  · rintro ⟨c, hc, h1⟩
    obtain ⟨h2, h3, h4, h5⟩ := orb_same h0 hc
    rcases ltLe r 1000 with h6 | h6
    · right
      obtain ⟨n, rfl⟩ := Int.eq_ofNat_of_zero_le h3
      exact ⟨n, by have := h4 h6; omega, h1, by rw [h2]; exact orb_self h0⟩
    · left; rw [← h5 h6]; exact h1
def closeP (a out : List Sp) (e : Int) : Prop := (checkE a ≠ 0 ∧ e = checkE a ∧ out = []) ∨ (checkE a = 0 ∧ ∃ j, IsSet j (inS (closeAll a)) ∧ fitsP j out e)
theorem pts_take {l : List Int} {i : Nat} {x : Int} (h : l[i]? = some x) : pts (l.take (i + 1)) = pts (l.take i) ++ [(x, x)] := by
  unfold pts; rw [List.take_add_one, h]; simp
def orbV (r : Int) : List Int × Int := if runeB r = false then ([], 1) else (orbitL r, 0)
theorem Orbit_c (w0 : World) (r : Int) : Ret Tryd.prog 17 #[.int .i64 r] w0 fun v w => (∃ a c, v = .tuple #[.slice a (orbV r).1.length c, .int .i64 (orbV r).2] ∧ IntsAt w (.slice a (orbV r).1.length c) (orbV r).1) ∧ Ext w0 w := by
  refine Ret_of Tryd.func17 rfl Tryd.ntmps17 (Nat.le_of_ble_eq_true rfl) ?_
  have E : Chg none1 w0 w0 := Chg.refl _ _
  refine Wp_seq_region ?_
  refine WpL_val rfl rfl (by decide) (r_assign (v := (.slice none 0 0)) rfl) ?_
  refine WpL_val rfl rfl (by decide) (r_assign (v := (.int .i64 0)) rfl) ?_
  refine WpL_nil ?_
  refine Wp_seq ?_
  refine Wp_seq_region ?_
  refine WpL_val rfl rfl (by decide) (r_move (v := (.int .i64 r)) rfl) ?_
  refine WpL_enter rfl rfl (by decide) (r_callF (vs := [(.int .i64 r)]) Tryd.func36 nm36 bd36 rfl) (rune_c r _) ?_
  rintro _ w8 ⟨rfl, X8⟩
  replace E := E.ext X8
  refine WpL_val rfl rfl (by decide) (r_not (b := runeB r) rfl) ?_
  refine WpL_nil ?_
  refine Wp_cond (b := !(runeB r)) rfl (fun h1 => ?_) (fun h1 => ?_)
  · have kh1 := h1
    replace h1 := by simpa using h1
    refine Wp_seq_region ?_
    refine WpL_val rfl rfl (by decide) (r_assign (v := (.slice none 0 0)) rfl) ?_
    refine WpL_val rfl rfl (by decide) (r_assign (v := (.int .i64 1)) rfl) ?_
    refine WpL_nil ?_
    refine Wp_ret ?_
    refine thn_ret ?_
    refine fin_tmp2 Tryd.results17 (v := (.slice none 0 0)) (v' := (.int .i64 1)) rfl rfl ?_
    unfold orbV; rw [if_pos h1]; exact ⟨⟨none, 0, rfl, SlAt.nil _ _ _ _⟩, E⟩
  · have kh1 := h1
    replace h1 := by simpa using h1
    have hr : 0 ≤ r ∧ r ≤ 1114111 := by unfold runeB at h1; simp at h1; omega
    refine Wp_skip ?_
    refine thn_normal ?_
    refine Wp_seq_region ?_
    refine WpL_val rfl rfl (by decide) (r_move (v := (.int .i64 r)) rfl) ?_
    refine WpL_enter rfl rfl (by decide) (r_callF (vs := [(.int .i64 r)]) Tryd.func37 nm37 bd37 rfl) (orbit_c _ r hr) ?_
    rintro _ w6 ⟨⟨⟨oa, oc, rfl⟩, hor⟩, X6⟩
    replace E := E.ext X6
    refine WpL_val rfl rfl (by decide) (r_assign (v := (.slice oa ((orbitL r).length) oc)) rfl) ?_
    refine WpL_val rfl rfl (by decide) (r_assign (v := (.int .i64 0)) rfl) ?_
    refine WpL_nil ?_
    refine Wp_ret ?_
    refine fin_tmp2 Tryd.results17 (v := (.slice oa ((orbitL r).length) oc)) (v' := (.int .i64 0)) rfl rfl ?_
    unfold orbV; rw [if_neg (by simp [h1])]; exact ⟨⟨oa, oc, rfl, SlIn.at hor⟩, E⟩
theorem Orbit_ok (w0 : World) (r : Int) (hr : 0 ≤ r ∧ r ≤ 1114111) : Ret Tryd.prog 17 #[.int .i64 r] w0 fun v w => (∃ a c, v = .tuple #[.slice a (orbitL r).length c, .int .i64 0] ∧ IntsAt w (.slice a (orbitL r).length c) (orbitL r)) ∧ Ext w0 w :=
  (Orbit_c w0 r).mono fun v w h => by
    have e : orbV r = (orbitL r, 0) := by unfold orbV; rw [if_neg (by unfold runeB; simp; omega)]
    rw [e] at h; exact h
end Go.Proofs
