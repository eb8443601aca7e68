/- Contracts and plain lemmas, part 3. -/
import Derived.Tactics
import Derived.Deep.Quiet
import Derived.Laws.AppendOwn
import Derived.KernelRfl
import Derived.Laws.Entries
import Derived.Laws.Build
import Derived.Below
import Derived.RowKit3
import Derived.StillTail
import Derived.Sort.Grow
import Derived.Deep.Draws
import Derived.Test.YtgifkdbbgffemaaDoorChecked
import Derived.Laws.StructEq
import Derived.MapKept
import Derived.Laws.BytesArg
import Derived.DeepKeys3
import Derived.Test.YtgifkdbbgffemaaDoorCx2
namespace Go.Proofs
open Go Go.Eng
set_option maxRecDepth 100000
theorem get_midI {α : Type} {l r : List α} {x : α} {n : Nat} (h : l.length = n) : (l ++ x :: r)[n]? = some x := by
  rw [List.getElem?_append_right (by omega), h, Nat.sub_self]; rfl
theorem set_midI {α : Type} {l r : List α} {x y : α} {n : Nat} (h : l.length = n) : (l ++ x :: r).set n y = l ++ y :: r := by
  rw [List.set_append_right _ _ (by omega), h, Nat.sub_self]; rfl
def patW (g : Nat → Ins) (C : List Ins) (l : List Nat) : List Ins := l.foldl (fun c k => c.set k (g k)) C
theorem patW_len (g : Nat → Ins) : ∀ (l : List Nat) (C : List Ins), (patW g C l).length = C.length
  | [], _ => rfl
  | k :: l, C => by
    have := patW_len g l (C.set k (g k))
    simpa [patW] using this
theorem patW_get (g : Nat → Ins) {k : Nat} : ∀ (l : List Nat) (C : List Ins), k ∉ l → (patW g C l)[k]? = C[k]?
  | [], _, _ => rfl
  | q :: l, C, h => by
    have h1 : k ≠ q := fun e => h (by simp [e])
    have := patW_get g (k := k) l (C.set q (g q)) (fun hk => h (List.mem_cons_of_mem _ hk))
    rw [show patW g C (q :: l) = patW g (C.set q (g q)) l from rfl, this, List.getElem?_set, if_neg (fun e => h1 e.symm)]
theorem patW_snoc (g : Nat → Ins) (C : List Ins) (l : List Nat) (k : Nat) : patW g C (l ++ [k]) = (patW g C l).set k (g k) := by
  unfold patW
  rw [List.foldl_append]; rfl
theorem patW_take {g : Nat → Ins} {C : List Ins} {l : List Nat} {i k : Nat} (h : l[i]? = some k) : patW g C (l.take (i + 1)) = (patW g C (l.take i)).set k (g k) := by
  rw [List.take_add_one, h, Option.toList_some, patW_snoc]
/-- A list of numbers that rise, all below a bound. -/
def Rise : Nat → List Nat → Prop
  | _, [] => True
  | a, k :: l => a ≤ k ∧ Rise (k + 1) l
theorem Rise.mono {a b : Nat} (h : a ≤ b) : ∀ {l : List Nat}, Rise b l → Rise a l
  | [], _ => trivial
  | _ :: _, hr => ⟨Nat.le_trans h hr.1, hr.2⟩
theorem Rise.ge : ∀ {l : List Nat} {a : Nat}, Rise a l → ∀ k ∈ l, a ≤ k
  | _ :: l, a, h, k, hk => by
    rcases List.mem_cons.1 hk with rfl | hk
    · exact h.1
    · have := Rise.ge h.2 k hk; have := h.1; omega
theorem Rise.fresh : ∀ {l : List Nat} {a i k : Nat}, Rise a l → l[i]? = some k → k ∉ l.take i
  | [], _, _, _, _, h => by simp at h
  | q :: l, a, 0, k, _, _ => by simp
  | q :: l, a, i + 1, k, hr, h => by
    have h1 := Rise.fresh hr.2 (i := i) (k := k) (by simpa using h)
    have h2 := Rise.ge hr.2 k (List.mem_of_getElem? (by simpa using h))
    rw [List.take_succ_cons, List.mem_cons]
    rintro (h3 | h3)
    · omega
    · exact h1 h3
def itI (f : Frg) : Nat → Nat → Nat → Nat → List Nat
  | 0, _, _, _ => []
  | n + 1, a, d, t => a :: itI f n (a + 2 + (f (a + 2) (d + 1) t).1.length + 1) d (f (a + 2) (d + 1) t).2
theorem itF_step (e : Nat) (f : Frg) : ∀ (j a d t : Nat), itF e f (j + 1) a d t = ((itF e f j a d t).1 ++ (.split (a + (itF e f j a d t).1.length + 1) e :: .ent (d + 1) :: ((f (a + (itF e f j a d t).1.length + 2) (d + 1) (itF e f j a d t).2).1 ++ [.chk (d + 1)])), (f (a + (itF e f j a d t).1.length + 2) (d + 1) (itF e f j a d t).2).2)
  | 0, a, d, t => by simp [itF]
  | j + 1, a, d, t => by
    have ih := itF_step e f j (a + 2 + (f (a + 2) (d + 1) t).1.length + 1) d (f (a + 2) (d + 1) t).2
    rw [itF, ih]
    simp only [itF, List.cons_append, List.append_assoc, List.length_cons, List.length_append]
    have e1 : ∀ q : Nat, a + 2 + (f (a + 2) (d + 1) t).1.length + 1 + q = a + ((f (a + 2) (d + 1) t).1.length + (q + 1) + 1 + 1) := fun q => by omega
    simp only [e1]
theorem itI_step (f : Frg) : ∀ (j a d t : Nat), itI f (j + 1) a d t = itI f j a d t ++ [a + (itF 0 f j a d t).1.length]
  | 0, a, d, t => by simp [itI, itF]
  | j + 1, a, d, t => by
    have ih := itI_step f j (a + 2 + (f (a + 2) (d + 1) t).1.length + 1) d (f (a + 2) (d + 1) t).2
    rw [itI, ih]
    simp only [itI, itF, List.cons_append, List.length_cons, List.length_append]
    congr 3
    omega
theorem itI_len (f : Frg) : ∀ (n a d t : Nat), (itI f n a d t).length = n
  | 0, _, _, _ => rfl
  | n + 1, a, d, t => by simp [itI, itI_len f n]
theorem itI_rise (f : Frg) : ∀ (n a d t : Nat), Rise a (itI f n a d t)
  | 0, _, _, _ => trivial
  | n + 1, a, d, t => ⟨Nat.le_refl _, (itI_rise f n _ d _).mono (by omega)⟩
theorem itI_get (f : Frg) : ∀ (n a d t : Nat) (pre : List Ins), pre.length = a → ∀ k ∈ itI f n a d t, (pre ++ (itF 0 f n a d t).1)[k]? = some (.split (k + 1) 0)
  | 0, _, _, _, _, _, k, h => by simp [itI] at h
  | n + 1, a, d, t, pre, hp, k, h => by
    simp only [itI, List.mem_cons] at h
    simp only [itF]
    rcases h with rfl | h
    · rw [List.getElem?_append_right (by omega), hp, Nat.sub_self]; rfl
    · have ih := itI_get f n _ d _ (pre ++ (.split (a + 1) 0 :: .ent (d + 1) :: ((f (a + 2) (d + 1) t).1 ++ [.chk (d + 1)]))) (by simp [hp]; omega) k h
      rw [← ih]
      simp
theorem itI_pat (f : Frg) (e : Nat) : ∀ (n a d t : Nat) (pre : List Ins), pre.length = a → patW (fun k => .split (k + 1) e) (pre ++ (itF 0 f n a d t).1) (itI f n a d t) = pre ++ (itF e f n a d t).1
  | 0, _, _, _, _, _ => by simp [itI, itF, patW]
  | n + 1, a, d, t, pre, hp => by
    simp only [itI, itF]
    have ih := itI_pat f e n _ d (f (a + 2) (d + 1) t).2 (pre ++ (.split (a + 1) e :: .ent (d + 1) :: ((f (a + 2) (d + 1) t).1 ++ [.chk (d + 1)]))) (show _ = a + 2 + (f (a + 2) (d + 1) t).1.length + 1 by simp [hp]; omega)
    have h1 : ∀ (x : Ins) (l : List Ins), (pre ++ x :: l).set a (.split (a + 1) e) = pre ++ .split (a + 1) e :: l := fun x l => by rw [List.set_append_right _ _ (by omega), hp, Nat.sub_self]; rfl
    show patW _ ((pre ++ _).set a _) _ = _
    rw [h1]
    simpa using ih
def altP (e : Nat) : List Frg → Frg
  | [], _, _, t => ([], t)
  | f :: fs, a, d, t => let r := f (a + 1) d t; let n := a + 1 + r.1.length + 1; let s := altP e fs n d r.2; (.split (a + 1) n :: (r.1 ++ .jump e :: s.1), s.2)
def altI : List Frg → Nat → Nat → Nat → List Nat
  | [], _, _, _ => []
  | f :: fs, a, d, t => (a + 1 + (f (a + 1) d t).1.length) :: altI fs (a + 1 + (f (a + 1) d t).1.length + 1) d (f (a + 1) d t).2
theorem altP_len (e e' : Nat) : ∀ (L : List Frg) (a d t : Nat), (altP e L a d t).1.length = (altP e' L a d t).1.length ∧ (altP e L a d t).2 = (altP e' L a d t).2
  | [], _, _, _ => ⟨rfl, rfl⟩
  | f :: fs, a, d, t => by
    obtain ⟨h1, h2⟩ := altP_len e e' fs (a + 1 + (f (a + 1) d t).1.length + 1) d (f (a + 1) d t).2
    simp only [altP, List.length_cons, List.length_append]
    exact ⟨by rw [h1], h2⟩
theorem altF_last (e : Nat) (g : Frg) : ∀ (L : List Frg) (a d t : Nat), altF e (L ++ [g]) a d t = ((altP e L a d t).1 ++ (g (a + (altP e L a d t).1.length) d (altP e L a d t).2).1, (g (a + (altP e L a d t).1.length) d (altP e L a d t).2).2)
  | [], a, d, t => by simp [altF, altP]
  | [f], a, d, t => by
    simp only [List.cons_append, List.nil_append, altF, altP, List.length_cons, List.length_append, List.length_nil, List.append_assoc]
    have e1 : a + 1 + (f (a + 1) d t).1.length + 1 = a + ((f (a + 1) d t).1.length + (0 + 1) + 1) := by omega
    simp only [e1]
  | f :: f2 :: L, a, d, t => by
    have ih := altF_last e g (f2 :: L) (a + 1 + (f (a + 1) d t).1.length + 1) d (f (a + 1) d t).2
    rw [List.cons_append] at ih
    rw [List.cons_append, List.cons_append, altF, ih, show altP e (f :: f2 :: L) a d t = (.split (a + 1) (a + 1 + (f (a + 1) d t).1.length + 1) :: ((f (a + 1) d t).1 ++ .jump e :: (altP e (f2 :: L) (a + 1 + (f (a + 1) d t).1.length + 1) d (f (a + 1) d t).2).1), (altP e (f2 :: L) (a + 1 + (f (a + 1) d t).1.length + 1) d (f (a + 1) d t).2).2) from rfl]
    obtain ⟨s, hs⟩ : ∃ s, altP e (f2 :: L) (a + 1 + (f (a + 1) d t).1.length + 1) d (f (a + 1) d t).2 = s := ⟨_, rfl⟩
    rw [hs]
    dsimp only
    simp only [List.cons_append, List.append_assoc, List.length_cons, List.length_append]
    rw [show a + 1 + (f (a + 1) d t).1.length + 1 + s.1.length = a + ((f (a + 1) d t).1.length + (s.1.length + 1) + 1) by omega]
theorem altP_step (e : Nat) (f : Frg) : ∀ (L : List Frg) (a d t : Nat), altP e (L ++ [f]) a d t = ((altP e L a d t).1 ++ (.split (a + (altP e L a d t).1.length + 1) (a + (altP e L a d t).1.length + 1 + (f (a + (altP e L a d t).1.length + 1) d (altP e L a d t).2).1.length + 1) :: ((f (a + (altP e L a d t).1.length + 1) d (altP e L a d t).2).1 ++ [.jump e])), (f (a + (altP e L a d t).1.length + 1) d (altP e L a d t).2).2)
  | [], a, d, t => by simp [altP]
  | g :: L, a, d, t => by
    have ih := altP_step e f L (a + 1 + (g (a + 1) d t).1.length + 1) d (g (a + 1) d t).2
    rw [List.cons_append, altP, ih, altP]
    simp only [List.cons_append, List.append_assoc, List.length_cons, List.length_append]
    have e1 : ∀ q : Nat, a + 1 + (g (a + 1) d t).1.length + 1 + q = a + ((g (a + 1) d t).1.length + (q + 1) + 1) := fun q => by omega
    simp only [e1]
theorem altI_step (f : Frg) : ∀ (L : List Frg) (a d t : Nat), altI (L ++ [f]) a d t = altI L a d t ++ [a + (altP 0 L a d t).1.length + 1 + (f (a + (altP 0 L a d t).1.length + 1) d (altP 0 L a d t).2).1.length]
  | [], a, d, t => by simp [altI, altP]
  | g :: L, a, d, t => by
    have ih := altI_step f L (a + 1 + (g (a + 1) d t).1.length + 1) d (g (a + 1) d t).2
    rw [List.cons_append, altI, ih, altI]
    simp only [altP, List.cons_append, List.length_cons, List.length_append]
    have e1 : ∀ q : Nat, a + 1 + (g (a + 1) d t).1.length + 1 + q = a + ((g (a + 1) d t).1.length + (q + 1) + 1) := fun q => by omega
    simp only [e1]
theorem altI_len : ∀ (L : List Frg) (a d t : Nat), (altI L a d t).length = L.length
  | [], _, _, _ => rfl
  | f :: L, a, d, t => by simp [altI, altI_len L]
theorem altI_rise : ∀ (L : List Frg) (a d t : Nat), Rise a (altI L a d t)
  | [], _, _, _ => trivial
  | f :: L, a, d, t => ⟨by omega, (altI_rise L _ d _).mono (by omega)⟩
theorem altI_get : ∀ (L : List Frg) (a d t : Nat) (pre post : List Ins), pre.length = a → ∀ k ∈ altI L a d t, (pre ++ ((altP 0 L a d t).1 ++ post))[k]? = some (.jump 0)
  | [], _, _, _, _, _, _, k, h => by simp [altI] at h
  | f :: L, a, d, t, pre, post, hp, k, h => by
    simp only [altI, List.mem_cons] at h
    simp only [altP]
    rcases h with rfl | h
    · have h9 := get_midI (l := pre ++ (.split (a + 1) (a + 1 + (f (a + 1) d t).1.length + 1) :: (f (a + 1) d t).1)) (r := (altP 0 L (a + 1 + (f (a + 1) d t).1.length + 1) d (f (a + 1) d t).2).1 ++ post) (x := .jump 0) (n := a + 1 + (f (a + 1) d t).1.length) (by simp [hp]; omega)
      rw [← h9]
      simp
    · have ih := altI_get L _ d _ (pre ++ (.split (a + 1) (a + 1 + (f (a + 1) d t).1.length + 1) :: ((f (a + 1) d t).1 ++ [.jump 0]))) post (by simp [hp]; omega) k h
      rw [← ih]
      simp
theorem altI_pat (e : Nat) : ∀ (L : List Frg) (a d t : Nat) (pre post : List Ins), pre.length = a → patW (fun _ => .jump e) (pre ++ ((altP 0 L a d t).1 ++ post)) (altI L a d t) = pre ++ ((altP e L a d t).1 ++ post)
  | [], _, _, _, _, _, _ => by simp [altI, altP, patW]
  | f :: L, a, d, t, pre, post, hp => by
    have ih := altI_pat e L _ d (f (a + 1) d t).2 (pre ++ (.split (a + 1) (a + 1 + (f (a + 1) d t).1.length + 1) :: ((f (a + 1) d t).1 ++ [.jump e]))) post (show _ = a + 1 + (f (a + 1) d t).1.length + 1 by simp [hp]; omega)
    have h9 := set_midI (l := pre ++ (.split (a + 1) (a + 1 + (f (a + 1) d t).1.length + 1) :: (f (a + 1) d t).1)) (r := (altP 0 L (a + 1 + (f (a + 1) d t).1.length + 1) d (f (a + 1) d t).2).1 ++ post) (x := .jump 0) (y := .jump e) (n := a + 1 + (f (a + 1) d t).1.length) (by simp [hp]; omega)
    simp only [altI, altP]
    show patW _ ((pre ++ _).set _ _) _ = _
    simp only [List.append_assoc, List.cons_append, List.nil_append] at h9 ih ⊢
    rw [h9, ih]
end Go.Proofs
namespace Go.Proofs
open Go Go.Eng Go.Sort
set_option maxRecDepth 100000
theorem frg_5 {set : List (Int × Int)} {y : Re} {args : List Re} {mn mx : Int} {ng : Bool} (a d t : Nat) : frgOf (.mk 5 set (y :: args) mn mx ng) a d t = (.split (a + 1) (a + 2 + (frgOf y (a + 2) (d + 1) t).1.length + 2) :: .ent (d + 1) :: ((frgOf y (a + 2) (d + 1) t).1 ++ [.chk (d + 1), .jump a]), (frgOf y (a + 2) (d + 1) t).2) := by simp [frgOf, frgK, frgsOf_eq, starF]
theorem get_mid {α : Type} {l r : List α} {x : α} {n : Nat} (h : l.length = n) : (l ++ x :: r)[n]? = some x := by
  rw [List.getElem?_append_right (by omega), h, Nat.sub_self]; rfl
theorem set_mid {α : Type} {l r : List α} {x y : α} {n : Nat} (h : l.length = n) : (l ++ x :: r).set n y = l ++ y :: r := by
  rw [List.set_append_right _ _ (by omega), h, Nat.sub_self]; rfl
theorem PSt2.form' {F : Nat → Prop} {w : World} {base pb n m : Nat} {v : Value} {code : List Ins} {t d : Nat} (h : PSt2 F w base pb v n code t d) (hm : n = m) : ∃ a c, v = .slice a m c := by
  subst hm
  exact h.form
theorem PSt2.block {F : Nat → Prop} {w : World} {base pb n : Nat} {a : Option Addr} {c m : Nat} {code : List Ins} {t d : Nat} (h : PSt2 F w base pb (.slice a m c) n code t d) (hn : 0 < n) : ∃ g cur, a = some ⟨g, 0, none⟩ ∧ Blk w g cur TCd ∧ n * 8 ≤ cur.size ∧ base ≤ g ∧ ¬ F g := by
  obtain ⟨rows, h1, _⟩ := h.rows
  obtain ⟨va, vc, e⟩ := own_form h1
  cases e
  have hlt := h1.lt
  obtain ⟨g, rfl, _, _⟩ := own_cells h1 hn
  obtain ⟨cur, h2, h3⟩ := own_blkG h1
  exact ⟨g, cur, rfl, h2, h3, (hlt g rfl).1, h.ho g rfl⟩
theorem split_row {F : Nat → Prop} {w : World} {code : List Ins} {n x z : Nat} (hc : code[n]? = some (.split x 0)) : ∀ row0 pb0 ins0, code[n]? = some ins0 → RowF F w pb0 ins0 row0 → row0.set 2 (iV z) = row8 1 x z 0 0 nilS nilP false := by
  intro row0 pb0 ins0 h1 h2
  rw [hc] at h1
  cases h1
  simp only [RowF] at h2
  subst h2
  rfl
theorem jump_row {F : Nat → Prop} {w : World} {code : List Ins} {n z : Nat} (hc : code[n]? = some (.jump 0)) : ∀ row0 pb0 ins0, code[n]? = some ins0 → RowF F w pb0 ins0 row0 → row0.set 1 (iV z) = row8 2 z 0 0 0 nilS nilP false := by
  intro row0 pb0 ins0 h1 h2
  rw [hc] at h1
  cases h1
  simp only [RowF] at h2
  subst h2
  rfl
set_option maxHeartbeats 1000000 in
theorem of_5 (wb : World) (set : List (Int × Int)) (y : Re) (args : List Re) (mn mx : Int) (ng : Bool) (hih : OfC wb y) : OfC wb (.mk 5 set (y :: args) mn mx ng) := by
  intro base pb F w0 v n code t d vs hx hE hF hP hn ht hd
  simp only [ReAt] at hx
  obtain ⟨sa, sc, aa, ac, rfl, hset, hal, hargs⟩ := hx
  rw [frg_5] at hn ht ⊢
  have hlen := hP.len
  simp only [Re.size, Re.sizes] at hd
  obtain ⟨⟨cb, tb⟩, hr⟩ : ∃ r, frgOf y (n + 2) (d + 1) t = r := ⟨_, rfl⟩
  rw [hr] at hn ht ⊢
  simp only [List.length_cons, List.length_append, List.length_nil] at hn ht hal ⊢
  obtain ⟨b, o, rfl, hres⟩ := res_block (i := 0) hargs (by simp)
  obtain ⟨us, hus, hyt⟩ := hres.get (i := 0) (t := y) rfl
  obtain ⟨m, hm⟩ : ∃ m, m = args.length + 1 := ⟨_, rfl⟩
  have hm1 : 1 ≤ m := by omega
  rw [← hm] at hal ⊢
  refine Ret_of Tryd.func45 rfl Tryd.ntmps45 (Nat.le_of_ble_eq_true rfl) ?_
  have E : Chg (fun _ => True) w0 w0 := Chg.refl _ _
  refine Wp_seq_region ?_
  refine s_box (v := (.agg #[(.int .i64 5), (.slice sa set.length sc), (.slice (some ⟨b, o, none⟩) m ac), (.int .i64 mn), (.int .i64 mx), (.bool ng)])) (c := #[(.int .i64 5), (.slice sa set.length sc), (.slice (some ⟨b, o, none⟩) m ac), (.int .i64 mn), (.int .i64 mx), (.bool ng)]) (by decide) rfl rfl ?_
  intro bx wx Nx
  have Fx := Nx.ge E
  replace E := E.ext Nx.ext
  have Bx := Nx.blk
  refine WpL_nil ?_
  refine Wp_seq_region ?_
  refine WpL_val rfl rfl (by decide) (r_fieldAddr (b := bx) (o := 0) (o' := 0) rfl Tryd.underlying27 rfl siz3 rfl) ?_
  refine WpL_val rfl rfl (by decide) (r_load (v := (.int .i64 5)) rfl flat3 (Bx.cell rfl)) ?_
  refine WpL_nil ?_
  refine Wp_block ?_
  refine Wp_seq_region ?_
  refine WpL_val rfl rfl (by decide) (r_eql (k := .i64) (a := 5) (b := 0) rfl rfl) ?_
  refine WpL_val rfl rfl (by decide) (r_assign (v := (.bool false)) rfl) ?_
  refine WpL_nil ?_
  refine Wp_cond_false rfl ?_
  refine Wp_seq_region ?_
  refine WpL_val rfl rfl (by decide) (r_eql (k := .i64) (a := 5) (b := 2) rfl rfl) ?_
  refine WpL_val rfl rfl (by decide) (r_assign (v := (.bool false)) rfl) ?_
  refine WpL_nil ?_
  refine Wp_cond_false rfl ?_
  refine Wp_seq_region ?_
  refine WpL_val rfl rfl (by decide) (r_eql (k := .i64) (a := 5) (b := 3) rfl rfl) ?_
  refine WpL_val rfl rfl (by decide) (r_assign (v := (.bool false)) rfl) ?_
  refine WpL_nil ?_
  refine Wp_cond_false rfl ?_
  refine Wp_seq_region ?_
  refine WpL_val rfl rfl (by decide) (r_eql (k := .i64) (a := 5) (b := 4) rfl rfl) ?_
  refine WpL_val rfl rfl (by decide) (r_assign (v := (.bool false)) rfl) ?_
  refine WpL_nil ?_
  refine Wp_cond_false rfl ?_
  refine Wp_seq_region ?_
  refine WpL_val rfl rfl (by decide) (r_eql (k := .i64) (a := 5) (b := 5) rfl rfl) ?_
  refine WpL_val rfl rfl (by decide) (r_assign (v := (.bool true)) rfl) ?_
  refine WpL_nil ?_
  refine Wp_cond_true rfl ?_
  refine Wp_seq_region ?_
  refine WpL_val rfl rfl (by decide) (r_move (v := (.pointer (some ⟨pb, 0, none⟩))) rfl) ?_
  refine WpL_val rfl rfl (by decide) (r_fieldAddr (b := bx) (o := 0) (o' := 2) rfl Tryd.underlying27 rfl siz25 rfl) ?_
  refine WpL_val rfl rfl (by decide) (r_load (v := (.slice (some ⟨b, o, none⟩) m ac)) rfl flat25 (Bx.cell rfl)) ?_
  refine WpL_val rfl rfl (by decide) (r_indexSlice (b := b) (o := o) (len := m) (cap := ac) (i := 0) (o' := o + 0 * 6) rfl rfl rfl Tryd.underlying25 siz27 (by omega) (by omega)) ?_
  refine WpL_val rfl rfl (by decide) (r_loadAgg (vs := us) rfl agg27 siz27 hyt.len ((by simpa using hus : CellsAt wb b (o + 0 * 6) us).ext (hE.trans Nx.ext))) ?_
  have G1 := (GrX.start hP).frz Nx.ext (b := bx) (by rw [Nx.eq]; exact Nat.le_refl _) Bx.lt
  refine WpL_enter rfl rfl (by decide) (r_callF (vs := [(.pointer (some ⟨pb, 0, none⟩)), (.agg us.toArray)]) Tryd.func62 nm62 bd62 rfl) (iteration_c wb base pb _ _ v n code t d us y hih hyt (hE.trans Nx.ext) (fun q hq => .inl (hF q hq)) (hlen ▸ G1.st) (frgOf_mono y) (by rw [hr]; dsimp only; omega) (by rw [hr]; exact ht) (by omega)) ?_
  rintro _ w19 ⟨rfl, F2, v2, G2⟩
  replace Bx := G2.chg.keep (G1.st.kept (.inr rfl)) Bx
  replace E := E.step G2.chg (fun _ _ _ => trivial)
  rw [hr] at G2
  dsimp only at G2
  have k2 : F2 bx := G2.sub _ (.inr rfl)
  replace G2 := G1.comp G2
  have hl2 : (code ++ (Ins.split (n + 1) 0 :: Ins.ent (d + 1) :: (cb ++ [Ins.chk (d + 1)]))).length = n + 3 + cb.length := by simp [hlen]; omega
  refine WpL_val rfl rfl (by decide) (r_assign (v := (.int .i64 ((n : Nat) : Int))) rfl) ?_
  refine WpL_nil ?_
  refine Wp_seq_region ?_
  refine WpL_val rfl rfl (by decide) (r_move (v := (.pointer (some ⟨pb, 0, none⟩))) rfl) ?_
  refine WpL_val rfl rfl (by decide) (r_move (v := (.int .i64 ((n : Nat) : Int))) rfl) ?_
  refine WpL_val rfl rfl (by decide) (r_build (ps := [(0, (.int .i64 2)), (1, (.int .i64 ((n : Nat) : Int)))]) (v := (.agg #[(.int .i64 2), (.int .i64 ((n : Nat) : Int)), (.int .i64 0), (.int .i64 0), (.int .i64 0), (.slice none 0 0), (.pointer none), (.bool false)])) rfl (by kernel_rfl)) ?_
  refine WpL_enter rfl rfl (by decide) (r_callF (vs := [(.pointer (some ⟨pb, 0, none⟩)), (.agg #[(.int .i64 2), (.int .i64 ((n : Nat) : Int)), (.int .i64 0), (.int .i64 0), (.int .i64 0), (.slice none 0 0), (.pointer none), (.bool false)])]) Tryd.func46 nm46 bd46 rfl) (add_c _ _ base pb _ (n + 3 + cb.length) _ tb d (.jump n) 0 2 n 0 0 0 none 0 0 nilP false (hl2 ▸ G2.st) (by omega) rfl rfl (fun _ _ h => by cases h)) ?_
  rintro _ w29 ⟨rfl, F3, v3, G3⟩
  replace Bx := G3.chg.keep (G2.st.kept k2) Bx
  replace E := E.step G3.chg (fun _ _ _ => trivial)
  have k3 : F3 bx := G3.sub _ k2
  replace G3 := G2.comp G3
  have e3 : (code ++ (Ins.split (n + 1) 0 :: Ins.ent (d + 1) :: (cb ++ [Ins.chk (d + 1)]))) ++ [Ins.jump n] = code ++ (Ins.split (n + 1) 0 :: Ins.ent (d + 1) :: (cb ++ [Ins.chk (d + 1), Ins.jump n])) := by simp
  rw [e3] at G3
  have hl3 : (code ++ (Ins.split (n + 1) 0 :: Ins.ent (d + 1) :: (cb ++ [Ins.chk (d + 1), Ins.jump n]))).length = n + 4 + cb.length := by simp [hlen]; omega
  obtain ⟨va3, vc3, rfl⟩ := G3.st.form
  rw [hl3] at G3
  obtain ⟨g, cur, rfl, hg, hgs, hgb, hgF⟩ := G3.st.block (by omega)
  rw [hl3] at hgs
  have hxg : bx ≠ g := fun e => hgF (e ▸ k3)
  have hblk := G3.st.blk
  have hgp := G3.st.pb
  refine WpL_nil ?_
  refine Wp_draw 12 mixed (by kernel_rfl) ?_
  intro w1 X1 _
  replace Bx := X1.keep Bx
  replace hblk := X1.keep hblk
  replace hg := X1.keep hg
  replace G3 := G3.ext X1
  replace E := E.ext X1
  refine WpT_val rfl rfl (by decide) (r_move (v := (.pointer (some ⟨pb, 0, none⟩))) rfl) ?_
  refine WpT_val rfl rfl (by decide) (r_nilCheck (a := ⟨pb, 0, none⟩) rfl) ?_
  refine WpT_val rfl rfl (by decide) (r_fieldAddr (b := pb) (o := 0) (o' := 0) rfl Tryd.underlying94 rfl siz92 rfl) ?_
  refine WpT_val rfl rfl (by decide) (r_load (v := (.slice (some ⟨g, 0, none⟩) (n + 4 + cb.length) vc3)) rfl flat92 (hblk.cell rfl)) ?_
  refine WpT_val rfl rfl (by decide) (r_move (v := (.int .i64 ((n : Nat) : Int))) rfl) ?_
  refine WpT_val rfl rfl (by decide) (r_move (v := (.pointer (some ⟨pb, 0, none⟩))) rfl) ?_
  refine WpT_val rfl rfl (by decide) (r_nilCheck (a := ⟨pb, 0, none⟩) rfl) ?_
  refine WpT_val rfl rfl (by decide) (r_fieldAddr (b := pb) (o := 0) (o' := 0) rfl Tryd.underlying94 rfl siz92 rfl) ?_
  refine WpT_val rfl rfl (by decide) (r_load (v := (.slice (some ⟨g, 0, none⟩) (n + 4 + cb.length) vc3)) rfl flat92 (hblk.cell rfl)) ?_
  refine WpT_val rfl rfl (by decide) (r_lenSlice (ad := some ⟨g, 0, none⟩) (n := (n + 4 + cb.length)) (cap := vc3) Tryd.underlying92 rfl) ?_
  refine WpT_val rfl rfl (by decide) (r_indexSlice (b := g) (o := 0) (len := (n + 4 + cb.length)) (cap := vc3) (i := n) (o' := 0 + n * 8) rfl rfl rfl Tryd.underlying92 siz98 (by omega) (by omega)) ?_
  refine WpT_val rfl rfl (by decide) (r_fieldAddr (b := g) (o := 0 + n * 8) (o' := 0 + n * 8 + 2) rfl Tryd.underlying98 rfl siz3 rfl) ?_
  refine WpT_zero ?_
  refine s_store (b := g) (o := 0 + n * 8 + 2) (c' := cur.setIfInBounds (n * 8 + 2) (iV (n + 4 + cb.length))) (v := (.int .i64 (((n + 4 + cb.length) : Nat) : Int))) rfl rfl rfl siz3 hg (by omega) (by rw [Nat.zero_add]) ?_
  intro w2 S2
  replace G3 := G3.patch (i := n) (f := 2) (x := iV (n + 4 + cb.length)) (ins := .split (n + 1) (n + 4 + cb.length)) hl3.symm hg S2 (by omega) (by omega) (split_row (get_mid hlen)) (fun _ _ => rfl) (fun _ _ h => by cases h)
  replace Bx := S2.keep (by omega) Bx
  replace hblk := S2.keep (by omega) hblk
  replace E := S2.step E (by first | exact Or.inl (by omega) | exact Or.inr rfl | exact Or.inr (by assumption) | exact Or.inr (by simp) | exact Or.inr (by omega) | exact Or.inr (by dsimp only; omega))
  replace hg := S2.blk
  refine WpL_nil ?_
  refine inB_normal ?_
  refine fin_none Tryd.results45 ?_
  rw [set_mid hlen] at G3
  rw [show n + 2 + cb.length + 2 = n + 4 + cb.length by omega]
  exact ⟨F3, _, G3⟩
abbrev TIn : Nat := 3
/-- A block that is neither the program's nor frozen. -/
def Apt (F : Nat → Prop) (pb : Nat) (v : Value) (b : Nat) : Prop := ¬ F b ∧ b ≠ pb ∧ v.ownBlock ≠ some b
theorem Apt.step {F F2 : Nat → Prop} {w w2 : World} {base pb b : Nat} {v v2 : Value} {c : List Ins} {t d : Nat} (h : Apt F pb v b) (G : GrX F w base pb v F2 v2 c t d w2) (hb : b < w.heap.size) : Apt F2 pb v2 b :=
  ⟨fun hf => (G.new b hf).elim h.1 (fun h2 => by omega), h.2.1, fun e => (G.own b e).elim h.2.2 (fun h2 => by omega)⟩
theorem Apt.keep {F : Nat → Prop} {pb b : Nat} {v : Value} (h : Apt F pb v b) : ¬ (b = pb ∨ v.ownBlock = some b) := fun hm => hm.elim h.2.1 h.2.2
theorem frg_6 {set : List (Int × Int)} {y : Re} {args : List Re} {k1 k2 : Nat} {ng : Bool} (a d t : Nat) : frgOf (.mk 6 set (y :: args) (k1 : Int) ((k1 + k2 : Nat) : Int) ng) a d t = ((seqF (List.replicate k1 (frgOf y)) a d t).1 ++ (itF (a + (seqF (List.replicate k1 (frgOf y)) a d t).1.length + (itF 0 (frgOf y) k2 (a + (seqF (List.replicate k1 (frgOf y)) a d t).1.length) d (seqF (List.replicate k1 (frgOf y)) a d t).2).1.length) (frgOf y) k2 (a + (seqF (List.replicate k1 (frgOf y)) a d t).1.length) d (seqF (List.replicate k1 (frgOf y)) a d t).2).1, (itF (a + (seqF (List.replicate k1 (frgOf y)) a d t).1.length + (itF 0 (frgOf y) k2 (a + (seqF (List.replicate k1 (frgOf y)) a d t).1.length) d (seqF (List.replicate k1 (frgOf y)) a d t).2).1.length) (frgOf y) k2 (a + (seqF (List.replicate k1 (frgOf y)) a d t).1.length) d (seqF (List.replicate k1 (frgOf y)) a d t).2).2) := by
  have e : (((k1 + k2 : Nat) : Int) - (k1 : Int)).toNat = k2 := by omega
  simp only [frgOf, frgK, frgsOf_eq, List.map_cons, List.headD_cons, Int.toNat_natCast, e]
  rfl
theorem itF_le (f : Frg) (hf : FMono f) : ∀ (k j a d t : Nat), j ≤ k → (itF 0 f j a d t).1.length ≤ (itF 0 f k a d t).1.length ∧ (itF 0 f j a d t).2 ≤ (itF 0 f k a d t).2
  | k, 0, a, d, t, _ => ⟨by simp [itF], itF_mono 0 hf k a d t⟩
  | k + 1, j + 1, a, d, t, h => by
    have ih := itF_le f hf k j (a + 2 + (f (a + 2) (d + 1) t).1.length + 1) d (f (a + 2) (d + 1) t).2 (by omega)
    simp only [itF, List.length_cons, List.length_append]
    omega
set_option maxHeartbeats 4000000 in
theorem of_6 (wb : World) (set : List (Int × Int)) (y : Re) (args : List Re) (k1 k2 : Nat) (ng : Bool) (hk8 : k1 + k2 ≤ 100) (hih : 0 < k1 + k2 → OfC wb y) : OfC wb (.mk 6 set (y :: args) (k1 : Int) ((k1 + k2 : Nat) : Int) ng) := by
  intro base pb F w0 v n code t d vs hx hE hF hP hn ht hd
  simp only [ReAt] at hx
  obtain ⟨sa, sc, aa, ac, rfl, hset, hal, hargs⟩ := hx
  rw [frg_6] at hn ht ⊢
  have hlen := hP.len
  simp only [Re.size, Re.sizes] at hd
  have hfm := frgOf_mono y
  obtain ⟨f, hf⟩ : ∃ f, f = frgOf y := ⟨_, rfl⟩
  have hrm : ∀ g ∈ List.replicate k1 f, FMono g := fun g hg => by rw [(List.mem_replicate.1 hg).2, hf]; exact hfm
  rw [← hf] at hfm
  rw [← hf] at hn ht ⊢
  obtain ⟨S, hS⟩ : ∃ S, S = seqF (List.replicate k1 f) n d t := ⟨_, rfl⟩
  rw [← hS] at hn ht ⊢
  obtain ⟨ee, hee⟩ : ∃ e, e = n + S.1.length + (itF 0 f k2 (n + S.1.length) d S.2).1.length := ⟨_, rfl⟩
  rw [← hee] at hn ht ⊢
  have hel := itF_len ee 0 f k2 (n + S.1.length) d S.2
  rw [hel.2] at ht
  simp only [List.length_append, hel.1] at hn
  simp only [List.length_cons] at hal ⊢
  obtain ⟨b, o, rfl, hres⟩ := res_block (i := 0) hargs (by simp)
  obtain ⟨us, hus, hyt⟩ := hres.get (i := 0) (t := y) rfl
  replace hus : CellsAt wb b (o + 0 * 6) us := by simpa using hus
  obtain ⟨m, hm⟩ : ∃ m, m = args.length + 1 := ⟨_, rfl⟩
  have hm1 : 1 ≤ m := by omega
  rw [← hm] at hal ⊢
  have hSm := itF_mono 0 hfm k2 (n + S.1.length) d S.2
  refine Ret_of Tryd.func45 rfl Tryd.ntmps45 (Nat.le_of_ble_eq_true rfl) ?_
  have E : Chg (fun _ => True) w0 w0 := Chg.refl _ _
  refine Wp_seq_region ?_
  refine s_box (v := (.agg #[(.int .i64 6), (.slice sa set.length sc), (.slice (some ⟨b, o, none⟩) m ac), (.int .i64 ((k1 : Nat) : Int)), (.int .i64 ((k1 + k2 : Nat) : Int)), (.bool ng)])) (c := #[(.int .i64 6), (.slice sa set.length sc), (.slice (some ⟨b, o, none⟩) m ac), (.int .i64 ((k1 : Nat) : Int)), (.int .i64 ((k1 + k2 : Nat) : Int)), (.bool ng)]) (by decide) rfl rfl ?_
  intro bx wx Nx
  have Fx := Nx.ge E
  replace E := E.ext Nx.ext
  have Bx := Nx.blk
  refine WpL_nil ?_
  refine Wp_seq_region ?_
  refine WpL_val rfl rfl (by decide) (r_fieldAddr (b := bx) (o := 0) (o' := 0) rfl Tryd.underlying27 rfl siz3 rfl) ?_
  refine WpL_val rfl rfl (by decide) (r_load (v := (.int .i64 6)) rfl flat3 (Bx.cell rfl)) ?_
  refine WpL_nil ?_
  refine Wp_block ?_
  refine Wp_seq_region ?_
  refine WpL_val rfl rfl (by decide) (r_eql (k := .i64) (a := 6) (b := 0) rfl rfl) ?_
  refine WpL_val rfl rfl (by decide) (r_assign (v := (.bool false)) rfl) ?_
  refine WpL_nil ?_
  refine Wp_cond_false rfl ?_
  refine Wp_seq_region ?_
  refine WpL_val rfl rfl (by decide) (r_eql (k := .i64) (a := 6) (b := 2) rfl rfl) ?_
  refine WpL_val rfl rfl (by decide) (r_assign (v := (.bool false)) rfl) ?_
  refine WpL_nil ?_
  refine Wp_cond_false rfl ?_
  refine Wp_seq_region ?_
  refine WpL_val rfl rfl (by decide) (r_eql (k := .i64) (a := 6) (b := 3) rfl rfl) ?_
  refine WpL_val rfl rfl (by decide) (r_assign (v := (.bool false)) rfl) ?_
  refine WpL_nil ?_
  refine Wp_cond_false rfl ?_
  refine Wp_seq_region ?_
  refine WpL_val rfl rfl (by decide) (r_eql (k := .i64) (a := 6) (b := 4) rfl rfl) ?_
  refine WpL_val rfl rfl (by decide) (r_assign (v := (.bool false)) rfl) ?_
  refine WpL_nil ?_
  refine Wp_cond_false rfl ?_
  refine Wp_seq_region ?_
  refine WpL_val rfl rfl (by decide) (r_eql (k := .i64) (a := 6) (b := 5) rfl rfl) ?_
  refine WpL_val rfl rfl (by decide) (r_assign (v := (.bool false)) rfl) ?_
  refine WpL_nil ?_
  refine Wp_cond_false rfl ?_
  refine Wp_seq_region ?_
  refine WpL_val rfl rfl (by decide) (r_eql (k := .i64) (a := 6) (b := 6) rfl rfl) ?_
  refine WpL_val rfl rfl (by decide) (r_assign (v := (.bool true)) rfl) ?_
  refine WpL_nil ?_
  refine Wp_cond_true rfl ?_
  refine Wp_seq ?_
  refine Wp_seq_region ?_
  refine WpL_val rfl rfl (by decide) (r_fieldAddr (b := bx) (o := 0) (o' := 3) rfl Tryd.underlying27 rfl siz3 rfl) ?_
  refine WpL_val rfl rfl (by decide) (r_load (v := (.int .i64 ((k1 : Nat) : Int))) rfl flat3 (Bx.cell rfl)) ?_
  refine WpL_val rfl rfl (by decide) (r_move (v := (.int .i64 0)) rfl) ?_
  refine WpL_nil ?_
  refine Wp_block ?_
  have G1 := (GrX.start hP).frz Nx.ext (b := bx) (by rw [Nx.eq]; exact Nat.le_refl _) Bx.lt
  refine Wp_loop (fun nn_ σ W1 => ∃ (j : Nat) (F1 : Nat → Prop) (v1 : Value), (∃ jj_, σ = upds jj_ [(0, (.pointer (some ⟨pb, 0, none⟩))), (3, (.pointer (some ⟨bx, 0, none⟩))), (140, (.int .i64 ((k1 : Nat) : Int))), (141, (.int .i64 ((j : Nat) : Int)))]) ∧ Chg (fun _ => True) w0 W1 ∧ Blk W1 bx #[(.int .i64 6), (.slice sa set.length sc), (.slice (some ⟨b, o, none⟩) m ac), (.int .i64 ((k1 : Nat) : Int)), (.int .i64 ((k1 + k2 : Nat) : Int)), (.bool ng)] 27 ∧ (j ≤ k1) ∧ (GrX F w0 base pb v F1 v1 (code ++ (seqF ((List.replicate k1 f).take j) n d t).1) (seqF ((List.replicate k1 f).take j) n d t).2 d W1) ∧ (F1 bx) ∧ nn_ = k1 - j) (n := k1 - 0) ?_ ?_
  · exact ⟨0, (fun y => F y ∨ y = bx), v, Fits.out ⟨rfl, rfl, rfl, rfl, trivial⟩, E, Bx, Nat.zero_le _, (by rw [List.take_zero]; simp only [seqF, List.append_nil]; exact G1), .inr rfl, rfl⟩
  · clear E Bx
    rintro _ _ W1 ⟨j, F1, v1, ⟨j1, rfl⟩, E, Bx, hj, G, hk, rfl⟩
    refine Wp_seq_region ?_
    refine WpL_val rfl rfl (by decide) (r_lss (k := .i64) (a := ((j : Nat) : Int)) (b := ((k1 : Nat) : Int)) rfl rfl) ?_
    refine WpL_nil ?_
    refine Wp_seq ?_
    refine Wp_cond (b := decide ((((j : Nat) : Int) : Int) < ((k1 : Nat) : Int))) rfl (fun hlt => ?_) (fun hlt => ?_)
    · have khlt := hlt
      replace hlt := of_decide_eq_true hlt
      have hfy : (List.replicate k1 f)[j]? = some f := by rw [List.getElem?_replicate, if_pos (by omega)]
      have hst := seqF_step hfy n d t
      have hle := seqF_le hrm (j + 1) n d t
      rw [hst, ← hS] at hle
      dsimp only at hle
      obtain ⟨Q, hQ⟩ : ∃ Q, Q = seqF ((List.replicate k1 f).take j) n d t := ⟨_, rfl⟩
      rw [← hQ] at hst hle G
      have hlj : (code ++ Q.1).length = n + Q.1.length := by rw [List.length_append, hlen]
      rw [List.length_append] at hle
      have hEW := G.wb hP.hp hP.ho hF hE
      refine Wp_skip ?_
      refine thn_normal ?_
      refine Wp_seq ?_
      refine Wp_block ?_
      refine Wp_region ?_
      refine WpL_val rfl rfl (by decide) (r_move (v := (.pointer (some ⟨pb, 0, none⟩))) rfl) ?_
      refine WpL_val rfl rfl (by decide) (r_fieldAddr (b := bx) (o := 0) (o' := 2) rfl Tryd.underlying27 rfl siz25 rfl) ?_
      refine WpL_val rfl rfl (by decide) (r_load (v := (.slice (some ⟨b, o, none⟩) m ac)) rfl flat25 (Bx.cell rfl)) ?_
      refine WpL_val rfl rfl (by decide) (r_indexSlice (b := b) (o := o) (len := m) (cap := ac) (i := 0) (o' := o + 0 * 6) rfl rfl rfl Tryd.underlying25 siz27 (by omega) (by omega)) ?_
      refine WpL_val rfl rfl (by decide) (r_loadAgg (vs := us) rfl agg27 siz27 hyt.len (hus.ext hEW)) ?_
      refine WpL_enter rfl rfl (by decide) (r_callF (vs := [(.pointer (some ⟨pb, 0, none⟩)), (.agg us.toArray)]) Tryd.func45 nm45 bd45 rfl) (hih (by omega) base pb _ _ v1 (n + Q.1.length) (code ++ Q.1) Q.2 d us hyt hEW (fun q hq => (G.sub q (hF q hq))) (hlj ▸ G.st) (by rw [← hf]; omega) (by rw [← hf]; omega) (by omega)) ?_
      rintro _ w19 ⟨F3, v3, G3⟩
      replace Bx := G3.chg.keep (G.st.kept hk) Bx
      replace E := E.step G3.chg (fun _ _ _ => trivial)
      refine WpL_nil ?_
      refine inB_normal ?_
      refine thn_normal ?_
      refine Wp_region ?_
      refine WpL_val rfl rfl (by decide) (r_add (k := .i64) (a := ((j : Nat) : Int)) (b := 1) (c := ((j : Nat) : Int) + 1) rfl rfl (wI64 (by omega))) ?_
      refine WpL_val rfl rfl (by decide) (r_move (v := (.int .i64 (((j : Nat) : Int) + 1))) rfl) ?_
      refine WpL_nil ?_
      refine thn_normal ?_
      exact ⟨k1 - (j + 1), by omega, j + 1, F3, v3, Fits.out ⟨rfl, rfl, rfl, rfl, trivial⟩, E, Bx, (by omega), (by rw [hst]; dsimp only; rw [← List.append_assoc]; rw [← hf] at G3; exact G.comp G3), G3.sub _ hk, rfl⟩
    · have khlt := hlt
      replace hlt := of_decide_eq_false hlt
      have hjl : j = k1 := by omega
      rw [hjl, List.take_of_length_le (by simp), ← hS] at G
      refine Wp_exit ?_
      refine thn_exit ?_
      refine thn_exit ?_
      refine inB_here ?_
      refine thn_normal ?_
      refine Wp_seq_region ?_
      refine WpL_val rfl rfl (by decide) (r_assign (v := (.slice none 0 0)) rfl) ?_
      refine WpL_nil ?_
      refine Wp_seq ?_
      refine Wp_seq_region ?_
      refine WpL_val rfl rfl (by decide) (r_fieldAddr (b := bx) (o := 0) (o' := 4) rfl Tryd.underlying27 rfl siz3 rfl) ?_
      refine WpL_val rfl rfl (by decide) (r_load (v := (.int .i64 ((k1 + k2 : Nat) : Int))) rfl flat3 (Bx.cell rfl)) ?_
      refine WpL_val rfl rfl (by decide) (r_fieldAddr (b := bx) (o := 0) (o' := 3) rfl Tryd.underlying27 rfl siz3 rfl) ?_
      refine WpL_val rfl rfl (by decide) (r_load (v := (.int .i64 ((k1 : Nat) : Int))) rfl flat3 (Bx.cell rfl)) ?_
      refine WpL_val rfl rfl (by decide) (r_sub (k := .i64) (a := ((k1 + k2 : Nat) : Int)) (b := ((k1 : Nat) : Int)) (c := ((k2 : Nat) : Int)) rfl rfl ((wI64 (by omega)).trans (by omega))) ?_
      refine WpL_val rfl rfl (by decide) (r_move (v := (.int .i64 0)) rfl) ?_
      refine WpL_nil ?_
      refine Wp_block ?_
      obtain ⟨n2, hn2⟩ : ∃ n2, n2 = (W1).heap.size := ⟨_, rfl⟩
      have hn2b : bx < n2 ∧ w0.heap.size ≤ n2 := ⟨by rw [hn2]; exact Bx.lt, by rw [hn2]; exact G.chg.size⟩
      refine Wp_loop (fun nn_ σ W3 => ∃ (j : Nat) (F1 : Nat → Prop) (v1 : Value) (la : Option Addr) (lc : Nat), (∃ jj_, σ = upds jj_ [(0, (.pointer (some ⟨pb, 0, none⟩))), (3, (.pointer (some ⟨bx, 0, none⟩))), (154, (.int .i64 ((k2 : Nat) : Int))), (155, (.int .i64 ((j : Nat) : Int))), (13, (.slice la j lc))]) ∧ Chg (fun _ => True) w0 W3 ∧ Blk W3 bx #[(.int .i64 6), (.slice sa set.length sc), (.slice (some ⟨b, o, none⟩) m ac), (.int .i64 ((k1 : Nat) : Int)), (.int .i64 ((k1 + k2 : Nat) : Int)), (.bool ng)] 27 ∧ (j ≤ k2) ∧ (GrX F w0 base pb v F1 v1 ((code ++ S.1) ++ (itF 0 f j (n + S.1.length) d S.2).1) (itF 0 f j (n + S.1.length) d S.2).2 d W3) ∧ (F1 bx) ∧ (W3.ownsRow n2 TIn 1 (.slice la j lc) j ((itI f j (n + S.1.length) d S.2).map iV)) ∧ (∀ q, (Value.slice la j lc).ownBlock = some q → Apt F1 pb v1 q) ∧ (n2 ≤ W3.heap.size) ∧ nn_ = k2 - j) (n := k2 - 0) ?_ ?_
      · exact ⟨0, F1, v1, none, 0, Fits.out ⟨rfl, rfl, rfl, rfl, rfl, trivial⟩, E, Bx, Nat.zero_le _, (by simp only [itF, List.append_nil]; exact G), hk, World.ownsRow_nil _ _ _ _, (fun q hq => by cases hq), (by omega), rfl⟩
      · clear E Bx
        rintro _ _ W3 ⟨j, F1, v1, la, lc, ⟨j3, rfl⟩, E, Bx, hj, G, hk, hs, hap, hsz, rfl⟩
        refine Wp_seq_region ?_
        refine WpL_val rfl rfl (by decide) (r_lss (k := .i64) (a := ((j : Nat) : Int)) (b := ((k2 : Nat) : Int)) rfl rfl) ?_
        refine WpL_nil ?_
        refine Wp_seq ?_
        refine Wp_cond (b := decide ((((j : Nat) : Int) : Int) < ((k2 : Nat) : Int))) rfl (fun hlt => ?_) (fun hlt => ?_)
        · have khlt := hlt
          replace hlt := of_decide_eq_true hlt
          have hst := itF_step 0 f j (n + S.1.length) d S.2
          have hle := itF_le f hfm k2 (j + 1) (n + S.1.length) d S.2 (by omega)
          rw [hst] at hle
          have hix := itI_step f j (n + S.1.length) d S.2
          obtain ⟨Q, hQ⟩ : ∃ Q, Q = itF 0 f j (n + S.1.length) d S.2 := ⟨_, rfl⟩
          rw [← hQ] at hst hle G hix
          simp only [List.length_append, List.length_cons, List.length_nil] at hle
          have hlj : ((code ++ S.1) ++ Q.1).length = n + S.1.length + Q.1.length := by simp [hlen]; omega
          have hEW := G.wb hP.hp hP.ho hF hE
          have hslt := hs.lt
          refine Wp_skip ?_
          refine thn_normal ?_
          refine Wp_seq ?_
          refine Wp_block ?_
          refine Wp_region ?_
          refine WpL_val rfl rfl (by decide) (r_move (v := (.slice la j lc)) rfl) ?_
          refine WpL_val rfl rfl (by decide) (r_move (v := (.pointer (some ⟨pb, 0, none⟩))) rfl) ?_
          refine WpL_val rfl rfl (by decide) (r_fieldAddr (b := bx) (o := 0) (o' := 2) rfl Tryd.underlying27 rfl siz25 rfl) ?_
          refine WpL_val rfl rfl (by decide) (r_load (v := (.slice (some ⟨b, o, none⟩) m ac)) rfl flat25 (Bx.cell rfl)) ?_
          refine WpL_val rfl rfl (by decide) (r_indexSlice (b := b) (o := o) (len := m) (cap := ac) (i := 0) (o' := o + 0 * 6) rfl rfl rfl Tryd.underlying25 siz27 (by omega) (by omega)) ?_
          refine WpL_val rfl rfl (by decide) (r_loadAgg (vs := us) rfl agg27 siz27 hyt.len (hus.ext hEW)) ?_
          refine WpL_enter rfl rfl (by decide) (r_callF (vs := [(.pointer (some ⟨pb, 0, none⟩)), (.agg us.toArray)]) Tryd.func62 nm62 bd62 rfl) (iteration_c wb base pb _ _ v1 (n + S.1.length + Q.1.length) ((code ++ S.1) ++ Q.1) Q.2 d us y (hih (by omega)) hyt hEW (fun q hq => G.sub q (hF q hq)) (hlj ▸ G.st) (frgOf_mono y) (by rw [← hf]; omega) (by rw [← hf]; omega) (by omega)) ?_
          rintro _ w29 ⟨rfl, F3, v3, G3⟩
          replace Bx := G3.chg.keep (G.st.kept hk) Bx
          replace E := E.step G3.chg (fun _ _ _ => trivial)
          rw [← hf] at G3
          have hs := own_chg hs G3.chg (fun q hq h => (hap q hq).keep h)
          have hap3 : ∀ q, (Value.slice la j lc).ownBlock = some q → Apt F3 pb v3 q := fun q hq => (hap q hq).step G3 (hslt q hq).2
          have k3 : F3 bx := G3.sub _ hk
          have hz3 := G3.chg.size
          replace G3 := G.comp G3
          refine s_buildSlice (ps := [(0, (.int .i64 ((n + S.1.length + Q.1.length : Nat) : Int)))]) (c := #[(.int .i64 ((n + S.1.length + Q.1.length : Nat) : Int))]) (by decide) rfl Tryd.underlying22 siz3 zer3 (by decide) (by decide) (by kernel_rfl) ?_
          intro br wr Nr
          have Fr := Nr.ge E
          have Or_bx := Nr.lt Bx
          replace Bx := Nr.keep Bx
          replace E := E.ext Nr.ext
          have Br := Nr.blk
          have hs := own_ext hs Nr.ext
          have G4 := G3.ext Nr.ext
          refine s_append (base := n2) (n := j) (m := 1) (xs := ((itI f j (n + S.1.length) d S.2).map iV)) (news := [(.int .i64 ((n + S.1.length + Q.1.length : Nat) : Int))]) (size := 1) (bytes := 8) (v := (.slice la j lc)) (by decide) Tryd.underlying22 siz3 byt3 zer3 rfl (by decide) rfl hs rfl (rfl) (Br.cells rfl) (by simp [Value.oneCell']) (by unfold maxLen; omega) (by omega) ((by have := Nr.ext.size; omega)) ?_
          intro v7 w59 Ov7 Cv7 Dv7
          replace Bx := Cv7.keep (fun h => by have := (hs.lt _ h).1; omega) Bx
          replace E := E.step Cv7 (fun _ _ _ => trivial)
          obtain ⟨la2, lc2, rfl⟩ := own_form Ov7
          have G5 := G4.other Cv7 (fun q hq => ⟨by have := (hs.lt q hq).1; omega, hap3 q hq⟩)
          have hap5 : ∀ q, (Value.slice la2 (j + 1) lc2).ownBlock = some q → Apt F3 pb v3 q := fun q hq => by rcases Dv7 q hq with h9 | h9; exact hap3 q h9; exact ⟨fun hf9 => by have := G4.st.fl q hf9; omega, fun e9 => by have := G4.st.blk.lt; omega, fun e9 => by obtain ⟨_, r9, _⟩ := G4.st.rows; have := (r9.lt q e9).2; omega⟩
          refine WpL_val rfl rfl (by decide) (r_assign (v := (.slice la2 (j + 1) lc2)) rfl) ?_
          refine WpL_nil ?_
          refine inB_normal ?_
          refine thn_normal ?_
          refine Wp_region ?_
          refine WpL_val rfl rfl (by decide) (r_add (k := .i64) (a := ((j : Nat) : Int)) (b := 1) (c := ((j : Nat) : Int) + 1) rfl rfl (wI64 (by omega))) ?_
          refine WpL_val rfl rfl (by decide) (r_move (v := (.int .i64 (((j : Nat) : Int) + 1))) rfl) ?_
          refine WpL_nil ?_
          refine thn_normal ?_
          exact ⟨k2 - (j + 1), by omega, j + 1, F3, v3, la2, lc2, Fits.out ⟨rfl, rfl, rfl, rfl, rfl, trivial⟩, E, Bx, (by omega), (by rw [hst]; dsimp only; rw [← List.append_assoc]; exact G5), k3, (by rw [hix, List.map_append]; exact Ov7), hap5, (by have := Cv7.size; have := Nr.ext.size; omega), rfl⟩
        · have khlt := hlt
          replace hlt := of_decide_eq_false hlt
          have hjl : k2 = j := by omega
          subst hjl
          obtain ⟨C, hC⟩ : ∃ C, C = (code ++ S.1) ++ (itF 0 f k2 (n + S.1.length) d S.2).1 := ⟨_, rfl⟩
          obtain ⟨L, hL⟩ : ∃ L, L = itI f k2 (n + S.1.length) d S.2 := ⟨_, rfl⟩
          have hLl : L.length = k2 := by rw [hL]; exact itI_len f k2 _ _ _
          have hpl : (code ++ S.1).length = n + S.1.length := by rw [List.length_append, hlen]
          have hCl : C.length = ee := by rw [hC, List.length_append, hpl, hee]
          have hLr : Rise (n + S.1.length) L := by rw [hL]; exact itI_rise f k2 _ _ _
          have hLg : ∀ k ∈ L, C[k]? = some (.split (k + 1) 0) := by rw [hC, hL]; exact itI_get f k2 _ _ _ _ hpl
          have hLp : patW (fun k => .split (k + 1) ee) C L = (code ++ S.1) ++ (itF ee f k2 (n + S.1.length) d S.2).1 := by rw [hC, hL]; exact itI_pat f ee k2 _ _ _ _ hpl
          rw [← hC] at G
          rw [← hL] at hs
          refine Wp_exit ?_
          refine thn_exit ?_
          refine thn_exit ?_
          refine inB_here ?_
          refine thn_normal ?_
          refine Wp_seq_region ?_
          refine WpL_val rfl rfl (by decide) (r_move (v := (.slice la k2 lc)) rfl) ?_
          refine WpL_val rfl rfl (by decide) (r_lenSlice (ad := la) (n := k2) (cap := lc) Tryd.underlying22 rfl) ?_
          refine WpL_val rfl rfl (by decide) (r_move (v := (.int .i64 0)) rfl) ?_
          refine WpL_nil ?_
          refine Wp_block ?_
          refine Wp_loop (fun nn_ σ W5 => ∃ (i : Nat), (∃ jj_, σ = upds jj_ [(0, (.pointer (some ⟨pb, 0, none⟩))), (167, (.slice la k2 lc)), (168, (.int .i64 ((k2 : Nat) : Int))), (169, (.int .i64 ((i : Nat) : Int)))]) ∧ Chg (fun _ => True) w0 W5 ∧ Blk W5 bx #[(.int .i64 6), (.slice sa set.length sc), (.slice (some ⟨b, o, none⟩) m ac), (.int .i64 ((k1 : Nat) : Int)), (.int .i64 ((k1 + k2 : Nat) : Int)), (.bool ng)] 27 ∧ (i ≤ k2) ∧ (GrX F w0 base pb v F1 v1 (patW (fun k => .split (k + 1) ee) C (L.take i)) (itF 0 f k2 (n + S.1.length) d S.2).2 d W5) ∧ (W5.ownsRow n2 TIn 1 (.slice la k2 lc) k2 (L.map iV)) ∧ nn_ = k2 - i) (n := k2 - 0) ?_ ?_
          · exact ⟨0, Fits.out ⟨rfl, rfl, rfl, rfl, trivial⟩, E, Bx, Nat.zero_le _, (by rw [List.take_zero]; exact G), hs, rfl⟩
          · clear E Bx
            rintro _ _ W5 ⟨i, ⟨j5, rfl⟩, E, Bx, hi, G, hs, rfl⟩
            refine Wp_seq_region ?_
            refine WpL_val rfl rfl (by decide) (r_lss (k := .i64) (a := ((i : Nat) : Int)) (b := ((k2 : Nat) : Int)) rfl rfl) ?_
            refine WpL_nil ?_
            refine Wp_seq ?_
            refine Wp_cond (b := decide ((((i : Nat) : Int) : Int) < ((k2 : Nat) : Int))) rfl (fun hlt3 => ?_) (fun hlt3 => ?_)
            · have khlt3 := hlt3
              replace hlt3 := of_decide_eq_true hlt3
              obtain ⟨k, hkL⟩ := get_of_lt (l := L) (i := i) (by omega)
              have hkm := List.mem_of_getElem? hkL
              have hck : (patW (fun k => .split (k + 1) ee) C (L.take i))[k]? = some (.split (k + 1) 0) := by rw [patW_get _ _ _ (hLr.fresh hkL)]; exact hLg k hkm
              have hkl := lt_of_get hck
              have hpL := patW_len (fun k => Ins.split (k + 1) ee) (L.take i) C
              rw [hCl] at hpL
              rw [hpL] at hkl
              obtain ⟨sb, rfl, _, hsc⟩ := own_cells hs (by omega)
              obtain ⟨va3, vc3, rfl⟩ := G.st.form' hpL
              obtain ⟨g, cur, rfl, hg, hgs, hgb, hgF⟩ := G.st.block (by omega)
              rw [hpL] at hgs
              have hxg : bx ≠ g := fun e => hgF (e ▸ hk)
              have hblk := G.st.blk
              have hgp := G.st.pb
              refine Wp_skip ?_
              refine thn_normal ?_
              refine Wp_seq ?_
              refine Wp_block ?_
              refine Wp_seq_region ?_
              refine WpL_val rfl rfl (by decide) (r_indexSlice (b := sb) (o := 0) (len := k2) (cap := lc) (i := i) (o' := 0 + i) rfl rfl rfl Tryd.underlying22 siz3 (by omega) (by omega)) ?_
              refine WpL_val rfl rfl (by decide) (r_load (v := (.int .i64 ((k : Nat) : Int))) rfl flat3 (hsc i (iV k) (by rw [List.getElem?_map, hkL]; rfl))) ?_
              refine WpL_val rfl rfl (by decide) (r_assign (v := (.int .i64 ((k : Nat) : Int))) rfl) ?_
              refine WpL_nil ?_
              refine Wp_draw 12 mixed (by kernel_rfl) ?_
              intro w7 X7 _
              replace Bx := X7.keep Bx
              replace hblk := X7.keep hblk
              replace hg := X7.keep hg
              replace G := G.ext X7
              replace hs := own_ext hs X7
              replace E := E.ext X7
              refine WpT_val rfl rfl (by decide) (r_move (v := (.pointer (some ⟨pb, 0, none⟩))) rfl) ?_
              refine WpT_val rfl rfl (by decide) (r_nilCheck (a := ⟨pb, 0, none⟩) rfl) ?_
              refine WpT_val rfl rfl (by decide) (r_fieldAddr (b := pb) (o := 0) (o' := 0) rfl Tryd.underlying94 rfl siz92 rfl) ?_
              refine WpT_val rfl rfl (by decide) (r_load (v := (.slice (some ⟨g, 0, none⟩) ee vc3)) rfl flat92 (hblk.cell rfl)) ?_
              refine WpT_val rfl rfl (by decide) (r_move (v := (.int .i64 ((k : Nat) : Int))) rfl) ?_
              refine WpT_val rfl rfl (by decide) (r_move (v := (.pointer (some ⟨pb, 0, none⟩))) rfl) ?_
              refine WpT_val rfl rfl (by decide) (r_nilCheck (a := ⟨pb, 0, none⟩) rfl) ?_
              refine WpT_val rfl rfl (by decide) (r_fieldAddr (b := pb) (o := 0) (o' := 0) rfl Tryd.underlying94 rfl siz92 rfl) ?_
              refine WpT_val rfl rfl (by decide) (r_load (v := (.slice (some ⟨g, 0, none⟩) ee vc3)) rfl flat92 (hblk.cell rfl)) ?_
              refine WpT_val rfl rfl (by decide) (r_lenSlice (ad := some ⟨g, 0, none⟩) (n := ee) (cap := vc3) Tryd.underlying92 rfl) ?_
              refine WpT_val rfl rfl (by decide) (r_indexSlice (b := g) (o := 0) (len := ee) (cap := vc3) (i := k) (o' := 0 + k * 8) rfl rfl rfl Tryd.underlying92 siz98 (by omega) (by omega)) ?_
              refine WpT_val rfl rfl (by decide) (r_fieldAddr (b := g) (o := 0 + k * 8) (o' := 0 + k * 8 + 2) rfl Tryd.underlying98 rfl siz3 rfl) ?_
              refine WpT_zero ?_
              refine s_store (b := g) (o := 0 + k * 8 + 2) (c' := cur.setIfInBounds (k * 8 + 2) (iV ee)) (v := (.int .i64 ((ee : Nat) : Int))) rfl rfl rfl siz3 hg (by omega) (by rw [Nat.zero_add]) ?_
              intro w8 S8
              replace G := G.patch (i := k) (f := 2) (x := iV ee) (ins := .split (k + 1) ee) hpL.symm hg S8 (by omega) (by omega) (split_row hck) (fun _ _ => rfl) (fun _ _ h => by cases h)
              replace hs := own_chg hs S8.chg (fun q hq e => (hap q hq).2.2 (by have e' : q = g := e; rw [e']; rfl))
              replace Bx := S8.keep (by omega) Bx
              replace hblk := S8.keep (by omega) hblk
              replace E := S8.step E (by first | exact Or.inl (by omega) | exact Or.inr rfl | exact Or.inr (by assumption) | exact Or.inr (by simp) | exact Or.inr (by omega) | exact Or.inr (by dsimp only; omega))
              replace hg := S8.blk
              refine WpL_nil ?_
              refine inB_normal ?_
              refine thn_normal ?_
              refine Wp_region ?_
              refine WpL_val rfl rfl (by decide) (r_add (k := .i64) (a := ((i : Nat) : Int)) (b := 1) (c := ((i : Nat) : Int) + 1) rfl rfl (wI64 (by omega))) ?_
              refine WpL_val rfl rfl (by decide) (r_move (v := (.int .i64 (((i : Nat) : Int) + 1))) rfl) ?_
              refine WpL_nil ?_
              refine thn_normal ?_
              exact ⟨k2 - (i + 1), by omega, i + 1, Fits.out ⟨rfl, rfl, rfl, rfl, trivial⟩, E, Bx, (by omega), (by rw [patW_take hkL]; exact G), hs, rfl⟩
            · have khlt3 := hlt3
              replace hlt3 := of_decide_eq_false hlt3
              have hik : i = k2 := by omega
              refine Wp_exit ?_
              refine thn_exit ?_
              refine thn_exit ?_
              refine inB_here ?_
              refine inB_normal ?_
              refine fin_none Tryd.results45 ?_
              rw [hik, List.take_of_length_le (by omega), hLp, List.append_assoc] at G
              rw [hel.2]
              exact ⟨F1, v1, G⟩
theorem sizes_ge : ∀ ts : List Re, ts.length ≤ Re.sizes ts
  | [] => Nat.le_refl 0
  | t :: ts => by
    have h1 := Re.size_pos t
    have h2 := sizes_ge ts
    simp only [List.length_cons, Re.sizes]
    omega
theorem altP_mono (e : Nat) : ∀ {L : List Frg}, (∀ f ∈ L, FMono f) → FMono (altP e L)
  | [], _, _, _, t => Nat.le_refl t
  | f :: L, h, a, d, t => by
    have h1 := h f (by simp) (a + 1) d t
    have h2 := altP_mono e (L := L) (fun x hx => h x (by simp [hx])) (a + 1 + (f (a + 1) d t).1.length + 1) d (f (a + 1) d t).2
    simp only [altP]; omega
theorem altP_le : ∀ {L : List Frg}, (∀ f ∈ L, FMono f) → ∀ (j a d t : Nat), (altP 0 (L.take j) a d t).1.length ≤ (altP 0 L a d t).1.length ∧ (altP 0 (L.take j) a d t).2 ≤ (altP 0 L a d t).2
  | [], _, j, _, _, _ => by simp
  | f :: L, h, 0, a, d, t => ⟨by simp [altP], altP_mono 0 h a d t⟩
  | f :: L, h, j + 1, a, d, t => by
    have ih := altP_le (L := L) (fun x hx => h x (by simp [hx])) j (a + 1 + (f (a + 1) d t).1.length + 1) d (f (a + 1) d t).2
    simp only [List.take_succ_cons, altP, List.length_cons, List.length_append]
    omega
theorem frg_4 {set : List (Int × Int)} {args : List Re} {mn mx : Int} {ng : Bool} (a d t : Nat) : frgOf (.mk 4 set args mn mx ng) a d t = altF (a + (altF 0 (args.map frgOf) a d t).1.length) (args.map frgOf) a d t := by simp [frgOf, frgK, frgsOf_eq]
set_option maxHeartbeats 4000000 in
theorem of_4 (wb : World) (set : List (Int × Int)) (init : List Re) (zl : Re) (mn mx : Int) (ng : Bool) (hih : ∀ y ∈ init ++ [zl], OfC wb y) : OfC wb (.mk 4 set (init ++ [zl]) mn mx ng) := by
  intro base pb F w0 v n code t d vs hx hE hF hP hn ht hd
  simp only [ReAt] at hx
  obtain ⟨sa, sc, aa, ac, rfl, hset, hal, hargs⟩ := hx
  rw [frg_4] at hn ht ⊢
  have hlen := hP.len
  simp only [Re.size] at hd
  obtain ⟨L0, hL0⟩ : ∃ L0, L0 = init.map frgOf := ⟨_, rfl⟩
  have hLm : ∀ f ∈ L0, FMono f := by rw [hL0]; exact maps_mono
  have hmap : (init ++ [zl]).map frgOf = L0 ++ [frgOf zl] := by rw [List.map_append, hL0]; rfl
  rw [hmap] at hn ht ⊢
  obtain ⟨P0, hP0⟩ : ∃ P, P = altP 0 L0 n d t := ⟨_, rfl⟩
  obtain ⟨Z, hZ⟩ : ∃ Z, Z = frgOf zl (n + P0.1.length) d P0.2 := ⟨_, rfl⟩
  have hA0 := altF_last 0 (frgOf zl) L0 n d t
  rw [← hP0, ← hZ] at hA0
  obtain ⟨ee, hee⟩ : ∃ e, e = n + (altF 0 (L0 ++ [frgOf zl]) n d t).1.length := ⟨_, rfl⟩
  rw [← hee] at hn ht ⊢
  rw [hA0] at hee
  dsimp only at hee
  rw [List.length_append] at hee
  have hAe := altF_last ee (frgOf zl) L0 n d t
  have hpe := altP_len ee 0 L0 n d t
  rw [hpe.1, hpe.2, ← hP0, ← hZ] at hAe
  rw [hAe] at hn ht ⊢
  dsimp only at hn ht ⊢
  rw [List.length_append, hpe.1, ← hP0] at hn
  have hZm := frgOf_mono zl (n + P0.1.length) d P0.2
  rw [← hZ] at hZm
  obtain ⟨m, hm⟩ : ∃ m, m = (init ++ [zl]).length := ⟨_, rfl⟩
  have hm1 : m = init.length + 1 := by rw [hm]; simp
  have hml : m ≤ 1000 := by have := sizes_ge (init ++ [zl]); omega
  have hL0l : L0.length = init.length := by rw [hL0]; simp
  obtain ⟨b, o, rfl, hres⟩ := res_block (i := 0) hargs (by rw [← hm]; omega)
  rw [← hm] at hal ⊢
  refine Ret_of Tryd.func45 rfl Tryd.ntmps45 (Nat.le_of_ble_eq_true rfl) ?_
  have E : Chg (fun _ => True) w0 w0 := Chg.refl _ _
  refine Wp_seq_region ?_
  refine s_box (v := (.agg #[(.int .i64 4), (.slice sa set.length sc), (.slice (some ⟨b, o, none⟩) m ac), (.int .i64 mn), (.int .i64 mx), (.bool ng)])) (c := #[(.int .i64 4), (.slice sa set.length sc), (.slice (some ⟨b, o, none⟩) m ac), (.int .i64 mn), (.int .i64 mx), (.bool ng)]) (by decide) rfl rfl ?_
  intro bx wx Nx
  have Fx := Nx.ge E
  replace E := E.ext Nx.ext
  have Bx := Nx.blk
  refine WpL_nil ?_
  refine Wp_seq_region ?_
  refine WpL_val rfl rfl (by decide) (r_fieldAddr (b := bx) (o := 0) (o' := 0) rfl Tryd.underlying27 rfl siz3 rfl) ?_
  refine WpL_val rfl rfl (by decide) (r_load (v := (.int .i64 4)) rfl flat3 (Bx.cell rfl)) ?_
  refine WpL_nil ?_
  refine Wp_block ?_
  refine Wp_seq_region ?_
  refine WpL_val rfl rfl (by decide) (r_eql (k := .i64) (a := 4) (b := 0) rfl rfl) ?_
  refine WpL_val rfl rfl (by decide) (r_assign (v := (.bool false)) rfl) ?_
  refine WpL_nil ?_
  refine Wp_cond_false rfl ?_
  refine Wp_seq_region ?_
  refine WpL_val rfl rfl (by decide) (r_eql (k := .i64) (a := 4) (b := 2) rfl rfl) ?_
  refine WpL_val rfl rfl (by decide) (r_assign (v := (.bool false)) rfl) ?_
  refine WpL_nil ?_
  refine Wp_cond_false rfl ?_
  refine Wp_seq_region ?_
  refine WpL_val rfl rfl (by decide) (r_eql (k := .i64) (a := 4) (b := 3) rfl rfl) ?_
  refine WpL_val rfl rfl (by decide) (r_assign (v := (.bool false)) rfl) ?_
  refine WpL_nil ?_
  refine Wp_cond_false rfl ?_
  refine Wp_seq_region ?_
  refine WpL_val rfl rfl (by decide) (r_eql (k := .i64) (a := 4) (b := 4) rfl rfl) ?_
  refine WpL_val rfl rfl (by decide) (r_assign (v := (.bool true)) rfl) ?_
  refine WpL_nil ?_
  refine Wp_cond_true rfl ?_
  refine Wp_seq_region ?_
  refine WpL_val rfl rfl (by decide) (r_assign (v := (.slice none 0 0)) rfl) ?_
  refine WpL_nil ?_
  refine Wp_seq ?_
  refine Wp_seq_region ?_
  refine WpL_val rfl rfl (by decide) (r_fieldAddr (b := bx) (o := 0) (o' := 2) rfl Tryd.underlying27 rfl siz25 rfl) ?_
  refine WpL_val rfl rfl (by decide) (r_load (v := (.slice (some ⟨b, o, none⟩) m ac)) rfl flat25 (Bx.cell rfl)) ?_
  refine WpL_val rfl rfl (by decide) (r_lenSlice (ad := some ⟨b, o, none⟩) (n := m) (cap := ac) Tryd.underlying25 rfl) ?_
  refine WpL_val rfl rfl (by decide) (r_move (v := (.int .i64 0)) rfl) ?_
  refine WpL_nil ?_
  refine Wp_block ?_
  have G1 := (GrX.start hP).frz Nx.ext (b := bx) (by rw [Nx.eq]; exact Nat.le_refl _) Bx.lt
  obtain ⟨n2, hn2⟩ : ∃ n2, n2 = (wx).heap.size := ⟨_, rfl⟩
  have hn2b : bx < n2 ∧ w0.heap.size ≤ n2 ∧ pb < n2 := ⟨by rw [hn2]; exact Bx.lt, by rw [hn2]; exact G1.chg.size, by rw [hn2]; exact G1.st.blk.lt⟩
  refine Wp_loop (fun nn_ σ W1 => ∃ (i : Nat) (F1 : Nat → Prop) (v1 : Value) (la : Option Addr) (lc : Nat), (∃ jj_, σ = upds jj_ [(0, (.pointer (some ⟨pb, 0, none⟩))), (3, (.pointer (some ⟨bx, 0, none⟩))), (47, (.slice (some ⟨b, o, none⟩) m ac)), (48, (.int .i64 ((m : Nat) : Int))), (49, (.int .i64 ((i : Nat) : Int))), (6, (.slice la i lc))]) ∧ Chg (fun _ => True) w0 W1 ∧ Blk W1 bx #[(.int .i64 4), (.slice sa set.length sc), (.slice (some ⟨b, o, none⟩) m ac), (.int .i64 mn), (.int .i64 mx), (.bool ng)] 27 ∧ (i < m) ∧ (GrX F w0 base pb v F1 v1 (code ++ (altP 0 (L0.take i) n d t).1) (altP 0 (L0.take i) n d t).2 d W1) ∧ (F1 bx) ∧ (W1.ownsRow n2 TIn 1 (.slice la i lc) i ((altI (L0.take i) n d t).map iV)) ∧ (∀ q, (Value.slice la i lc).ownBlock = some q → Apt F1 pb v1 q) ∧ (n2 ≤ W1.heap.size) ∧ nn_ = m - i) (n := m - 0) ?_ ?_
  · exact ⟨0, (fun y => F y ∨ y = bx), v, none, 0, Fits.out ⟨rfl, rfl, rfl, rfl, rfl, rfl, trivial⟩, E, Bx, (by omega), (by rw [List.take_zero]; simp only [altP, List.append_nil]; exact G1), .inr rfl, World.ownsRow_nil _ _ _ _, (fun q hq => by cases hq), (by omega), rfl⟩
  · clear E Bx
    rintro _ _ W1 ⟨i, F1, v1, la, lc, ⟨j1, rfl⟩, E, Bx, hi, G, hk, hs, hap, hsz, rfl⟩
    refine Wp_seq_region ?_
    refine WpL_val rfl rfl (by decide) (r_lss (k := .i64) (a := ((i : Nat) : Int)) (b := ((m : Nat) : Int)) rfl rfl) ?_
    refine WpL_nil ?_
    refine Wp_seq ?_
    have hc2 : (decide ((((i : Nat) : Int) : Int) < ((m : Nat) : Int))) = true := decide_eq_true (by omega)
    refine Wp_cond_true (congrArg Value.bool hc2) ?_
    refine Wp_skip ?_
    refine thn_normal ?_
    refine Wp_seq ?_
    refine Wp_block ?_
    refine Wp_seq_region ?_
    refine WpL_val rfl rfl (by decide) (r_move (v := (.int .i64 ((i : Nat) : Int))) rfl) ?_
    refine WpL_val rfl rfl (by decide) (r_indexSlice (b := b) (o := o) (len := m) (cap := ac) (i := i) (o' := o + i * 6) rfl rfl rfl Tryd.underlying25 siz27 (by omega) (by omega)) ?_
    obtain ⟨y, hy⟩ := get_of_lt (l := init ++ [zl]) (i := i) (by omega)
    obtain ⟨us, hus, hyt⟩ := hres.get hy
    have hym := List.mem_of_getElem? hy
    have hsz9 := Re.sizes_get hy
    have hEW := G.wb hP.hp hP.ho hF hE
    obtain ⟨ya, yc, za, zc, rfl, _⟩ := hyt.form
    obtain ⟨z, hz⟩ : ∃ z, z = (W1).heap.size := ⟨_, rfl⟩
    have hnb := G.fresh
    have hslt := hs.lt
    rw [← hz] at hnb hslt
    refine WpL_val rfl rfl (by decide) (r_loadAgg (vs := [(.int .i64 y.kind), (.slice ya y.set.length yc), (.slice za y.args.length zc), (.int .i64 y.mn), (.int .i64 y.mx), (.bool y.neg)]) rfl agg27 siz27 rfl ((hus.ext hEW))) ?_
    refine s_alloc (c := #[(.int .i64 0), (.slice none 0 0), (.slice none 0 0), (.int .i64 0), (.int .i64 0), (.bool false)]) (by decide) zer27 rfl ?_
    intro bu wu Nu
    have Fu := Nu.ge E
    have Ou_bx := Nu.lt Bx
    replace Bx := Nu.keep Bx
    replace G := G.ext Nu.ext
    replace hs := own_ext hs Nu.ext
    replace E := E.ext Nu.ext
    have Bu := Nu.blk
    refine WpL_val rfl rfl (by decide) (r_assign (v := (.int .i64 ((i : Nat) : Int))) rfl) ?_
    refine s_storeAgg (b := bu) (o := 0) (c' := #[(.int .i64 y.kind), (.slice ya y.set.length yc), (.slice za y.args.length zc), (.int .i64 y.mn), (.int .i64 y.mx), (.bool y.neg)]) rfl rfl (by simp [Value.oneCell']) siz27 rfl Bu (by first | (simp; done) | exact Nat.le_of_ble_eq_true rfl) rfl ?_
    intro w3 S3
    replace G := G.other S3.chg (fun q hq => hnb q (by have h' : q = bu := hq; have := Nu.eq; omega))
    replace hs := own_chg hs S3.chg (fun q hq e => by have h' : q = bu := e; have := hslt q hq; have := Nu.eq; omega)
    replace Bx := S3.keep (by omega) Bx
    replace E := S3.step E (by first | exact Or.inl (by omega) | exact Or.inr rfl | exact Or.inr (by assumption) | exact Or.inr (by simp) | exact Or.inr (by omega) | exact Or.inr (by dsimp only; omega))
    replace Bu := S3.blk
    refine WpL_nil ?_
    refine Wp_seq ?_
    refine Wp_seq_region ?_
    refine WpL_val rfl rfl (by decide) (r_move (v := (.int .i64 ((i : Nat) : Int))) rfl) ?_
    refine WpL_val rfl rfl (by decide) (r_add (k := .i64) (a := ((i : Nat) : Int)) (b := 1) (c := ((i : Nat) : Int) + 1) rfl rfl (wI64 (by omega))) ?_
    refine WpL_val rfl rfl (by decide) (r_fieldAddr (b := bx) (o := 0) (o' := 2) rfl Tryd.underlying27 rfl siz25 rfl) ?_
    refine WpL_val rfl rfl (by decide) (r_load (v := (.slice (some ⟨b, o, none⟩) m ac)) rfl flat25 (Bx.cell rfl)) ?_
    refine WpL_val rfl rfl (by decide) (r_lenSlice (ad := some ⟨b, o, none⟩) (n := m) (cap := ac) Tryd.underlying25 rfl) ?_
    refine WpL_val rfl rfl (by decide) (r_eql (k := .i64) (a := ((i : Nat) : Int) + 1) (b := ((m : Nat) : Int)) rfl rfl) ?_
    refine WpL_nil ?_
    refine Wp_cond (b := decide ((((i : Nat) : Int) + 1 : Int) = ((m : Nat) : Int))) rfl (fun hlast => ?_) (fun hlast => ?_)
    · have khlast := hlast
      replace hlast := of_decide_eq_true hlast
      have hie : i = init.length := by omega
      have hyz : y = zl := by rw [hie, List.getElem?_append_right (Nat.le_refl _), Nat.sub_self] at hy; simpa using hy.symm
      have htk : L0.take i = L0 := List.take_of_length_le (by omega)
      rw [htk] at G hs
      rw [← hP0] at G
      have hub : z ≤ bu := by have := Nu.eq; omega
      obtain ⟨q1, q2, q3, q4⟩ := hnb bu hub
      have G2 := G.frz2 q1 Bu.lt q3 q4
      have hap2 : ∀ q, (Value.slice la i lc).ownBlock = some q → Apt (fun y => F1 y ∨ y = bu) pb v1 q := fun q hq => ⟨fun hf => hf.elim (hap q hq).1 (fun e => by have := hslt q hq; omega), (hap q hq).2⟩
      have hslt2 := hs.lt
      have hlj : (code ++ P0.1).length = n + P0.1.length := by rw [List.length_append, hlen]
      have hEW2 := G2.wb hP.hp hP.ho hF hE
      refine Wp_seq_region ?_
      refine WpL_val rfl rfl (by decide) (r_move (v := (.pointer (some ⟨pb, 0, none⟩))) rfl) ?_
      refine WpL_val rfl rfl (by decide) (r_loadAgg (vs := [(.int .i64 y.kind), (.slice ya y.set.length yc), (.slice za y.args.length zc), (.int .i64 y.mn), (.int .i64 y.mx), (.bool y.neg)]) rfl agg27 siz27 rfl (Bu.cells rfl)) ?_
      refine WpL_enter rfl rfl (by decide) (r_callF (vs := [(.pointer (some ⟨pb, 0, none⟩)), (.agg #[(.int .i64 y.kind), (.slice ya y.set.length yc), (.slice za y.args.length zc), (.int .i64 y.mn), (.int .i64 y.mx), (.bool y.neg)])]) Tryd.func45 nm45 bd45 rfl) (hih y hym base pb _ _ v1 (n + P0.1.length) (code ++ P0.1) P0.2 d _ hyt hEW2 (fun q hq => G2.sub q (hF q hq)) (hlj ▸ G2.st) (by rw [hyz, ← hZ]; omega) (by rw [hyz, ← hZ]; exact ht) (by omega)) ?_
      rintro _ w19 ⟨F3, v3, G3⟩
      replace Bx := G3.chg.keep (G2.st.kept (by first | exact .inr rfl | exact .inl hk)) Bx
      replace Bu := G3.chg.keep (G2.st.kept (by first | exact .inr rfl | exact .inl hk)) Bu
      replace E := E.step G3.chg (fun _ _ _ => trivial)
      rw [hyz, ← hZ] at G3
      have hs := own_chg hs G3.chg (fun q hq h => (hap2 q hq).keep h)
      have hap3 : ∀ q, (Value.slice la i lc).ownBlock = some q → Apt F3 pb v3 q := fun q hq => (hap2 q hq).step G3 (hslt2 q hq).2
      have k3 : F3 bx := G3.sub _ (.inl hk)
      replace G3 := G2.comp G3
      rw [List.append_assoc] at G3
      obtain ⟨C, hC⟩ : ∃ C, C = code ++ (P0.1 ++ Z.1) := ⟨_, rfl⟩
      obtain ⟨L, hL⟩ : ∃ L, L = altI L0 n d t := ⟨_, rfl⟩
      have hLl : L.length = i := by rw [hL, altI_len]; omega
      have hCl : C.length = ee := by rw [hC, List.length_append, List.length_append, hlen, hee]
      have hLr : Rise n L := by rw [hL]; exact altI_rise _ _ _ _
      have hLg : ∀ k ∈ L, C[k]? = some (.jump 0) := by rw [hC, hL, hP0]; exact altI_get L0 n d t code Z.1 hlen
      have hLp : patW (fun _ => .jump ee) C L = code ++ ((altP ee L0 n d t).1 ++ Z.1) := by rw [hC, hL, hP0]; exact altI_pat ee L0 n d t code Z.1 hlen
      rw [← hC] at G3
      rw [← hL] at hs
      refine WpL_nil ?_
      refine Wp_exit ?_
      refine thn_exit ?_
      refine inB_there (by decide) ?_
      refine thn_exit ?_
      refine thn_exit ?_
      refine inB_here ?_
      refine thn_normal ?_
      refine Wp_seq_region ?_
      refine WpL_val rfl rfl (by decide) (r_move (v := (.slice la i lc)) rfl) ?_
      refine WpL_val rfl rfl (by decide) (r_lenSlice (ad := la) (n := i) (cap := lc) Tryd.underlying22 rfl) ?_
      refine WpL_val rfl rfl (by decide) (r_move (v := (.int .i64 0)) rfl) ?_
      refine WpL_nil ?_
      refine Wp_block ?_
      refine Wp_loop (fun nn_ σ W5 => ∃ (i2 : Nat), (∃ jj_, σ = upds jj_ [(0, (.pointer (some ⟨pb, 0, none⟩))), (94, (.slice la i lc)), (95, (.int .i64 ((i : Nat) : Int))), (96, (.int .i64 ((i2 : Nat) : Int)))]) ∧ Chg (fun _ => True) w0 W5 ∧ Blk W5 bx #[(.int .i64 4), (.slice sa set.length sc), (.slice (some ⟨b, o, none⟩) m ac), (.int .i64 mn), (.int .i64 mx), (.bool ng)] 27 ∧ (i2 ≤ i) ∧ (GrX F w0 base pb v F3 v3 (patW (fun _ => .jump ee) C (L.take i2)) Z.2 d W5) ∧ (W5.ownsRow n2 TIn 1 (.slice la i lc) i (L.map iV)) ∧ nn_ = i - i2) (n := i - 0) ?_ ?_
      · exact ⟨0, Fits.out ⟨rfl, rfl, rfl, rfl, trivial⟩, E, Bx, Nat.zero_le _, (by rw [List.take_zero]; exact G3), hs, rfl⟩
      · clear E Bx
        rintro _ _ W5 ⟨i2, ⟨j5, rfl⟩, E, Bx, hi2, G, hs, rfl⟩
        refine Wp_seq_region ?_
        refine WpL_val rfl rfl (by decide) (r_lss (k := .i64) (a := ((i2 : Nat) : Int)) (b := ((i : Nat) : Int)) rfl rfl) ?_
        refine WpL_nil ?_
        refine Wp_seq ?_
        refine Wp_cond (b := decide ((((i2 : Nat) : Int) : Int) < ((i : Nat) : Int))) rfl (fun hlt3 => ?_) (fun hlt3 => ?_)
        · have khlt3 := hlt3
          replace hlt3 := of_decide_eq_true hlt3
          obtain ⟨k, hkL⟩ := get_of_lt (l := L) (i := i2) (by omega)
          have hkm := List.mem_of_getElem? hkL
          have hck : (patW (fun _ => .jump ee) C (L.take i2))[k]? = some (.jump 0) := by rw [patW_get _ _ _ (hLr.fresh hkL)]; exact hLg k hkm
          have hkl := lt_of_get hck
          have hpL := patW_len (fun _ => Ins.jump ee) (L.take i2) C
          rw [hCl] at hpL
          rw [hpL] at hkl
          obtain ⟨sb, rfl, _, hsc⟩ := own_cells hs (by omega)
          obtain ⟨va3, vc3, rfl⟩ := G.st.form' hpL
          obtain ⟨g, cur, rfl, hg, hgs, hgb, hgF⟩ := G.st.block (by omega)
          rw [hpL] at hgs
          have hxg : bx ≠ g := fun e => hgF (e ▸ k3)
          have hblk := G.st.blk
          have hgp := G.st.pb
          refine Wp_skip ?_
          refine thn_normal ?_
          refine Wp_seq ?_
          refine Wp_block ?_
          refine Wp_seq_region ?_
          refine WpL_val rfl rfl (by decide) (r_indexSlice (b := sb) (o := 0) (len := i) (cap := lc) (i := i2) (o' := 0 + i2) rfl rfl rfl Tryd.underlying22 siz3 (by omega) (by omega)) ?_
          refine WpL_val rfl rfl (by decide) (r_load (v := (.int .i64 ((k : Nat) : Int))) rfl flat3 (hsc i2 (iV k) (by rw [List.getElem?_map, hkL]; rfl))) ?_
          refine WpL_val rfl rfl (by decide) (r_assign (v := (.int .i64 ((k : Nat) : Int))) rfl) ?_
          refine WpL_nil ?_
          refine Wp_draw 12 mixed (by kernel_rfl) ?_
          intro w7 X7 _
          replace Bx := X7.keep Bx
          replace hblk := X7.keep hblk
          replace hg := X7.keep hg
          replace G := G.ext X7
          replace hs := own_ext hs X7
          replace E := E.ext X7
          refine WpT_val rfl rfl (by decide) (r_move (v := (.pointer (some ⟨pb, 0, none⟩))) rfl) ?_
          refine WpT_val rfl rfl (by decide) (r_nilCheck (a := ⟨pb, 0, none⟩) rfl) ?_
          refine WpT_val rfl rfl (by decide) (r_fieldAddr (b := pb) (o := 0) (o' := 0) rfl Tryd.underlying94 rfl siz92 rfl) ?_
          refine WpT_val rfl rfl (by decide) (r_load (v := (.slice (some ⟨g, 0, none⟩) ee vc3)) rfl flat92 (hblk.cell rfl)) ?_
          refine WpT_val rfl rfl (by decide) (r_move (v := (.int .i64 ((k : Nat) : Int))) rfl) ?_
          refine WpT_val rfl rfl (by decide) (r_move (v := (.pointer (some ⟨pb, 0, none⟩))) rfl) ?_
          refine WpT_val rfl rfl (by decide) (r_nilCheck (a := ⟨pb, 0, none⟩) rfl) ?_
          refine WpT_val rfl rfl (by decide) (r_fieldAddr (b := pb) (o := 0) (o' := 0) rfl Tryd.underlying94 rfl siz92 rfl) ?_
          refine WpT_val rfl rfl (by decide) (r_load (v := (.slice (some ⟨g, 0, none⟩) ee vc3)) rfl flat92 (hblk.cell rfl)) ?_
          refine WpT_val rfl rfl (by decide) (r_lenSlice (ad := some ⟨g, 0, none⟩) (n := ee) (cap := vc3) Tryd.underlying92 rfl) ?_
          refine WpT_val rfl rfl (by decide) (r_indexSlice (b := g) (o := 0) (len := ee) (cap := vc3) (i := k) (o' := 0 + k * 8) rfl rfl rfl Tryd.underlying92 siz98 (by omega) (by omega)) ?_
          refine WpT_val rfl rfl (by decide) (r_fieldAddr (b := g) (o := 0 + k * 8) (o' := 0 + k * 8 + 1) rfl Tryd.underlying98 rfl siz3 rfl) ?_
          refine WpT_zero ?_
          refine s_store (b := g) (o := 0 + k * 8 + 1) (c' := cur.setIfInBounds (k * 8 + 1) (iV ee)) (v := (.int .i64 ((ee : Nat) : Int))) rfl rfl rfl siz3 hg (by omega) (by rw [Nat.zero_add]) ?_
          intro w8 S8
          replace G := G.patch (i := k) (f := 1) (x := iV ee) (ins := .jump ee) hpL.symm hg S8 (by omega) (by omega) (jump_row hck) (fun _ _ => rfl) (fun _ _ h => by cases h)
          replace hs := own_chg hs S8.chg (fun q hq e => (hap3 q hq).2.2 (by have e' : q = g := e; rw [e']; rfl))
          replace Bx := S8.keep (by omega) Bx
          replace hblk := S8.keep (by omega) hblk
          replace E := S8.step E (by first | exact Or.inl (by omega) | exact Or.inr rfl | exact Or.inr (by assumption) | exact Or.inr (by simp) | exact Or.inr (by omega) | exact Or.inr (by dsimp only; omega))
          replace hg := S8.blk
          refine WpL_nil ?_
          refine inB_normal ?_
          refine thn_normal ?_
          refine Wp_region ?_
          refine WpL_val rfl rfl (by decide) (r_add (k := .i64) (a := ((i2 : Nat) : Int)) (b := 1) (c := ((i2 : Nat) : Int) + 1) rfl rfl (wI64 (by omega))) ?_
          refine WpL_val rfl rfl (by decide) (r_move (v := (.int .i64 (((i2 : Nat) : Int) + 1))) rfl) ?_
          refine WpL_nil ?_
          refine thn_normal ?_
          exact ⟨i - (i2 + 1), by omega, i2 + 1, Fits.out ⟨rfl, rfl, rfl, rfl, trivial⟩, E, Bx, (by omega), (by rw [patW_take hkL]; exact G), hs, rfl⟩
        · have khlt3 := hlt3
          replace hlt3 := of_decide_eq_false hlt3
          have hik : i2 = i := by omega
          refine Wp_exit ?_
          refine thn_exit ?_
          refine thn_exit ?_
          refine inB_here ?_
          refine inB_normal ?_
          refine fin_none Tryd.results45 ?_
          rw [hik, List.take_of_length_le (by omega), hLp] at G
          exact ⟨F3, v3, G⟩
    · have khlast := hlast
      replace hlast := of_decide_eq_false hlast
      have hiI : i < init.length := by omega
      have hbu3 := Bu.lt
      have hyI : init[i]? = some y := by rw [List.getElem?_append_left hiI] at hy; exact hy
      have hfy : L0[i]? = some (frgOf y) := by rw [hL0, List.getElem?_map, hyI]; rfl
      have htake : L0.take (i + 1) = L0.take i ++ [frgOf y] := by rw [List.take_add_one, hfy]; rfl
      have hst := altP_step 0 (frgOf y) (L0.take i) n d t
      have hix := altI_step (frgOf y) (L0.take i) n d t
      have hle := altP_le hLm (i + 1) n d t
      rw [← htake] at hst hix
      rw [hst, ← hP0] at hle
      obtain ⟨Q, hQ⟩ : ∃ Q, Q = altP 0 (L0.take i) n d t := ⟨_, rfl⟩
      rw [← hQ] at hst hle hix G
      have hRm := frgOf_mono y (n + Q.1.length + 1) d Q.2
      obtain ⟨R, hR⟩ : ∃ R, R = frgOf y (n + Q.1.length + 1) d Q.2 := ⟨_, rfl⟩
      rw [← hR] at hst hle hix hRm
      simp only [List.length_append, List.length_cons, List.length_nil] at hle
      have hub : z ≤ bu := by have := Nu.eq; omega
      obtain ⟨q1, q2, q3, q4⟩ := hnb bu hub
      have G2 := G.frz2 q1 Bu.lt q3 q4
      have hap2 : ∀ q, (Value.slice la i lc).ownBlock = some q → Apt (fun y => F1 y ∨ y = bu) pb v1 q := fun q hq => ⟨fun hf => hf.elim (hap q hq).1 (fun e => by have := hslt q hq; omega), (hap q hq).2⟩
      have hslt2 := hs.lt
      have hlj : (code ++ Q.1).length = n + Q.1.length := by rw [List.length_append, hlen]
      obtain ⟨va2, vc2, rfl⟩ := G2.st.form' hlj
      have hblk := G2.st.blk
      have hgp := G2.st.pb
      refine Wp_skip ?_
      refine thn_normal ?_
      refine Wp_seq_region ?_
      refine WpL_val rfl rfl (by decide) (r_move (v := (.pointer (some ⟨pb, 0, none⟩))) rfl) ?_
      refine WpL_val rfl rfl (by decide) (r_move (v := (.pointer (some ⟨pb, 0, none⟩))) rfl) ?_
      refine WpL_val rfl rfl (by decide) (r_nilCheck (a := ⟨pb, 0, none⟩) rfl) ?_
      refine WpL_val rfl rfl (by decide) (r_fieldAddr (b := pb) (o := 0) (o' := 0) rfl Tryd.underlying94 rfl siz92 rfl) ?_
      refine WpL_val rfl rfl (by decide) (r_load (v := (.slice va2 (n + Q.1.length) vc2)) rfl flat92 (hblk.cell rfl)) ?_
      refine WpL_val rfl rfl (by decide) (r_lenSlice (ad := va2) (n := (n + Q.1.length)) (cap := vc2) Tryd.underlying92 rfl) ?_
      refine WpL_val rfl rfl (by decide) (r_add (k := .i64) (a := (((n + Q.1.length) : Nat) : Int)) (b := 1) (c := ((n + Q.1.length + 1 : Nat) : Int)) rfl rfl ((wI64 (by omega)).trans (by omega))) ?_
      refine WpL_val rfl rfl (by decide) (r_build (ps := [(0, (.int .i64 1)), (1, (.int .i64 ((n + Q.1.length + 1 : Nat) : Int)))]) (v := (.agg #[(.int .i64 1), (.int .i64 ((n + Q.1.length + 1 : Nat) : Int)), (.int .i64 0), (.int .i64 0), (.int .i64 0), (.slice none 0 0), (.pointer none), (.bool false)])) rfl (by kernel_rfl)) ?_
      refine WpL_enter rfl rfl (by decide) (r_callF (vs := [(.pointer (some ⟨pb, 0, none⟩)), (.agg #[(.int .i64 1), (.int .i64 ((n + Q.1.length + 1 : Nat) : Int)), (.int .i64 0), (.int .i64 0), (.int .i64 0), (.slice none 0 0), (.pointer none), (.bool false)])]) Tryd.func46 nm46 bd46 rfl) (add_c _ _ base pb _ (n + Q.1.length) _ Q.2 d (.split (n + Q.1.length + 1) 0) 0 1 (n + Q.1.length + 1) 0 0 0 none 0 0 nilP false (hlj ▸ G2.st) (by omega) rfl rfl (fun _ _ h => by cases h)) ?_
      rintro _ w29 ⟨rfl, F3, v3, G3⟩
      replace Bx := G3.chg.keep (G2.st.kept (by first | exact .inr rfl | exact .inl hk)) Bx
      replace Bu := G3.chg.keep (G2.st.kept (by first | exact .inr rfl | exact .inl hk)) Bu
      replace E := E.step G3.chg (fun _ _ _ => trivial)
      have hs := own_chg hs G3.chg (fun q hq h => (hap2 q hq).keep h)
      have hap3 : ∀ q, (Value.slice la i lc).ownBlock = some q → Apt F3 pb v3 q := fun q hq => (hap2 q hq).step G3 (hslt2 q hq).2
      have k3 : F3 bx := G3.sub _ (.inl hk)
      have k3u : F3 bu := G3.sub _ (.inr rfl)
      have hslt3 := hs.lt
      have hz3 := G3.chg.size
      replace G3 := G2.comp G3
      have hl3 : ((code ++ Q.1) ++ [Ins.split (n + Q.1.length + 1) 0]).length = n + Q.1.length + 1 := by rw [List.length_append, hlj]; rfl
      have hEW3 := G3.wb hP.hp hP.ho hF hE
      refine WpL_val rfl rfl (by decide) (r_assign (v := (.int .i64 ((n + Q.1.length : Nat) : Int))) rfl) ?_
      refine WpL_nil ?_
      refine Wp_seq_region ?_
      refine WpL_val rfl rfl (by decide) (r_move (v := (.pointer (some ⟨pb, 0, none⟩))) rfl) ?_
      refine WpL_val rfl rfl (by decide) (r_loadAgg (vs := [(.int .i64 y.kind), (.slice ya y.set.length yc), (.slice za y.args.length zc), (.int .i64 y.mn), (.int .i64 y.mx), (.bool y.neg)]) rfl agg27 siz27 rfl (Bu.cells rfl)) ?_
      refine WpL_enter rfl rfl (by decide) (r_callF (vs := [(.pointer (some ⟨pb, 0, none⟩)), (.agg #[(.int .i64 y.kind), (.slice ya y.set.length yc), (.slice za y.args.length zc), (.int .i64 y.mn), (.int .i64 y.mx), (.bool y.neg)])]) Tryd.func45 nm45 bd45 rfl) (hih y hym base pb _ _ v3 (n + Q.1.length + 1) _ Q.2 d _ hyt hEW3 (fun q hq => G3.sub q (hF q hq)) (hl3 ▸ G3.st) (by rw [← hR]; omega) (by rw [← hR]; omega) (by omega)) ?_
      rintro _ w39 ⟨F4, v4, G4⟩
      replace Bx := G4.chg.keep (G3.st.kept (by first | exact k3 | exact k3u)) Bx
      replace Bu := G4.chg.keep (G3.st.kept (by first | exact k3 | exact k3u)) Bu
      replace E := E.step G4.chg (fun _ _ _ => trivial)
      rw [← hR] at G4
      have hs := own_chg hs G4.chg (fun q hq h => (hap3 q hq).keep h)
      have hap4 : ∀ q, (Value.slice la i lc).ownBlock = some q → Apt F4 pb v4 q := fun q hq => (hap3 q hq).step G4 (hslt3 q hq).2
      have k4 : F4 bx := G4.sub _ k3
      have k4u : F4 bu := G4.sub _ k3u
      have hslt4 := hs.lt
      have hz4 := G4.chg.size
      replace G4 := G3.comp G4
      have hl4 : (((code ++ Q.1) ++ [Ins.split (n + Q.1.length + 1) 0]) ++ R.1).length = n + Q.1.length + 1 + R.1.length := by rw [List.length_append, hl3]
      refine WpL_nil ?_
      refine Wp_seq_region ?_
      refine WpL_val rfl rfl (by decide) (r_move (v := (.slice la i lc)) rfl) ?_
      refine WpL_val rfl rfl (by decide) (r_move (v := (.pointer (some ⟨pb, 0, none⟩))) rfl) ?_
      refine WpL_val rfl rfl (by decide) (r_build (ps := [(0, (.int .i64 2))]) (v := (.agg #[(.int .i64 2), (.int .i64 0), (.int .i64 0), (.int .i64 0), (.int .i64 0), (.slice none 0 0), (.pointer none), (.bool false)])) rfl (by kernel_rfl)) ?_
      refine WpL_enter rfl rfl (by decide) (r_callF (vs := [(.pointer (some ⟨pb, 0, none⟩)), (.agg #[(.int .i64 2), (.int .i64 0), (.int .i64 0), (.int .i64 0), (.int .i64 0), (.slice none 0 0), (.pointer none), (.bool false)])]) Tryd.func46 nm46 bd46 rfl) (add_c _ _ base pb _ (n + Q.1.length + 1 + R.1.length) _ R.2 d (.jump 0) 0 2 0 0 0 0 none 0 0 nilP false (hl4 ▸ G4.st) (by omega) rfl rfl (fun _ _ h => by cases h)) ?_
      rintro _ w49 ⟨rfl, F5, v5, G5⟩
      replace Bx := G5.chg.keep (G4.st.kept (by first | exact k4 | exact k4u)) Bx
      replace Bu := G5.chg.keep (G4.st.kept (by first | exact k4 | exact k4u)) Bu
      replace E := E.step G5.chg (fun _ _ _ => trivial)
      have hs := own_chg hs G5.chg (fun q hq h => (hap4 q hq).keep h)
      have hap5 : ∀ q, (Value.slice la i lc).ownBlock = some q → Apt F5 pb v5 q := fun q hq => (hap4 q hq).step G5 (hslt4 q hq).2
      have k5 : F5 bx := G5.sub _ k4
      have hz5 := G5.chg.size
      replace G5 := G4.comp G5
      have hsz5 : n2 ≤ w49.heap.size := by omega
      refine s_buildSlice (ps := [(0, (.int .i64 ((n + Q.1.length + 1 + R.1.length : Nat) : Int)))]) (c := #[(.int .i64 ((n + Q.1.length + 1 + R.1.length : Nat) : Int))]) (by decide) rfl Tryd.underlying22 siz3 zer3 (by decide) (by decide) (by kernel_rfl) ?_
      intro br wr Nr
      have Fr := Nr.ge E
      have Or_bx := Nr.lt Bx
      replace Bx := Nr.keep Bx
      replace E := E.ext Nr.ext
      have Br := Nr.blk
      have hs := own_ext hs Nr.ext
      have G6 := G5.ext Nr.ext
      refine s_append (base := n2) (n := i) (m := 1) (xs := ((altI (L0.take i) n d t).map iV)) (news := [(.int .i64 ((n + Q.1.length + 1 + R.1.length : Nat) : Int))]) (size := 1) (bytes := 8) (v := (.slice la i lc)) (by decide) Tryd.underlying22 siz3 byt3 zer3 rfl (by decide) rfl hs rfl (rfl) (Br.cells rfl) (by simp [Value.oneCell']) (by unfold maxLen; omega) (by omega) ((by have := Nr.ext.size; omega)) ?_
      intro v7 w59 Ov7 Cv7 Dv7
      replace Bx := Cv7.keep (fun h => by have := (hs.lt _ h).1; omega) Bx
      replace E := E.step Cv7 (fun _ _ _ => trivial)
      obtain ⟨la2, lc2, rfl⟩ := own_form Ov7
      have G7 := G6.other Cv7 (fun q hq => ⟨by have := (hs.lt q hq).1; omega, hap5 q hq⟩)
      have hap7 : ∀ q, (Value.slice la2 (i + 1) lc2).ownBlock = some q → Apt F5 pb v5 q := fun q hq => by rcases Dv7 q hq with h9 | h9; exact hap5 q h9; exact (GrX.fresh G6 q h9).2
      have hszw : n2 ≤ w59.heap.size := by have := Cv7.size; have := Nr.ext.size; omega
      have hl7 : ((((code ++ Q.1) ++ [Ins.split (n + Q.1.length + 1) 0]) ++ R.1) ++ [Ins.jump 0]).length = n + Q.1.length + 2 + R.1.length := by rw [List.length_append, hl4, List.length_singleton]; omega
      obtain ⟨va7, vc7, rfl⟩ := G7.st.form' hl7
      obtain ⟨g, cur, rfl, hg, hgs, hgb, hgF⟩ := G7.st.block (by omega)
      rw [hl7] at hgs
      have hxg : bx ≠ g := fun e => hgF (e ▸ k5)
      have hblk := G7.st.blk
      have e7 : (((code ++ Q.1) ++ [Ins.split (n + Q.1.length + 1) 0]) ++ R.1) ++ [Ins.jump 0] = (code ++ Q.1) ++ Ins.split (n + Q.1.length + 1) 0 :: (R.1 ++ [Ins.jump 0]) := by simp
      rw [e7] at G7 hl7
      refine WpL_val rfl rfl (by decide) (r_assign (v := (.slice la2 (i + 1) lc2)) rfl) ?_
      refine WpL_nil ?_
      refine Wp_draw 12 mixed (by kernel_rfl) ?_
      intro w9 X9 _
      replace Bx := X9.keep Bx
      replace hblk := X9.keep hblk
      replace hg := X9.keep hg
      replace hszw := Nat.le_trans hszw X9.size
      replace G7 := G7.ext X9
      replace Ov7 := own_ext Ov7 X9
      replace E := E.ext X9
      refine WpT_val rfl rfl (by decide) (r_move (v := (.pointer (some ⟨pb, 0, none⟩))) rfl) ?_
      refine WpT_val rfl rfl (by decide) (r_nilCheck (a := ⟨pb, 0, none⟩) rfl) ?_
      refine WpT_val rfl rfl (by decide) (r_fieldAddr (b := pb) (o := 0) (o' := 0) rfl Tryd.underlying94 rfl siz92 rfl) ?_
      refine WpT_val rfl rfl (by decide) (r_load (v := (.slice (some ⟨g, 0, none⟩) (n + Q.1.length + 2 + R.1.length) vc7)) rfl flat92 (hblk.cell rfl)) ?_
      refine WpT_val rfl rfl (by decide) (r_move (v := (.int .i64 ((n + Q.1.length : Nat) : Int))) rfl) ?_
      refine WpT_val rfl rfl (by decide) (r_move (v := (.pointer (some ⟨pb, 0, none⟩))) rfl) ?_
      refine WpT_val rfl rfl (by decide) (r_nilCheck (a := ⟨pb, 0, none⟩) rfl) ?_
      refine WpT_val rfl rfl (by decide) (r_fieldAddr (b := pb) (o := 0) (o' := 0) rfl Tryd.underlying94 rfl siz92 rfl) ?_
      refine WpT_val rfl rfl (by decide) (r_load (v := (.slice (some ⟨g, 0, none⟩) (n + Q.1.length + 2 + R.1.length) vc7)) rfl flat92 (hblk.cell rfl)) ?_
      refine WpT_val rfl rfl (by decide) (r_lenSlice (ad := some ⟨g, 0, none⟩) (n := (n + Q.1.length + 2 + R.1.length)) (cap := vc7) Tryd.underlying92 rfl) ?_
      refine WpT_val rfl rfl (by decide) (r_indexSlice (b := g) (o := 0) (len := (n + Q.1.length + 2 + R.1.length)) (cap := vc7) (i := n + Q.1.length) (o' := 0 + (n + Q.1.length) * 8) rfl rfl rfl Tryd.underlying92 siz98 (by omega) (by omega)) ?_
      refine WpT_val rfl rfl (by decide) (r_fieldAddr (b := g) (o := 0 + (n + Q.1.length) * 8) (o' := 0 + (n + Q.1.length) * 8 + 2) rfl Tryd.underlying98 rfl siz3 rfl) ?_
      refine WpT_zero ?_
      refine s_store (b := g) (o := 0 + (n + Q.1.length) * 8 + 2) (c' := cur.setIfInBounds ((n + Q.1.length) * 8 + 2) (iV (n + Q.1.length + 2 + R.1.length))) (v := (.int .i64 (((n + Q.1.length + 2 + R.1.length) : Nat) : Int))) rfl rfl rfl siz3 hg (by omega) (by rw [Nat.zero_add]) ?_
      intro w10 S10
      replace hszw := Nat.le_trans hszw S10.chg.size
      replace G7 := G7.patch (i := n + Q.1.length) (f := 2) (x := iV (n + Q.1.length + 2 + R.1.length)) (ins := .split (n + Q.1.length + 1) (n + Q.1.length + 2 + R.1.length)) hl7.symm hg S10 (by omega) (by omega) (split_row (get_mid hlj)) (fun _ _ => rfl) (fun _ _ h => by cases h)
      replace Ov7 := own_chg Ov7 S10.chg (fun q hq e => (hap7 q hq).2.2 (by have e' : q = g := e; rw [e']; rfl))
      replace Bx := S10.keep (by omega) Bx
      replace hblk := S10.keep (by omega) hblk
      replace E := S10.step E (by first | exact Or.inl (by omega) | exact Or.inr rfl | exact Or.inr (by assumption) | exact Or.inr (by simp) | exact Or.inr (by omega) | exact Or.inr (by dsimp only; omega))
      replace hg := S10.blk
      rw [set_mid hlj] at G7
      refine WpL_nil ?_
      refine inB_normal ?_
      refine thn_normal ?_
      refine Wp_region ?_
      refine WpL_val rfl rfl (by decide) (r_add (k := .i64) (a := ((i : Nat) : Int)) (b := 1) (c := ((i : Nat) : Int) + 1) rfl rfl (wI64 (by omega))) ?_
      refine WpL_val rfl rfl (by decide) (r_move (v := (.int .i64 (((i : Nat) : Int) + 1))) rfl) ?_
      refine WpL_nil ?_
      refine thn_normal ?_
      exact ⟨m - (i + 1), by omega, i + 1, F5, Value.slice (some ⟨g, 0, none⟩) (n + Q.1.length + 2 + R.1.length) vc7, la2, lc2, Fits.out ⟨rfl, rfl, rfl, rfl, rfl, rfl, trivial⟩, E, Bx, (by omega), (by rw [hst]; dsimp only; rw [← List.append_assoc, show n + Q.1.length + 1 + R.1.length + 1 = n + Q.1.length + 2 + R.1.length by omega]; exact G7), k5, (by rw [hix, List.map_append]; exact Ov7), hap7, hszw, rfl⟩
end Go.Proofs
namespace Go.Proofs
open Go Go.Eng
set_option maxRecDepth 100000
theorem below_tmod (x n : Int) (hn : 0 < n) : (if x.tmod n < 0 then x.tmod n + n else x.tmod n) = x % n := by
  have h := Int.tmod_eq_emod (a := x) (b := n)
  have h1 := Int.emod_nonneg x (Int.ne_of_gt hn)
  have h2 := Int.emod_lt_of_pos x hn
  have h3 : n.natAbs = n := by omega
  split at h <;> split <;> omega
theorem below_c (x n : Int) (hn : 0 < n) (hm : n ≤ 2000) (w0 : World) :
    Ret Tryd.prog 18 #[.int .i64 x, .int .i64 n] w0 fun v w => v = .int .i64 (x % n) ∧ w = w0 := by
  have hb := below_tmod x n hn
  have h1 := Int.emod_nonneg x (Int.ne_of_gt hn)
  have h2 := Int.emod_lt_of_pos x hn
  refine Ret_of Tryd.func18 rfl Tryd.ntmps18 (Nat.le_of_ble_eq_true rfl) ?_
  have E : Chg none1 w0 w0 := Chg.refl _ _
  refine Wp_seq_region ?_
  refine WpL_val rfl rfl (by decide) (r_assign (v := (.int .i64 0)) rfl) ?_
  refine WpL_nil ?_
  refine Wp_seq_region ?_
  refine WpL_val rfl rfl (by decide) (r_move (v := (.int .i64 x)) rfl) ?_
  refine WpL_val rfl rfl (by decide) (r_move (v := (.int .i64 n)) rfl) ?_
  refine WpL_val rfl rfl (by decide) (r_rem (k := .i64) (a := x) (b := n) (c := x.tmod n) rfl rfl (by omega) rfl) ?_
  refine WpL_val rfl rfl (by decide) (r_assign (v := (.int .i64 (x.tmod n))) rfl) ?_
  refine WpL_nil ?_
  refine Wp_seq ?_
  refine Wp_seq_region ?_
  refine WpL_val rfl rfl (by decide) (r_move (v := (.int .i64 (x.tmod n))) rfl) ?_
  refine WpL_val rfl rfl (by decide) (r_lss (k := .i64) (a := x.tmod n) (b := 0) rfl rfl) ?_
  refine WpL_nil ?_
  refine Wp_cond (b := decide ((x.tmod n : Int) < 0)) rfl (fun h => ?_) (fun h => ?_)
  · have kh := h
    replace h := of_decide_eq_true h
    rw [if_pos h] at hb
    refine Wp_region ?_
    refine WpL_val rfl rfl (by decide) (r_move (v := (.int .i64 (x.tmod n))) rfl) ?_
    refine WpL_val rfl rfl (by decide) (r_move (v := (.int .i64 n)) rfl) ?_
    refine WpL_val rfl rfl (by decide) (r_add (k := .i64) (a := x.tmod n) (b := n) (c := (x.tmod n) + n) rfl rfl (wI64 (by omega))) ?_
    refine WpL_val rfl rfl (by decide) (r_assign (v := (.int .i64 ((x.tmod n) + n))) rfl) ?_
    refine WpL_nil ?_
    refine thn_normal ?_
    refine Wp_seq_region ?_
    refine WpL_val rfl rfl (by decide) (r_move (v := (.int .i64 ((x.tmod n) + n))) rfl) ?_
    refine WpL_val rfl rfl (by decide) (r_assign (v := (.int .i64 ((x.tmod n) + n))) rfl) ?_
    refine WpL_nil ?_
    refine Wp_ret ?_
    refine fin_tmp Tryd.results18 (v := (.int .i64 ((x.tmod n) + n))) rfl ?_
    exact ⟨by rw [hb], rfl⟩
  · have kh := h
    replace h := of_decide_eq_false h
    rw [if_neg h] at hb
    refine Wp_skip ?_
    refine thn_normal ?_
    refine Wp_seq_region ?_
    refine WpL_val rfl rfl (by decide) (r_move (v := (.int .i64 (x.tmod n))) rfl) ?_
    refine WpL_val rfl rfl (by decide) (r_assign (v := (.int .i64 (x.tmod n))) rfl) ?_
    refine WpL_nil ?_
    refine Wp_ret ?_
    refine fin_tmp Tryd.results18 (v := (.int .i64 (x.tmod n))) rfl ?_
    exact ⟨by rw [hb], rfl⟩
end Go.Proofs
namespace Go.Proofs
open Go Go.Eng
set_option maxRecDepth 100000
def fitF (most : Int) : Int × Int → Re → Bool × (Int × Int) := fun s t =>
  let n := IntKind.i64.wrap (s.1 + 1)
  let e := if most < n then 2 else nodeE t
  (decide (e = 0), (n, e))
def fitsE (t : Re) (most : Int) : Int := (walkF (fitF most) t (0, 0)).2.2
theorem fits1_c (wb w0 : World) (t : Re) (vs : List Value) (ht : ReAt wb t vs) (hE : Ext wb w0) (b1' b2' b3' : Nat) (s : Int × Int) (most : Int) (h0 : wb.heap.size ≤ b2') (h12 : b2' < b1') (h13 : b1' < b3')
    (hB1 : Blk w0 b1' #[.int .i64 s.1] 3) (hB2 : Blk w0 b2' #[.int .i64 most] 3) (hB3 : Blk w0 b3' #[.int .i64 s.2] 34) :
    Ret Tryd.prog 65 #[.agg vs.toArray, .pointer (some ⟨b1', 0, none⟩), .pointer (some ⟨b2', 0, none⟩), .pointer (some ⟨b3', 0, none⟩)] w0
      fun v w => v = .bool (fitF most s t).1 ∧ Chg (fun x => x = b1' ∨ x = b3') w0 w ∧ Blk w b1' #[.int .i64 (fitF most s t).2.1] 3 ∧ Blk w b2' #[.int .i64 most] 3 ∧ Blk w b3' #[.int .i64 (fitF most s t).2.2] 34 := by
  have ht0 := ht
  obtain ⟨sa, sc, aa, ac, rfl, hset, hlen, hargs⟩ := ht.form
  refine Ret_of Tryd.func65 rfl Tryd.ntmps65 (Nat.le_of_ble_eq_true rfl) ?_
  have E : Chg (fun x => x = b1' ∨ x = b3') w0 w0 := Chg.refl _ _
  refine Wp_seq_region ?_
  refine s_box (v := (.agg #[(.int .i64 t.kind), (.slice sa t.set.length sc), (.slice aa t.args.length ac), (.int .i64 t.mn), (.int .i64 t.mx), (.bool t.neg)])) (c := #[(.int .i64 t.kind), (.slice sa t.set.length sc), (.slice aa t.args.length ac), (.int .i64 t.mn), (.int .i64 t.mx), (.bool t.neg)]) (by decide) rfl rfl ?_
  intro b1 w1 N1
  have F1 := N1.ge E
  have O1_b1' := N1.lt hB1
  have O1_b2' := N1.lt hB2
  have O1_b3' := N1.lt hB3
  replace hB1 := N1.keep hB1
  replace hB2 := N1.keep hB2
  replace hB3 := N1.keep hB3
  replace E := E.ext N1.ext
  have B1 := N1.blk
  refine WpL_val rfl rfl (by decide) (r_assign (v := (.bool false)) rfl) ?_
  refine WpL_nil ?_
  refine Wp_seq ?_
  refine Wp_seq_region ?_
  refine WpL_val rfl rfl (by decide) (r_load (v := (.int .i64 s.1)) rfl flat3 (hB1.cell rfl)) ?_
  refine WpL_val rfl rfl (by decide) (r_add (k := .i64) (a := s.1) (b := 1) (c := IntKind.i64.wrap (s.1 + 1)) rfl rfl (rfl)) ?_
  refine s_store (b := b1') (o := 0) (c' := #[(.int .i64 (IntKind.i64.wrap (s.1 + 1)))]) (v := (.int .i64 (IntKind.i64.wrap (s.1 + 1)))) rfl rfl rfl siz3 hB1 (by simp) rfl ?_
  intro w2 S2
  replace hB2 := S2.keep (by omega) hB2
  replace hB3 := S2.keep (by omega) hB3
  replace B1 := S2.keep (by omega) B1
  replace E := S2.step E (by first | exact Or.inl (by omega) | exact Or.inr rfl | exact Or.inr (by assumption) | exact Or.inr (by simp) | exact Or.inr (by omega) | exact Or.inr (by dsimp only; omega))
  replace hB1 := S2.blk
  refine WpL_nil ?_
  refine Wp_seq_region ?_
  refine WpL_val rfl rfl (by decide) (r_load (v := (.int .i64 (IntKind.i64.wrap (s.1 + 1)))) rfl flat3 (hB1.cell rfl)) ?_
  refine WpL_val rfl rfl (by decide) (r_load (v := (.int .i64 most)) rfl flat3 (hB2.cell rfl)) ?_
  refine WpL_val rfl rfl (by decide) (r_gtr (k := .i64) (a := IntKind.i64.wrap (s.1 + 1)) (b := most) rfl rfl) ?_
  refine WpL_nil ?_
  refine Wp_cond (b := decide ((most : Int) < IntKind.i64.wrap (s.1 + 1))) rfl (fun h => ?_) (fun h => ?_)
  · have kh := h
    replace h := of_decide_eq_true h
    refine Wp_region ?_
    refine s_store (b := b3') (o := 0) (c' := #[(.int .i64 2)]) (v := (.int .i64 2)) rfl rfl rfl siz34 hB3 (by simp) rfl ?_
    intro w4 S4
    replace hB1 := S4.keep (by omega) hB1
    replace hB2 := S4.keep (by omega) hB2
    replace B1 := S4.keep (by omega) B1
    replace E := S4.step E (by first | exact Or.inl (by omega) | exact Or.inr rfl | exact Or.inr (by assumption) | exact Or.inr (by simp) | exact Or.inr (by omega) | exact Or.inr (by dsimp only; omega))
    replace hB3 := S4.blk
    refine WpL_nil ?_
    refine thn_normal ?_
    refine Wp_seq_region ?_
    refine WpL_val rfl rfl (by decide) (r_load (v := (.int .i64 2)) rfl flat34 (hB3.cell rfl)) ?_
    refine WpL_val rfl rfl (by decide) (r_eql (k := .i64) (a := 2) (b := 0) rfl rfl) ?_
    refine WpL_val rfl rfl (by decide) (r_assign (v := (.bool false)) rfl) ?_
    refine WpL_nil ?_
    refine Wp_ret ?_
    refine fin_tmp Tryd.results65 (v := (.bool false)) rfl ?_
    exact ⟨by simp [fitF, h], E, by simpa [fitF] using hB1, hB2, by simpa [fitF, h] using hB3⟩
  · have kh := h
    replace h := of_decide_eq_false h
    refine Wp_region ?_
    refine WpL_val rfl rfl (by decide) (r_loadAgg (vs := [(.int .i64 t.kind), (.slice sa t.set.length sc), (.slice aa t.args.length ac), (.int .i64 t.mn), (.int .i64 t.mx), (.bool t.neg)]) rfl agg27 siz27 rfl (B1.cells rfl)) ?_
    refine WpL_enter rfl rfl (by decide) (r_callF (vs := [(.agg #[(.int .i64 t.kind), (.slice sa t.set.length sc), (.slice aa t.args.length ac), (.int .i64 t.mn), (.int .i64 t.mx), (.bool t.neg)])]) Tryd.func66 nm66 bd66 rfl) (node_c wb _ t _ ht0 (Chg.step hE E fun x hx hm => by rcases hm with hm | hm <;> omega)) ?_
    rintro _ w9 ⟨rfl, X9⟩
    replace hB1 := X9.keep hB1
    replace hB2 := X9.keep hB2
    replace hB3 := X9.keep hB3
    replace B1 := X9.keep B1
    replace E := E.ext X9
    refine s_store (b := b3') (o := 0) (c' := #[(.int .i64 (nodeE t))]) (v := (.int .i64 (nodeE t))) rfl rfl rfl siz34 hB3 (by simp) rfl ?_
    intro w5 S5
    replace hB1 := S5.keep (by omega) hB1
    replace hB2 := S5.keep (by omega) hB2
    replace B1 := S5.keep (by omega) B1
    replace E := S5.step E (by first | exact Or.inl (by omega) | exact Or.inr rfl | exact Or.inr (by assumption) | exact Or.inr (by simp) | exact Or.inr (by omega) | exact Or.inr (by dsimp only; omega))
    replace hB3 := S5.blk
    refine WpL_nil ?_
    refine thn_normal ?_
    refine Wp_seq_region ?_
    refine WpL_val rfl rfl (by decide) (r_load (v := (.int .i64 (nodeE t))) rfl flat34 (hB3.cell rfl)) ?_
    refine WpL_val rfl rfl (by decide) (r_eql (k := .i64) (a := nodeE t) (b := 0) rfl rfl) ?_
    refine WpL_val rfl rfl (by decide) (r_assign (v := (.bool (decide ((nodeE t : Int) = 0)))) rfl) ?_
    refine WpL_nil ?_
    refine Wp_ret ?_
    refine fin_tmp Tryd.results65 (v := (.bool (decide ((nodeE t : Int) = 0)))) rfl ?_
    exact ⟨by simp [fitF, h], E, by simpa [fitF] using hB1, hB2, by simpa [fitF, h] using hB3⟩
theorem fits_c (w0 : World) (t : Re) (vs : List Value) (ht : ReAt w0 t vs) (most : Int) :
    Ret Tryd.prog 51 #[.agg vs.toArray, .int .i64 most] w0 fun v w => v = .int .i64 (fitsE t most) ∧ Ext w0 w := by
  have ht0 := ht
  obtain ⟨sa, sc, aa, ac, rfl, hset, hlen, hargs⟩ := ht.form
  refine Ret_of Tryd.func51 rfl Tryd.ntmps51 (Nat.le_of_ble_eq_true rfl) ?_
  have E : Chg none1 w0 w0 := Chg.refl _ _
  refine Wp_seq_region ?_
  refine s_box (v := (.agg #[(.int .i64 t.kind), (.slice sa t.set.length sc), (.slice aa t.args.length ac), (.int .i64 t.mn), (.int .i64 t.mx), (.bool t.neg)])) (c := #[(.int .i64 t.kind), (.slice sa t.set.length sc), (.slice aa t.args.length ac), (.int .i64 t.mn), (.int .i64 t.mx), (.bool t.neg)]) (by decide) rfl rfl ?_
  intro b1 w1 N1
  have F1 := N1.ge E
  replace E := E.ext N1.ext
  have B1 := N1.blk
  refine s_box (v := (.int .i64 most)) (c := #[(.int .i64 most)]) (by decide) rfl rfl ?_
  intro b2 w2 N2
  have F2 := N2.ge E
  have O2_b1 := N2.lt B1
  replace B1 := N2.keep B1
  replace E := E.ext N2.ext
  have B2 := N2.blk
  refine WpL_val rfl rfl (by decide) (r_assign (v := (.int .i64 0)) rfl) ?_
  refine WpL_nil ?_
  refine Wp_seq_region ?_
  refine s_alloc (c := #[(.int .i64 0)]) (by decide) zer3 rfl ?_
  intro b3 w3 N3
  have F3 := N3.ge E
  have O3_b1 := N3.lt B1
  have O3_b2 := N3.lt B2
  replace B1 := N3.keep B1
  replace B2 := N3.keep B2
  replace E := E.ext N3.ext
  have B3 := N3.blk
  refine s_alloc (c := #[(.int .i64 0)]) (by decide) zer34 rfl ?_
  intro b4 w4 N4
  have F4 := N4.ge E
  have O4_b1 := N4.lt B1
  have O4_b2 := N4.lt B2
  have O4_b3 := N4.lt B3
  replace B1 := N4.keep B1
  replace B2 := N4.keep B2
  replace B3 := N4.keep B3
  replace E := E.ext N4.ext
  have B4 := N4.blk
  refine s_store (b := b3) (o := 0) (c' := #[(.int .i64 0)]) (v := (.int .i64 0)) rfl rfl rfl siz3 B3 (by simp) rfl ?_
  intro w5 S5
  replace B1 := S5.keep (by omega) B1
  replace B2 := S5.keep (by omega) B2
  replace B4 := S5.keep (by omega) B4
  replace E := S5.step E (by first | exact Or.inl (by omega) | exact Or.inr rfl | exact Or.inr (by assumption) | exact Or.inr (by simp) | exact Or.inr (by omega) | exact Or.inr (by dsimp only; omega))
  replace B3 := S5.blk
  refine s_store (b := b4) (o := 0) (c' := #[(.int .i64 0)]) (v := (.int .i64 0)) rfl rfl rfl siz34 B4 (by simp) rfl ?_
  intro w6 S6
  replace B1 := S6.keep (by omega) B1
  replace B2 := S6.keep (by omega) B2
  replace B3 := S6.keep (by omega) B3
  replace E := S6.step E (by first | exact Or.inl (by omega) | exact Or.inr rfl | exact Or.inr (by assumption) | exact Or.inr (by simp) | exact Or.inr (by omega) | exact Or.inr (by dsimp only; omega))
  replace B4 := S6.blk
  refine WpL_nil ?_
  refine Wp_seq_region ?_
  refine WpL_val rfl rfl (by decide) (r_loadAgg (vs := [(.int .i64 t.kind), (.slice sa t.set.length sc), (.slice aa t.args.length ac), (.int .i64 t.mn), (.int .i64 t.mx), (.bool t.neg)]) rfl agg27 siz27 rfl (B1.cells rfl)) ?_
  refine WpL_val rfl rfl (by decide) (r_makeFunc (vs := []) (us := [(.pointer (some ⟨b3, 0, none⟩)), (.pointer (some ⟨b2, 0, none⟩)), (.pointer (some ⟨b4, 0, none⟩))]) rfl rfl) ?_
  have hf : ∀ (s : Int × Int) (w : World) (t : Re) (vs : List Value), b4 + 1 ≤ w.heap.size → Ext w0 w → (Blk w b3 #[.int .i64 s.1] 3 ∧ Blk w b2 #[.int .i64 most] 3 ∧ Blk w b4 #[.int .i64 s.2] 34) → ReAt w0 t vs → CallV Tryd.prog (.func (.func 65) #[] #[.pointer (some ⟨b3, 0, none⟩), .pointer (some ⟨b2, 0, none⟩), .pointer (some ⟨b4, 0, none⟩)]) #[.agg vs.toArray] w fun v w' => v = .bool (fitF most s t).1 ∧ Chg (fun x => x = b3 ∨ x = b4) w w' ∧ (Blk w' b3 #[.int .i64 (fitF most s t).2.1] 3 ∧ Blk w' b2 #[.int .i64 most] 3 ∧ Blk w' b4 #[.int .i64 (fitF most s t).2.2] 34) := fun s w t vs _ hE hI ht => CallV.mk (first := #[]) (cap := #[.pointer (some ⟨b3, 0, none⟩), .pointer (some ⟨b2, 0, none⟩), .pointer (some ⟨b4, 0, none⟩)]) (args := #[.agg vs.toArray]) Tryd.func65 nm65 bd65 rfl (fits1_c w0 w t vs ht hE b3 b2 b4 s most (by omega) (by omega) (by omega) hI.1 hI.2.1 hI.2.2)
  refine WpL_enter rfl rfl (by decide) (r_callF (vs := [(.agg #[(.int .i64 t.kind), (.slice sa t.set.length sc), (.slice aa t.args.length ac), (.int .i64 t.mn), (.int .i64 t.mx), (.bool t.neg)]), (.func (.func 65) #[] #[(.pointer (some ⟨b3, 0, none⟩)), (.pointer (some ⟨b2, 0, none⟩)), (.pointer (some ⟨b4, 0, none⟩))])]) Tryd.func33 nm33 bd33 rfl) (walk_c (fitF most) (fun s w => Blk w b3 #[.int .i64 s.1] 3 ∧ Blk w b2 #[.int .i64 most] 3 ∧ Blk w b4 #[.int .i64 s.2] 34) (fun x => x = b3 ∨ x = b4) (b4 + 1) _ w0 (fun b hb => by omega) (fun s w w' hI e => ⟨e.keep hI.1, e.keep hI.2.1, e.keep hI.2.2⟩) hf t.size t (Nat.le_refl _) (0, 0) _ _ (by have := B4.lt; omega) E ⟨B3, B2, B4⟩ ht0) ?_
  rintro _ w9 ⟨rfl, C9, B3', B2', B4'⟩
  replace B1 := C9.keep (by omega) B1
  replace E := E.step C9 (by intro x hx hm; omega)
  refine WpL_nil ?_
  refine Wp_seq_region ?_
  refine WpL_val rfl rfl (by decide) (r_load (v := (.int .i64 ((walkF (fitF most) t (0, 0)).2.2))) rfl flat34 (B4'.cell rfl)) ?_
  refine WpL_val rfl rfl (by decide) (r_assign (v := (.int .i64 ((walkF (fitF most) t (0, 0)).2.2))) rfl) ?_
  refine WpL_nil ?_
  refine Wp_ret ?_
  refine fin_tmp Tryd.results51 (v := (.int .i64 ((walkF (fitF most) t (0, 0)).2.2))) rfl ?_
  exact ⟨rfl, E⟩
theorem check_c (w0 : World) (t : Re) (vs : List Value) (ht : ReAt w0 t vs) :
    Ret Tryd.prog 29 #[.agg vs.toArray] w0 fun v w => v = .int .i64 (fitsE t 40) ∧ Ext w0 w := by
  have ht0 := ht
  obtain ⟨sa, sc, aa, ac, rfl, hset, hlen, hargs⟩ := ht.form
  refine Ret_of Tryd.func29 rfl Tryd.ntmps29 (Nat.le_of_ble_eq_true rfl) ?_
  have E : Chg none1 w0 w0 := Chg.refl _ _
  refine Wp_seq_region ?_
  refine s_box (v := (.agg #[(.int .i64 t.kind), (.slice sa t.set.length sc), (.slice aa t.args.length ac), (.int .i64 t.mn), (.int .i64 t.mx), (.bool t.neg)])) (c := #[(.int .i64 t.kind), (.slice sa t.set.length sc), (.slice aa t.args.length ac), (.int .i64 t.mn), (.int .i64 t.mx), (.bool t.neg)]) (by decide) rfl rfl ?_
  intro b1 w1 N1
  have F1 := N1.ge E
  replace E := E.ext N1.ext
  have B1 := N1.blk
  refine WpL_val rfl rfl (by decide) (r_assign (v := (.int .i64 0)) rfl) ?_
  refine WpL_nil ?_
  refine Wp_seq_region ?_
  refine WpL_val rfl rfl (by decide) (r_loadAgg (vs := [(.int .i64 t.kind), (.slice sa t.set.length sc), (.slice aa t.args.length ac), (.int .i64 t.mn), (.int .i64 t.mx), (.bool t.neg)]) rfl agg27 siz27 rfl (B1.cells rfl)) ?_
  refine WpL_enter rfl rfl (by decide) (r_callF (vs := [(.agg #[(.int .i64 t.kind), (.slice sa t.set.length sc), (.slice aa t.args.length ac), (.int .i64 t.mn), (.int .i64 t.mx), (.bool t.neg)]), (.int .i64 40)]) Tryd.func51 nm51 bd51 rfl) (fits_c _ t _ (ReAt.ext E t ht0) 40) ?_
  rintro _ w9 ⟨rfl, X9⟩
  replace B1 := X9.keep B1
  replace E := E.ext X9
  refine WpL_val rfl rfl (by decide) (r_assign (v := (.int .i64 (fitsE t 40))) rfl) ?_
  refine WpL_nil ?_
  refine Wp_ret ?_
  refine fin_tmp Tryd.results29 (v := (.int .i64 (fitsE t 40))) rfl ?_
  exact ⟨rfl, E⟩
end Go.Proofs
namespace Go.Proofs
open Go Go.Eng
set_option maxRecDepth 100000
theorem ofInt32 (m : Nat) (h : m < 4294967296) : (BitVec.ofInt 32 (m : Int)).toNat = m := by
  rw [BitVec.toNat_ofInt]; omega
theorem bits_and {P : Program} {w : World} (m n : Nat) (hm : m < 4294967296) (hn : n < 4294967296) : (Op.intBits .and .u32 (m : Int) (n : Int)).run P w = .ok (.int .u32 ((m &&& n : Nat) : Int)) w := by
  have h1 : m &&& n < 4294967296 := Nat.lt_of_le_of_lt Nat.and_le_left hm
  show Result.ok (Value.int .u32 (IntKind.u32.wrap ((BitVec.ofInt 32 (m : Int) &&& BitVec.ofInt 32 (n : Int) : BitVec 32).toNat : Int))) w = _
  rw [BitVec.toNat_and, ofInt32 m hm, ofInt32 n hn, wU32 (by omega)]
theorem bits_or {P : Program} {w : World} (m n : Nat) (hm : m < 4294967296) (hn : n < 4294967296) : (Op.intBits .or .u32 (m : Int) (n : Int)).run P w = .ok (.int .u32 ((m ||| n : Nat) : Int)) w := by
  have h1 : m ||| n < 4294967296 := Nat.or_lt_two_pow (n := 32) hm hn
  show Result.ok (Value.int .u32 (IntKind.u32.wrap ((BitVec.ofInt 32 (m : Int) ||| BitVec.ofInt 32 (n : Int) : BitVec 32).toNat : Int))) w = _
  rw [BitVec.toNat_or, ofInt32 m hm, ofInt32 n hn, wU32 (by omega)]
theorem bits_andNot {P : Program} {w : World} (m n : Nat) (hm : m < 4294967296) (hn : n < 4294967296) : (Op.intBits .andNot .u32 (m : Int) (n : Int)).run P w = .ok (.int .u32 ((m &&& (4294967295 - n) : Nat) : Int)) w := by
  have h1 : m &&& (4294967295 - n) < 4294967296 := Nat.lt_of_le_of_lt Nat.and_le_left hm
  show Result.ok (Value.int .u32 (IntKind.u32.wrap ((BitVec.ofInt 32 (m : Int) &&& ~~~ BitVec.ofInt 32 (n : Int) : BitVec 32).toNat : Int))) w = _
  rw [BitVec.toNat_and, BitVec.toNat_not, ofInt32 m hm, ofInt32 n hn]
  simp only [Nat.reducePow, Nat.reduceSub]
  rw [wU32 (by omega)]
def tab32 : List Nat := [0, 1, 28, 2, 29, 14, 24, 3, 30, 22, 20, 15, 25, 17, 4, 8, 31, 27, 13, 23, 21, 19, 16, 7, 26, 12, 18, 6, 11, 5, 10, 9]
def TabOk (w : World) : Prop := ∀ (i v : Nat), tab32[i]? = some v → w.cell? ⟨0, i, none⟩ = some (.int .u8 (v : Int))
theorem TabOk.ext {w w' : World} (h : TabOk w) (e : Ext w w') : TabOk w' := fun i v hv => e.cell (h i v hv)
def tzIdx (k : Nat) : Nat := ((2 ^ k * 125613361) % 4294967296) / 134217728
theorem tz_tab : ∀ k, k < 32 → tab32[tzIdx k]? = some k ∧ tzIdx k < 32 := by decide
theorem low_lt {x k m : Nat} (h : x = 2 ^ (k + 1) * m + 2 ^ k) (hx : x < 4294967296) : k < 32 := by
  rcases Nat.lt_or_ge k 32 with h' | h'
  · exact h'
  · have := Nat.pow_le_pow_right (n := 2) (by omega) h'; omega
theorem tz_c (w0 : World) (x k m : Nat) (hx : x = 2 ^ (k + 1) * m + 2 ^ k) (hl : x < 4294967296) (hT : TabOk w0) :
    Ret Tryd.prog 27 #[.int .u32 (x : Int)] w0 fun v w => v = .int .i64 (k : Int) ∧ w = w0 := by
  have hk := low_lt hx hl
  have hp := Nat.two_pow_pos k
  have h0 : 0 < x := by omega
  have hn := low_neg hx hl
  simp only [Nat.reducePow] at hn
  obtain ⟨ht, hi⟩ := tz_tab k hk
  have hpl : 2 ^ k < 4294967296 := Nat.pow_lt_pow_right (n := 32) (by omega) hk
  refine Ret_of Tryd.func27 rfl Tryd.ntmps27 (Nat.le_of_ble_eq_true rfl) ?_
  have E : Chg none1 w0 w0 := Chg.refl _ _
  refine Wp_seq_region ?_
  refine WpL_val rfl rfl (by decide) (r_assign (v := (.int .i64 0)) rfl) ?_
  refine WpL_nil ?_
  refine Wp_seq ?_
  refine Wp_seq_region ?_
  refine WpL_val rfl rfl (by decide) (r_move (v := (.int .u32 (x : Int))) rfl) ?_
  refine WpL_val rfl rfl (by decide) (r_eql (k := .u32) (a := (x : Int)) (b := 0) rfl rfl) ?_
  refine WpL_nil ?_
  have hc1 : (decide (((x : Int) : Int) = 0)) = false := by simp; omega
  refine Wp_cond_false (congrArg Value.bool hc1) ?_
  refine Wp_skip ?_
  refine thn_normal ?_
  refine Wp_seq_region ?_
  refine WpL_val rfl rfl (by decide) (r_move (v := (.int .u32 (x : Int))) rfl) ?_
  refine WpL_val rfl rfl (by decide) (r_move (v := (.int .u32 (x : Int))) rfl) ?_
  refine WpL_val rfl rfl (by decide) (r_neg (k := .u32) (n := (x : Int)) (c := ((4294967296 - x : Nat) : Int)) rfl (by simp only [IntKind.wrap, IntKind.bits, IntKind.signed, Int.reducePow, Bool.false_and, Bool.false_eq_true, if_false]; omega)) ?_
  refine WpL_val rfl rfl (by decide) (r_bits (k := .u32) (a := (x : Int)) (b := ((4294967296 - x : Nat) : Int)) (v := .int .u32 ((2 ^ k : Nat) : Int)) rfl rfl (by simp) ((bits_and x (4294967296 - x) hl (by omega)).trans (by rw [hn]))) ?_
  refine WpL_val rfl rfl (by decide) (r_mul (k := .u32) (a := ((2 ^ k : Nat) : Int)) (b := 125613361) (c := (((2 ^ k * 125613361) % 4294967296 : Nat) : Int)) rfl rfl (by simp only [IntKind.wrap, IntKind.bits, IntKind.signed, Int.reducePow, Bool.false_and, Bool.false_eq_true, if_false]; omega)) ?_
  refine WpL_val rfl rfl (by decide) (r_shr (k := .u32) (a := (((2 ^ k * 125613361) % 4294967296 : Nat) : Int)) (b := 27) (c := ((tzIdx k : Nat) : Int)) (k' := .u64) rfl rfl (by omega) (by unfold tzIdx; simp only [IntKind.bits]; rw [Int.fdiv_eq_ediv_of_nonneg _ (by decide), show (2 : Int) ^ min (Int.toNat 27) 32 = 134217728 from by decide]; omega)) ?_
  refine WpL_val rfl rfl (by decide) (r_indexArr (b := 0) (o := 0) (i := tzIdx k) (o' := tzIdx k) rfl rfl rfl Tryd.underlying106 siz5 (by omega) (by omega)) ?_
  refine WpL_val rfl rfl (by decide) (r_load (v := (.int .u8 ((k : Nat) : Int))) rfl flat5 (hT _ _ ht)) ?_
  refine WpL_val rfl rfl (by decide) (r_convInt (k := .u8) (k' := .i64) (n := ((k : Nat) : Int)) (c := ((k : Nat) : Int)) ⟨_, Tryd.underlying5⟩ Tryd.underlying3 rfl (wI64 (by omega))) ?_
  refine WpL_val rfl rfl (by decide) (r_assign (v := (.int .i64 ((k : Nat) : Int))) rfl) ?_
  refine WpL_nil ?_
  refine Wp_ret ?_
  refine fin_tmp Tryd.results27 (v := (.int .i64 ((k : Nat) : Int))) rfl ?_
  exact ⟨rfl, rfl⟩
def rowArr (R : Nat → Nat → Bool) : Array Value := ((List.range 25).map fun i => Value.int .u32 ((maskN 25 (R i) : Nat) : Int)).toArray
theorem rowArr_size (R : Nat → Nat → Bool) : (rowArr R).size = 25 := by simp [rowArr]
theorem rowArr_get (R : Nat → Nat → Bool) {i : Nat} (h : i < 25) : (rowArr R)[i]? = some (.int .u32 ((maskN 25 (R i) : Nat) : Int)) := by simp [rowArr, h]
theorem rowArr_set {R R' : Nat → Nat → Bool} {i : Nat} {v : Int} (hi : i < 25) (hv : v = ((maskN 25 (R' i) : Nat) : Int)) (ho : ∀ i', i' < 25 → i' ≠ i → ∀ j, j < 25 → R' i' j = R i' j) :
    (rowArr R).setIfInBounds i (.int .u32 v) = rowArr R' := by
  apply Array.ext'
  apply List.ext_getElem?
  intro j
  simp only [rowArr, Array.toList_setIfInBounds, List.getElem?_set, List.length_map, List.length_range, List.getElem?_map]
  by_cases hj : i = j
  · subst hj; simp [hi, hv]
  · simp only [hj, if_false]
    by_cases h25 : j < 25
    · simp [h25, mask_congr (ho j h25 (Ne.symm hj))]
    · simp [h25]
theorem rowArr_congr {R R' : Nat → Nat → Bool} (h : ∀ i, i < 25 → ∀ j, j < 25 → R i j = R' i j) : rowArr R = rowArr R' := by
  simp only [rowArr]
  congr 1
  apply List.map_congr_left
  intro i hi
  simp at hi
  rw [mask_congr (h i hi)]
abbrev TR : Nat := 101
theorem mask_lt32 (f : Nat → Bool) : maskN 25 f < 4294967296 := Nat.lt_of_lt_of_le (maskN_lt 25 f) (by decide)
theorem shl1 {k : Nat} (h : k ≤ 25) : IntKind.u32.wrap (1 * 2 ^ (min ((k : Int)).toNat IntKind.u32.bits)) = ((2 ^ k : Nat) : Int) := by
  have h1 : (2 : Nat) ^ k ≤ 2 ^ 25 := Nat.pow_le_pow_right (by omega) h
  have h2 : min ((k : Int)).toNat IntKind.u32.bits = k := by simp [IntKind.bits]; omega
  rw [h2, Int.one_mul, show ((2 : Int) ^ k) = ((2 ^ k : Nat) : Int) from by simp]
  simp only [Nat.reducePow] at h1
  generalize (2 : Nat) ^ k = p at h1 ⊢
  exact wU32 (by omega)
theorem rsame_c (w0 : World) (n : Nat) (hn : n ≤ 24) :
    Ret Tryd.prog 47 #[.int .i64 (n : Int)] w0 fun v w => ∃ b, v = .pointer (some ⟨b, 0, none⟩) ∧ w0.heap.size ≤ b ∧ Blk w b (rowArr (idR n)) TR ∧ Ext w0 w := by
  refine Ret_of Tryd.func47 rfl Tryd.ntmps47 (Nat.le_of_ble_eq_true rfl) ?_
  have E : Chg none1 w0 w0 := Chg.refl _ _
  refine Wp_seq_region ?_
  refine WpL_val rfl rfl (by decide) (r_assign (v := (.pointer none)) rfl) ?_
  refine WpL_nil ?_
  refine Wp_seq_region ?_
  refine WpL_val rfl rfl (by decide) (r_build (ps := []) (v := (.agg #[(.int .u32 0), (.int .u32 0), (.int .u32 0), (.int .u32 0), (.int .u32 0), (.int .u32 0), (.int .u32 0), (.int .u32 0), (.int .u32 0), (.int .u32 0), (.int .u32 0), (.int .u32 0), (.int .u32 0), (.int .u32 0), (.int .u32 0), (.int .u32 0), (.int .u32 0), (.int .u32 0), (.int .u32 0), (.int .u32 0), (.int .u32 0), (.int .u32 0), (.int .u32 0), (.int .u32 0), (.int .u32 0)])) rfl (by kernel_rfl)) ?_
  refine s_box (v := (.agg #[(.int .u32 0), (.int .u32 0), (.int .u32 0), (.int .u32 0), (.int .u32 0), (.int .u32 0), (.int .u32 0), (.int .u32 0), (.int .u32 0), (.int .u32 0), (.int .u32 0), (.int .u32 0), (.int .u32 0), (.int .u32 0), (.int .u32 0), (.int .u32 0), (.int .u32 0), (.int .u32 0), (.int .u32 0), (.int .u32 0), (.int .u32 0), (.int .u32 0), (.int .u32 0), (.int .u32 0), (.int .u32 0)])) (c := #[(.int .u32 0), (.int .u32 0), (.int .u32 0), (.int .u32 0), (.int .u32 0), (.int .u32 0), (.int .u32 0), (.int .u32 0), (.int .u32 0), (.int .u32 0), (.int .u32 0), (.int .u32 0), (.int .u32 0), (.int .u32 0), (.int .u32 0), (.int .u32 0), (.int .u32 0), (.int .u32 0), (.int .u32 0), (.int .u32 0), (.int .u32 0), (.int .u32 0), (.int .u32 0), (.int .u32 0), (.int .u32 0)]) (by decide) rfl rfl ?_
  intro b1 w1 N1
  have F1 := N1.ge E
  replace E := E.ext N1.ext
  have B1 := N1.blk
  refine WpL_val rfl rfl (by decide) (r_assign (v := (.pointer (some ⟨b1, 0, none⟩))) rfl) ?_
  refine WpL_nil ?_
  refine Wp_seq ?_
  refine Wp_seq_region ?_
  refine WpL_val rfl rfl (by decide) (r_move (v := (.int .i64 ((n : Nat) : Int))) rfl) ?_
  refine WpL_val rfl rfl (by decide) (r_add (k := .i64) (a := ((n : Nat) : Int)) (b := 1) (c := ((n : Nat) : Int) + 1) rfl rfl (wI64 (by omega))) ?_
  refine WpL_val rfl rfl (by decide) (r_move (v := (.int .i64 0)) rfl) ?_
  refine WpL_nil ?_
  refine Wp_block ?_
  replace B1 : Blk w1 b1 (rowArr fun _ _ => false) TR := B1
  refine Wp_loop (fun nn_ σ W2 => ∃ (k : Nat), (∃ jj_, σ = upds jj_ [(3, (.pointer (some ⟨b1, 0, none⟩))), (8, (.int .i64 (((n : Nat) : Int) + 1))), (9, (.int .i64 ((k : Nat) : Int)))]) ∧ Chg none1 w0 W2 ∧ Blk W2 b1 (rowArr fun i j => decide (i < k) && decide (j = i)) 101 ∧ (k ≤ n + 1) ∧ nn_ = n + 1 - k) (n := n + 1 - 0) ?_ ?_
  · exact ⟨0, Fits.out ⟨rfl, rfl, rfl, trivial⟩, E, B1, Nat.zero_le _, rfl⟩
  · clear E B1
    rintro _ _ W2 ⟨k, ⟨j2, rfl⟩, E, B1, hk, rfl⟩
    refine Wp_seq_region ?_
    refine WpL_val rfl rfl (by decide) (r_lss (k := .i64) (a := ((k : Nat) : Int)) (b := ((n : Nat) : Int) + 1) rfl rfl) ?_
    refine WpL_nil ?_
    refine Wp_seq ?_
    refine Wp_cond (b := decide ((((k : Nat) : Int) : Int) < ((n : Nat) : Int) + 1)) rfl (fun hlt => ?_) (fun hlt => ?_)
    · have khlt := hlt
      replace hlt := of_decide_eq_true hlt
      refine Wp_skip ?_
      refine thn_normal ?_
      refine Wp_seq ?_
      refine Wp_block ?_
      refine Wp_seq_region ?_
      refine WpL_val rfl rfl (by decide) (r_move (v := (.int .i64 ((k : Nat) : Int))) rfl) ?_
      refine WpL_val rfl rfl (by decide) (r_assign (v := (.int .i64 ((k : Nat) : Int))) rfl) ?_
      refine WpL_nil ?_
      refine Wp_draw 6 mixed (by kernel_rfl) ?_
      intro w4 X4 _
      replace B1 := X4.keep B1
      replace E := E.ext X4
      refine WpT_val rfl rfl (by decide) (r_move (v := (.pointer (some ⟨b1, 0, none⟩))) rfl) ?_
      refine WpT_val rfl rfl (by decide) (r_move (v := (.int .i64 ((k : Nat) : Int))) rfl) ?_
      refine WpT_val rfl rfl (by decide) (r_move (v := (.int .i64 ((k : Nat) : Int))) rfl) ?_
      refine WpT_val rfl rfl (by decide) (r_shl (k := .u32) (a := 1) (b := ((k : Nat) : Int)) (c := ((2 ^ k : Nat) : Int)) (k' := .i64) rfl rfl (by omega) (shl1 (by omega))) ?_
      refine WpT_val rfl rfl (by decide) (r_nilCheck (a := ⟨b1, 0, none⟩) rfl) ?_
      refine WpT_val rfl rfl (by decide) (r_indexArr (b := b1) (o := 0) (i := k) (o' := k) rfl rfl rfl Tryd.underlying101 siz64 (by omega) (by omega)) ?_
      refine WpT_zero ?_
      refine s_store (b := b1) (o := k) (c' := rowArr fun i j => decide (i < k + 1) && decide (j = i)) (v := (.int .u32 ((2 ^ k : Nat) : Int))) rfl rfl rfl siz64 B1 (by rw [rowArr_size]; omega) (rowArr_set (by omega) (by rw [mask_one (n := 25) (i := k) (by omega)]; simp) (fun i' _ hne j _ => by rw [Bool.eq_iff_iff]; simp; omega)) ?_
      intro w5 S5
      replace E := S5.step E (by first | exact Or.inl (by omega) | exact Or.inr rfl | exact Or.inr (by assumption) | exact Or.inr (by simp) | exact Or.inr (by omega) | exact Or.inr (by dsimp only; omega))
      replace B1 := S5.blk
      refine WpL_nil ?_
      refine inB_normal ?_
      refine thn_normal ?_
      refine Wp_region ?_
      refine WpL_val rfl rfl (by decide) (r_add (k := .i64) (a := ((k : Nat) : Int)) (b := 1) (c := ((k : Nat) : Int) + 1) rfl rfl (wI64 (by omega))) ?_
      refine WpL_val rfl rfl (by decide) (r_move (v := (.int .i64 (((k : Nat) : Int) + 1))) rfl) ?_
      refine WpL_nil ?_
      refine thn_normal ?_
      exact ⟨n + 1 - (k + 1), by omega, k + 1, Fits.out ⟨rfl, rfl, rfl, trivial⟩, E, B1, (by omega), rfl⟩
    · have khlt := hlt
      replace hlt := of_decide_eq_false hlt
      obtain rfl : k = n + 1 := by omega
      have hR : rowArr (fun i j => decide (i < n + 1) && decide (j = i)) = rowArr (idR n) := rowArr_congr fun i _ j _ => by unfold idR; rw [Bool.eq_iff_iff]; simp; omega
      refine Wp_exit ?_
      refine thn_exit ?_
      refine thn_exit ?_
      refine inB_here ?_
      refine thn_normal ?_
      refine Wp_seq_region ?_
      refine WpL_val rfl rfl (by decide) (r_move (v := (.pointer (some ⟨b1, 0, none⟩))) rfl) ?_
      refine WpL_val rfl rfl (by decide) (r_assign (v := (.pointer (some ⟨b1, 0, none⟩))) rfl) ?_
      refine WpL_nil ?_
      refine Wp_ret ?_
      refine fin_tmp Tryd.results47 (v := (.pointer (some ⟨b1, 0, none⟩))) rfl ?_
      exact ⟨b1, rfl, by omega, by rw [← hR]; exact B1, E⟩
end Go.Proofs
namespace Go.Proofs
open Go Go.Eng
set_option maxRecDepth 100000
def outR (A B : Nat → Nat → Bool) (n i p : Nat) : Nat → Nat → Bool := fun i' k =>
  if i' < i then thenR A B n i' k else if i' = i then (List.range p).any fun j => A i j && B j k else false
theorem any_range_skip {f : Nat → Bool} {p q : Nat} (h : ∀ j, p ≤ j → j < q → f j = false) (hpq : p ≤ q) : (List.range q).any f = (List.range p).any f := by
  rw [Bool.eq_iff_iff]
  simp only [List.any_eq_true, List.mem_range]
  constructor
  · rintro ⟨j, hj, hf⟩
    rcases Nat.lt_or_ge j p with h' | h'
    · exact ⟨j, h', hf⟩
    · rw [h j h' hj] at hf; cases hf
  · rintro ⟨j, hj, hf⟩; exact ⟨j, by omega, hf⟩
theorem any_range_succ {f : Nat → Bool} {p : Nat} : (List.range (p + 1)).any f = ((List.range p).any f || f p) := by
  rw [List.range_succ]; simp
/-- What the lowest bit of what is left says. -/
theorem left_low {A : Nat → Bool} {p x k m : Nat} (hx : x = maskN 25 fun j => A j && decide (p ≤ j)) (hl : x = 2 ^ (k + 1) * m + 2 ^ k) :
    k < 25 ∧ A k = true ∧ p ≤ k ∧ (∀ j, p ≤ j → j < k → A j = false) ∧ x &&& (x - 1) = maskN 25 fun j => A j && decide (k + 1 ≤ j) := by
  have hb : ∀ j, x.testBit j = (decide (j < 25) && (A j && decide (p ≤ j))) := fun j => by rw [hx, maskN_bit]
  have hk := low_bit hl k
  rw [hb] at hk
  simp at hk
  have hlow : ∀ j, p ≤ j → j < k → A j = false := fun j h1 h2 => by
    have := low_bit hl j
    rw [hb, if_pos (by omega)] at this
    have hne : j ≠ k := by omega
    simpa [show j < 25 by omega, h1, hne] using this
  refine ⟨hk.1, hk.2.1, hk.2.2, hlow, mask_ext ?_ fun j hj => ?_⟩
  · exact Nat.lt_of_le_of_lt Nat.and_le_left (hx ▸ maskN_lt 25 _)
  · rw [low_clear hl, hb, Bool.eq_iff_iff]
    simp only [hj, decide_true, Bool.true_and, Bool.and_eq_true, decide_eq_true_eq]
    constructor
    · rintro ⟨⟨h1, h2⟩, h3⟩
      refine ⟨h1, ?_⟩
      rcases Nat.lt_or_ge j k with h | h
      · rw [hlow j h2 h] at h1; cases h1
      · omega
    · rintro ⟨h1, h2⟩; exact ⟨⟨h1, by omega⟩, by omega⟩
theorem outR_step {A B : Nat → Nat → Bool} {n i p k : Nat} (hlow : ∀ j, p ≤ j → j < k → A i j = false) (hpk : p ≤ k) (hA : A i k = true) (c : Nat) :
    (outR A B n i p i c || B k c) = outR A B n i (k + 1) i c := by
  simp only [outR, Nat.lt_irrefl, if_false, if_true]
  rw [any_range_succ, any_range_skip (p := p) (q := k) (fun j h1 h2 => by simp [hlow j h1 h2]) hpk, hA]
  simp
theorem outR_end {A B : Nat → Nat → Bool} {n i p : Nat} (hi : i ≤ n) (hp : p ≤ 25) (hz : maskN 25 (fun j => A i j && decide (p ≤ j)) = 0) : rowArr (outR A B n i p) = rowArr (outR A B n (i + 1) 0) := by
  apply rowArr_congr
  intro i' _ k _
  rw [mask_eq_zero] at hz
  simp only [outR]
  by_cases h1 : i' < i
  · rw [if_pos h1, if_pos (by omega)]
  · rw [if_neg h1]
    by_cases h2 : i' = i
    · subst h2
      rw [if_pos rfl, if_pos (by omega)]
      simp only [thenR, hi, decide_true, Bool.true_and]
      exact (any_range_skip (fun j h3 h4 => by have := hz j h4; simp [h3] at this; simp [this]) hp).symm
    · rw [if_neg h2, if_neg (by omega)]
      split <;> simp
set_option maxHeartbeats 400000 in
theorem then_c (w0 : World) (ba bb n : Nat) (A B : Nat → Nat → Bool) (hn : n ≤ 24) (hA : Blk w0 ba (rowArr A) TR) (hB : Blk w0 bb (rowArr B) TR) (hT : TabOk w0) :
    Ret Tryd.prog 49 #[.pointer (some ⟨ba, 0, none⟩), .pointer (some ⟨bb, 0, none⟩), .int .i64 (n : Int)] w0
      fun v w => ∃ b, v = .pointer (some ⟨b, 0, none⟩) ∧ w0.heap.size ≤ b ∧ Blk w b (rowArr (thenR A B n)) TR ∧ Ext w0 w := by
  have la := hA.lt
  have lb := hB.lt
  refine Ret_of Tryd.func49 rfl Tryd.ntmps49 (Nat.le_of_ble_eq_true rfl) ?_
  have E : Chg none1 w0 w0 := Chg.refl _ _
  refine Wp_seq_region ?_
  refine WpL_val rfl rfl (by decide) (r_assign (v := (.pointer none)) rfl) ?_
  refine WpL_nil ?_
  refine Wp_seq_region ?_
  refine WpL_val rfl rfl (by decide) (r_build (ps := []) (v := (.agg #[(.int .u32 0), (.int .u32 0), (.int .u32 0), (.int .u32 0), (.int .u32 0), (.int .u32 0), (.int .u32 0), (.int .u32 0), (.int .u32 0), (.int .u32 0), (.int .u32 0), (.int .u32 0), (.int .u32 0), (.int .u32 0), (.int .u32 0), (.int .u32 0), (.int .u32 0), (.int .u32 0), (.int .u32 0), (.int .u32 0), (.int .u32 0), (.int .u32 0), (.int .u32 0), (.int .u32 0), (.int .u32 0)])) rfl (by kernel_rfl)) ?_
  refine s_box (v := (.agg #[(.int .u32 0), (.int .u32 0), (.int .u32 0), (.int .u32 0), (.int .u32 0), (.int .u32 0), (.int .u32 0), (.int .u32 0), (.int .u32 0), (.int .u32 0), (.int .u32 0), (.int .u32 0), (.int .u32 0), (.int .u32 0), (.int .u32 0), (.int .u32 0), (.int .u32 0), (.int .u32 0), (.int .u32 0), (.int .u32 0), (.int .u32 0), (.int .u32 0), (.int .u32 0), (.int .u32 0), (.int .u32 0)])) (c := #[(.int .u32 0), (.int .u32 0), (.int .u32 0), (.int .u32 0), (.int .u32 0), (.int .u32 0), (.int .u32 0), (.int .u32 0), (.int .u32 0), (.int .u32 0), (.int .u32 0), (.int .u32 0), (.int .u32 0), (.int .u32 0), (.int .u32 0), (.int .u32 0), (.int .u32 0), (.int .u32 0), (.int .u32 0), (.int .u32 0), (.int .u32 0), (.int .u32 0), (.int .u32 0), (.int .u32 0), (.int .u32 0)]) (by decide) rfl rfl ?_
  intro b1 w1 N1
  have F1 := N1.ge E
  have O1_ba := N1.lt hA
  have O1_bb := N1.lt hB
  replace hA := N1.keep hA
  replace hB := N1.keep hB
  replace E := E.ext N1.ext
  have B1 := N1.blk
  refine WpL_val rfl rfl (by decide) (r_assign (v := (.pointer (some ⟨b1, 0, none⟩))) rfl) ?_
  refine WpL_nil ?_
  refine Wp_seq ?_
  refine Wp_seq_region ?_
  refine WpL_val rfl rfl (by decide) (r_move (v := (.int .i64 ((n : Nat) : Int))) rfl) ?_
  refine WpL_val rfl rfl (by decide) (r_add (k := .i64) (a := ((n : Nat) : Int)) (b := 1) (c := ((n : Nat) : Int) + 1) rfl rfl (wI64 (by omega))) ?_
  refine WpL_val rfl rfl (by decide) (r_move (v := (.int .i64 0)) rfl) ?_
  refine WpL_nil ?_
  refine Wp_block ?_
  replace B1 : Blk w1 b1 (rowArr (outR A B n 0 0)) TR := by have h0 : rowArr (outR A B n 0 0) = rowArr (fun _ _ => false) := rowArr_congr (fun i _ j _ => by simp [outR]); rw [h0]; exact B1
  refine Wp_loop (fun nn_ σ W2 => ∃ (i : Nat), (∃ jj_, σ = upds jj_ [(0, (.pointer (some ⟨ba, 0, none⟩))), (1, (.pointer (some ⟨bb, 0, none⟩))), (7, (.pointer (some ⟨b1, 0, none⟩))), (13, (.int .i64 (((n : Nat) : Int) + 1))), (14, (.int .i64 ((i : Nat) : Int)))]) ∧ Chg none1 w0 W2 ∧ Blk W2 ba (rowArr A) TR ∧ Blk W2 bb (rowArr B) TR ∧ Blk W2 b1 (rowArr (outR A B n i 0)) 101 ∧ (i ≤ n + 1) ∧ nn_ = n + 1 - i) (n := n + 1 - 0) ?_ ?_
  · exact ⟨0, Fits.out ⟨rfl, rfl, rfl, rfl, rfl, trivial⟩, E, hA, hB, B1, Nat.zero_le _, rfl⟩
  · clear E hA hB B1
    rintro _ _ W2 ⟨i, ⟨j2, rfl⟩, E, hA, hB, B1, hi, rfl⟩
    refine Wp_seq_region ?_
    refine WpL_val rfl rfl (by decide) (r_lss (k := .i64) (a := ((i : Nat) : Int)) (b := ((n : Nat) : Int) + 1) rfl rfl) ?_
    refine WpL_nil ?_
    refine Wp_seq ?_
    refine Wp_cond (b := decide ((((i : Nat) : Int) : Int) < ((n : Nat) : Int) + 1)) rfl (fun hlt => ?_) (fun hlt => ?_)
    · have khlt := hlt
      replace hlt := of_decide_eq_true hlt
      refine Wp_skip ?_
      refine thn_normal ?_
      refine Wp_seq ?_
      refine Wp_block ?_
      refine Wp_seq_region ?_
      refine WpL_val rfl rfl (by decide) (r_move (v := (.int .i64 ((i : Nat) : Int))) rfl) ?_
      refine WpL_val rfl rfl (by decide) (r_assign (v := (.int .i64 ((i : Nat) : Int))) rfl) ?_
      refine WpL_nil ?_
      refine Wp_seq_region ?_
      refine WpL_val rfl rfl (by decide) (r_move (v := (.pointer (some ⟨ba, 0, none⟩))) rfl) ?_
      refine WpL_val rfl rfl (by decide) (r_move (v := (.int .i64 ((i : Nat) : Int))) rfl) ?_
      refine WpL_val rfl rfl (by decide) (r_nilCheck (a := ⟨ba, 0, none⟩) rfl) ?_
      refine WpL_val rfl rfl (by decide) (r_indexArr (b := ba) (o := 0) (i := i) (o' := i) rfl rfl rfl Tryd.underlying101 siz64 (by omega) (by omega)) ?_
      refine WpL_val rfl rfl (by decide) (r_load (v := (.int .u32 ((maskN 25 (fun j => A i j && decide (0 ≤ j)) : Nat) : Int))) rfl flat64 ((hA.cell (rowArr_get A (by omega))).trans (by rw [mask_congr (g := fun j => A i j && decide (0 ≤ j)) (fun j _ => by simp)]))) ?_
      refine WpL_val rfl rfl (by decide) (r_assign (v := (.int .u32 ((maskN 25 (fun j => A i j && decide (0 ≤ j)) : Nat) : Int))) rfl) ?_
      refine WpL_nil ?_
      refine Wp_block ?_
      refine Wp_loop (fun nn_ σ W4 => ∃ (p : Nat), (∃ jj_, σ = upds jj_ [(0, (.pointer (some ⟨ba, 0, none⟩))), (1, (.pointer (some ⟨bb, 0, none⟩))), (7, (.pointer (some ⟨b1, 0, none⟩))), (8, (.int .i64 ((i : Nat) : Int))), (13, (.int .i64 (((n : Nat) : Int) + 1))), (14, (.int .i64 ((i : Nat) : Int))), (9, (.int .u32 ((maskN 25 (fun j => A i j && decide (p ≤ j)) : Nat) : Int)))]) ∧ Chg none1 w0 W4 ∧ Blk W4 ba (rowArr A) TR ∧ Blk W4 bb (rowArr B) TR ∧ Blk W4 b1 (rowArr (outR A B n i p)) 101 ∧ (p ≤ 25) ∧ nn_ = 25 - p) (n := 25 - 0) ?_ ?_
      · exact ⟨0, Fits.out ⟨rfl, rfl, rfl, rfl, rfl, rfl, rfl, trivial⟩, E, hA, hB, B1, Nat.zero_le _, rfl⟩
      · clear E hA hB B1
        rintro _ _ W4 ⟨p, ⟨j4, rfl⟩, E, hA, hB, B1, hp, rfl⟩
        obtain ⟨x, hx⟩ : ∃ x, x = maskN 25 (fun j => A i j && decide (p ≤ j)) := ⟨_, rfl⟩
        have hxl : x < 4294967296 := hx ▸ mask_lt32 _
        rw [← hx]
        refine Wp_seq ?_
        refine Wp_seq_region ?_
        refine WpL_val rfl rfl (by decide) (r_move (v := (.int .u32 ((x : Nat) : Int))) rfl) ?_
        refine WpL_val rfl rfl (by decide) (r_neq (k := .u32) (a := ((x : Nat) : Int)) (b := 0) rfl rfl) ?_
        refine WpL_nil ?_
        refine Wp_cond (b := decide ((((x : Nat) : Int) : Int) ≠ 0)) rfl (fun hne => ?_) (fun hne => ?_)
        · have khne := hne
          replace hne := of_decide_eq_true hne
          obtain ⟨k, m, hl⟩ := low_form x (by omega)
          obtain ⟨hk25, hAk, hpk, hlow, hclear⟩ := left_low hx hl
          refine Wp_skip ?_
          refine thn_normal ?_
          refine Wp_seq ?_
          refine Wp_block ?_
          refine Wp_draw 14 mixed (by kernel_rfl) ?_
          intro w6 X6 _
          replace hA := X6.keep hA
          replace hB := X6.keep hB
          replace B1 := X6.keep B1
          replace E := E.ext X6
          refine WpT_val rfl rfl (by decide) (r_move (v := (.pointer (some ⟨b1, 0, none⟩))) rfl) ?_
          refine WpT_val rfl rfl (by decide) (r_move (v := (.int .i64 ((i : Nat) : Int))) rfl) ?_
          refine WpT_val rfl rfl (by decide) (r_nilCheck (a := ⟨b1, 0, none⟩) rfl) ?_
          refine WpT_val rfl rfl (by decide) (r_indexArr (b := b1) (o := 0) (i := i) (o' := i) rfl rfl rfl Tryd.underlying101 siz64 (by omega) (by omega)) ?_
          refine WpT_val rfl rfl (by decide) (r_load (v := (.int .u32 ((maskN 25 (outR A B n i p i) : Nat) : Int))) rfl flat64 (B1.cell (rowArr_get _ (by omega)))) ?_
          refine WpT_val rfl rfl (by decide) (r_move (v := (.pointer (some ⟨bb, 0, none⟩))) rfl) ?_
          refine WpT_val rfl rfl (by decide) (r_move (v := (.int .u32 ((x : Nat) : Int))) rfl) ?_
          refine WpT_enter (v := (.int .i64 ((k : Nat) : Int))) rfl rfl (by decide) (r_callF (vs := [(.int .u32 ((x : Nat) : Int))]) Tryd.func27 nm27 bd27 rfl) (tz_c _ x k m hl hxl (hT.ext E)) ?_
          refine WpT_val rfl rfl (by decide) (r_nilCheck (a := ⟨bb, 0, none⟩) rfl) ?_
          refine WpT_val rfl rfl (by decide) (r_indexArr (b := bb) (o := 0) (i := k) (o' := k) rfl rfl rfl Tryd.underlying101 siz64 (by omega) (by omega)) ?_
          refine WpT_val rfl rfl (by decide) (r_load (v := (.int .u32 ((maskN 25 (B k) : Nat) : Int))) rfl flat64 (hB.cell (rowArr_get _ (by omega)))) ?_
          refine WpT_val rfl rfl (by decide) (r_bits (k := .u32) (a := ((maskN 25 (outR A B n i p i) : Nat) : Int)) (b := ((maskN 25 (B k) : Nat) : Int)) (v := .int .u32 ((maskN 25 (outR A B n i (k + 1) i) : Nat) : Int)) rfl rfl (by simp) ((bits_or _ _ (mask_lt32 _) (mask_lt32 _)).trans (by rw [mask_or, mask_congr (fun c _ => outR_step hlow hpk hAk c)]))) ?_
          refine WpT_val rfl rfl (by decide) (r_nilCheck (a := ⟨b1, 0, none⟩) rfl) ?_
          refine WpT_val rfl rfl (by decide) (r_indexArr (b := b1) (o := 0) (i := i) (o' := i) rfl rfl rfl Tryd.underlying101 siz64 (by omega) (by omega)) ?_
          refine WpT_zero ?_
          refine s_store (b := b1) (o := i) (c' := rowArr (outR A B n i (k + 1))) (v := (.int .u32 ((maskN 25 (outR A B n i (k + 1) i) : Nat) : Int))) rfl rfl rfl siz64 B1 (by rw [rowArr_size]; omega) (rowArr_set (by omega) rfl (fun i' _ hne j _ => by simp [outR, hne])) ?_
          intro w7 S7
          replace hA := S7.keep (by omega) hA
          replace hB := S7.keep (by omega) hB
          replace E := S7.step E (by first | exact Or.inl (by omega) | exact Or.inr rfl | exact Or.inr (by assumption) | exact Or.inr (by simp) | exact Or.inr (by omega) | exact Or.inr (by dsimp only; omega))
          replace B1 := S7.blk
          refine WpL_nil ?_
          refine inB_normal ?_
          refine thn_normal ?_
          refine Wp_region ?_
          refine WpL_val rfl rfl (by decide) (r_move (v := (.int .u32 ((x : Nat) : Int))) rfl) ?_
          refine WpL_val rfl rfl (by decide) (r_move (v := (.int .u32 ((x : Nat) : Int))) rfl) ?_
          refine WpL_val rfl rfl (by decide) (r_sub (k := .u32) (a := ((x : Nat) : Int)) (b := 1) (c := ((x - 1 : Nat) : Int)) rfl rfl (by rw [wU32 (by omega)]; omega)) ?_
          refine WpL_val rfl rfl (by decide) (r_bits (k := .u32) (a := ((x : Nat) : Int)) (b := ((x - 1 : Nat) : Int)) (v := .int .u32 ((maskN 25 (fun j => A i j && decide (k + 1 ≤ j)) : Nat) : Int)) rfl rfl (by simp) ((bits_and _ _ hxl (by omega)).trans (by rw [hclear]))) ?_
          refine WpL_val rfl rfl (by decide) (r_assign (v := (.int .u32 ((maskN 25 (fun j => A i j && decide (k + 1 ≤ j)) : Nat) : Int))) rfl) ?_
          refine WpL_nil ?_
          refine thn_normal ?_
          exact ⟨25 - (k + 1), by omega, k + 1, Fits.out ⟨rfl, rfl, rfl, rfl, rfl, rfl, rfl, trivial⟩, E, hA, hB, B1, (by omega), rfl⟩
        · have khne := hne
          replace hne := of_decide_eq_false hne
          have hz : x = 0 := by omega
          rw [outR_end (by omega) hp (hx ▸ hz)] at B1
          refine Wp_exit ?_
          refine thn_exit ?_
          refine thn_exit ?_
          refine inB_here ?_
          refine inB_normal ?_
          refine thn_normal ?_
          refine Wp_region ?_
          refine WpL_val rfl rfl (by decide) (r_add (k := .i64) (a := ((i : Nat) : Int)) (b := 1) (c := ((i : Nat) : Int) + 1) rfl rfl (wI64 (by omega))) ?_
          refine WpL_val rfl rfl (by decide) (r_move (v := (.int .i64 (((i : Nat) : Int) + 1))) rfl) ?_
          refine WpL_nil ?_
          refine thn_normal ?_
          exact ⟨n + 1 - (i + 1), by omega, i + 1, Fits.out ⟨rfl, rfl, rfl, rfl, rfl, trivial⟩, E, hA, hB, B1, (by omega), rfl⟩
    · have khlt := hlt
      replace hlt := of_decide_eq_false hlt
      obtain rfl : i = n + 1 := by omega
      have hR : rowArr (outR A B n (n + 1) 0) = rowArr (thenR A B n) := rowArr_congr fun i _ j _ => by unfold outR; split; rfl; simp [thenR]; omega
      refine Wp_exit ?_
      refine thn_exit ?_
      refine thn_exit ?_
      refine inB_here ?_
      refine thn_normal ?_
      refine Wp_seq_region ?_
      refine WpL_val rfl rfl (by decide) (r_move (v := (.pointer (some ⟨b1, 0, none⟩))) rfl) ?_
      refine WpL_val rfl rfl (by decide) (r_assign (v := (.pointer (some ⟨b1, 0, none⟩))) rfl) ?_
      refine WpL_nil ?_
      refine Wp_ret ?_
      refine fin_tmp Tryd.results49 (v := (.pointer (some ⟨b1, 0, none⟩))) rfl ?_
      exact ⟨b1, rfl, by omega, by rw [← hR]; exact B1, E⟩
theorem rowArr_one (R : Nat → Nat → Bool) : ∀ u ∈ (rowArr R).toList, u.oneCell' = true := by
  intro u hu
  simp only [rowArr, List.mem_map, List.mem_range] at hu
  obtain ⟨i, _, rfl⟩ := hu
  rfl
theorem or_start {A B : Nat → Nat → Bool} {w : World} {b t : Nat} (h : Blk w b (rowArr A).toList.toArray t) : Blk w b (rowArr fun i j => if i < 0 then orR A B i j else A i j) t := by
  have h0 : rowArr (fun i j => if i < 0 then orR A B i j else A i j) = rowArr A := rowArr_congr fun i _ j _ => by simp
  rw [h0]; simpa using h
theorem or_c (w0 : World) (ba bb : Nat) (A B : Nat → Nat → Bool) (hA : Blk w0 ba (rowArr A) TR) (hB : Blk w0 bb (rowArr B) TR) :
    Ret Tryd.prog 50 #[.pointer (some ⟨ba, 0, none⟩), .pointer (some ⟨bb, 0, none⟩)] w0
      fun v w => ∃ b, v = .pointer (some ⟨b, 0, none⟩) ∧ w0.heap.size ≤ b ∧ Blk w b (rowArr (orR A B)) TR ∧ Ext w0 w := by
  have la := hA.lt
  have lb := hB.lt
  refine Ret_of Tryd.func50 rfl Tryd.ntmps50 (Nat.le_of_ble_eq_true rfl) ?_
  have E : Chg none1 w0 w0 := Chg.refl _ _
  refine Wp_seq_region ?_
  refine WpL_val rfl rfl (by decide) (r_assign (v := (.pointer none)) rfl) ?_
  refine WpL_nil ?_
  refine Wp_seq_region ?_
  refine WpL_val rfl rfl (by decide) (r_move (v := (.pointer (some ⟨ba, 0, none⟩))) rfl) ?_
  refine WpL_val rfl rfl (by decide) (r_nilCheck (a := ⟨ba, 0, none⟩) rfl) ?_
  refine WpL_val rfl rfl (by decide) (r_loadAgg (vs := (rowArr A).toList) rfl agg101 siz101 (by simp [rowArr]) (hA.cells (by simp only [List.drop_zero]; exact List.take_length))) ?_
  refine s_allocStore (v := (.agg ((rowArr A).toList.toArray))) (c := ((rowArr A).toList.toArray)) (n := 25) (by decide) zer101 rfl siz101 rfl rfl (by simpa using by simp [rowArr]) (by simpa using rowArr_one A) ?_
  intro b1 w1 N1
  have F1 := N1.ge E
  have O1_ba := N1.lt hA
  have O1_bb := N1.lt hB
  replace hA := N1.keep hA
  replace hB := N1.keep hB
  replace E := E.ext N1.ext
  have B1 := N1.blk
  refine WpL_nil ?_
  refine Wp_seq ?_
  refine Wp_seq_region ?_
  refine WpL_val rfl rfl (by decide) (r_move (v := (.int .i64 0)) rfl) ?_
  refine WpL_nil ?_
  refine Wp_block ?_
  replace B1 : Blk w1 b1 (rowArr fun i j => if i < 0 then orR A B i j else A i j) TR := or_start B1
  refine Wp_loop (fun nn_ σ W2 => ∃ (i : Nat), (∃ jj_, σ = upds jj_ [(1, (.pointer (some ⟨bb, 0, none⟩))), (5, (.pointer (some ⟨b1, 0, none⟩))), (10, (.int .i64 ((i : Nat) : Int)))]) ∧ Chg none1 w0 W2 ∧ Blk W2 ba (rowArr A) TR ∧ Blk W2 bb (rowArr B) TR ∧ Blk W2 b1 (rowArr fun i' j => if i' < i then orR A B i' j else A i' j) 101 ∧ (i ≤ 25) ∧ nn_ = 25 - i) (n := 25 - 0) ?_ ?_
  · exact ⟨0, Fits.out ⟨rfl, rfl, rfl, trivial⟩, E, hA, hB, B1, Nat.zero_le _, rfl⟩
  · clear E hA hB B1
    rintro _ _ W2 ⟨i, ⟨j2, rfl⟩, E, hA, hB, B1, hi, rfl⟩
    refine Wp_seq_region ?_
    refine WpL_val rfl rfl (by decide) (r_lss (k := .i64) (a := ((i : Nat) : Int)) (b := 25) rfl rfl) ?_
    refine WpL_nil ?_
    refine Wp_seq ?_
    refine Wp_cond (b := decide ((((i : Nat) : Int) : Int) < 25)) rfl (fun hlt => ?_) (fun hlt => ?_)
    · have khlt := hlt
      replace hlt := of_decide_eq_true hlt
      refine Wp_skip ?_
      refine thn_normal ?_
      refine Wp_seq ?_
      refine Wp_block ?_
      refine Wp_seq_region ?_
      refine WpL_val rfl rfl (by decide) (r_move (v := (.int .i64 ((i : Nat) : Int))) rfl) ?_
      refine WpL_val rfl rfl (by decide) (r_assign (v := (.int .i64 ((i : Nat) : Int))) rfl) ?_
      refine WpL_nil ?_
      refine Wp_draw 10 mixed (by kernel_rfl) ?_
      intro w4 X4 _
      replace hA := X4.keep hA
      replace hB := X4.keep hB
      replace B1 := X4.keep B1
      replace E := E.ext X4
      refine WpT_val rfl rfl (by decide) (r_move (v := (.int .i64 ((i : Nat) : Int))) rfl) ?_
      refine WpT_val rfl rfl (by decide) (r_indexArr (b := b1) (o := 0) (i := i) (o' := i) rfl rfl rfl Tryd.underlying101 siz64 (by omega) (by omega)) ?_
      refine WpT_val rfl rfl (by decide) (r_load (v := (.int .u32 ((maskN 25 (A i) : Nat) : Int))) rfl flat64 ((B1.cell (rowArr_get _ (by omega))).trans (by simp))) ?_
      refine WpT_val rfl rfl (by decide) (r_move (v := (.pointer (some ⟨bb, 0, none⟩))) rfl) ?_
      refine WpT_val rfl rfl (by decide) (r_move (v := (.int .i64 ((i : Nat) : Int))) rfl) ?_
      refine WpT_val rfl rfl (by decide) (r_nilCheck (a := ⟨bb, 0, none⟩) rfl) ?_
      refine WpT_val rfl rfl (by decide) (r_indexArr (b := bb) (o := 0) (i := i) (o' := i) rfl rfl rfl Tryd.underlying101 siz64 (by omega) (by omega)) ?_
      refine WpT_val rfl rfl (by decide) (r_load (v := (.int .u32 ((maskN 25 (B i) : Nat) : Int))) rfl flat64 (hB.cell (rowArr_get _ (by omega)))) ?_
      refine WpT_val rfl rfl (by decide) (r_bits (k := .u32) (a := ((maskN 25 (A i) : Nat) : Int)) (b := ((maskN 25 (B i) : Nat) : Int)) (v := .int .u32 ((maskN 25 (orR A B i) : Nat) : Int)) rfl rfl (by simp) ((bits_or _ _ (mask_lt32 _) (mask_lt32 _)).trans (by rw [mask_or]; rfl))) ?_
      refine WpT_val rfl rfl (by decide) (r_indexArr (b := b1) (o := 0) (i := i) (o' := i) rfl rfl rfl Tryd.underlying101 siz64 (by omega) (by omega)) ?_
      refine WpT_zero ?_
      refine s_store (b := b1) (o := i) (c' := rowArr fun i' j => if i' < i + 1 then orR A B i' j else A i' j) (v := (.int .u32 ((maskN 25 (orR A B i) : Nat) : Int))) rfl rfl rfl siz64 B1 (by rw [rowArr_size]; omega) (rowArr_set (by omega) (by simp) (fun i' _ hne j _ => by by_cases h : i' < i; rw [if_pos h, if_pos (by omega)]; rw [if_neg h, if_neg (by omega)])) ?_
      intro w5 S5
      replace hA := S5.keep (by omega) hA
      replace hB := S5.keep (by omega) hB
      replace E := S5.step E (by first | exact Or.inl (by omega) | exact Or.inr rfl | exact Or.inr (by assumption) | exact Or.inr (by simp) | exact Or.inr (by omega) | exact Or.inr (by dsimp only; omega))
      replace B1 := S5.blk
      refine WpL_nil ?_
      refine inB_normal ?_
      refine thn_normal ?_
      refine Wp_region ?_
      refine WpL_val rfl rfl (by decide) (r_add (k := .i64) (a := ((i : Nat) : Int)) (b := 1) (c := ((i : Nat) : Int) + 1) rfl rfl (wI64 (by omega))) ?_
      refine WpL_val rfl rfl (by decide) (r_move (v := (.int .i64 (((i : Nat) : Int) + 1))) rfl) ?_
      refine WpL_nil ?_
      refine thn_normal ?_
      exact ⟨25 - (i + 1), by omega, i + 1, Fits.out ⟨rfl, rfl, rfl, trivial⟩, E, hA, hB, B1, (by omega), rfl⟩
    · have khlt := hlt
      replace hlt := of_decide_eq_false hlt
      obtain rfl : i = 25 := by omega
      have hR : rowArr (fun i' j => if i' < 25 then orR A B i' j else A i' j) = rowArr (orR A B) := rowArr_congr fun i h j _ => by rw [if_pos h]
      refine Wp_exit ?_
      refine thn_exit ?_
      refine thn_exit ?_
      refine inB_here ?_
      refine thn_normal ?_
      refine Wp_seq_region ?_
      refine WpL_val rfl rfl (by decide) (r_assign (v := (.pointer (some ⟨b1, 0, none⟩))) rfl) ?_
      refine WpL_nil ?_
      refine Wp_ret ?_
      refine fin_tmp Tryd.results50 (v := (.pointer (some ⟨b1, 0, none⟩))) rfl ?_
      exact ⟨b1, rfl, by omega, by rw [← hR]; exact B1, E⟩
end Go.Proofs
