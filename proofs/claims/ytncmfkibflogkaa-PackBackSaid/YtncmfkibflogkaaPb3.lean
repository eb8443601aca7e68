/- Contracts and plain lemmas, part 3. -/
import Derived.Tactics
import Derived.Deep.Quiet
import Derived.Laws.AppendOwn
import Derived.KernelRfl
import Derived.Laws.Entries
import Derived.Laws.Build
import Derived.Below
import Derived.RowKit3
import Derived.StillTail
import Derived.Sort.Grow
import Derived.Deep.Draws
import Derived.Test.YtncmfkibflogkaaChecked
import Derived.Laws.StructEq
import Derived.Laws.MakeOwn
import Derived.MapKept
import Derived.Laws.BytesArg
import Derived.Laws.CopyRow
import Derived.DeepKeys3
import Derived.OpenShut
import Derived.ChangeSlices
import Derived.Test.YtncmfkibflogkaaPb2
namespace Go.Proofs
open Go Go.Eng
set_option maxRecDepth 100000
def cloneF (n0 : Nat) (l : List Int) : Fct := fun v w => ∃ b c rest, v = .slice (some ⟨b, 0, none⟩) l.length c ∧ l.length ≤ c ∧ n0 ≤ b ∧ Blk w b (l.map (Value.int .i64) ++ rest).toArray TI
theorem cloneF_ext (n0 : Nat) (l : List Int) : ∀ v w w', Chg none1 w w' → cloneF n0 l v w → cloneF n0 l v w' := by
  rintro v w w' e ⟨b, c, rest, h1, h2, h3, h4⟩
  exact ⟨b, c, rest, h1, h2, h3, Ext.keep e h4⟩
def makeF (n0 n : Nat) : Fct := fun v w => ∃ b, v = .slice (some ⟨b, 0, none⟩) n n ∧ n0 ≤ b ∧ Blk w b (List.replicate n (Value.int .i64 0)).toArray TI
theorem makeF_ext (n0 n : Nat) : ∀ v w w', Chg none1 w w' → makeF n0 n v w → makeF n0 n v w' := by
  rintro v w w' e ⟨b, h1, h2, h3⟩
  exact ⟨b, h1, h2, Ext.keep e h3⟩
def tabF (n0 : Nat) (start : Int) (cols : Nat) (l : List Int) (n : Nat) : Fct := fun v w => ∃ b c rest q, v = .agg #[.int .i64 start, .int .i64 ((cols : Nat) : Int), .slice (some ⟨b, 0, none⟩) l.length c, .slice (some ⟨q, 0, none⟩) n n, .slice none 0 0, .slice none 0 0] ∧ l.length ≤ c ∧ n0 ≤ b ∧ Blk w b (l.map (Value.int .i64) ++ rest).toArray TI ∧ n0 ≤ q ∧ Blk w q (List.replicate n (Value.int .i64 0)).toArray TI ∧ b ≠ q
theorem tabF_ext (n0 : Nat) (start : Int) (cols : Nat) (l : List Int) (n : Nat) : ∀ v w w', Chg none1 w w' → tabF n0 start cols l n v w → tabF n0 start cols l n v w' := by
  rintro v w w' e ⟨b, c, rest, q, h1, h2, h3, h4, h5, h6, h7⟩
  exact ⟨b, c, rest, q, h1, h2, h3, Ext.keep e h4, h5, Ext.keep e h6, h7⟩
def boxF (n0 : Nat) : Fct := fun v w => ∃ b, v = .pointer (some ⟨b, 0, none⟩) ∧ n0 ≤ b ∧ Blk w b #[.int .i64 0, .int .i64 0, .slice none 0 0, .slice none 0 0, .slice none 0 0, .slice none 0 0] TT
theorem boxF_ext (n0 : Nat) : ∀ v w w', Chg none1 w w' → boxF n0 v w → boxF n0 v w' := by
  rintro v w w' e ⟨b, h1, h2, h3⟩
  exact ⟨b, h1, h2, Ext.keep e h3⟩
theorem blk_ne {w : World} {b b' : Nat} {c c' : Array Value} {t t' : TypeId} (h : Blk w b c t) (h' : Blk w b' c' t') (hne : t ≠ t') : b ≠ b' := fun he => by
  subst he
  unfold Blk at h h'
  rw [h] at h'
  simp at h'
  exact hne h'.2
section
variable {N : Nat} {σ : Env} {w : World} {dst : Option Tmp} {ty : TypeId} {pos : String} {af : Array Edge} {g : Option (Nat × Bool)} {x y : Operand}
theorem make_run {n : Nat} (hx : ev σ x = .int .i64 ((n : Nat) : Int)) (hy : ev σ y = .int .i64 ((n : Nat) : Int)) (hn : n ≤ 1000000) :
    (execOp (ev σ) ⟨dst, .makeSlice 22 x y, ty, pos, af, g⟩).run Try.prog w = .ok (.value (.slice (some ⟨w.heap.size, 0, none⟩) n n)) { w with heap := w.heap.push (.cells (List.replicate n (Value.int .i64 0)).toArray TI (0, 0)) } := by
  have hby := byt3
  have hz := zer3
  have hsz := siz3
  unfold Siz at hsz; unfold Byt at hby; unfold Zer at hz
  cases hi : (Try.prog).info? TI with
  | none => rw [hi] at hsz; simp at hsz
  | some i =>
  rw [hi] at hsz hby hz
  simp at hsz hby hz
  have h := run_make (P := Try.prog) w 22 TI i _ Try.underlying22 hi hz .i64 .i64 ((n : Nat) : Int) ((n : Nat) : Int) (by omega) (Int.le_refl _) (by rw [hby]; omega) (by omega)
  have hc : madeCells (Value.int IntKind.i64 0).cells (n * i.size) = (List.replicate n (Value.int .i64 0)).toArray := by
    rw [hsz, Nat.mul_one]
    apply Array.ext'
    simp only [madeCells, Value.cells]
    apply List.ext_getElem?
    intro j
    simp only [Array.toList_map, List.getElem?_map, List.getElem?_replicate]
    rcases Nat.lt_or_ge j n with hj | hj
    · have h1 : (Array.range n).toList[j]? = some j := by simp [hj]
      rw [h1, if_pos hj]
      simp [Nat.mod_one]
    · have h1 : (Array.range n).toList[j]? = none := by simp; omega
      rw [h1, if_neg (by omega)]; rfl
  simp only [Int.toNat_natCast, hc] at h
  simp only [execOp, hx, hy, Sem.run_bind, h, Result.andThen_ok]
  rfl
theorem DoesT_make {n n0 : Nat} (hx : ev σ x = .int .i64 ((n : Nat) : Int)) (hy : ev σ y = .int .i64 ((n : Nat) : Int)) (hn : n ≤ 1000000) (h0 : n0 ≤ w.heap.size) {R : Value → Prop} (hR : R (.slice (some ⟨w.heap.size, 0, none⟩) n n)) :
    DoesT none1 Try.prog N ⟨dst, .makeSlice 22 x y, ty, pos, af, g⟩ (fun v w => makeF n0 n v w ∧ R v) σ w :=
  DoesT_val (make_run hx hy hn) (New.mk' w _ TI).ext ⟨⟨_, rfl, h0, (New.mk' w _ TI).blk⟩, hR⟩
theorem DoesT_box {n0 : Nat} (h0 : n0 ≤ w.heap.size) : DoesT none1 Try.prog N ⟨dst, .alloc 58, ty, pos, af, g⟩ (boxF n0) σ w := by
  refine DoesT_val (v := .pointer (some ⟨w.heap.size, 0, none⟩)) (w' := { w with heap := w.heap.push (.cells #[.int .i64 0, .int .i64 0, .slice none 0 0, .slice none 0 0, .slice none 0 0, .slice none 0 0] TT (0, 0)) }) ?_ (New.mk' w _ TT).ext ⟨_, rfl, h0, (New.mk' w _ TT).blk⟩
  simp [execOp, Instr.alloc, (zer58).run, newVar, newRow, Value.cells]
end
theorem DoesT_weak {M : Nat → Prop} {P : Program} {N : Nat} {o : Oper} {R R' : Fct} {σ : Env} {w : World} (h : DoesT M P N o R σ w) (hr : ∀ v w, R v w → R' v w) : DoesT M P N o R' σ w := fun a ha he Q K hK => h a ha he Q K fun v w2 hx2 h2 => hK v w2 hx2 (hr v w2 h2)
theorem clone_run {w : World} {n0 : Nat} {v : Value} {l : List Int} (h : IntsAt w v l) (hl : l.length ≤ 2000000) (hp : 0 < l.length) (h0 : n0 ≤ w.heap.size) : Ret Try.prog 74 #[v] w fun r w' => cloneF n0 l r w' ∧ Chg none1 w w' := by
  refine (clonei_c w v l h hl).mono fun r w' hr => ?_
  obtain ⟨a, c, rfl, h1, h2, h3⟩ := hr
  obtain ⟨b, rest, rfl, h4, h5⟩ := h2.resolve_left (fun he => by rw [he] at hp; simp at hp)
  exact ⟨⟨b, c, rest, rfl, h1, by omega, h5⟩, h3⟩
theorem cloneP {N : Nat} {σ : Env} {w : World} {dst : Option Tmp} {ty : TypeId} {pos : String} {af : Array Edge} {g : Option (Nat × Bool)} {x : Operand} {tys : Array TypeId} {n0 n b : Nat} {v u : Value} {l : List Int} (hx : ev σ x = v) (h : IntsAt w v l) (hl : l.length ≤ 2000000) (hp : 0 < l.length) (h0 : n0 ≤ w.heap.size) (hu : u = .slice (some ⟨b, 0, none⟩) n n) (hb : b < w.heap.size) :
    DoesT none1 Try.prog N ⟨dst, .call ⟨.value (.func 74), #[x], tys⟩, ty, pos, af, g⟩ (fun r w => cloneF n0 l r w ∧ ApartV r u) σ w := by
  refine DoesT_enter (r_callF (vs := [v]) Try.func74 nm74 bd74 (lst1 hx)) ?_
  refine (clone_run (n0 := w.heap.size) h hl hp (Nat.le_refl _)).mono fun r w' hr => ?_
  obtain ⟨⟨b', c, rest, rfl, h1, h2, h3⟩, h4⟩ := hr
  refine ⟨⟨⟨b', c, rest, rfl, h1, by omega, h3⟩, fun y hy hv => ?_⟩, h4⟩
  rw [hu] at hv
  simp [Value.ownBlock] at hy hv
  omega
def oneF (n0 : Nat) (z : Int) : Fct := fun v w => ∃ b, v = .slice (some ⟨b, 0, none⟩) 1 1 ∧ n0 ≤ b ∧ Blk w b #[.int .i64 z] TI
theorem oneF_chg {M : Nat → Prop} (n0 : Nat) (z : Int) (hM : ∀ y, M y → y < n0) : ∀ v w w', Chg M w w' → oneF n0 z v w → oneF n0 z v w' := by
  rintro v w w' e ⟨b, h1, h2, h3⟩
  exact ⟨b, h1, h2, e.keep (fun h => by have := hM b h; omega) h3⟩
def appW (n2 n0 n : Nat) (xs : List Value) (old : Value) : Fct := fun v w => ∃ a c, v = .slice a n c ∧ w.ownsRow n2 TI 1 v n xs ∧ ∀ k, v.ownBlock = some k → old.ownBlock = some k ∨ n0 ≤ k
theorem appF_one {c1 c2 n2 n0 n : Nat} {M1 M2 : Nat → Prop} {xs : List Value} {old : Value} {ws : List Nat} (hs : ∀ k, (old.ownBlock = some k ∨ n0 ≤ k) → ¬ M2 k) : StabX (two c1 c2 M1 M2) c1 ws (fun _ => appW n2 n0 n xs old) := by
  rintro p hp _ σ v w w' e ⟨a, c, h1, h2, h3⟩
  rcases two_ext e with h | h | h
  · exact absurd h.1 hp
  · exact ⟨a, c, h1, own_chg h2 h.2 (fun k hk => hs k (h3 k hk)), h3⟩
  · exact ⟨a, c, h1, own_ext h2 h, h3⟩
theorem appF_two {c1 c2 n2 n0 n : Nat} {M1 M2 : Nat → Prop} {xs : List Value} {old : Value} {ws : List Nat} {t : Nat} (hw : ws.contains c1 = true) : StabX (two c1 c2 M1 M2) c2 ws (fun s v w => appW n2 n0 n xs old v w ∧ ApartV (s t) v) := by
  rintro p hp hpw σ v w w' e ⟨⟨a, c, h1, h2, h3⟩, h4⟩
  rcases two_ext e with h | h | h
  · rw [h.1, hw] at hpw; cases hpw
  · exact absurd h.1 hp
  · exact ⟨⟨a, c, h1, own_ext h2 h, h3⟩, h4⟩
section
variable {N n0 : Nat} {σ : Env} {w : World} {dst : Option Tmp} {ty : TypeId} {pos : String} {af : Array Edge} {g : Option (Nat × Bool)} {s x : Operand}
theorem DoesT_b1 {z : Int} (hx : ev σ x = .int .i64 z) (h0 : n0 ≤ w.heap.size) : DoesT none1 Try.prog N ⟨dst, .buildSlice 22 1 #[(0, x)], ty, pos, af, g⟩ (oneF n0 z) σ w := by
  have hnw := New.mk' w #[.int .i64 z] TI
  exact DoesT_val (run_buildSlice (parts := [(0, x)]) (ps := [(0, .int .i64 z)]) (by simp only [List.map, hx]) Try.underlying22 siz3 zer3 (by decide) (by decide) (by kernel_rfl)) hnw.ext ⟨_, rfl, h0, hnw.blk⟩
theorem DoesT_app {M : Nat → Prop} {n2 n c b : Nat} {a : Option Addr} {xs : List Value} {z : Int} (hs : ev σ s = .slice a n c) (hown : w.ownsRow n2 TI 1 (.slice a n c) n xs) (hx : ev σ x = .slice (some ⟨b, 0, none⟩) 1 1) (hB : Blk w b #[.int .i64 z] TI) (hn : n + 1 ≤ 1000000) (h2 : n2 ≤ w.heap.size) (h0 : n0 ≤ w.heap.size) (hM : ∀ y, (Value.slice a n c).ownBlock = some y → M y) :
    DoesT M Try.prog N ⟨dst, .call ⟨.builtin .append, #[s, x], #[22, 22]⟩, ty, pos, af, g⟩ (appW n2 n0 (n + 1) (xs ++ [.int .i64 z]) (.slice a n c)) σ w := by
  have hsz := siz3
  have hby := byt3
  have hz := zer3
  unfold Siz at hsz; unfold Byt at hby; unfold Zer at hz
  cases hi : (Try.prog).info? TI with
  | none => rw [hi] at hsz; simp at hsz
  | some i =>
  rw [hi] at hsz hby hz
  simp at hsz hby hz
  have hcells : ∀ j u, [Value.int .i64 z][j]? = some u → w.cell? ((⟨b, 0, none⟩ : Addr).add j) = some u := fun j u hj => by rw [Addr.add_lit]; exact hB.cells rfl j u hj
  obtain ⟨v', w', hr, h3, h4, h5⟩ := run_append_own (P := Try.prog) w n2 22 ty TI i _ 1 _ Try.underlying22 hi hz hsz hby rfl (by decide) (.slice a n c) n xs hown ⟨b, 0, none⟩ 1 1 [.int .i64 z] rfl hcells (by simp [Value.oneCell']) (by unfold maxLen; omega) (by omega) h2
  obtain ⟨a', c', rfl⟩ := own_form h3
  refine DoesT_val (v := .slice a' (n + 1) c') (w' := w') (by simp [execOp, resolve, invoke, builtin, hs, hx, hr]) ⟨h4.os, h4.tape, h4.output, append_drawn (P := Try.prog) Try.underlying22 hi hz hsz hby hown (news := [.int .i64 z]) rfl hcells (by simp [Value.oneCell']) (by unfold maxLen; omega) (by omega) hr, h4.size, fun y hy hn => h4.block y hy (fun h => hn (hM y h.symm))⟩ ⟨_, _, rfl, h3, fun k hk => ?_⟩
  exact (append_where (P := Try.prog) Try.underlying22 hi hz hsz hby rfl (by decide) hown (news := [.int .i64 z]) rfl hcells (by simp [Value.oneCell']) (by unfold maxLen; omega) (by omega) hr k hk).imp id (fun h => Nat.le_trans h0 h)
end
theorem app2 {M : Nat → Prop} {P : Program} {N : Nat} {o : Oper} {σ : Env} {w : World} {n2 n4 n m : Nat} {xs ys : List Value} {old old' u : Value} (h : appW n2 n4 n ys old' u w) (hd : DoesT M P N o (appW n2 w.heap.size m xs old) σ w) (h4 : n4 ≤ w.heap.size) (hap : ∀ k, (old'.ownBlock = some k ∨ n4 ≤ k) → old.ownBlock ≠ some k) (ho : ∀ v, Go.Eng.valOf o v = v := by intro v; rfl) :
    DoesT M P N o (fun v w => appW n2 n4 m xs old (Go.Eng.valOf o v) w ∧ ApartV u (Go.Eng.valOf o v)) σ w := by
  refine DoesT_weak hd ?_
  rintro v w2 ⟨a, c, h1, h2, h3⟩
  rw [ho v]
  refine ⟨⟨a, c, h1, h2, fun k hk => (h3 k hk).imp id (fun h => Nat.le_trans h4 h)⟩, fun k hk hv => ?_⟩
  obtain ⟨_, _, _, h5, h6⟩ := h
  rcases h3 k hv with h7 | h7
  · exact hap k (h6 k hk) h7
  · have := (h5.lt k hk).2; omega
/-- Sorting a list of n numbers in place leaves a permutation of it. -/
def SortOk (n : Nat) : Prop := ∀ (w0 : World) (g c T : Nat) (l : List Int) (rest : List Value) (fv : Value) (cf : Int → Int → Int), Blk w0 g (l.map (Value.int .i64) ++ rest).toArray T → l.length = n →
    (∀ (w : World) (x y : Int), Chg (fun q => q = g) w0 w → x ∈ l → y ∈ l → CallV Try.prog fv #[.int .i64 x, .int .i64 y] w fun r w' => r = .int .i64 (cf x y) ∧ Ext w w') →
    Ret Try.prog 76 #[.slice (some ⟨g, 0, none⟩) n c, fv] w0 fun _ w => ∃ l', List.Perm l' l ∧ Blk w g (l'.map (Value.int .i64) ++ rest).toArray T ∧ Chg (fun q => q = g) w0 w
/-- What a value points to was made behind a size of the heap. -/
def NewV (s : Nat) (v : Value) : Prop := ∀ b, v.ownBlock = some b → s ≤ b
set_option maxHeartbeats 16000000 in
theorem pack_c (w0 : World) (d : Dfa) (vs : List Value) (hd : DfaAt w0 d vs) (hchk : checkD d = 0) (hsort : SortOk d.next.length) (hsmall : d.next.length ≤ 200) (row0 : List Int) (hrow0 : d.next[0]? = some row0) (hcols : ∀ row ∈ d.next, row.length = row0.length) (hc16 : row0.length ≤ 16) :
    Ret Try.prog 40 #[.agg vs.toArray] w0 fun r w => ∃ (va vb vo vn : Value) (order : List Nat) (owner nxt : List Int) (bs : List Nat), r = .tuple #[.agg #[.int .i64 d.start, .int .i64 ((row0.length : Nat) : Int), va, vb, vo, vn], .int .i64 0] ∧ IntsAt w va d.accept ∧ IntsAt w vb (natV bs) ∧ IntsAt w vo owner ∧ IntsAt w vn nxt ∧ List.Perm order (List.range d.next.length) ∧ PSt d.next order row0.length d.next.length owner nxt bs ∧ (NewV w0.heap.size va ∧ NewV w0.heap.size vb ∧ NewV w0.heap.size vo ∧ NewV w0.heap.size vn) ∧ Ext w0 w := by
  have hd0 := hd
  obtain ⟨aa, ac, na, nc, rfl, ha, hn⟩ := hd
  have hpos := lt_of_get hrow0
  have hane : d.accept.length = d.next.length := by
    unfold checkD at hchk
    rw [if_neg (by omega)] at hchk
    split at hchk
    · omega
    · omega
  obtain ⟨_, _, hv, hcap, hle⟩ := hn.form
  simp only [Value.slice.injEq] at hv
  obtain ⟨rfl, _, rfl⟩ := hv
  obtain ⟨nb, no, rfl, hncl⟩ := intss_cells hn (by omega)
  obtain ⟨ra0, rc0, hcell0, hints0⟩ := hncl 0 row0 hrow0
  refine Ret_of Try.func40 rfl Try.ntmps40 (Nat.le_of_ble_eq_true rfl) ?_
  have E : Chg none1 w0 w0 := Chg.refl _ _
  refine Wp_seq_region ?_
  refine s_box (v := (.agg #[(.int .i64 d.start), (.slice aa d.accept.length ac), (.slice (some ⟨nb, no, none⟩) d.next.length nc)])) (c := #[(.int .i64 d.start), (.slice aa d.accept.length ac), (.slice (some ⟨nb, no, none⟩) d.next.length nc)]) (by decide) rfl rfl ?_
  intro bd wd Nd
  have Fd := Nd.ge E
  replace E := E.ext Nd.ext
  have Bd := Nd.blk
  refine s_alloc (c := #[(.int .i64 0), (.int .i64 0), (.slice none 0 0), (.slice none 0 0), (.slice none 0 0), (.slice none 0 0)]) (by decide) zer58 rfl ?_
  intro bo wo No
  have Fo := No.ge E
  have Oo_bd := No.lt Bd
  replace Bd := No.keep Bd
  replace E := E.ext No.ext
  have Bo := No.blk
  refine WpL_val rfl rfl (by decide) (r_assign (v := (.int .i64 0)) rfl) ?_
  refine WpL_nil ?_
  refine Wp_seq ?_
  refine Wp_seq_region ?_
  refine WpL_val rfl rfl (by decide) (r_loadAgg (vs := [(.int .i64 d.start), (.slice aa d.accept.length ac), (.slice (some ⟨nb, no, none⟩) d.next.length nc)]) rfl agg25 siz25 rfl (Bd.cells rfl)) ?_
  refine WpL_enter rfl rfl (by decide) (r_callF (vs := [(.agg #[(.int .i64 d.start), (.slice aa d.accept.length ac), (.slice (some ⟨nb, no, none⟩) d.next.length nc)])]) Try.func50 nm50 bd50 rfl) ((dcheck_c _ d _ (hd0.ext E)).mono (R' := fun v w => v = .int .i64 0 ∧ Ext wo w) (fun v w h => ⟨by rw [h.1, hchk], h.2⟩)) ?_
  rintro _ w9 ⟨rfl, X9⟩
  replace Bd := X9.keep Bd
  replace Bo := X9.keep Bo
  replace E := E.ext X9
  refine WpL_val rfl rfl (by decide) (r_assign (v := (.int .i64 0)) rfl) ?_
  refine WpL_nil ?_
  refine Wp_seq_region ?_
  refine WpL_val rfl rfl (by decide) (r_move (v := (.int .i64 0)) rfl) ?_
  refine WpL_val rfl rfl (by decide) (r_neq (k := .i64) (a := 0) (b := 0) rfl rfl) ?_
  refine WpL_nil ?_
  refine Wp_cond_false rfl ?_
  refine Wp_skip ?_
  refine thn_normal ?_
  obtain ⟨n0, hn0⟩ : ∃ n0, n0 = w9.heap.size := ⟨_, rfl⟩
  have hbd : bd < n0 := by rw [hn0]; exact Bd.lt
  have hw0 : w0.heap.size ≤ n0 := by rw [hn0]; exact E.size
  have hbo : bo < n0 := by rw [hn0]; exact Bo.lt
  refine Wp_seq ?_
  obtain ⟨Fs1, hFs1⟩ : ∃ Fs : List (FactT (none1)), Fs = [.eq (.pointer (some ⟨bd, 0, none⟩)), .eq (.int .i64 d.start), .eq (.pointer (some ⟨bd, 2, none⟩)), .eq (.slice (some ⟨nb, no, none⟩) d.next.length nc), .eq (.pointer (some ⟨nb, no + 0, none⟩)), .eq (.slice ra0 row0.length rc0), .eq (.int .i64 ((row0.length : Nat) : Int)), .eq (.pointer (some ⟨bd, 1, none⟩)), .eq (.slice aa d.accept.length ac), .gen (cloneF n0 d.accept) (cloneF_ext _ _), .eq (.pointer (some ⟨bd, 2, none⟩)), .eq (.slice (some ⟨nb, no, none⟩) d.next.length nc), .eq (.int .i64 ((d.next.length : Nat) : Int)), .gen (makeF n0 d.next.length) (makeF_ext _ _), .gen (tabF n0 d.start row0.length d.accept d.next.length) (tabF_ext _ _ _ _ _), .gen (boxF n0) (boxF_ext _)] := ⟨_, rfl⟩
  refine Wp_dagT2 (none1) 16 9 [21, 22, 23, 24, 25, 26, 27, 28, 29, 30, 31, 32, 33, 34, 35, 5] [[], [0], [], [2], [3], [4], [5], [], [7], [8], [], [10], [11], [12], [1, 6, 9, 13], []] Fs1 hFs1 rfl mixed (by kernel_rfl) (by kernel_rfl) (by kernel_rfl) 9 13 30 34 (.gen (cloneF n0 d.accept) (cloneF_ext _ _)) (.gen (makeF n0 d.next.length) (makeF_ext _ _)) (ApartV) ⟨⟨by decide, rfl, rfl⟩, by rw [hFs1]; rfl, by rw [hFs1]; rfl⟩ ?_ ?_ ?_ ?_
  · intro wd X0 o_ ws_ ho_ hw_ s' w' X U H HO
    obtain rfl : _ = o_ := Option.some.inj ho_
    obtain rfl : _ = ws_ := Option.some.inj hw_
    obtain ⟨b34, e34, g34, B34⟩ := (show (.gen (makeF n0 d.next.length) (makeF_ext _ _) : FactT (none1)).In (s' 34) w' from HO)
    have e29 : s' 29 = (.slice aa d.accept.length ac) := H 8 rfl 29 (.eq (.slice aa d.accept.length ac)) rfl (by rw [hFs1]; rfl)
    exact cloneP e29 (ha.ext (Ext.trans E (X0.trans X))) (by omega) (by omega) (by have := X0.size; have := X.size; omega) e34 B34.lt
  · intro wd X0 o_ ws_ ho_ hw_ s' w' X U H HO
    obtain rfl : _ = o_ := Option.some.inj ho_
    obtain rfl : _ = ws_ := Option.some.inj hw_
    obtain ⟨b30, c30, r30, e30, f30, g30, B30⟩ := (show (.gen (cloneF n0 d.accept) (cloneF_ext _ _) : FactT (none1)).In (s' 30) w' from HO)
    have e33 : s' 33 = (.int .i64 ((d.next.length : Nat) : Int)) := H 12 rfl 33 (.eq (.int .i64 ((d.next.length : Nat) : Int))) rfl (by rw [hFs1]; rfl)
    exact DoesT_make (x := .tmp 33) (y := .tmp 33) (R := fun v => ApartV (s' 30) v) e33 e33 (by omega) (by have := X0.size; have := X.size; omega) (fun y hy => by rw [e30] at hy; simp [Value.ownBlock] at hy; subst hy; simp [Value.ownBlock]; have := B30.lt; omega)
  · intro wd X0
    refine DagStepsK.cons (fun s' w' X U H HK => ?_) ?_
    · exact DoesT_val (r_fieldAddr (b := bd) (o := 0) (o' := 0) (U 1 rfl) Try.underlying25 rfl siz3 rfl) (Chg.refl _ _) rfl
    refine DagStepsK.cons (fun s' w' X U H HK => ?_) ?_
    · have e21 : s' 21 = (.pointer (some ⟨bd, 0, none⟩)) := H 0 rfl 21 (.eq (.pointer (some ⟨bd, 0, none⟩))) rfl (by rw [hFs1]; rfl)
      exact DoesT_val (r_load (v := (.int .i64 d.start)) e21 flat3 ((Chg.keep X (fun f => f) (X0.keep Bd)).cell rfl)) (Chg.refl _ _) rfl
    refine DagStepsK.cons (fun s' w' X U H HK => ?_) ?_
    · exact DoesT_val (r_fieldAddr (b := bd) (o := 0) (o' := 2) (U 1 rfl) Try.underlying25 rfl siz23 rfl) (Chg.refl _ _) rfl
    refine DagStepsK.cons (fun s' w' X U H HK => ?_) ?_
    · have e23 : s' 23 = (.pointer (some ⟨bd, 2, none⟩)) := H 2 rfl 23 (.eq (.pointer (some ⟨bd, 2, none⟩))) rfl (by rw [hFs1]; rfl)
      exact DoesT_val (r_load (v := (.slice (some ⟨nb, no, none⟩) d.next.length nc)) e23 flat23 ((Chg.keep X (fun f => f) (X0.keep Bd)).cell rfl)) (Chg.refl _ _) rfl
    refine DagStepsK.cons (fun s' w' X U H HK => ?_) ?_
    · have e24 : s' 24 = (.slice (some ⟨nb, no, none⟩) d.next.length nc) := H 3 rfl 24 (.eq (.slice (some ⟨nb, no, none⟩) d.next.length nc)) rfl (by rw [hFs1]; rfl)
      exact DoesT_val (r_indexSlice (b := nb) (o := no) (len := d.next.length) (cap := nc) (i := 0) (o' := no + 0) e24 rfl rfl Try.underlying23 siz22 (by omega) (by omega)) (Chg.refl _ _) rfl
    refine DagStepsK.cons (fun s' w' X U H HK => ?_) ?_
    · have e25 : s' 25 = (.pointer (some ⟨nb, no + 0, none⟩)) := H 4 rfl 25 (.eq (.pointer (some ⟨nb, no + 0, none⟩))) rfl (by rw [hFs1]; rfl)
      exact DoesT_val (r_load (v := (.slice ra0 row0.length rc0)) e25 flat22 ((by rw [Nat.add_zero]; exact (Ext.trans E (X0.trans X)).cell (by simpa using hcell0)))) (Chg.refl _ _) rfl
    refine DagStepsK.cons (fun s' w' X U H HK => ?_) ?_
    · have e26 : s' 26 = (.slice ra0 row0.length rc0) := H 5 rfl 26 (.eq (.slice ra0 row0.length rc0)) rfl (by rw [hFs1]; rfl)
      exact DoesT_val (r_lenSlice (ad := ra0) (n := row0.length) (cap := rc0) Try.underlying22 e26) (Chg.refl _ _) rfl
    refine DagStepsK.cons (fun s' w' X U H HK => ?_) ?_
    · exact DoesT_val (r_fieldAddr (b := bd) (o := 0) (o' := 1) (U 1 rfl) Try.underlying25 rfl siz22 rfl) (Chg.refl _ _) rfl
    refine DagStepsK.cons (fun s' w' X U H HK => ?_) ?_
    · have e28 : s' 28 = (.pointer (some ⟨bd, 1, none⟩)) := H 7 rfl 28 (.eq (.pointer (some ⟨bd, 1, none⟩))) rfl (by rw [hFs1]; rfl)
      exact DoesT_val (r_load (v := (.slice aa d.accept.length ac)) e28 flat22 ((Chg.keep X (fun f => f) (X0.keep Bd)).cell rfl)) (Chg.refl _ _) rfl
    refine DagStepsK.cons (fun s' w' X U H HK => ?_) ?_
    · have e29 : s' 29 = (.slice aa d.accept.length ac) := H 8 rfl 29 (.eq (.slice aa d.accept.length ac)) rfl (by rw [hFs1]; rfl)
      exact DoesT_enter (r_callF (vs := [(.slice aa d.accept.length ac)]) Try.func74 nm74 bd74 (lst1 e29)) (clone_run (ha.ext (Ext.trans E (X0.trans X))) (by omega) (by omega) (by have := X0.size; have := X.size; omega))
    refine DagStepsK.cons (fun s' w' X U H HK => ?_) ?_
    · exact DoesT_val (r_fieldAddr (b := bd) (o := 0) (o' := 2) (U 1 rfl) Try.underlying25 rfl siz23 rfl) (Chg.refl _ _) rfl
    refine DagStepsK.cons (fun s' w' X U H HK => ?_) ?_
    · have e31 : s' 31 = (.pointer (some ⟨bd, 2, none⟩)) := H 10 rfl 31 (.eq (.pointer (some ⟨bd, 2, none⟩))) rfl (by rw [hFs1]; rfl)
      exact DoesT_val (r_load (v := (.slice (some ⟨nb, no, none⟩) d.next.length nc)) e31 flat23 ((Chg.keep X (fun f => f) (X0.keep Bd)).cell rfl)) (Chg.refl _ _) rfl
    refine DagStepsK.cons (fun s' w' X U H HK => ?_) ?_
    · have e32 : s' 32 = (.slice (some ⟨nb, no, none⟩) d.next.length nc) := H 11 rfl 32 (.eq (.slice (some ⟨nb, no, none⟩) d.next.length nc)) rfl (by rw [hFs1]; rfl)
      exact DoesT_val (r_lenSlice (ad := some ⟨nb, no, none⟩) (n := d.next.length) (cap := nc) Try.underlying23 e32) (Chg.refl _ _) rfl
    refine DagStepsK.cons (fun s' w' X U H HK => ?_) ?_
    · have e33 : s' 33 = (.int .i64 ((d.next.length : Nat) : Int)) := H 12 rfl 33 (.eq (.int .i64 ((d.next.length : Nat) : Int))) rfl (by rw [hFs1]; rfl)
      exact DoesT_weak (DoesT_make (x := .tmp 33) (y := .tmp 33) (R := fun _ => True) e33 e33 (by omega) (by have := X0.size; have := X.size; omega) trivial) (fun _ _ h => h.1)
    refine DagStepsK.cons (fun s' w' X U H HK => ?_) ?_
    · have e22 : s' 22 = (.int .i64 d.start) := H 1 rfl 22 (.eq (.int .i64 d.start)) rfl (by rw [hFs1]; rfl)
      have e27 : s' 27 = (.int .i64 ((row0.length : Nat) : Int)) := H 6 rfl 27 (.eq (.int .i64 ((row0.length : Nat) : Int))) rfl (by rw [hFs1]; rfl)
      obtain ⟨b30, c30, r30, e30, f30, g30, B30⟩ := (show (.gen (cloneF n0 d.accept) (cloneF_ext _ _) : FactT (none1)).In (s' 30) w' from H 9 rfl 30 (.gen (cloneF n0 d.accept) (cloneF_ext _ _)) rfl (by rw [hFs1]; rfl))
      obtain ⟨b34, e34, g34, B34⟩ := (show (.gen (makeF n0 d.next.length) (makeF_ext _ _) : FactT (none1)).In (s' 34) w' from H 13 rfl 34 (.gen (makeF n0 d.next.length) (makeF_ext _ _)) rfl (by rw [hFs1]; rfl))
      exact DoesT_val (r_build (ps := [(0, .int .i64 d.start), (1, .int .i64 ((row0.length : Nat) : Int)), (2, .slice (some ⟨b30, 0, none⟩) d.accept.length c30), (3, .slice (some ⟨b34, 0, none⟩) d.next.length d.next.length)]) (v := .agg #[.int .i64 d.start, .int .i64 ((row0.length : Nat) : Int), .slice (some ⟨b30, 0, none⟩) d.accept.length c30, .slice (some ⟨b34, 0, none⟩) d.next.length d.next.length, .slice none 0 0, .slice none 0 0]) (by simp only [List.map, ev, e22, e27, e30, e34]) (by kernel_rfl)) (Chg.refl _ _) ⟨b30, c30, r30, b34, rfl, f30, g30, B30, g34, B34, fun h => by have := HK rfl rfl; rw [e30, e34] at this; exact this b30 (by simp [Value.ownBlock]) (by simp [Value.ownBlock, h])⟩
    refine DagStepsK.cons (fun s' w' X U H HK => ?_) ?_
    · exact DoesT_box (by have := X0.size; have := X.size; omega)
    exact DagStepsK.nil
  · intro s' wd1 w1 X0 X1 U H HK
    obtain ⟨b30, c30, r30, e30, f30, g30, B30⟩ := (show (.gen (cloneF n0 d.accept) (cloneF_ext _ _) : FactT (none1)).In (s' 30) w1 from H 9 30 (.gen (cloneF n0 d.accept) (cloneF_ext _ _)) rfl (by rw [hFs1]; rfl))
    obtain ⟨b35, c35, r35, q35, e35, f35, g35, B35, k35, Q35, n35⟩ := (show (.gen (tabF n0 d.start row0.length d.accept d.next.length) (tabF_ext _ _ _ _ _) : FactT (none1)).In (s' 35) w1 from H 14 35 (.gen (tabF n0 d.start row0.length d.accept d.next.length) (tabF_ext _ _ _ _ _)) rfl (by rw [hFs1]; rfl))
    obtain ⟨b5, e5, g5, B5⟩ := (show (.gen (boxF n0) (boxF_ext _) : FactT (none1)).In (s' 5) w1 from H 15 5 (.gen (boxF n0) (boxF_ext _)) rfl (by rw [hFs1]; rfl))
    obtain ⟨j1, rfl⟩ := Fits.out (σ := s') (l := [(1, (.pointer (some ⟨bd, 0, none⟩))), (2, (.pointer (some ⟨bo, 0, none⟩))), (35, (.agg #[(.int .i64 d.start), (.int .i64 ((row0.length : Nat) : Int)), (.slice (some ⟨b35, 0, none⟩) d.accept.length c35), (.slice (some ⟨q35, 0, none⟩) d.next.length d.next.length), (.slice none 0 0), (.slice none 0 0)])), (5, (.pointer (some ⟨b5, 0, none⟩)))]) ⟨U 1 rfl, U 2 rfl, e35, e5, trivial⟩
    clear U H
    replace Bd := Chg.keep X1 (fun f => f) (X0.keep Bd)
    replace Bo := Chg.keep X1 (fun f => f) (X0.keep Bo)
    replace E := (E.ext X0).step X1 (fun _ _ f => f.elim)
    have n5a := blk_ne B5 B35 (by decide)
    have n5q := blk_ne B5 Q35 (by decide)
    replace Q35 : Blk w1 q35 ((natV (List.replicate d.next.length 0)).map (Value.int .i64) ++ []).toArray TI := by simpa [natV] using Q35
    refine s_storeAgg (b := b5) (o := 0) (c' := #[(.int .i64 d.start), (.int .i64 ((row0.length : Nat) : Int)), (.slice (some ⟨b35, 0, none⟩) d.accept.length c35), (.slice (some ⟨q35, 0, none⟩) d.next.length d.next.length), (.slice none 0 0), (.slice none 0 0)]) rfl rfl (by simp [Value.oneCell']) siz58 rfl B5 (by simp) rfl ?_
    intro w2 S2
    replace Bd := S2.keep (by omega) Bd
    replace Bo := S2.keep (by omega) Bo
    replace B35 := S2.keep (by omega) B35
    replace Q35 := S2.keep (by omega) Q35
    replace E := S2.step E (by first | exact Or.inl (by omega) | exact Or.inr rfl | exact Or.inr (by assumption) | exact Or.inr (by simp) | exact Or.inr (by omega) | exact Or.inr (by dsimp only; omega))
    replace B5 := S2.blk
    refine WpL_nil ?_
    refine thn_normal ?_
    refine Wp_seq_region ?_
    refine WpL_val rfl rfl (by decide) (r_makeFunc (vs := []) (us := [(.pointer (some ⟨bd, 0, none⟩))]) rfl rfl) ?_
    refine s_allocStore (v := (.func (.func 75) #[] #[(.pointer (some ⟨bd, 0, none⟩))])) (c := #[(.func (.func 75) #[] #[(.pointer (some ⟨bd, 0, none⟩))])]) (n := 1) (by decide) zer100 rfl siz100 rfl rfl rfl (by simp [Value.oneCell']) ?_
    intro bf wf Nf
    have Ff := Nf.ge E
    have Of_bd := Nf.lt Bd
    have Of_bo := Nf.lt Bo
    have Of_b5 := Nf.lt B5
    have Of_b35 := Nf.lt B35
    have Of_q35 := Nf.lt Q35
    replace Bd := Nf.keep Bd
    replace Bo := Nf.keep Bo
    replace B5 := Nf.keep B5
    replace B35 := Nf.keep B35
    replace Q35 := Nf.keep Q35
    replace E := E.ext Nf.ext
    have Bf := Nf.blk
    refine WpL_nil ?_
    refine Wp_seq_region ?_
    refine WpL_val rfl rfl (by decide) (r_assign (v := (.slice none 0 0)) rfl) ?_
    refine WpL_nil ?_
    refine Wp_seq ?_
    refine Wp_seq_region ?_
    refine WpL_val rfl rfl (by decide) (r_fieldAddr (b := bd) (o := 0) (o' := 2) rfl Try.underlying25 rfl siz23 rfl) ?_
    refine WpL_val rfl rfl (by decide) (r_load (v := (.slice (some ⟨nb, no, none⟩) d.next.length nc)) rfl flat23 (Bd.cell rfl)) ?_
    refine WpL_val rfl rfl (by decide) (r_lenSlice (ad := some ⟨nb, no, none⟩) (n := d.next.length) (cap := nc) Try.underlying23 rfl) ?_
    refine WpL_val rfl rfl (by decide) (r_move (v := (.int .i64 0)) rfl) ?_
    refine WpL_nil ?_
    refine Wp_block ?_
    obtain ⟨n1, hn1⟩ : ∃ n1, n1 = wf.heap.size := ⟨_, rfl⟩
    have l1 : bd < n1 ∧ bo < n1 ∧ b5 < n1 ∧ b35 < n1 ∧ q35 < n1 ∧ bf < n1 := by rw [hn1]; exact ⟨Bd.lt, Bo.lt, B5.lt, B35.lt, Q35.lt, Bf.lt⟩
    have hw1 : w0.heap.size ≤ n1 := by rw [hn1]; exact E.size
    refine Wp_loop (fun nn_ σ W3 => ∃ (k : Nat) (la : Option Addr) (lc : Nat), (∃ jj_, σ = upds jj_ [(1, (.pointer (some ⟨bd, 0, none⟩))), (2, (.pointer (some ⟨bo, 0, none⟩))), (5, (.pointer (some ⟨b5, 0, none⟩))), (6, (.pointer (some ⟨bf, 0, none⟩))), (39, (.int .i64 ((d.next.length : Nat) : Int))), (40, (.int .i64 ((k : Nat) : Int))), (7, (.slice la k lc))]) ∧ Chg none1 w0 W3 ∧ Blk W3 bd #[(.int .i64 d.start), (.slice aa d.accept.length ac), (.slice (some ⟨nb, no, none⟩) d.next.length nc)] 25 ∧ Blk W3 bo #[(.int .i64 0), (.int .i64 0), (.slice none 0 0), (.slice none 0 0), (.slice none 0 0), (.slice none 0 0)] 58 ∧ Blk W3 b5 #[(.int .i64 d.start), (.int .i64 ((row0.length : Nat) : Int)), (.slice (some ⟨b35, 0, none⟩) d.accept.length c35), (.slice (some ⟨q35, 0, none⟩) d.next.length d.next.length), (.slice none 0 0), (.slice none 0 0)] TT ∧ Blk W3 b35 ((d.accept.map (Value.int .i64) ++ r35).toArray) TI ∧ Blk W3 q35 (((natV (List.replicate d.next.length 0)).map (Value.int .i64) ++ []).toArray) TI ∧ Blk W3 bf #[(.func (.func 75) #[] #[(.pointer (some ⟨bd, 0, none⟩))])] 100 ∧ (k ≤ d.next.length) ∧ (W3.ownsRow n1 TI 1 (.slice la k lc) k ((natV (List.range k)).map (Value.int .i64))) ∧ (n1 ≤ W3.heap.size) ∧ nn_ = d.next.length - k) (n := d.next.length - 0) ?_ ?_
    · exact ⟨0, none, 0, Fits.out ⟨rfl, rfl, rfl, rfl, rfl, rfl, rfl, trivial⟩, E, Bd, Bo, B5, B35, Q35, Bf, Nat.zero_le _, World.ownsRow_nil _ _ _ _, (by omega), rfl⟩
    · clear E Bd Bo B5 B35 Q35 Bf
      rintro _ _ W3 ⟨k, la, lc, ⟨j3, rfl⟩, E, Bd, Bo, B5, B35, Q35, Bf, hk, hown, hbs, rfl⟩
      refine Wp_seq_region ?_
      refine WpL_val rfl rfl (by decide) (r_lss (k := .i64) (a := ((k : Nat) : Int)) (b := ((d.next.length : Nat) : Int)) rfl rfl) ?_
      refine WpL_nil ?_
      refine Wp_seq ?_
      refine Wp_cond (b := decide ((((k : Nat) : Int) : Int) < ((d.next.length : Nat) : Int))) rfl (fun hlt => ?_) (fun hlt => ?_)
      · have khlt := hlt
        replace hlt := of_decide_eq_true hlt
        refine Wp_skip ?_
        refine thn_normal ?_
        refine Wp_seq ?_
        refine Wp_block ?_
        refine Wp_seq_region ?_
        refine WpL_val rfl rfl (by decide) (r_move (v := (.int .i64 ((k : Nat) : Int))) rfl) ?_
        refine WpL_val rfl rfl (by decide) (r_assign (v := (.int .i64 ((k : Nat) : Int))) rfl) ?_
        refine WpL_nil ?_
        refine Wp_region ?_
        refine WpL_val rfl rfl (by decide) (r_move (v := (.slice la k lc)) rfl) ?_
        refine WpL_val rfl rfl (by decide) (r_move (v := (.int .i64 ((k : Nat) : Int))) rfl) ?_
        refine s_buildSlice (ps := [(0, (.int .i64 ((k : Nat) : Int)))]) (c := #[(.int .i64 ((k : Nat) : Int))]) (by decide) rfl Try.underlying22 siz3 zer3 (by decide) (by decide) (by kernel_rfl) ?_
        intro bq wq Nq
        have Fq := Nq.ge E
        have Oq_bd := Nq.lt Bd
        have Oq_bo := Nq.lt Bo
        have Oq_b5 := Nq.lt B5
        have Oq_b35 := Nq.lt B35
        have Oq_q35 := Nq.lt Q35
        have Oq_bf := Nq.lt Bf
        replace Bd := Nq.keep Bd
        replace Bo := Nq.keep Bo
        replace B5 := Nq.keep B5
        replace B35 := Nq.keep B35
        replace Q35 := Nq.keep Q35
        replace Bf := Nq.keep Bf
        replace hown := own_ext hown Nq.ext
        replace hbs := Nat.le_trans hbs Nq.ext.size
        replace E := E.ext Nq.ext
        have Bq := Nq.blk
        refine s_append (base := n1) (n := k) (m := 1) (xs := (natV (List.range k)).map (Value.int .i64)) (news := [(.int .i64 ((k : Nat) : Int))]) (size := 1) (bytes := 8) (v := (.slice la k lc)) (by decide) Try.underlying22 siz3 byt3 zer3 rfl (by decide) rfl hown rfl (rfl) (Bq.cells rfl) (by simp [Value.oneCell']) (by unfold maxLen; omega) (by omega) (hbs) ?_
        intro v9 w29 Ov9 Cv9 Dv9
        replace Bd := Cv9.keep (fun h => by have := (hown.lt _ h).1; omega) Bd
        replace Bo := Cv9.keep (fun h => by have := (hown.lt _ h).1; omega) Bo
        replace B5 := Cv9.keep (fun h => by have := (hown.lt _ h).1; omega) B5
        replace B35 := Cv9.keep (fun h => by have := (hown.lt _ h).1; omega) B35
        replace Q35 := Cv9.keep (fun h => by have := (hown.lt _ h).1; omega) Q35
        replace Bf := Cv9.keep (fun h => by have := (hown.lt _ h).1; omega) Bf
        replace E := E.step Cv9 (fun x hx h => absurd (hown.lt x h).1 (by omega))
        obtain ⟨la2, lc2, rfl⟩ := own_form Ov9
        refine WpL_val rfl rfl (by decide) (r_assign (v := (.slice la2 (k + 1) lc2)) rfl) ?_
        refine WpL_nil ?_
        refine inB_normal ?_
        refine thn_normal ?_
        refine Wp_region ?_
        refine WpL_val rfl rfl (by decide) (r_add (k := .i64) (a := ((k : Nat) : Int)) (b := 1) (c := ((k : Nat) : Int) + 1) rfl rfl (wI64 (by omega))) ?_
        refine WpL_val rfl rfl (by decide) (r_move (v := (.int .i64 (((k : Nat) : Int) + 1))) rfl) ?_
        refine WpL_nil ?_
        refine thn_normal ?_
        exact ⟨d.next.length - (k + 1), by omega, k + 1, la2, lc2, Fits.out ⟨rfl, rfl, rfl, rfl, rfl, rfl, rfl, trivial⟩, E, Bd, Bo, B5, B35, Q35, Bf, (by omega), (by simpa [natV, List.range_succ] using Ov9), Nat.le_trans hbs Cv9.size, rfl⟩
      · have khlt := hlt
        replace hlt := of_decide_eq_false hlt
        have hkk : k = d.next.length := by omega
        obtain ⟨g, gr, rfl, hg1, hkc, hlm, hgl, hG⟩ := own_blk hown (by omega)
        refine Wp_exit ?_
        refine thn_exit ?_
        refine thn_exit ?_
        refine inB_here ?_
        refine thn_normal ?_
        refine Wp_seq_region ?_
        refine WpL_val rfl rfl (by decide) (r_move (v := (.slice (some ⟨g, 0, none⟩) k lc)) rfl) ?_
        refine WpL_val rfl rfl (by decide) (r_makeFunc (vs := []) (us := [(.pointer (some ⟨bf, 0, none⟩))]) rfl rfl) ?_
        have hf : ∀ (w : World) (x y : Int), Chg (fun q => q = g) W3 w → x ∈ natV (List.range k) → y ∈ natV (List.range k) → CallV Try.prog (.func (.func 77) #[] #[.pointer (some ⟨bf, 0, none⟩)]) #[.int .i64 x, .int .i64 y] w fun r w' => r = .int .i64 (cmpI (entD d y) (entD d x)) ∧ Ext w w' := by (intro w x y hC hx hy; obtain ⟨s, hs, rfl⟩ := natV_mem hx; obtain ⟨u, hu, rfl⟩ := natV_mem hy; rw [List.mem_range] at hs hu; exact CallV.mk (first := #[]) (cap := #[.pointer (some ⟨bf, 0, none⟩)]) Try.func77 nm77 bd77 rfl (cmp2_c w bd bf d _ s u (hC.keep (fun h => by have h' : bd = g := h; omega) Bd) (hd0.ext (E.step hC (fun y hy h => by have h' : y = g := h; omega))) (hC.keep (fun h => by have h' : bf = g := h; omega) Bf) (by omega) (by omega)))
        have hsort2 : SortOk k := by rw [hkk]; exact hsort
        refine WpL_enter rfl rfl (by decide) (r_callF (vs := [(.slice (some ⟨g, 0, none⟩) k lc), (.func (.func 77) #[] #[(.pointer (some ⟨bf, 0, none⟩))])]) Try.func76 nm76 bd76 rfl) (hsort2 _ g lc TI (natV (List.range k)) gr _ (fun x y => cmpI (entD d y) (entD d x)) hG (by simp [natV]) hf) ?_
        rintro _ w39 ⟨l', hp, hG9, C9⟩
        replace Bd := C9.keep (by omega) Bd
        replace Bo := C9.keep (by omega) Bo
        replace B5 := C9.keep (by omega) B5
        replace B35 := C9.keep (by omega) B35
        replace Q35 := C9.keep (by omega) Q35
        replace Bf := C9.keep (by omega) Bf
        replace E := E.step C9 (fun y hy h => by have h' : y = g := h; omega)
        obtain ⟨order, rfl, hop⟩ := natV_perm hp
        refine WpL_nil ?_
        refine Wp_seq_region ?_
        refine WpL_val rfl rfl (by decide) (r_makeFunc (vs := []) (us := [(.pointer (some ⟨b5, 0, none⟩))]) rfl rfl) ?_
        refine s_allocStore (v := (.func (.func 79) #[] #[(.pointer (some ⟨b5, 0, none⟩))])) (c := #[(.func (.func 79) #[] #[(.pointer (some ⟨b5, 0, none⟩))])]) (n := 1) (by decide) zer94 rfl siz94 rfl rfl rfl (by simp [Value.oneCell']) ?_
        intro be we Ne
        have Fe := Ne.ge E
        have Oe_bd := Ne.lt Bd
        have Oe_bo := Ne.lt Bo
        have Oe_b5 := Ne.lt B5
        have Oe_b35 := Ne.lt B35
        have Oe_q35 := Ne.lt Q35
        have Oe_bf := Ne.lt Bf
        have Oe_g := Ne.lt hG9
        replace Bd := Ne.keep Bd
        replace Bo := Ne.keep Bo
        replace B5 := Ne.keep B5
        replace B35 := Ne.keep B35
        replace Q35 := Ne.keep Q35
        replace Bf := Ne.keep Bf
        replace hG9 := Ne.keep hG9
        replace E := E.ext Ne.ext
        have Be := Ne.blk
        refine WpL_nil ?_
        refine Wp_seq ?_
        refine Wp_seq_region ?_
        refine WpL_val rfl rfl (by decide) (r_move (v := (.slice (some ⟨g, 0, none⟩) k lc)) rfl) ?_
        refine WpL_val rfl rfl (by decide) (r_lenSlice (ad := some ⟨g, 0, none⟩) (n := k) (cap := lc) Try.underlying22 rfl) ?_
        refine WpL_val rfl rfl (by decide) (r_move (v := (.int .i64 0)) rfl) ?_
        refine WpL_nil ?_
        refine Wp_block ?_
        obtain ⟨n2, hn2⟩ : ∃ n2, n2 = we.heap.size := ⟨_, rfl⟩
        have l2 : bd < n2 ∧ bo < n2 ∧ b5 < n2 ∧ b35 < n2 ∧ q35 < n2 ∧ bf < n2 ∧ g < n2 ∧ be < n2 := by rw [hn2]; exact ⟨Bd.lt, Bo.lt, B5.lt, B35.lt, Q35.lt, Bf.lt, hG9.lt, Be.lt⟩
        have hw2 : w0.heap.size ≤ n2 := by rw [hn2]; exact E.size
        have hol : order.length = k := by rw [hop.length_eq]; simp
        have hond : order.Nodup := hop.nodup_iff.2 List.nodup_range
        refine Wp_loop (fun nn_ σ W5 => ∃ (j L oc nc2 : Nat) (oa na2 : Option Addr) (owner nxt : List Int) (bs : List Nat), (∃ jj_, σ = upds jj_ [(1, (.pointer (some ⟨bd, 0, none⟩))), (2, (.pointer (some ⟨bo, 0, none⟩))), (5, (.pointer (some ⟨b5, 0, none⟩))), (6, (.pointer (some ⟨bf, 0, none⟩))), (9, (.pointer (some ⟨be, 0, none⟩))), (52, (.slice (some ⟨g, 0, none⟩) k lc)), (53, (.int .i64 ((k : Nat) : Int))), (54, (.int .i64 ((j : Nat) : Int)))]) ∧ Chg none1 w0 W5 ∧ Blk W5 bd #[(.int .i64 d.start), (.slice aa d.accept.length ac), (.slice (some ⟨nb, no, none⟩) d.next.length nc)] 25 ∧ Blk W5 bo #[(.int .i64 0), (.int .i64 0), (.slice none 0 0), (.slice none 0 0), (.slice none 0 0), (.slice none 0 0)] 58 ∧ Blk W5 b5 (#[(.int .i64 d.start), (.int .i64 ((row0.length : Nat) : Int)), (.slice (some ⟨b35, 0, none⟩) d.accept.length c35), (.slice (some ⟨q35, 0, none⟩) d.next.length d.next.length), (.slice oa L oc), (.slice na2 L nc2)]) TT ∧ Blk W5 b35 ((d.accept.map (Value.int .i64) ++ r35).toArray) TI ∧ Blk W5 q35 (((natV bs).map (Value.int .i64) ++ []).toArray) TI ∧ Blk W5 bf #[(.func (.func 75) #[] #[(.pointer (some ⟨bd, 0, none⟩))])] 100 ∧ Blk W5 g (((natV order).map (Value.int .i64) ++ gr).toArray) TI ∧ Blk W5 be #[(.func (.func 79) #[] #[(.pointer (some ⟨b5, 0, none⟩))])] 94 ∧ (j ≤ k) ∧ (PSt d.next order row0.length j owner nxt bs) ∧ (OSt n2 (fun _ => False) W5 (.slice oa L oc) (.slice na2 L nc2) L owner nxt) ∧ (n2 ≤ W5.heap.size) ∧ nn_ = k - j) (n := k - 0) ?_ ?_
        · exact ⟨0, 0, 0, 0, none, none, [], [], List.replicate d.next.length 0, Fits.out ⟨rfl, rfl, rfl, rfl, rfl, rfl, rfl, rfl, trivial⟩, E, Bd, Bo, B5, B35, Q35, Bf, hG9, Be, Nat.zero_le _, PSt.start _ _ _, OSt.start _ _ _, (by omega), rfl⟩
        · clear E Bd Bo B5 B35 Q35 Bf hG9 Be
          rintro _ _ W5 ⟨j, L, oc, nc2, oa, na2, owner, nxt, bs, ⟨j5, rfl⟩, E, Bd, Bo, B5, B35, Q35, Bf, hG9, Be, hj, hP, hO, hbs, rfl⟩
          refine Wp_seq_region ?_
          refine WpL_val rfl rfl (by decide) (r_lss (k := .i64) (a := ((j : Nat) : Int)) (b := ((k : Nat) : Int)) rfl rfl) ?_
          refine WpL_nil ?_
          refine Wp_seq ?_
          refine Wp_cond (b := decide ((((j : Nat) : Int) : Int) < ((k : Nat) : Int))) rfl (fun hlt => ?_) (fun hlt => ?_)
          · have khlt := hlt
            replace hlt := of_decide_eq_true hlt
            obtain ⟨s, hs⟩ := get_of_lt (l := order) (i := j) (by omega)
            have hsl : s < d.next.length := by have := hop.mem_iff.1 (List.mem_of_getElem? hs); simp at this; omega
            obtain ⟨row, hrow⟩ := get_of_lt hsl
            have hrl := hcols row (List.mem_of_getElem? hrow)
            obtain ⟨ra, rc, hcell, hints⟩ := hncl s row hrow
            have hjm : j * row0.length ≤ 201 * 16 := Nat.mul_le_mul (by omega) hc16
            have hjm1 : (j + 1) * row0.length ≤ 201 * 16 := Nat.mul_le_mul (by omega) hc16
            have hile : (idxs row).length ≤ 16 := by have := idxsN_le row row.length; unfold idxs; omega
            refine Wp_skip ?_
            refine thn_normal ?_
            refine Wp_seq ?_
            refine Wp_block ?_
            refine Wp_seq_region ?_
            refine WpL_val rfl rfl (by decide) (r_indexSlice (b := g) (o := 0) (len := k) (cap := lc) (i := j) (o' := 0 + j) rfl rfl rfl Try.underlying22 siz3 (by omega) (by omega)) ?_
            refine WpL_val rfl rfl (by decide) (r_load (v := (.int .i64 ((s : Nat) : Int))) rfl flat3 ((by rw [Nat.zero_add]; exact ints_get hG9 (natV_get hs)))) ?_
            refine WpL_val rfl rfl (by decide) (r_assign (v := (.int .i64 ((s : Nat) : Int))) rfl) ?_
            refine WpL_nil ?_
            refine Wp_seq ?_
            refine Wp_seq_region ?_
            refine WpL_val rfl rfl (by decide) (r_load (v := (.func (.func 75) #[] #[(.pointer (some ⟨bd, 0, none⟩))])) rfl flat100 (Bf.cell rfl)) ?_
            refine WpL_val rfl rfl (by decide) (r_move (v := (.int .i64 ((s : Nat) : Int))) rfl) ?_
            refine WpL_enter rfl rfl (by decide) (r_callV (first := #[]) (cap := #[(.pointer (some ⟨bd, 0, none⟩))]) (vs := [(.int .i64 ((s : Nat) : Int))]) (ws := #[(.int .i64 ((s : Nat) : Int)), (.pointer (some ⟨bd, 0, none⟩))]) rfl Try.func75 nm75 bd75 rfl rfl) (entries_c _ bd d _ s row Bd (hd0.ext E) hrow) ?_
            rintro _ w49 ⟨rfl, X49⟩
            replace Bd := X49.keep Bd
            replace Bo := X49.keep Bo
            replace B5 := X49.keep B5
            replace B35 := X49.keep B35
            replace Q35 := X49.keep Q35
            replace Bf := X49.keep Bf
            replace hG9 := X49.keep hG9
            replace Be := X49.keep Be
            replace hO := hO.ext X49
            replace hbs := Nat.le_trans hbs X49.size
            replace E := E.ext X49
            refine WpL_val rfl rfl (by decide) (r_eql (k := .i64) (a := (((idxs row).length : Nat) : Int)) (b := 0) rfl rfl) ?_
            refine WpL_nil ?_
            refine Wp_cond (b := decide (((((idxs row).length : Nat) : Int) : Int) = 0)) rfl (fun h0 => ?_) (fun h0 => ?_)
            · have kh0 := h0
              replace h0 := of_decide_eq_true h0
              refine Wp_exit ?_
              refine thn_exit ?_
              refine inB_here ?_
              refine thn_normal ?_
              refine Wp_region ?_
              refine WpL_val rfl rfl (by decide) (r_add (k := .i64) (a := ((j : Nat) : Int)) (b := 1) (c := ((j : Nat) : Int) + 1) rfl rfl (wI64 (by omega))) ?_
              refine WpL_val rfl rfl (by decide) (r_move (v := (.int .i64 (((j : Nat) : Int) + 1))) rfl) ?_
              refine WpL_nil ?_
              refine thn_normal ?_
              exact ⟨k - (j + 1), by omega, j + 1, L, oc, nc2, oa, na2, owner, nxt, bs, Fits.out ⟨rfl, rfl, rfl, rfl, rfl, rfl, rfl, rfl, trivial⟩, E, Bd, Bo, B5, B35, Q35, Bf, hG9, Be, (by omega), hP.skip hs hrow (List.length_eq_zero_iff.1 (by omega)), hO, hbs, rfl⟩
            · have kh0 := h0
              replace h0 := of_decide_eq_false h0
              have hOn := hO.new
              have hbs0 := hbs
              refine Wp_skip ?_
              refine thn_normal ?_
              refine Wp_seq_region ?_
              refine s_allocStore (v := (.int .i64 0)) (c := #[(.int .i64 0)]) (n := 1) (by decide) zer3 rfl siz3 rfl rfl rfl (by simp [Value.oneCell']) ?_
              intro bm wm Nm
              have Fm := Nm.ge E
              have Om_bd := Nm.lt Bd
              have Om_bo := Nm.lt Bo
              have Om_b5 := Nm.lt B5
              have Om_b35 := Nm.lt B35
              have Om_q35 := Nm.lt Q35
              have Om_bf := Nm.lt Bf
              have Om_g := Nm.lt hG9
              have Om_be := Nm.lt Be
              replace Bd := Nm.keep Bd
              replace Bo := Nm.keep Bo
              replace B5 := Nm.keep B5
              replace B35 := Nm.keep B35
              replace Q35 := Nm.keep Q35
              replace Bf := Nm.keep Bf
              replace hG9 := Nm.keep hG9
              replace Be := Nm.keep Be
              replace hO := hO.ext Nm.ext
              replace hbs := Nat.le_trans hbs Nm.ext.size
              replace E := E.ext Nm.ext
              have Bm := Nm.blk
              refine WpL_nil ?_
              refine Wp_seq ?_
              refine Wp_block ?_
              refine Wp_loop (fun nn_ σ W8 => ∃ (m : Nat), (∃ jj_, σ = upds jj_ [(1, (.pointer (some ⟨bd, 0, none⟩))), (2, (.pointer (some ⟨bo, 0, none⟩))), (5, (.pointer (some ⟨b5, 0, none⟩))), (6, (.pointer (some ⟨bf, 0, none⟩))), (9, (.pointer (some ⟨be, 0, none⟩))), (12, (.pointer (some ⟨bm, 0, none⟩))), (52, (.slice (some ⟨g, 0, none⟩) k lc)), (53, (.int .i64 ((k : Nat) : Int))), (54, (.int .i64 ((j : Nat) : Int))), (11, (.int .i64 ((s : Nat) : Int)))]) ∧ Chg none1 w0 W8 ∧ Blk W8 bd #[(.int .i64 d.start), (.slice aa d.accept.length ac), (.slice (some ⟨nb, no, none⟩) d.next.length nc)] 25 ∧ Blk W8 bo #[(.int .i64 0), (.int .i64 0), (.slice none 0 0), (.slice none 0 0), (.slice none 0 0), (.slice none 0 0)] 58 ∧ Blk W8 b5 #[(.int .i64 d.start), (.int .i64 ((row0.length : Nat) : Int)), (.slice (some ⟨b35, 0, none⟩) d.accept.length c35), (.slice (some ⟨q35, 0, none⟩) d.next.length d.next.length), (.slice oa L oc), (.slice na2 L nc2)] TT ∧ Blk W8 b35 ((d.accept.map (Value.int .i64) ++ r35).toArray) TI ∧ Blk W8 q35 (((natV bs).map (Value.int .i64) ++ []).toArray) TI ∧ Blk W8 bf #[(.func (.func 75) #[] #[(.pointer (some ⟨bd, 0, none⟩))])] 100 ∧ Blk W8 g (((natV order).map (Value.int .i64) ++ gr).toArray) TI ∧ Blk W8 be #[(.func (.func 79) #[] #[(.pointer (some ⟨b5, 0, none⟩))])] 94 ∧ Blk W8 bm (#[.int .i64 ((m : Nat) : Int)]) 3 ∧ (m ≤ owner.length) ∧ (OSt n2 (fun y => y = bm) W8 (.slice oa L oc) (.slice na2 L nc2) L owner nxt) ∧ (n2 ≤ W8.heap.size) ∧ nn_ = owner.length - m) (n := owner.length - 0) ?_ ?_
              · exact ⟨0, Fits.out ⟨rfl, rfl, rfl, rfl, rfl, rfl, rfl, rfl, rfl, rfl, trivial⟩, E, Bd, Bo, B5, B35, Q35, Bf, hG9, Be, Bm, Nat.zero_le _, hO.fresh (fun y hy => .inr (hOn y (by rw [hy, Nm.eq]; exact Nat.le_refl _))), hbs, rfl⟩
              · clear E Bd Bo B5 B35 Q35 Bf hG9 Be Bm
                rintro _ _ W8 ⟨m, ⟨j8, rfl⟩, E, Bd, Bo, B5, B35, Q35, Bf, hG9, Be, Bm, hm, hO, hbs, rfl⟩
                refine Wp_seq ?_
                refine Wp_seq_region ?_
                refine WpL_val rfl rfl (by decide) (r_fieldAddr (b := bd) (o := 0) (o' := 2) rfl Try.underlying25 rfl siz23 rfl) ?_
                refine WpL_val rfl rfl (by decide) (r_load (v := (.slice (some ⟨nb, no, none⟩) d.next.length nc)) rfl flat23 (Bd.cell rfl)) ?_
                refine WpL_val rfl rfl (by decide) (r_move (v := (.int .i64 ((s : Nat) : Int))) rfl) ?_
                refine WpL_val rfl rfl (by decide) (r_indexSlice (b := nb) (o := no) (len := d.next.length) (cap := nc) (i := s) (o' := no + s) rfl rfl rfl Try.underlying23 siz22 (by omega) (by omega)) ?_
                refine WpL_val rfl rfl (by decide) (r_load (v := (.slice ra row.length rc)) rfl flat22 (E.cell (fun f => f) hcell)) ?_
                refine WpL_enter rfl rfl (by decide) (r_callF (vs := [(.slice ra row.length rc)]) Try.func80 nm80 bd80 rfl) (indices_c _ _ row (hints.ext E) (by omega)) ?_
                rintro _ w59 ⟨⟨ia, ic, rfl, hI⟩, X59⟩
                replace Bd := X59.keep Bd
                replace Bo := X59.keep Bo
                replace B5 := X59.keep B5
                replace B35 := X59.keep B35
                replace Q35 := X59.keep Q35
                replace Bf := X59.keep Bf
                replace hG9 := X59.keep hG9
                replace Be := X59.keep Be
                replace Bm := X59.keep Bm
                replace hO := hO.ext X59
                replace hbs := Nat.le_trans hbs X59.size
                replace E := E.ext X59
                refine WpL_val rfl rfl (by decide) (r_makeFunc (vs := []) (us := [(.pointer (some ⟨be, 0, none⟩)), (.pointer (some ⟨bm, 0, none⟩))]) rfl rfl) ?_
                have hf2 : ∀ (w : World) (x : Int), Ext w59 w → x ∈ natV (idxs row) → CallV Try.prog (.func (.func 81) #[] #[.pointer (some ⟨be, 0, none⟩), .pointer (some ⟨bm, 0, none⟩)]) #[.int .i64 x] w fun r w' => r = .bool (!freeB owner (m + x.toNat)) ∧ Ext w w' := by (intro w x hE hx; obtain ⟨c, hc, rfl⟩ := natV_mem hx; have hcl : c < row.length := (by obtain ⟨y, h1, _⟩ := mem_idxs.1 hc; exact lt_of_get h1); have := hP.ol; exact CallV.mk (first := #[]) (cap := #[.pointer (some ⟨be, 0, none⟩), .pointer (some ⟨bm, 0, none⟩)]) Try.func81 nm81 bd81 rfl (cont_c w b5 be bm c m owner _ _ _ _ _ _ (Ext.keep hE B5) (own_ints (own_ext hO.o hE) hO.ol) (Ext.keep hE Be) (Ext.keep hE Bm) (by omega)))
                refine WpL_enter rfl rfl (by decide) (r_callF (vs := [(.slice ia ((idxs row).length) ic), (.func (.func 81) #[] #[(.pointer (some ⟨be, 0, none⟩)), (.pointer (some ⟨bm, 0, none⟩))])]) Try.func64 nm64 bd64 rfl) (fi_has_c _ _ _ (natV (idxs row)) (fun x => !freeB owner (m + x.toNat)) (own_ints hI (by simp [natV])) hf2) ?_
                rintro _ w69 ⟨rfl, X69⟩
                replace Bd := X69.keep Bd
                replace Bo := X69.keep Bo
                replace B5 := X69.keep B5
                replace B35 := X69.keep B35
                replace Q35 := X69.keep Q35
                replace Bf := X69.keep Bf
                replace hG9 := X69.keep hG9
                replace Be := X69.keep Be
                replace Bm := X69.keep Bm
                replace hO := hO.ext X69
                replace hbs := Nat.le_trans hbs X69.size
                replace E := E.ext X69
                refine WpL_nil ?_
                refine Wp_cond (b := (natV (idxs row)).any (fun x => !freeB owner (m + x.toNat))) rfl (fun hany => ?_) (fun hany => ?_)
                · have khany := hany
                  have hml : m < owner.length := by rcases Nat.lt_or_ge m owner.length with h | h; exact h; rw [row_free h] at hany; cases hany
                  have hol2 := hP.ol
                  refine Wp_skip ?_
                  refine thn_normal ?_
                  refine Wp_block ?_
                  refine Wp_region ?_
                  refine WpL_val rfl rfl (by decide) (r_load (v := (.int .i64 ((m : Nat) : Int))) rfl flat3 (Bm.cell rfl)) ?_
                  refine WpL_val rfl rfl (by decide) (r_add (k := .i64) (a := ((m : Nat) : Int)) (b := 1) (c := (((m + 1 : Nat) : Nat) : Int)) rfl rfl ((wI64 (by omega)).trans (by omega))) ?_
                  refine s_store (b := bm) (o := 0) (c' := #[(.int .i64 (((m + 1 : Nat) : Nat) : Int))]) (v := (.int .i64 (((m + 1 : Nat) : Nat) : Int))) rfl rfl rfl siz3 Bm (by simp) rfl ?_
                  intro w10 S10
                  replace hO := hO.chg S10.chg (fun y hy => .inr hy)
                  replace hbs := Nat.le_trans hbs S10.chg.size
                  replace Bd := S10.keep (by omega) Bd
                  replace Bo := S10.keep (by omega) Bo
                  replace B5 := S10.keep (by omega) B5
                  replace B35 := S10.keep (by omega) B35
                  replace Q35 := S10.keep (by omega) Q35
                  replace Bf := S10.keep (by omega) Bf
                  replace hG9 := S10.keep (by omega) hG9
                  replace Be := S10.keep (by omega) Be
                  replace E := S10.step E (by first | exact Or.inl (by omega) | exact Or.inr rfl | exact Or.inr (by assumption) | exact Or.inr (by simp) | exact Or.inr (by omega) | exact Or.inr (by dsimp only; omega))
                  replace Bm := S10.blk
                  refine WpL_nil ?_
                  refine inB_normal ?_
                  refine thn_normal ?_
                  exact ⟨owner.length - (m + 1), by omega, m + 1, Fits.out ⟨rfl, rfl, rfl, rfl, rfl, rfl, rfl, rfl, rfl, rfl, trivial⟩, E, Bd, Bo, B5, B35, Q35, Bf, hG9, Be, Bm, (by omega), hO, hbs, rfl⟩
                · have khany := hany
                  have hfr := any_free (by simpa using hany)
                  have hol2 := hP.ol
                  refine Wp_exit ?_
                  refine thn_exit ?_
                  refine thn_exit ?_
                  refine inB_here ?_
                  refine thn_normal ?_
                  refine Wp_seq_region ?_
                  refine WpL_val rfl rfl (by decide) (r_fieldAddr (b := b5) (o := 0) (o' := 3) rfl Try.underlying58 rfl siz22 rfl) ?_
                  refine WpL_val rfl rfl (by decide) (r_load (v := (.slice (some ⟨q35, 0, none⟩) d.next.length d.next.length)) rfl flat22 (B5.cell rfl)) ?_
                  refine WpL_val rfl rfl (by decide) (r_move (v := (.int .i64 ((s : Nat) : Int))) rfl) ?_
                  refine WpL_val rfl rfl (by decide) (r_load (v := (.int .i64 ((m : Nat) : Int))) rfl flat3 (Bm.cell rfl)) ?_
                  refine WpL_val rfl rfl (by decide) (r_indexSlice (b := q35) (o := 0) (len := d.next.length) (cap := d.next.length) (i := s) (o' := 0 + s) rfl rfl (by omega) Try.underlying22 siz3 (by omega) (by omega)) ?_
                  refine s_store (b := q35) (o := 0 + s) (c' := ((natV (bs.set s m)).map (Value.int .i64) ++ []).toArray) (v := (.int .i64 ((m : Nat) : Int))) rfl rfl rfl siz3 Q35 (by simp [natV, hP.bl]; omega) (by rw [Nat.zero_add, ints_set (by simp [natV, hP.bl]; omega), natV_set]) ?_
                  intro w11 S11
                  replace hO := hO.chg S11.chg (fun y hy => .inl (by have h' : y = q35 := hy; omega))
                  replace hbs := Nat.le_trans hbs S11.chg.size
                  replace Bd := S11.keep (by omega) Bd
                  replace Bo := S11.keep (by omega) Bo
                  replace B5 := S11.keep (by omega) B5
                  replace B35 := S11.keep (by omega) B35
                  replace Bf := S11.keep (by omega) Bf
                  replace hG9 := S11.keep (by omega) hG9
                  replace Be := S11.keep (by omega) Be
                  replace Bm := S11.keep (by omega) Bm
                  replace E := S11.step E (by first | exact Or.inl (by omega) | exact Or.inr rfl | exact Or.inr (by assumption) | exact Or.inr (by simp) | exact Or.inr (by omega) | exact Or.inr (by dsimp only; omega))
                  replace Q35 := S11.blk
                  have hQ0 := QSt.start hP hs hond hsl hm (by omega) hfr
                  have hOn2 := hO.new
                  have hbm0 := Bm.lt
                  refine WpL_nil ?_
                  refine Wp_seq_region ?_
                  refine WpL_val rfl rfl (by decide) (r_fieldAddr (b := bd) (o := 0) (o' := 2) rfl Try.underlying25 rfl siz23 rfl) ?_
                  refine WpL_val rfl rfl (by decide) (r_load (v := (.slice (some ⟨nb, no, none⟩) d.next.length nc)) rfl flat23 (Bd.cell rfl)) ?_
                  refine WpL_val rfl rfl (by decide) (r_move (v := (.int .i64 ((s : Nat) : Int))) rfl) ?_
                  refine WpL_val rfl rfl (by decide) (r_indexSlice (b := nb) (o := no) (len := d.next.length) (cap := nc) (i := s) (o' := no + s) rfl rfl rfl Try.underlying23 siz22 (by omega) (by omega)) ?_
                  refine WpL_val rfl rfl (by decide) (r_load (v := (.slice ra row.length rc)) rfl flat22 (E.cell (fun f => f) hcell)) ?_
                  refine WpL_enter rfl rfl (by decide) (r_callF (vs := [(.slice ra row.length rc)]) Try.func80 nm80 bd80 rfl) (indices_c _ _ row (hints.ext E) (by omega)) ?_
                  rintro _ w79 ⟨⟨ia, ic, rfl, hI⟩, X79⟩
                  replace Bd := X79.keep Bd
                  replace Bo := X79.keep Bo
                  replace B5 := X79.keep B5
                  replace B35 := X79.keep B35
                  replace Q35 := X79.keep Q35
                  replace Bf := X79.keep Bf
                  replace hG9 := X79.keep hG9
                  replace Be := X79.keep Be
                  replace Bm := X79.keep Bm
                  replace hO := hO.ext X79
                  replace hbs := Nat.le_trans hbs X79.size
                  replace E := E.ext X79
                  obtain ⟨ib, ir, rfl, hi1, hi2, hi3, hi4, hIB⟩ := own_blk hI (by omega)
                  have hbi : bm < ib ∧ n2 ≤ bm := ⟨by omega, by have := Nm.eq; omega⟩
                  refine WpL_val rfl rfl (by decide) (r_lenSlice (ad := some ⟨ib, 0, none⟩) (n := (idxs row).length) (cap := ic) Try.underlying22 rfl) ?_
                  refine WpL_val rfl rfl (by decide) (r_move (v := (.int .i64 0)) rfl) ?_
                  refine WpL_nil ?_
                  refine Wp_block ?_
                  refine Wp_loop (fun nn_ σ W12 => ∃ (q L3 oc3 nc3 : Nat) (oa3 na3 : Option Addr) (ow3 nx3 : List Int), (∃ jj_, σ = upds jj_ [(1, (.pointer (some ⟨bd, 0, none⟩))), (2, (.pointer (some ⟨bo, 0, none⟩))), (5, (.pointer (some ⟨b5, 0, none⟩))), (6, (.pointer (some ⟨bf, 0, none⟩))), (9, (.pointer (some ⟨be, 0, none⟩))), (11, (.int .i64 ((s : Nat) : Int))), (12, (.pointer (some ⟨bm, 0, none⟩))), (52, (.slice (some ⟨g, 0, none⟩) k lc)), (53, (.int .i64 ((k : Nat) : Int))), (54, (.int .i64 ((j : Nat) : Int))), (83, (.int .i64 (((idxs row).length : Nat) : Int))), (84, (.int .i64 ((q : Nat) : Int))), (82, (.slice (some ⟨ib, 0, none⟩) ((idxs row).length) ic))]) ∧ Chg none1 w0 W12 ∧ Blk W12 bd #[(.int .i64 d.start), (.slice aa d.accept.length ac), (.slice (some ⟨nb, no, none⟩) d.next.length nc)] 25 ∧ Blk W12 bo #[(.int .i64 0), (.int .i64 0), (.slice none 0 0), (.slice none 0 0), (.slice none 0 0), (.slice none 0 0)] 58 ∧ Blk W12 b5 (#[(.int .i64 d.start), (.int .i64 ((row0.length : Nat) : Int)), (.slice (some ⟨b35, 0, none⟩) d.accept.length c35), (.slice (some ⟨q35, 0, none⟩) d.next.length d.next.length), (.slice oa3 L3 oc3), (.slice na3 L3 nc3)]) TT ∧ Blk W12 b35 ((d.accept.map (Value.int .i64) ++ r35).toArray) TI ∧ Blk W12 q35 (((natV (bs.set s m)).map (Value.int .i64) ++ []).toArray) TI ∧ Blk W12 bf #[(.func (.func 75) #[] #[(.pointer (some ⟨bd, 0, none⟩))])] 100 ∧ Blk W12 g (((natV order).map (Value.int .i64) ++ gr).toArray) TI ∧ Blk W12 be #[(.func (.func 79) #[] #[(.pointer (some ⟨b5, 0, none⟩))])] 94 ∧ Blk W12 bm #[(.int .i64 ((m : Nat) : Int))] TI ∧ Blk W12 ib (((natV (idxs row)).map (Value.int .i64) ++ ir).toArray) TI ∧ (q ≤ (idxs row).length) ∧ (QSt d.next order row0.length j s m row q ow3 nx3 (bs.set s m)) ∧ (OSt n2 (fun y => y = bm ∨ y = ib) W12 (.slice oa3 L3 oc3) (.slice na3 L3 nc3) L3 ow3 nx3) ∧ (n2 ≤ W12.heap.size) ∧ nn_ = (idxs row).length - q) (n := (idxs row).length - 0) ?_ ?_
                  · exact ⟨0, L, oc, nc2, oa, na2, owner, nxt, Fits.out ⟨rfl, rfl, rfl, rfl, rfl, rfl, rfl, rfl, rfl, rfl, rfl, rfl, rfl, trivial⟩, E, Bd, Bo, B5, B35, Q35, Bf, hG9, Be, Bm, hIB, Nat.zero_le _, hQ0, hO.fresh (fun y hy => by rcases hy with h | h; exact .inl h; exact .inr (hOn2 y (by omega))), hbs, rfl⟩
                  · clear E Bd Bo B5 B35 Q35 Bf hG9 Be Bm hIB
                    rintro _ _ W12 ⟨q, L3, oc3, nc3, oa3, na3, ow3, nx3, ⟨j12, rfl⟩, E, Bd, Bo, B5, B35, Q35, Bf, hG9, Be, Bm, hIB, hq, hQ, hO, hbs, rfl⟩
                    refine Wp_seq_region ?_
                    refine WpL_val rfl rfl (by decide) (r_lss (k := .i64) (a := ((q : Nat) : Int)) (b := (((idxs row).length : Nat) : Int)) rfl rfl) ?_
                    refine WpL_nil ?_
                    refine Wp_seq ?_
                    refine Wp_cond (b := decide ((((q : Nat) : Int) : Int) < (((idxs row).length : Nat) : Int))) rfl (fun hlt2 => ?_) (fun hlt2 => ?_)
                    · have khlt2 := hlt2
                      replace hlt2 := of_decide_eq_true hlt2
                      obtain ⟨c, hc⟩ := get_of_lt (l := idxs row) (i := q) (by omega)
                      have hcl : c < row.length := by obtain ⟨y, h1, _⟩ := mem_idxs.1 (List.mem_of_getElem? hc); exact lt_of_get h1
                      refine Wp_skip ?_
                      refine thn_normal ?_
                      refine Wp_seq ?_
                      refine Wp_block ?_
                      refine Wp_seq_region ?_
                      refine WpL_val rfl rfl (by decide) (r_indexSlice (b := ib) (o := 0) (len := (idxs row).length) (cap := ic) (i := q) (o' := 0 + q) rfl rfl rfl Try.underlying22 siz3 (by omega) (by omega)) ?_
                      refine WpL_val rfl rfl (by decide) (r_load (v := (.int .i64 ((c : Nat) : Int))) rfl flat3 ((by rw [Nat.zero_add]; exact ints_get hIB (natV_get hc)))) ?_
                      refine WpL_val rfl rfl (by decide) (r_assign (v := (.int .i64 ((c : Nat) : Int))) rfl) ?_
                      refine WpL_nil ?_
                      refine Wp_seq ?_
                      refine Wp_block ?_
                      refine Wp_loop (fun nn_ σ W14 => ∃ (L4 oc4 nc4 : Nat) (oa4 na4 : Option Addr) (ow4 nx4 : List Int), (∃ jj_, σ = upds jj_ [(1, (.pointer (some ⟨bd, 0, none⟩))), (2, (.pointer (some ⟨bo, 0, none⟩))), (5, (.pointer (some ⟨b5, 0, none⟩))), (6, (.pointer (some ⟨bf, 0, none⟩))), (9, (.pointer (some ⟨be, 0, none⟩))), (11, (.int .i64 ((s : Nat) : Int))), (12, (.pointer (some ⟨bm, 0, none⟩))), (52, (.slice (some ⟨g, 0, none⟩) k lc)), (53, (.int .i64 ((k : Nat) : Int))), (54, (.int .i64 ((j : Nat) : Int))), (82, (.slice (some ⟨ib, 0, none⟩) ((idxs row).length) ic)), (83, (.int .i64 (((idxs row).length : Nat) : Int))), (84, (.int .i64 ((q : Nat) : Int))), (14, (.int .i64 ((c : Nat) : Int)))]) ∧ Chg none1 w0 W14 ∧ Blk W14 bd #[(.int .i64 d.start), (.slice aa d.accept.length ac), (.slice (some ⟨nb, no, none⟩) d.next.length nc)] 25 ∧ Blk W14 bo #[(.int .i64 0), (.int .i64 0), (.slice none 0 0), (.slice none 0 0), (.slice none 0 0), (.slice none 0 0)] 58 ∧ Blk W14 b5 (#[(.int .i64 d.start), (.int .i64 ((row0.length : Nat) : Int)), (.slice (some ⟨b35, 0, none⟩) d.accept.length c35), (.slice (some ⟨q35, 0, none⟩) d.next.length d.next.length), (.slice oa4 L4 oc4), (.slice na4 L4 nc4)]) TT ∧ Blk W14 b35 ((d.accept.map (Value.int .i64) ++ r35).toArray) TI ∧ Blk W14 q35 (((natV (bs.set s m)).map (Value.int .i64) ++ []).toArray) TI ∧ Blk W14 bf #[(.func (.func 75) #[] #[(.pointer (some ⟨bd, 0, none⟩))])] 100 ∧ Blk W14 g (((natV order).map (Value.int .i64) ++ gr).toArray) TI ∧ Blk W14 be #[(.func (.func 79) #[] #[(.pointer (some ⟨b5, 0, none⟩))])] 94 ∧ Blk W14 bm #[(.int .i64 ((m : Nat) : Int))] TI ∧ Blk W14 ib (((natV (idxs row)).map (Value.int .i64) ++ ir).toArray) TI ∧ (QSt d.next order row0.length j s m row q ow4 nx4 (bs.set s m)) ∧ (OSt n2 (fun y => y = bm ∨ y = ib) W14 (.slice oa4 L4 oc4) (.slice na4 L4 nc4) L4 ow4 nx4) ∧ (n2 ≤ W14.heap.size) ∧ nn_ = m + c + 1 - L4) (n := m + c + 1 - L3) ?_ ?_
                      · exact ⟨L3, oc3, nc3, oa3, na3, ow3, nx3, Fits.out ⟨rfl, rfl, rfl, rfl, rfl, rfl, rfl, rfl, rfl, rfl, rfl, rfl, rfl, rfl, trivial⟩, E, Bd, Bo, B5, B35, Q35, Bf, hG9, Be, Bm, hIB, hQ, hO, hbs, rfl⟩
                      · clear E Bd Bo B5 B35 Q35 Bf hG9 Be Bm hIB
                        rintro _ _ W14 ⟨L4, oc4, nc4, oa4, na4, ow4, nx4, ⟨j14, rfl⟩, E, Bd, Bo, B5, B35, Q35, Bf, hG9, Be, Bm, hIB, hQ4, hO, hbs, rfl⟩
                        have hmb := hQ4.mb
                        have hlb := hQ4.ol
                        have hlb2 := hO.ol
                        refine Wp_seq ?_
                        refine Wp_seq_region ?_
                        refine WpL_val rfl rfl (by decide) (r_fieldAddr (b := b5) (o := 0) (o' := 4) rfl Try.underlying58 rfl siz22 rfl) ?_
                        refine WpL_val rfl rfl (by decide) (r_load (v := (.slice oa4 L4 oc4)) rfl flat22 (B5.cell rfl)) ?_
                        refine WpL_val rfl rfl (by decide) (r_lenSlice (ad := oa4) (n := L4) (cap := oc4) Try.underlying22 rfl) ?_
                        refine WpL_val rfl rfl (by decide) (r_load (v := (.int .i64 ((m : Nat) : Int))) rfl flat3 (Bm.cell rfl)) ?_
                        refine WpL_val rfl rfl (by decide) (r_move (v := (.int .i64 ((c : Nat) : Int))) rfl) ?_
                        refine WpL_val rfl rfl (by decide) (r_add (k := .i64) (a := ((m : Nat) : Int)) (b := ((c : Nat) : Int)) (c := (((m + c : Nat) : Nat) : Int)) rfl rfl ((wI64 (by omega)).trans (by omega))) ?_
                        refine WpL_val rfl rfl (by decide) (r_leq (k := .i64) (a := ((L4 : Nat) : Int)) (b := (((m + c : Nat) : Nat) : Int)) rfl rfl) ?_
                        refine WpL_nil ?_
                        refine Wp_cond (b := decide ((((L4 : Nat) : Int) : Int) ≤ (((m + c : Nat) : Nat) : Int))) rfl (fun hpad => ?_) (fun hpad => ?_)
                        · have khpad := hpad
                          replace hpad := of_decide_eq_true hpad
                          obtain ⟨n4, hn4⟩ : ∃ n4, n4 = W14.heap.size := ⟨_, rfl⟩
                          have l4 : bm < n4 ∧ ib < n4 := by rw [hn4]; exact ⟨Bm.lt, hIB.lt⟩
                          have hO0 := hO
                          refine Wp_skip ?_
                          refine thn_normal ?_
                          refine Wp_block ?_
                          obtain ⟨Fs16, hFs16⟩ : ∃ Fs : List FctE, Fs = [(fun _ v _ => v = (.pointer (some ⟨b5, 4, none⟩))), (fun _ v _ => v = (.slice oa4 L4 oc4)), (fun _ => oneF n4 (-1)), (fun _ => appW n2 n4 (L4 + 1) (ow4.map (Value.int .i64) ++ [.int .i64 (-1)]) (.slice oa4 L4 oc4)), (fun _ v _ => v = (.pointer (some ⟨b5, 5, none⟩))), (fun _ v _ => v = (.slice na4 L4 nc4)), (fun _ => oneF n4 (-1)), (fun s v w => appW n2 n4 (L4 + 1) (nx4.map (Value.int .i64) ++ [.int .i64 (-1)]) (.slice na4 L4 nc4) v w ∧ ApartV (s 98) v), (fun _ v _ => v = (.pointer (some ⟨b5, 4, none⟩)))] := ⟨_, rfl⟩
                          refine Wp_dagX (two 3 7 (fun y => (Value.slice oa4 L4 oc4).ownBlock = some y) (fun y => (Value.slice na4 L4 nc4).ownBlock = some y)) 9 [95, 96, 97, 98, 99, 100, 101, 102, 103] [[], [0], [], [1, 2], [], [4], [], [3, 5, 6], [0, 1, 2, 3, 4, 5]] [[], [0], [], [1, 0, 2], [], [4], [], [3, 1, 0, 2, 5, 4, 6], [0, 1, 2, 3, 4, 5]] Fs16 hFs16 (by kernel_rfl) mixed (by kernel_rfl) (by kernel_rfl) (by kernel_rfl) ?_ ?_
                          · intro wd X0
                            refine DagStepsX.cons (StabX.eq) (fun _ _ _ _ _ h => h) (fun s' w' X U H => ?_) ?_
                            · exact DoesT_val (r_fieldAddr (b := b5) (o := 0) (o' := 4) (U 5 rfl) Try.underlying58 rfl siz22 rfl) (Chg.refl _ _) rfl
                            refine DagStepsX.cons (StabX.eq) (fun _ _ _ _ _ h => h) (fun s' w' X U H => ?_) ?_
                            · have e95 : s' 95 = (.pointer (some ⟨b5, 4, none⟩)) := H 0 rfl 95 ((fun _ v _ => v = (.pointer (some ⟨b5, 4, none⟩)))) rfl (by rw [hFs16]; rfl)
                              exact DoesT_val (r_load (v := (.slice oa4 L4 oc4)) e95 flat22 ((Chg.keep X (fun h => (fun h => h.elim (fun h => by have := (hO0.o.lt _ h).1; omega) (fun h => by have := (hO0.n.lt _ h).1; omega)) (Past.or h)) (X0.keep B5)).cell rfl)) (Chg.refl _ _) rfl
                            refine DagStepsX.cons (fun p _ _ _ => oneF_chg _ _ (fun y hy => (two_or hy).elim (fun h => by have := (hO0.o.lt y h.2).2; omega) (fun h => by have := (hO0.n.lt y h.2).2; omega))) (LocX.const) (fun s' w' X U H => ?_) ?_
                            · exact DoesT_b1 rfl (by have := X0.size; have := X.size; omega)
                            refine DagStepsX.cons (appF_one (fun k hk hm => hk.elim (fun h => hO0.ap k h hm) (fun h => by have := (hO0.n.lt k hm).2; omega))) (LocX.const) (fun s' w' X U H => ?_) ?_
                            · have e96 : s' 96 = (.slice oa4 L4 oc4) := H 1 rfl 96 ((fun _ v _ => v = (.slice oa4 L4 oc4))) rfl (by rw [hFs16]; rfl)
                              obtain ⟨b97, e97, g97, B97⟩ := (show ((fun _ => oneF n4 (-1)) : FctE) s' (s' 97) w' from H 2 rfl 97 ((fun _ => oneF n4 (-1))) rfl (by rw [hFs16]; rfl))
                              exact DoesT_app e96 (own_ext (own_ext hO0.o X0) (X.mono (fun y _ h => Past.none rfl rfl h))) e97 B97 (by omega) (by have := X0.size; have := X.size; omega) (by have := X0.size; have := X.size; omega) (fun y h => h)
                            refine DagStepsX.cons (StabX.eq) (fun _ _ _ _ _ h => h) (fun s' w' X U H => ?_) ?_
                            · exact DoesT_val (r_fieldAddr (b := b5) (o := 0) (o' := 5) (U 5 rfl) Try.underlying58 rfl siz22 rfl) (Chg.refl _ _) rfl
                            refine DagStepsX.cons (StabX.eq) (fun _ _ _ _ _ h => h) (fun s' w' X U H => ?_) ?_
                            · have e99 : s' 99 = (.pointer (some ⟨b5, 5, none⟩)) := H 4 rfl 99 ((fun _ v _ => v = (.pointer (some ⟨b5, 5, none⟩)))) rfl (by rw [hFs16]; rfl)
                              exact DoesT_val (r_load (v := (.slice na4 L4 nc4)) e99 flat22 ((Chg.keep X (fun h => (fun h => h.elim (fun h => by have := (hO0.o.lt _ h).1; omega) (fun h => by have := (hO0.n.lt _ h).1; omega)) (Past.or h)) (X0.keep B5)).cell rfl)) (Chg.refl _ _) rfl
                            refine DagStepsX.cons (fun p _ _ _ => oneF_chg _ _ (fun y hy => (two_or hy).elim (fun h => by have := (hO0.o.lt y h.2).2; omega) (fun h => by have := (hO0.n.lt y h.2).2; omega))) (LocX.const) (fun s' w' X U H => ?_) ?_
                            · exact DoesT_b1 rfl (by have := X0.size; have := X.size; omega)
                            refine DagStepsX.cons (appF_two rfl) (fun s1 s2 h v w h2 => ⟨h2.1, by have := h 3 98 rfl rfl; rw [this]; exact h2.2⟩) (fun s' w' X U H => ?_) ?_
                            · have e100 : s' 100 = (.slice na4 L4 nc4) := H 5 rfl 100 ((fun _ v _ => v = (.slice na4 L4 nc4))) rfl (by rw [hFs16]; rfl)
                              obtain ⟨b101, e101, g101, B101⟩ := (show ((fun _ => oneF n4 (-1)) : FctE) s' (s' 101) w' from H 6 rfl 101 ((fun _ => oneF n4 (-1))) rfl (by rw [hFs16]; rfl))
                              exact app2 (H 3 rfl 98 _ rfl (by rw [hFs16]; rfl)) (DoesT_app (n0 := w'.heap.size) e100 (own_chg (own_ext hO0.n X0) (X.mono (fun y _ h => Past.fst rfl h)) (fun k hk hm => hO0.ap k hm hk)) e101 B101 (by omega) (by have := X0.size; have := X.size; omega) (Nat.le_refl _) (fun y h => h)) (by have := X0.size; have := X.size; omega) (fun k h1 h2 => h1.elim (fun h => hO0.ap k h h2) (fun h => by have := (hO0.n.lt k h2).2; omega))
                            refine DagStepsX.cons (StabX.eq) (fun _ _ _ _ _ h => h) (fun s' w' X U H => ?_) ?_
                            · exact DoesT_val (r_fieldAddr (b := b5) (o := 0) (o' := 4) (U 5 rfl) Try.underlying58 rfl siz22 rfl) (Chg.refl _ _) rfl
                            exact DagStepsX.nil
                          · intro s' wd16 w16 X0 X16 U H
                            replace X16 := X16.mono (M' := fun y => (fun y => (Value.slice oa4 L4 oc4).ownBlock = some y) y ∨ (fun y => (Value.slice na4 L4 nc4).ownBlock = some y) y) (fun y _ h => by obtain ⟨j, h⟩ := h; rcases two_or h with h | h; exact .inl h.2; exact .inr h.2)
                            obtain ⟨a98, c98, e98, O98, D98⟩ := (show ((fun _ => appW n2 n4 (L4 + 1) (ow4.map (Value.int .i64) ++ [.int .i64 (-1)]) (.slice oa4 L4 oc4)) : FctE) s' (s' 98) w16 from H 3 98 ((fun _ => appW n2 n4 (L4 + 1) (ow4.map (Value.int .i64) ++ [.int .i64 (-1)]) (.slice oa4 L4 oc4))) rfl (by rw [hFs16]; rfl))
                            obtain ⟨⟨a102, c102, e102, O102, D102⟩, A102⟩ := (show ((fun s v w => appW n2 n4 (L4 + 1) (nx4.map (Value.int .i64) ++ [.int .i64 (-1)]) (.slice na4 L4 nc4) v w ∧ ApartV (s 98) v) : FctE) s' (s' 102) w16 from H 7 102 ((fun s v w => appW n2 n4 (L4 + 1) (nx4.map (Value.int .i64) ++ [.int .i64 (-1)]) (.slice na4 L4 nc4) v w ∧ ApartV (s 98) v)) rfl (by rw [hFs16]; rfl))
                            have e103 : s' 103 = (.pointer (some ⟨b5, 4, none⟩)) := H 8 103 ((fun _ v _ => v = (.pointer (some ⟨b5, 4, none⟩)))) rfl (by rw [hFs16]; rfl)
                            obtain ⟨j16, rfl⟩ := Fits.out (σ := s') (l := [(1, (.pointer (some ⟨bd, 0, none⟩))), (2, (.pointer (some ⟨bo, 0, none⟩))), (5, (.pointer (some ⟨b5, 0, none⟩))), (6, (.pointer (some ⟨bf, 0, none⟩))), (9, (.pointer (some ⟨be, 0, none⟩))), (11, (.int .i64 ((s : Nat) : Int))), (12, (.pointer (some ⟨bm, 0, none⟩))), (14, (.int .i64 ((c : Nat) : Int))), (52, (.slice (some ⟨g, 0, none⟩) k lc)), (53, (.int .i64 ((k : Nat) : Int))), (54, (.int .i64 ((j : Nat) : Int))), (82, (.slice (some ⟨ib, 0, none⟩) ((idxs row).length) ic)), (83, (.int .i64 (((idxs row).length : Nat) : Int))), (84, (.int .i64 ((q : Nat) : Int))), (98, (.slice a98 (L4 + 1) c98)), (102, (.slice a102 (L4 + 1) c102)), (103, (.pointer (some ⟨b5, 4, none⟩)))]) ⟨U 1 rfl, U 2 rfl, U 5 rfl, U 6 rfl, U 9 rfl, U 11 rfl, U 12 rfl, U 14 rfl, U 52 rfl, U 53 rfl, U 54 rfl, U 82 rfl, U 83 rfl, U 84 rfl, e98, e102, e103, trivial⟩
                            clear U H
                            replace Bd := Chg.keep X16 (fun h => h.elim (fun h => by have := (hO0.o.lt _ h).1; omega) (fun h => by have := (hO0.n.lt _ h).1; omega)) (X0.keep Bd)
                            replace Bo := Chg.keep X16 (fun h => h.elim (fun h => by have := (hO0.o.lt _ h).1; omega) (fun h => by have := (hO0.n.lt _ h).1; omega)) (X0.keep Bo)
                            replace B5 := Chg.keep X16 (fun h => h.elim (fun h => by have := (hO0.o.lt _ h).1; omega) (fun h => by have := (hO0.n.lt _ h).1; omega)) (X0.keep B5)
                            replace B35 := Chg.keep X16 (fun h => h.elim (fun h => by have := (hO0.o.lt _ h).1; omega) (fun h => by have := (hO0.n.lt _ h).1; omega)) (X0.keep B35)
                            replace Q35 := Chg.keep X16 (fun h => h.elim (fun h => by have := (hO0.o.lt _ h).1; omega) (fun h => by have := (hO0.n.lt _ h).1; omega)) (X0.keep Q35)
                            replace Bf := Chg.keep X16 (fun h => h.elim (fun h => by have := (hO0.o.lt _ h).1; omega) (fun h => by have := (hO0.n.lt _ h).1; omega)) (X0.keep Bf)
                            replace hG9 := Chg.keep X16 (fun h => h.elim (fun h => by have := (hO0.o.lt _ h).1; omega) (fun h => by have := (hO0.n.lt _ h).1; omega)) (X0.keep hG9)
                            replace Be := Chg.keep X16 (fun h => h.elim (fun h => by have := (hO0.o.lt _ h).1; omega) (fun h => by have := (hO0.n.lt _ h).1; omega)) (X0.keep Be)
                            replace Bm := Chg.keep X16 (fun h => h.elim (fun h => hO0.ob _ h (.inl rfl)) (fun h => hO0.nb _ h (.inl rfl))) (X0.keep Bm)
                            replace hIB := Chg.keep X16 (fun h => h.elim (fun h => hO0.ob _ h (.inr rfl)) (fun h => hO0.nb _ h (.inr rfl))) (X0.keep hIB)
                            replace hO := hO.ext X0
                            replace hbs := Nat.le_trans hbs X0.size
                            replace hbs := Nat.le_trans hbs X16.size
                            replace E := (E.ext X0).step X16 (fun y hy h => h.elim (fun h => by have := (hO0.o.lt y h).1; omega) (fun h => by have := (hO0.n.lt y h).1; omega))
                            replace hO := hO0.pad O98 (fun k hk => by rw [← hn4]; exact D98 k hk) O102 (fun k hk => by rw [← hn4]; exact D102 k hk) (by rw [e98] at A102; exact A102) (fun y hy => by rcases hy with h | h <;> omega)
                            refine s_store (b := b5) (o := 4) (c' := #[(.int .i64 d.start), (.int .i64 ((row0.length : Nat) : Int)), (.slice (some ⟨b35, 0, none⟩) d.accept.length c35), (.slice (some ⟨q35, 0, none⟩) d.next.length d.next.length), (.slice a98 (L4 + 1) c98), (.slice na4 L4 nc4)]) (v := (.slice a98 (L4 + 1) c98)) rfl rfl rfl siz22 B5 (by simp) rfl ?_
                            intro w17 S17
                            replace hO := hO.chg S17.chg (fun y hy => .inl (by have h' : y = b5 := hy; omega))
                            replace hbs := Nat.le_trans hbs S17.chg.size
                            replace Bd := S17.keep (by omega) Bd
                            replace Bo := S17.keep (by omega) Bo
                            replace B35 := S17.keep (by omega) B35
                            replace Q35 := S17.keep (by omega) Q35
                            replace Bf := S17.keep (by omega) Bf
                            replace hG9 := S17.keep (by omega) hG9
                            replace Be := S17.keep (by omega) Be
                            replace Bm := S17.keep (by omega) Bm
                            replace hIB := S17.keep (by omega) hIB
                            replace E := S17.step E (by first | exact Or.inl (by omega) | exact Or.inr rfl | exact Or.inr (by assumption) | exact Or.inr (by simp) | exact Or.inr (by omega) | exact Or.inr (by dsimp only; omega))
                            replace B5 := S17.blk
                            refine WpL_val rfl rfl (by decide) (r_fieldAddr (b := b5) (o := 0) (o' := 5) rfl Try.underlying58 rfl siz22 rfl) ?_
                            refine s_store (b := b5) (o := 5) (c' := #[(.int .i64 d.start), (.int .i64 ((row0.length : Nat) : Int)), (.slice (some ⟨b35, 0, none⟩) d.accept.length c35), (.slice (some ⟨q35, 0, none⟩) d.next.length d.next.length), (.slice a98 (L4 + 1) c98), (.slice a102 (L4 + 1) c102)]) (v := (.slice a102 (L4 + 1) c102)) rfl rfl rfl siz22 B5 (by simp) rfl ?_
                            intro w18 S18
                            replace hO := hO.chg S18.chg (fun y hy => .inl (by have h' : y = b5 := hy; omega))
                            replace hbs := Nat.le_trans hbs S18.chg.size
                            replace Bd := S18.keep (by omega) Bd
                            replace Bo := S18.keep (by omega) Bo
                            replace B35 := S18.keep (by omega) B35
                            replace Q35 := S18.keep (by omega) Q35
                            replace Bf := S18.keep (by omega) Bf
                            replace hG9 := S18.keep (by omega) hG9
                            replace Be := S18.keep (by omega) Be
                            replace Bm := S18.keep (by omega) Bm
                            replace hIB := S18.keep (by omega) hIB
                            replace E := S18.step E (by first | exact Or.inl (by omega) | exact Or.inr rfl | exact Or.inr (by assumption) | exact Or.inr (by simp) | exact Or.inr (by omega) | exact Or.inr (by dsimp only; omega))
                            replace B5 := S18.blk
                            refine WpL_nil ?_
                            refine inB_normal ?_
                            refine thn_normal ?_
                            exact ⟨m + c + 1 - (L4 + 1), by omega, L4 + 1, c98, c102, a98, a102, ow4 ++ [-1], nx4 ++ [-1], Fits.out ⟨rfl, rfl, rfl, rfl, rfl, rfl, rfl, rfl, rfl, rfl, rfl, rfl, rfl, rfl, trivial⟩, E, Bd, Bo, B5, B35, Q35, Bf, hG9, Be, Bm, hIB, hQ4.pad (c := c) (by omega) (by omega), hO, hbs, rfl⟩
                        · have khpad := hpad
                          replace hpad := of_decide_eq_false hpad
                          obtain ⟨x, hx⟩ := get_of_lt hcl
                          obtain ⟨rb, ro, hra, hrc⟩ := ints_cells hints (by omega)
                          subst hra
                          have hO0 := hO
                          obtain ⟨g1, r1, rfl, p1, p2, p3, p4, G1⟩ := own_blk hO.o (by omega)
                          obtain ⟨g2, r2, rfl, s1, s2, s3, s4, G2⟩ := own_blk hO.n (by omega)
                          have h12 : g1 ≠ g2 := fun h => hO.ap g1 rfl (by rw [h]; rfl)
                          have h1m : g1 ≠ bm := fun h => hO.ob g1 rfl (.inl h)
                          have h1i : g1 ≠ ib := fun h => hO.ob g1 rfl (.inr h)
                          have h2m : g2 ≠ bm := fun h => hO.nb g2 rfl (.inl h)
                          have h2i : g2 ≠ ib := fun h => hO.nb g2 rfl (.inr h)
                          refine Wp_exit ?_
                          refine thn_exit ?_
                          refine thn_exit ?_
                          refine inB_here ?_
                          refine thn_normal ?_
                          obtain ⟨Fs19, hFs19⟩ : ∃ Fs : List (FactT ((fun y => y = g1))), Fs = [.eq (.pointer (some ⟨b5, 4, none⟩)), .eq (.slice (some ⟨g1, 0, none⟩) L4 oc4), .eq (.int .i64 ((m : Nat) : Int)), .eq (.int .i64 ((c : Nat) : Int)), .eq (.int .i64 (((m : Nat) : Int) + ((c : Nat) : Int))), .eq (.pointer (some ⟨b5, 5, none⟩)), .eq (.slice (some ⟨g2, 0, none⟩) L4 nc4), .eq (.int .i64 ((m : Nat) : Int)), .eq (.int .i64 ((c : Nat) : Int)), .eq (.int .i64 (((m : Nat) : Int) + ((c : Nat) : Int))), .eq (.int .i64 ((s : Nat) : Int)), .eq (.pointer (some ⟨bd, 2, none⟩)), .eq (.slice (some ⟨nb, no, none⟩) d.next.length nc), .eq (.int .i64 ((s : Nat) : Int)), .eq (.pointer (some ⟨nb, no + s, none⟩)), .eq (.slice (some ⟨rb, ro, none⟩) row.length rc), .eq (.int .i64 ((c : Nat) : Int)), .eq (.pointer (some ⟨rb, ro + c, none⟩)), .eq (.int .i64 x), .eq (.pointer (some ⟨g1, 0 + (m + c), none⟩)), .own (fun _ w => Blk w g1 ((ow4.set (m + c) ((s : Nat) : Int)).map (Value.int .i64) ++ r1).toArray TI) (fun _ _ _ e h => Ext.keep e h)] := ⟨_, rfl⟩
                          refine Wp_dagT ((fun y => y = g1)) 21 20 [105, 106, 107, 108, 109, 110, 111, 112, 113, 114, 115, 116, 117, 118, 119, 120, 121, 122, 123, 124, 149] [[], [0], [], [], [2, 3], [], [5], [], [], [7, 8], [], [], [11], [], [12, 13], [14], [], [15, 16], [17], [0, 1, 2, 3, 4, 10, 15, 18], [0, 1, 2, 3, 4, 10, 15, 18, 19]] Fs19 hFs19 rfl mixed (by kernel_rfl) (by kernel_rfl) (by kernel_rfl) ?_ ?_
                          · intro wd X0
                            refine DagStepsT.cons (fun s' w' X U H => ?_) ?_
                            · exact DoesT_val (r_fieldAddr (b := b5) (o := 0) (o' := 4) (U 5 rfl) Try.underlying58 rfl siz22 rfl) (Chg.refl _ _) rfl
                            refine DagStepsT.cons (fun s' w' X U H => ?_) ?_
                            · have e105 : s' 105 = (.pointer (some ⟨b5, 4, none⟩)) := H 0 rfl 105 (.eq (.pointer (some ⟨b5, 4, none⟩))) rfl (by rw [hFs19]; rfl)
                              exact DoesT_val (r_load (v := (.slice (some ⟨g1, 0, none⟩) L4 oc4)) e105 flat22 ((Chg.keep X (fun f => f) (X0.keep B5)).cell rfl)) (Chg.refl _ _) rfl
                            refine DagStepsT.cons (fun s' w' X U H => ?_) ?_
                            · exact DoesT_val (r_load (v := (.int .i64 ((m : Nat) : Int))) (U 12 rfl) flat3 ((Chg.keep X (fun f => f) (X0.keep Bm)).cell rfl)) (Chg.refl _ _) rfl
                            refine DagStepsT.cons (fun s' w' X U H => ?_) ?_
                            · exact DoesT_val (r_move (v := (.int .i64 ((c : Nat) : Int))) (U 14 rfl)) (Chg.refl _ _) rfl
                            refine DagStepsT.cons (fun s' w' X U H => ?_) ?_
                            · have e107 : s' 107 = (.int .i64 ((m : Nat) : Int)) := H 2 rfl 107 (.eq (.int .i64 ((m : Nat) : Int))) rfl (by rw [hFs19]; rfl)
                              have e108 : s' 108 = (.int .i64 ((c : Nat) : Int)) := H 3 rfl 108 (.eq (.int .i64 ((c : Nat) : Int))) rfl (by rw [hFs19]; rfl)
                              exact DoesT_val (r_add (k := .i64) (a := ((m : Nat) : Int)) (b := ((c : Nat) : Int)) (c := ((m : Nat) : Int) + ((c : Nat) : Int)) e107 e108 (wI64 (by omega))) (Chg.refl _ _) rfl
                            refine DagStepsT.cons (fun s' w' X U H => ?_) ?_
                            · exact DoesT_val (r_fieldAddr (b := b5) (o := 0) (o' := 5) (U 5 rfl) Try.underlying58 rfl siz22 rfl) (Chg.refl _ _) rfl
                            refine DagStepsT.cons (fun s' w' X U H => ?_) ?_
                            · have e110 : s' 110 = (.pointer (some ⟨b5, 5, none⟩)) := H 5 rfl 110 (.eq (.pointer (some ⟨b5, 5, none⟩))) rfl (by rw [hFs19]; rfl)
                              exact DoesT_val (r_load (v := (.slice (some ⟨g2, 0, none⟩) L4 nc4)) e110 flat22 ((Chg.keep X (fun h => by have h' : b5 = g1 := h; omega) (X0.keep B5)).cell rfl)) (Chg.refl _ _) rfl
                            refine DagStepsT.cons (fun s' w' X U H => ?_) ?_
                            · exact DoesT_val (r_load (v := (.int .i64 ((m : Nat) : Int))) (U 12 rfl) flat3 ((Chg.keep X (fun h => by have h' : bm = g1 := h; omega) (X0.keep Bm)).cell rfl)) (Chg.refl _ _) rfl
                            refine DagStepsT.cons (fun s' w' X U H => ?_) ?_
                            · exact DoesT_val (r_move (v := (.int .i64 ((c : Nat) : Int))) (U 14 rfl)) (Chg.refl _ _) rfl
                            refine DagStepsT.cons (fun s' w' X U H => ?_) ?_
                            · have e112 : s' 112 = (.int .i64 ((m : Nat) : Int)) := H 7 rfl 112 (.eq (.int .i64 ((m : Nat) : Int))) rfl (by rw [hFs19]; rfl)
                              have e113 : s' 113 = (.int .i64 ((c : Nat) : Int)) := H 8 rfl 113 (.eq (.int .i64 ((c : Nat) : Int))) rfl (by rw [hFs19]; rfl)
                              exact DoesT_val (r_add (k := .i64) (a := ((m : Nat) : Int)) (b := ((c : Nat) : Int)) (c := ((m : Nat) : Int) + ((c : Nat) : Int)) e112 e113 (wI64 (by omega))) (Chg.refl _ _) rfl
                            refine DagStepsT.cons (fun s' w' X U H => ?_) ?_
                            · exact DoesT_val (r_move (v := (.int .i64 ((s : Nat) : Int))) (U 11 rfl)) (Chg.refl _ _) rfl
                            refine DagStepsT.cons (fun s' w' X U H => ?_) ?_
                            · exact DoesT_val (r_fieldAddr (b := bd) (o := 0) (o' := 2) (U 1 rfl) Try.underlying25 rfl siz23 rfl) (Chg.refl _ _) rfl
                            refine DagStepsT.cons (fun s' w' X U H => ?_) ?_
                            · have e116 : s' 116 = (.pointer (some ⟨bd, 2, none⟩)) := H 11 rfl 116 (.eq (.pointer (some ⟨bd, 2, none⟩))) rfl (by rw [hFs19]; rfl)
                              exact DoesT_val (r_load (v := (.slice (some ⟨nb, no, none⟩) d.next.length nc)) e116 flat23 ((Chg.keep X (fun h => by have h' : bd = g1 := h; omega) (X0.keep Bd)).cell rfl)) (Chg.refl _ _) rfl
                            refine DagStepsT.cons (fun s' w' X U H => ?_) ?_
                            · exact DoesT_val (r_move (v := (.int .i64 ((s : Nat) : Int))) (U 11 rfl)) (Chg.refl _ _) rfl
                            refine DagStepsT.cons (fun s' w' X U H => ?_) ?_
                            · have e117 : s' 117 = (.slice (some ⟨nb, no, none⟩) d.next.length nc) := H 12 rfl 117 (.eq (.slice (some ⟨nb, no, none⟩) d.next.length nc)) rfl (by rw [hFs19]; rfl)
                              have e118 : s' 118 = (.int .i64 ((s : Nat) : Int)) := H 13 rfl 118 (.eq (.int .i64 ((s : Nat) : Int))) rfl (by rw [hFs19]; rfl)
                              exact DoesT_val (r_indexSlice (b := nb) (o := no) (len := d.next.length) (cap := nc) (i := s) (o' := no + s) e117 e118 rfl Try.underlying23 siz22 (by omega) (by omega)) (Chg.refl _ _) rfl
                            refine DagStepsT.cons (fun s' w' X U H => ?_) ?_
                            · have e119 : s' 119 = (.pointer (some ⟨nb, no + s, none⟩)) := H 14 rfl 119 (.eq (.pointer (some ⟨nb, no + s, none⟩))) rfl (by rw [hFs19]; rfl)
                              exact DoesT_val (r_load (v := (.slice (some ⟨rb, ro, none⟩) row.length rc)) e119 flat22 (Chg.cell (Ext.trans E (X0.trans X)) (fun f => f) hcell)) (Chg.refl _ _) rfl
                            refine DagStepsT.cons (fun s' w' X U H => ?_) ?_
                            · exact DoesT_val (r_move (v := (.int .i64 ((c : Nat) : Int))) (U 14 rfl)) (Chg.refl _ _) rfl
                            refine DagStepsT.cons (fun s' w' X U H => ?_) ?_
                            · have e120 : s' 120 = (.slice (some ⟨rb, ro, none⟩) row.length rc) := H 15 rfl 120 (.eq (.slice (some ⟨rb, ro, none⟩) row.length rc)) rfl (by rw [hFs19]; rfl)
                              have e121 : s' 121 = (.int .i64 ((c : Nat) : Int)) := H 16 rfl 121 (.eq (.int .i64 ((c : Nat) : Int))) rfl (by rw [hFs19]; rfl)
                              exact DoesT_val (r_indexSlice (b := rb) (o := ro) (len := row.length) (cap := rc) (i := c) (o' := ro + c) e120 e121 rfl Try.underlying22 siz3 (by omega) (by omega)) (Chg.refl _ _) rfl
                            refine DagStepsT.cons (fun s' w' X U H => ?_) ?_
                            · have e122 : s' 122 = (.pointer (some ⟨rb, ro + c, none⟩)) := H 17 rfl 122 (.eq (.pointer (some ⟨rb, ro + c, none⟩))) rfl (by rw [hFs19]; rfl)
                              exact DoesT_val (r_load (v := (.int .i64 x)) e122 flat3 (Chg.cell (Ext.trans E (X0.trans X)) (fun f => f) (hrc c x hx))) (Chg.refl _ _) rfl
                            refine DagStepsT.cons (fun s' w' X U H => ?_) ?_
                            · have e106 : s' 106 = (.slice (some ⟨g1, 0, none⟩) L4 oc4) := H 1 rfl 106 (.eq (.slice (some ⟨g1, 0, none⟩) L4 oc4)) rfl (by rw [hFs19]; rfl)
                              have e109 : s' 109 = (.int .i64 (((m : Nat) : Int) + ((c : Nat) : Int))) := H 4 rfl 109 (.eq (.int .i64 (((m : Nat) : Int) + ((c : Nat) : Int)))) rfl (by rw [hFs19]; rfl)
                              exact DoesT_val (r_indexSlice (b := g1) (o := 0) (len := L4) (cap := oc4) (i := m + c) (o' := 0 + (m + c)) e106 e109 (by omega) Try.underlying22 siz3 (by omega) (by omega)) (Chg.refl _ _) rfl
                            refine DagStepsT.cons (fun s' w' X U H => ?_) ?_
                            · have e124 : s' 124 = (.pointer (some ⟨g1, 0 + (m + c), none⟩)) := H 19 rfl 124 (.eq (.pointer (some ⟨g1, 0 + (m + c), none⟩))) rfl (by rw [hFs19]; rfl)
                              have e115 : s' 115 = (.int .i64 ((s : Nat) : Int)) := H 10 rfl 115 (.eq (.int .i64 ((s : Nat) : Int))) rfl (by rw [hFs19]; rfl)
                              exact DoesT_store e124 e115 rfl siz3 (Chg.keep X (fun f => f) (X0.keep G1)) (by simp; omega) rfl (fun w9 h => by have h2 := h.blk; rw [Nat.zero_add, ints_set (by omega) _] at h2; exact h2)
                            exact DagStepsT.nil
                          · intro s' wd19 w19 X0 X19 U H
                            have e111 : s' 111 = (.slice (some ⟨g2, 0, none⟩) L4 nc4) := H 6 111 (.eq (.slice (some ⟨g2, 0, none⟩) L4 nc4)) rfl (by rw [hFs19]; rfl)
                            have e114 : s' 114 = (.int .i64 (((m : Nat) : Int) + ((c : Nat) : Int))) := H 9 114 (.eq (.int .i64 (((m : Nat) : Int) + ((c : Nat) : Int)))) rfl (by rw [hFs19]; rfl)
                            have e123 : s' 123 = (.int .i64 x) := H 18 123 (.eq (.int .i64 x)) rfl (by rw [hFs19]; rfl)
                            obtain G1 := (show (.own (fun _ w => Blk w g1 ((ow4.set (m + c) ((s : Nat) : Int)).map (Value.int .i64) ++ r1).toArray TI) (fun _ _ _ e h => Ext.keep e h) : FactT ((fun y => y = g1))).In (s' 149) w19 from H 20 149 (.own (fun _ w => Blk w g1 ((ow4.set (m + c) ((s : Nat) : Int)).map (Value.int .i64) ++ r1).toArray TI) (fun _ _ _ e h => Ext.keep e h)) rfl (by rw [hFs19]; rfl))
                            obtain ⟨j19, rfl⟩ := Fits.out (σ := s') (l := [(1, (.pointer (some ⟨bd, 0, none⟩))), (2, (.pointer (some ⟨bo, 0, none⟩))), (5, (.pointer (some ⟨b5, 0, none⟩))), (6, (.pointer (some ⟨bf, 0, none⟩))), (9, (.pointer (some ⟨be, 0, none⟩))), (11, (.int .i64 ((s : Nat) : Int))), (12, (.pointer (some ⟨bm, 0, none⟩))), (52, (.slice (some ⟨g, 0, none⟩) k lc)), (53, (.int .i64 ((k : Nat) : Int))), (54, (.int .i64 ((j : Nat) : Int))), (82, (.slice (some ⟨ib, 0, none⟩) ((idxs row).length) ic)), (83, (.int .i64 (((idxs row).length : Nat) : Int))), (84, (.int .i64 ((q : Nat) : Int))), (111, (.slice (some ⟨g2, 0, none⟩) L4 nc4)), (114, (.int .i64 (((m : Nat) : Int) + ((c : Nat) : Int)))), (123, (.int .i64 x))]) ⟨U 1 rfl, U 2 rfl, U 5 rfl, U 6 rfl, U 9 rfl, U 11 rfl, U 12 rfl, U 52 rfl, U 53 rfl, U 54 rfl, U 82 rfl, U 83 rfl, U 84 rfl, e111, e114, e123, trivial⟩
                            clear U H
                            replace Bd := Chg.keep X19 (fun h => by have h' : bd = g1 := h; omega) (X0.keep Bd)
                            replace Bo := Chg.keep X19 (fun h => by have h' : bo = g1 := h; omega) (X0.keep Bo)
                            replace B5 := Chg.keep X19 (fun h => by have h' : b5 = g1 := h; omega) (X0.keep B5)
                            replace B35 := Chg.keep X19 (fun h => by have h' : b35 = g1 := h; omega) (X0.keep B35)
                            replace Q35 := Chg.keep X19 (fun h => by have h' : q35 = g1 := h; omega) (X0.keep Q35)
                            replace Bf := Chg.keep X19 (fun h => by have h' : bf = g1 := h; omega) (X0.keep Bf)
                            replace hG9 := Chg.keep X19 (fun h => by have h' : g = g1 := h; omega) (X0.keep hG9)
                            replace Be := Chg.keep X19 (fun h => by have h' : be = g1 := h; omega) (X0.keep Be)
                            replace Bm := Chg.keep X19 (fun h => by have h' : bm = g1 := h; omega) (X0.keep Bm)
                            replace hIB := Chg.keep X19 (fun h => by have h' : ib = g1 := h; omega) (X0.keep hIB)
                            replace G2 := Chg.keep X19 (fun h => by have h' : g2 = g1 := h; omega) (X0.keep G2)
                            replace hbs := Nat.le_trans hbs X0.size
                            replace hbs := Nat.le_trans hbs X19.size
                            replace E := (E.ext X0).step X19 (fun y hy h => by have h' : y = g1 := h; omega)
                            refine WpL_val rfl rfl (by decide) (r_indexSlice (b := g2) (o := 0) (len := L4) (cap := nc4) (i := m + c) (o' := 0 + (m + c)) rfl rfl (by omega) Try.underlying22 siz3 (by omega) (by omega)) ?_
                            refine s_store (b := g2) (o := 0 + (m + c)) (c' := ((nx4.set (m + c) x).map (Value.int .i64) ++ r2).toArray) (v := (.int .i64 x)) rfl rfl rfl siz3 G2 (by have := hO0.nl; simp; omega) (by rw [Nat.zero_add]; exact ints_set (by have := hO0.nl; omega) _) ?_
                            intro w20 S20
                            replace hbs := Nat.le_trans hbs S20.chg.size
                            replace Bd := S20.keep (by omega) Bd
                            replace Bo := S20.keep (by omega) Bo
                            replace B5 := S20.keep (by omega) B5
                            replace B35 := S20.keep (by omega) B35
                            replace Q35 := S20.keep (by omega) Q35
                            replace Bf := S20.keep (by omega) Bf
                            replace hG9 := S20.keep (by omega) hG9
                            replace Be := S20.keep (by omega) Be
                            replace Bm := S20.keep (by omega) Bm
                            replace hIB := S20.keep (by omega) hIB
                            replace G1 := S20.keep (by omega) G1
                            replace E := S20.step E (by first | exact Or.inl (by omega) | exact Or.inr rfl | exact Or.inr (by assumption) | exact Or.inr (by simp) | exact Or.inr (by omega) | exact Or.inr (by dsimp only; omega))
                            replace G2 := S20.blk
                            have hO9 : OSt n2 (fun y => y = bm ∨ y = ib) w20 (.slice (some ⟨g1, 0, none⟩) L4 oc4) (.slice (some ⟨g2, 0, none⟩) L4 nc4) L4 (ow4.set (m + c) ((s : Nat) : Int)) (nx4.set (m + c) x) := ⟨blk_own G1 p1 (by simpa using hO0.ol) p2 p3 (by simpa using p4), blk_own G2 s1 (by simpa using hO0.nl) s2 s3 (by simpa using s4), hO0.ap, hO0.ob, hO0.nb, by simpa using hO0.ol, by simpa using hO0.nl⟩
                            refine WpL_nil ?_
                            refine inB_normal ?_
                            refine thn_normal ?_
                            refine Wp_region ?_
                            refine WpL_val rfl rfl (by decide) (r_add (k := .i64) (a := ((q : Nat) : Int)) (b := 1) (c := ((q : Nat) : Int) + 1) rfl rfl (wI64 (by omega))) ?_
                            refine WpL_val rfl rfl (by decide) (r_move (v := (.int .i64 (((q : Nat) : Int) + 1))) rfl) ?_
                            refine WpL_nil ?_
                            refine thn_normal ?_
                            exact ⟨(idxs row).length - (q + 1), by omega, q + 1, L4, oc4, nc4, some ⟨g1, 0, none⟩, some ⟨g2, 0, none⟩, ow4.set (m + c) ((s : Nat) : Int), nx4.set (m + c) x, Fits.out ⟨rfl, rfl, rfl, rfl, rfl, rfl, rfl, rfl, rfl, rfl, rfl, rfl, rfl, trivial⟩, E, Bd, Bo, B5, B35, Q35, Bf, hG9, Be, Bm, hIB, (by omega), hQ4.put hrow hc hx (by omega), hO9, hbs, rfl⟩
                    · have khlt2 := hlt2
                      replace hlt2 := of_decide_eq_false hlt2
                      have hqq : q = (idxs row).length := by omega
                      refine Wp_exit ?_
                      refine thn_exit ?_
                      refine thn_exit ?_
                      refine inB_here ?_
                      refine inB_normal ?_
                      refine thn_normal ?_
                      refine Wp_region ?_
                      refine WpL_val rfl rfl (by decide) (r_add (k := .i64) (a := ((j : Nat) : Int)) (b := 1) (c := ((j : Nat) : Int) + 1) rfl rfl (wI64 (by omega))) ?_
                      refine WpL_val rfl rfl (by decide) (r_move (v := (.int .i64 (((j : Nat) : Int) + 1))) rfl) ?_
                      refine WpL_nil ?_
                      refine thn_normal ?_
                      exact ⟨k - (j + 1), by omega, j + 1, L3, oc3, nc3, oa3, na3, ow3, nx3, bs.set s m, Fits.out ⟨rfl, rfl, rfl, rfl, rfl, rfl, rfl, rfl, trivial⟩, E, Bd, Bo, B5, B35, Q35, Bf, hG9, Be, (by omega), (by rw [hqq] at hQ; exact hQ.done hs hrow), hO.fresh (fun y h => h.elim), hbs, rfl⟩
          · have khlt := hlt
            replace hlt := of_decide_eq_false hlt
            refine Wp_exit ?_
            refine thn_exit ?_
            refine thn_exit ?_
            refine inB_here ?_
            refine thn_normal ?_
            refine Wp_seq_region ?_
            refine WpL_val rfl rfl (by decide) (r_loadAgg (vs := [(.int .i64 d.start), (.int .i64 ((row0.length : Nat) : Int)), (.slice (some ⟨b35, 0, none⟩) d.accept.length c35), (.slice (some ⟨q35, 0, none⟩) d.next.length d.next.length), (.slice oa L oc), (.slice na2 L nc2)]) rfl agg58 siz58 rfl (B5.cells rfl)) ?_
            refine s_storeAgg (b := bo) (o := 0) (c' := #[(.int .i64 d.start), (.int .i64 ((row0.length : Nat) : Int)), (.slice (some ⟨b35, 0, none⟩) d.accept.length c35), (.slice (some ⟨q35, 0, none⟩) d.next.length d.next.length), (.slice oa L oc), (.slice na2 L nc2)]) rfl rfl (by simp [Value.oneCell']) siz58 rfl Bo (by simp) rfl ?_
            intro w21 S21
            replace hO := hO.chg S21.chg (fun y hy => .inl (by have h' : y = bo := hy; omega))
            replace Bd := S21.keep (by omega) Bd
            replace B5 := S21.keep (by omega) B5
            replace B35 := S21.keep (by omega) B35
            replace Q35 := S21.keep (by omega) Q35
            replace Bf := S21.keep (by omega) Bf
            replace hG9 := S21.keep (by omega) hG9
            replace Be := S21.keep (by omega) Be
            replace E := S21.step E (by first | exact Or.inl (by omega) | exact Or.inr rfl | exact Or.inr (by assumption) | exact Or.inr (by simp) | exact Or.inr (by omega) | exact Or.inr (by dsimp only; omega))
            replace Bo := S21.blk
            refine WpL_val rfl rfl (by decide) (r_assign (v := (.int .i64 0)) rfl) ?_
            refine WpL_nil ?_
            refine Wp_ret ?_
            refine fin_agg_tmp Try.results40 (vs := [(.int .i64 d.start), (.int .i64 ((row0.length : Nat) : Int)), (.slice (some ⟨b35, 0, none⟩) d.accept.length c35), (.slice (some ⟨q35, 0, none⟩) d.next.length d.next.length), (.slice oa L oc), (.slice na2 L nc2)]) (b := bo) (v' := (.int .i64 0)) rfl agg58 siz58 rfl (Bo.cells rfl) rfl ?_
            have hjk : j = d.next.length := by omega
            subst hjk
            exact ⟨_, _, _, _, order, owner, nxt, bs, rfl, ints_own B35 f35 (by omega), (by have h9 := ints_own (c := bs.length) Q35 (by simp [natV]) (by simp [natV, hP.bl]; omega); rw [show (natV bs).length = bs.length from by simp [natV], hP.bl] at h9; exact h9), own_ints hO.o hO.ol, own_ints hO.n hO.nl, hkk ▸ hop, hP, ⟨fun b h => by have h' : b35 = b := Option.some.inj h; have := E.size; omega, fun b h => by have h' : q35 = b := Option.some.inj h; have := E.size; omega, fun b h => by have := (hO.o.lt b h).1; omega, fun b h => by have := (hO.n.lt b h).1; omega⟩, E⟩
end Go.Proofs
namespace Go.Proofs
open Go Go.Eng
set_option maxRecDepth 100000
structure Tab where
  start : Int
  cols : Nat
  acc : List Int
  bs : List Nat
  ow : List Int
  nx : List Int
def TabAt (w : World) (t : Tab) (vs : List Value) : Prop := ∃ aa ac ba bc oa oc na nc, vs = [.int .i64 t.start, .int .i64 ((t.cols : Nat) : Int), .slice aa t.acc.length ac, .slice ba t.bs.length bc, .slice oa t.ow.length oc, .slice na t.nx.length nc] ∧
  IntsAt w (.slice aa t.acc.length ac) t.acc ∧ IntsAt w (.slice ba t.bs.length bc) (natV t.bs) ∧ IntsAt w (.slice oa t.ow.length oc) t.ow ∧ IntsAt w (.slice na t.nx.length nc) t.nx
theorem TabAt.ext {w w' : World} {t : Tab} {vs : List Value} (h : TabAt w t vs) (e : Ext w w') : TabAt w' t vs := by
  obtain ⟨aa, ac, ba, bc, oa, oc, na, nc, h1, h2, h3, h4, h5⟩ := h
  exact ⟨aa, ac, ba, bc, oa, oc, na, nc, h1, h2.ext e, h3.ext e, h4.ext e, h5.ext e⟩
structure GoodT (t : Tab) : Prop where
  n1 : 1 ≤ t.bs.length
  n2 : t.bs.length ≤ 200
  c1 : 1 ≤ t.cols
  c2 : t.cols ≤ 16
  ol : t.ow.length ≤ 3200
  nl : t.nx.length = t.ow.length
  al : t.acc.length = t.bs.length
  st : 0 ≤ t.start ∧ t.start < t.bs.length
  am : ∀ x ∈ t.acc, -1 ≤ x
  bm : ∀ b ∈ t.bs, b < 3200
  sl : ∀ (i : Nat) (o x : Int), t.ow[i]? = some o → t.nx[i]? = some x → (-1 ≤ o ∧ o < t.bs.length) ∧ (-1 ≤ x ∧ x < t.bs.length) ∧ (o < 0 ↔ x < 0) ∧ (0 ≤ o → ∀ b, t.bs[o.toNat]? = some b → b ≤ i ∧ i < b + t.cols)
theorem natV_len (l : List Nat) : (natV l).length = l.length := by simp [natV]
set_option maxHeartbeats 4000000 in
theorem tcheck_c (w0 : World) (t : Tab) (vs : List Value) (h : TabAt w0 t vs) (hg : GoodT t) : Ret Try.prog 44 #[.agg vs.toArray] w0 fun r w => r = .int .i64 0 ∧ Ext w0 w := by
  obtain ⟨aa, ac, ba, bc, oa, oc, na, nc, rfl, ha, hb, ho, hn⟩ := h
  have g1 := hg.n1; have g2 := hg.n2; have g3 := hg.c1; have g4 := hg.c2; have g5 := hg.ol; have g6 := hg.nl; have g7 := hg.al; have g8 := hg.st
  have hane : t.acc ≠ [] := fun he => by rw [he] at g7; simp at g7; omega
  have hbne : natV t.bs ≠ [] := fun he => by have h9 := congrArg List.length he; rw [natV_len] at h9; rw [List.length_nil] at h9; omega
  have hmin := (minL_lt hane (z := -1)).2 hg.am
  have hbmin := (minL_lt hbne (z := 0)).2 (fun x hx => by obtain ⟨b, _, rfl⟩ := natV_mem hx; omega)
  have hbmax := (maxL_lt hbne (z := 3200)).2 (fun x hx => by obtain ⟨b, hb, rfl⟩ := natV_mem hx; have := hg.bm b hb; omega)
  obtain ⟨bb, bo, rfl, hbcl⟩ := ints_cells hb (by omega)
  refine Ret_of Try.func44 rfl Try.ntmps44 (Nat.le_of_ble_eq_true rfl) ?_
  have E : Chg none1 w0 w0 := Chg.refl _ _
  refine Wp_seq_region ?_
  refine s_box (v := (.agg #[(.int .i64 t.start), (.int .i64 ((t.cols : Nat) : Int)), (.slice aa t.acc.length ac), (.slice (some ⟨bb, bo, none⟩) t.bs.length bc), (.slice oa t.ow.length oc), (.slice na t.nx.length nc)])) (c := #[(.int .i64 t.start), (.int .i64 ((t.cols : Nat) : Int)), (.slice aa t.acc.length ac), (.slice (some ⟨bb, bo, none⟩) t.bs.length bc), (.slice oa t.ow.length oc), (.slice na t.nx.length nc)]) (by decide) rfl rfl ?_
  intro bt wt Nt
  have Ft := Nt.ge E
  replace E := E.ext Nt.ext
  have Bt := Nt.blk
  refine WpL_val rfl rfl (by decide) (r_assign (v := (.int .i64 0)) rfl) ?_
  refine WpL_nil ?_
  refine Wp_seq_region ?_
  refine WpL_val rfl rfl (by decide) (r_fieldAddr (b := bt) (o := 0) (o' := 3) rfl Try.underlying58 rfl siz22 rfl) ?_
  refine WpL_val rfl rfl (by decide) (r_load (v := (.slice (some ⟨bb, bo, none⟩) t.bs.length bc)) rfl flat22 (Bt.cell rfl)) ?_
  refine WpL_val rfl rfl (by decide) (r_lenSlice (ad := some ⟨bb, bo, none⟩) (n := t.bs.length) (cap := bc) Try.underlying22 rfl) ?_
  refine WpL_val rfl rfl (by decide) (r_assign (v := (.int .i64 ((t.bs.length : Nat) : Int))) rfl) ?_
  refine WpL_nil ?_
  refine Wp_seq ?_
  refine Wp_block ?_
  refine Wp_seq_region ?_
  refine WpL_val rfl rfl (by decide) (r_move (v := (.int .i64 ((t.bs.length : Nat) : Int))) rfl) ?_
  refine WpL_val rfl rfl (by decide) (r_gtr (k := .i64) (a := ((t.bs.length : Nat) : Int)) (b := 200) rfl rfl) ?_
  refine WpL_val rfl rfl (by decide) (r_move (v := (.bool (decide ((200 : Int) < ((t.bs.length : Nat) : Int))))) rfl) ?_
  have hg1 : (decide ((200 : Int) < ((t.bs.length : Nat) : Int))) = false := decide_eq_false (by omega)
  refine WpL_guard_yes (oj := _) rfl rfl (by decide) (congrArg Value.bool hg1) ?_
  refine WpL_val rfl rfl (by decide) (r_fieldAddr (b := bt) (o := 0) (o' := 1) rfl Try.underlying58 rfl siz3 rfl) ?_
  refine WpL_guard_yes (oj := _) rfl rfl (by decide) (congrArg Value.bool hg1) ?_
  refine WpL_val rfl rfl (by decide) (r_load (v := (.int .i64 ((t.cols : Nat) : Int))) rfl flat3 (Bt.cell rfl)) ?_
  refine WpL_guard_yes (oj := _) rfl rfl (by decide) (congrArg Value.bool hg1) ?_
  refine WpL_val rfl rfl (by decide) (r_gtr (k := .i64) (a := ((t.cols : Nat) : Int)) (b := 16) rfl rfl) ?_
  refine WpL_val rfl rfl (by decide) (r_pick (b := decide ((200 : Int) < ((t.bs.length : Nat) : Int))) (v := (.bool (decide ((16 : Int) < ((t.cols : Nat) : Int))))) rfl (by rw [hg1]; rfl)) ?_
  refine WpL_val rfl rfl (by decide) (r_move (v := (.bool (decide ((16 : Int) < ((t.cols : Nat) : Int))))) rfl) ?_
  have hg2 : (decide ((16 : Int) < ((t.cols : Nat) : Int))) = false := decide_eq_false (by omega)
  refine WpL_guard_yes (oj := _) rfl rfl (by decide) (congrArg Value.bool hg2) ?_
  refine WpL_val rfl rfl (by decide) (r_fieldAddr (b := bt) (o := 0) (o' := 4) rfl Try.underlying58 rfl siz22 rfl) ?_
  refine WpL_guard_yes (oj := _) rfl rfl (by decide) (congrArg Value.bool hg2) ?_
  refine WpL_val rfl rfl (by decide) (r_load (v := (.slice oa t.ow.length oc)) rfl flat22 (Bt.cell rfl)) ?_
  refine WpL_guard_yes (oj := _) rfl rfl (by decide) (congrArg Value.bool hg2) ?_
  refine WpL_val rfl rfl (by decide) (r_lenSlice (ad := oa) (n := t.ow.length) (cap := oc) Try.underlying22 rfl) ?_
  refine WpL_guard_yes (oj := _) rfl rfl (by decide) (congrArg Value.bool hg2) ?_
  refine WpL_val rfl rfl (by decide) (r_fieldAddr (b := bt) (o := 0) (o' := 5) rfl Try.underlying58 rfl siz22 rfl) ?_
  refine WpL_guard_yes (oj := _) rfl rfl (by decide) (congrArg Value.bool hg2) ?_
  refine WpL_val rfl rfl (by decide) (r_load (v := (.slice na t.nx.length nc)) rfl flat22 (Bt.cell rfl)) ?_
  refine WpL_guard_yes (oj := _) rfl rfl (by decide) (congrArg Value.bool hg2) ?_
  refine WpL_val rfl rfl (by decide) (r_lenSlice (ad := na) (n := t.nx.length) (cap := nc) Try.underlying22 rfl) ?_
  refine WpL_guard_yes (oj := _) rfl rfl (by decide) (congrArg Value.bool hg2) ?_
  refine WpL_val rfl rfl (by decide) (r_maxI rfl rfl rfl) ?_
  refine WpL_guard_yes (oj := _) rfl rfl (by decide) (congrArg Value.bool hg2) ?_
  refine WpL_val rfl rfl (by decide) (r_gtr (k := .i64) (a := max ((t.ow.length : Nat) : Int) ((t.nx.length : Nat) : Int)) (b := 3200) rfl rfl) ?_
  refine WpL_val rfl rfl (by decide) (r_pick (b := decide ((16 : Int) < ((t.cols : Nat) : Int))) (v := (.bool (decide ((3200 : Int) < max ((t.ow.length : Nat) : Int) ((t.nx.length : Nat) : Int))))) rfl (by rw [hg2]; rfl)) ?_
  refine WpL_val rfl rfl (by decide) (r_assign (v := (.bool (decide ((3200 : Int) < max ((t.ow.length : Nat) : Int) ((t.nx.length : Nat) : Int))))) rfl) ?_
  refine WpL_nil ?_
  have hc3 : (decide ((3200 : Int) < max ((t.ow.length : Nat) : Int) ((t.nx.length : Nat) : Int))) = false := decide_eq_false (by omega)
  refine Wp_cond_false (congrArg Value.bool hc3) ?_
  refine Wp_seq_region ?_
  refine WpL_val rfl rfl (by decide) (r_move (v := (.int .i64 ((t.bs.length : Nat) : Int))) rfl) ?_
  obtain ⟨e4, he4⟩ : ∃ e, (decide ((((t.bs.length : Nat) : Int) : Int) = 0)) = e := ⟨_, rfl⟩
  refine WpL_val rfl rfl (by decide) ((r_eql (k := .i64) (a := ((t.bs.length : Nat) : Int)) (b := 0) rfl rfl).trans (by rw [he4]; try rfl)) ?_
  refine WpL_val rfl rfl (by decide) (r_move (v := (.bool e4)) rfl) ?_
  refine WpL_guard_any (oj := _) (gv := (.bool e4)) (u := (bif e4 then undef else (.pointer (some ⟨bt, 1, none⟩)))) rfl rfl (by decide) (by decide) rfl (by cases e4 <;> first | exact Or.inr ⟨Or.inl rfl, rfl⟩ | exact Or.inr ⟨Or.inr rfl, rfl⟩ | exact Or.inl ⟨rfl, r_fieldAddr (b := bt) (o := 0) (o' := 1) rfl Try.underlying58 rfl siz3 rfl⟩) ?_
  refine WpL_guard_any (oj := _) (gv := (.bool e4)) (u := (bif e4 then undef else (.int .i64 ((t.cols : Nat) : Int)))) rfl rfl (by decide) (by decide) rfl (by cases e4 <;> first | exact Or.inr ⟨Or.inl rfl, rfl⟩ | exact Or.inr ⟨Or.inr rfl, rfl⟩ | exact Or.inl ⟨rfl, r_load (v := (.int .i64 ((t.cols : Nat) : Int))) rfl flat3 (Bt.cell rfl)⟩) ?_
  obtain ⟨e5, he5⟩ : ∃ e, (decide ((((t.cols : Nat) : Int) : Int) < 1)) = e := ⟨_, rfl⟩
  refine WpL_guard_any (oj := _) (gv := (.bool e4)) (u := (bif e4 then undef else (.bool e5))) rfl rfl (by decide) (by decide) rfl (by cases e4 <;> first | exact Or.inr ⟨Or.inl rfl, rfl⟩ | exact Or.inr ⟨Or.inr rfl, rfl⟩ | exact Or.inl ⟨rfl, (r_lss (k := .i64) (a := ((t.cols : Nat) : Int)) (b := 1) rfl rfl).trans (by rw [he5]; try rfl)⟩) ?_
  obtain ⟨e6, he6⟩ : ∃ e, (e4 || e5) = e := ⟨_, rfl⟩
  refine WpL_val rfl rfl (by decide) (r_pick (b := e4) (v := .bool e6) rfl (by rw [← he6]; cases e4 <;> rfl)) ?_
  refine WpL_val rfl rfl (by decide) (r_move (v := (.bool e6)) rfl) ?_
  refine WpL_guard_any (oj := _) (gv := (.bool e6)) (u := (bif e6 then undef else (.pointer (some ⟨bt, 2, none⟩)))) rfl rfl (by decide) (by decide) rfl (by cases e6 <;> first | exact Or.inr ⟨Or.inl rfl, rfl⟩ | exact Or.inr ⟨Or.inr rfl, rfl⟩ | exact Or.inl ⟨rfl, r_fieldAddr (b := bt) (o := 0) (o' := 2) rfl Try.underlying58 rfl siz22 rfl⟩) ?_
  refine WpL_guard_any (oj := _) (gv := (.bool e6)) (u := (bif e6 then undef else (.slice aa t.acc.length ac))) rfl rfl (by decide) (by decide) rfl (by cases e6 <;> first | exact Or.inr ⟨Or.inl rfl, rfl⟩ | exact Or.inr ⟨Or.inr rfl, rfl⟩ | exact Or.inl ⟨rfl, r_load (v := (.slice aa t.acc.length ac)) rfl flat22 (Bt.cell rfl)⟩) ?_
  refine WpL_guard_any (oj := _) (gv := (.bool e6)) (u := (bif e6 then undef else (.int .i64 ((t.acc.length : Nat) : Int)))) rfl rfl (by decide) (by decide) rfl (by cases e6 <;> first | exact Or.inr ⟨Or.inl rfl, rfl⟩ | exact Or.inr ⟨Or.inr rfl, rfl⟩ | exact Or.inl ⟨rfl, r_lenSlice (ad := aa) (n := t.acc.length) (cap := ac) Try.underlying22 rfl⟩) ?_
  refine WpL_guard_any (oj := _) (gv := (.bool e6)) (u := (bif e6 then undef else (.int .i64 ((t.bs.length : Nat) : Int)))) rfl rfl (by decide) (by decide) rfl (by cases e6 <;> first | exact Or.inr ⟨Or.inl rfl, rfl⟩ | exact Or.inr ⟨Or.inr rfl, rfl⟩ | exact Or.inl ⟨rfl, r_move (v := (.int .i64 ((t.bs.length : Nat) : Int))) rfl⟩) ?_
  obtain ⟨e7, he7⟩ : ∃ e, (decide ((((t.acc.length : Nat) : Int) : Int) ≠ ((t.bs.length : Nat) : Int))) = e := ⟨_, rfl⟩
  refine WpL_guard_any (oj := _) (gv := (.bool e6)) (u := (bif e6 then undef else (.bool e7))) rfl rfl (by decide) (by decide) rfl (by cases e6 <;> first | exact Or.inr ⟨Or.inl rfl, rfl⟩ | exact Or.inr ⟨Or.inr rfl, rfl⟩ | exact Or.inl ⟨rfl, (r_neq (k := .i64) (a := ((t.acc.length : Nat) : Int)) (b := ((t.bs.length : Nat) : Int)) rfl rfl).trans (by rw [he7]; try rfl)⟩) ?_
  obtain ⟨e8, he8⟩ : ∃ e, (e6 || e7) = e := ⟨_, rfl⟩
  refine WpL_val rfl rfl (by decide) (r_pick (b := e6) (v := .bool e8) rfl (by rw [← he8]; cases e6 <;> rfl)) ?_
  refine WpL_val rfl rfl (by decide) (r_move (v := (.bool e8)) rfl) ?_
  refine WpL_guard_any (oj := _) (gv := (.bool e8)) (u := (bif e8 then undef else (.pointer (some ⟨bt, 4, none⟩)))) rfl rfl (by decide) (by decide) rfl (by cases e8 <;> first | exact Or.inr ⟨Or.inl rfl, rfl⟩ | exact Or.inr ⟨Or.inr rfl, rfl⟩ | exact Or.inl ⟨rfl, r_fieldAddr (b := bt) (o := 0) (o' := 4) rfl Try.underlying58 rfl siz22 rfl⟩) ?_
  refine WpL_guard_any (oj := _) (gv := (.bool e8)) (u := (bif e8 then undef else (.slice oa t.ow.length oc))) rfl rfl (by decide) (by decide) rfl (by cases e8 <;> first | exact Or.inr ⟨Or.inl rfl, rfl⟩ | exact Or.inr ⟨Or.inr rfl, rfl⟩ | exact Or.inl ⟨rfl, r_load (v := (.slice oa t.ow.length oc)) rfl flat22 (Bt.cell rfl)⟩) ?_
  refine WpL_guard_any (oj := _) (gv := (.bool e8)) (u := (bif e8 then undef else (.int .i64 ((t.ow.length : Nat) : Int)))) rfl rfl (by decide) (by decide) rfl (by cases e8 <;> first | exact Or.inr ⟨Or.inl rfl, rfl⟩ | exact Or.inr ⟨Or.inr rfl, rfl⟩ | exact Or.inl ⟨rfl, r_lenSlice (ad := oa) (n := t.ow.length) (cap := oc) Try.underlying22 rfl⟩) ?_
  refine WpL_guard_any (oj := _) (gv := (.bool e8)) (u := (bif e8 then undef else (.pointer (some ⟨bt, 5, none⟩)))) rfl rfl (by decide) (by decide) rfl (by cases e8 <;> first | exact Or.inr ⟨Or.inl rfl, rfl⟩ | exact Or.inr ⟨Or.inr rfl, rfl⟩ | exact Or.inl ⟨rfl, r_fieldAddr (b := bt) (o := 0) (o' := 5) rfl Try.underlying58 rfl siz22 rfl⟩) ?_
  refine WpL_guard_any (oj := _) (gv := (.bool e8)) (u := (bif e8 then undef else (.slice na t.nx.length nc))) rfl rfl (by decide) (by decide) rfl (by cases e8 <;> first | exact Or.inr ⟨Or.inl rfl, rfl⟩ | exact Or.inr ⟨Or.inr rfl, rfl⟩ | exact Or.inl ⟨rfl, r_load (v := (.slice na t.nx.length nc)) rfl flat22 (Bt.cell rfl)⟩) ?_
  refine WpL_guard_any (oj := _) (gv := (.bool e8)) (u := (bif e8 then undef else (.int .i64 ((t.nx.length : Nat) : Int)))) rfl rfl (by decide) (by decide) rfl (by cases e8 <;> first | exact Or.inr ⟨Or.inl rfl, rfl⟩ | exact Or.inr ⟨Or.inr rfl, rfl⟩ | exact Or.inl ⟨rfl, r_lenSlice (ad := na) (n := t.nx.length) (cap := nc) Try.underlying22 rfl⟩) ?_
  obtain ⟨e9, he9⟩ : ∃ e, (decide ((((t.ow.length : Nat) : Int) : Int) ≠ ((t.nx.length : Nat) : Int))) = e := ⟨_, rfl⟩
  refine WpL_guard_any (oj := _) (gv := (.bool e8)) (u := (bif e8 then undef else (.bool e9))) rfl rfl (by decide) (by decide) rfl (by cases e8 <;> first | exact Or.inr ⟨Or.inl rfl, rfl⟩ | exact Or.inr ⟨Or.inr rfl, rfl⟩ | exact Or.inl ⟨rfl, (r_neq (k := .i64) (a := ((t.ow.length : Nat) : Int)) (b := ((t.nx.length : Nat) : Int)) rfl rfl).trans (by rw [he9]; try rfl)⟩) ?_
  obtain ⟨e10, he10⟩ : ∃ e, (e8 || e9) = e := ⟨_, rfl⟩
  refine WpL_val rfl rfl (by decide) (r_pick (b := e8) (v := .bool e10) rfl (by rw [← he10]; cases e8 <;> rfl)) ?_
  refine WpL_val rfl rfl (by decide) (r_assign (v := (.bool e10)) rfl) ?_
  refine WpL_nil ?_
  subst he10
  subst he9
  subst he8
  subst he7
  subst he6
  subst he5
  subst he4
  have hc11 : (((((decide ((((t.bs.length : Nat) : Int) : Int) = 0)) || (decide ((((t.cols : Nat) : Int) : Int) < 1))) || (decide ((((t.acc.length : Nat) : Int) : Int) ≠ ((t.bs.length : Nat) : Int)))) || (decide ((((t.ow.length : Nat) : Int) : Int) ≠ ((t.nx.length : Nat) : Int))))) = false := by simp only [Bool.or_eq_false_iff, decide_eq_false_iff_not]; omega
  refine Wp_cond_false (congrArg Value.bool hc11) ?_
  refine Wp_seq_region ?_
  refine WpL_val rfl rfl (by decide) (r_fieldAddr (b := bt) (o := 0) (o' := 0) rfl Try.underlying58 rfl siz3 rfl) ?_
  refine WpL_val rfl rfl (by decide) (r_load (v := (.int .i64 t.start)) rfl flat3 (Bt.cell rfl)) ?_
  refine WpL_val rfl rfl (by decide) (r_lss (k := .i64) (a := t.start) (b := 0) rfl rfl) ?_
  refine WpL_val rfl rfl (by decide) (r_move (v := (.bool (decide ((t.start : Int) < 0)))) rfl) ?_
  have hg12 : (decide ((t.start : Int) < 0)) = false := decide_eq_false (by omega)
  refine WpL_guard_yes (oj := _) rfl rfl (by decide) (congrArg Value.bool hg12) ?_
  refine WpL_val rfl rfl (by decide) (r_fieldAddr (b := bt) (o := 0) (o' := 0) rfl Try.underlying58 rfl siz3 rfl) ?_
  refine WpL_guard_yes (oj := _) rfl rfl (by decide) (congrArg Value.bool hg12) ?_
  refine WpL_val rfl rfl (by decide) (r_load (v := (.int .i64 t.start)) rfl flat3 (Bt.cell rfl)) ?_
  refine WpL_guard_yes (oj := _) rfl rfl (by decide) (congrArg Value.bool hg12) ?_
  refine WpL_val rfl rfl (by decide) (r_move (v := (.int .i64 ((t.bs.length : Nat) : Int))) rfl) ?_
  refine WpL_guard_yes (oj := _) rfl rfl (by decide) (congrArg Value.bool hg12) ?_
  refine WpL_val rfl rfl (by decide) (r_geq (k := .i64) (a := t.start) (b := ((t.bs.length : Nat) : Int)) rfl rfl) ?_
  refine WpL_val rfl rfl (by decide) (r_pick (b := decide ((t.start : Int) < 0)) (v := (.bool (decide ((((t.bs.length : Nat) : Int) : Int) ≤ t.start)))) rfl (by rw [hg12]; rfl)) ?_
  refine WpL_val rfl rfl (by decide) (r_move (v := (.bool (decide ((((t.bs.length : Nat) : Int) : Int) ≤ t.start)))) rfl) ?_
  have hg13 : (decide ((((t.bs.length : Nat) : Int) : Int) ≤ t.start)) = false := decide_eq_false (by omega)
  refine WpL_guard_yes (oj := _) rfl rfl (by decide) (congrArg Value.bool hg13) ?_
  refine WpL_val rfl rfl (by decide) (r_fieldAddr (b := bt) (o := 0) (o' := 2) rfl Try.underlying58 rfl siz22 rfl) ?_
  refine WpL_guard_yes (oj := _) rfl rfl (by decide) (congrArg Value.bool hg13) ?_
  refine WpL_val rfl rfl (by decide) (r_load (v := (.slice aa t.acc.length ac)) rfl flat22 (Bt.cell rfl)) ?_
  refine WpL_guard_yes (oj := _) rfl rfl (by decide) (congrArg Value.bool hg13) ?_
  refine WpL_enter rfl rfl (by decide) (r_callF (vs := [(.slice aa t.acc.length ac)]) Try.func85 nm85 bd85 rfl) (min_c _ _ t.acc (ha.ext E) hane) ?_
  rintro _ w9 ⟨rfl, X9⟩
  replace Bt := X9.keep Bt
  replace E := E.ext X9
  refine WpL_guard_yes (oj := _) rfl rfl (by decide) (congrArg Value.bool hg13) ?_
  refine WpL_val rfl rfl (by decide) (r_lss (k := .i64) (a := minL t.acc) (b := (-1)) rfl rfl) ?_
  refine WpL_val rfl rfl (by decide) (r_pick (b := decide ((((t.bs.length : Nat) : Int) : Int) ≤ t.start)) (v := (.bool (decide ((minL t.acc : Int) < (-1))))) rfl (by rw [hg13]; rfl)) ?_
  refine WpL_val rfl rfl (by decide) (r_move (v := (.bool (decide ((minL t.acc : Int) < (-1))))) rfl) ?_
  have hg14 : (decide ((minL t.acc : Int) < (-1))) = false := decide_eq_false (by omega)
  refine WpL_guard_yes (oj := _) rfl rfl (by decide) (congrArg Value.bool hg14) ?_
  refine WpL_val rfl rfl (by decide) (r_fieldAddr (b := bt) (o := 0) (o' := 3) rfl Try.underlying58 rfl siz22 rfl) ?_
  refine WpL_guard_yes (oj := _) rfl rfl (by decide) (congrArg Value.bool hg14) ?_
  refine WpL_val rfl rfl (by decide) (r_load (v := (.slice (some ⟨bb, bo, none⟩) t.bs.length bc)) rfl flat22 (Bt.cell rfl)) ?_
  refine WpL_guard_yes (oj := _) rfl rfl (by decide) (congrArg Value.bool hg14) ?_
  refine WpL_enter rfl rfl (by decide) (r_callF (vs := [(.slice (some ⟨bb, bo, none⟩) t.bs.length bc)]) Try.func85 nm85 bd85 rfl) (min_c _ _ (natV t.bs) (hb.ext E) hbne) ?_
  rintro _ w19 ⟨rfl, X19⟩
  replace Bt := X19.keep Bt
  replace E := E.ext X19
  refine WpL_guard_yes (oj := _) rfl rfl (by decide) (congrArg Value.bool hg14) ?_
  refine WpL_val rfl rfl (by decide) (r_lss (k := .i64) (a := minL (natV t.bs)) (b := 0) rfl rfl) ?_
  refine WpL_val rfl rfl (by decide) (r_pick (b := decide ((minL t.acc : Int) < (-1))) (v := (.bool (decide ((minL (natV t.bs) : Int) < 0)))) rfl (by rw [hg14]; rfl)) ?_
  refine WpL_val rfl rfl (by decide) (r_move (v := (.bool (decide ((minL (natV t.bs) : Int) < 0)))) rfl) ?_
  have hg15 : (decide ((minL (natV t.bs) : Int) < 0)) = false := decide_eq_false (by omega)
  refine WpL_guard_yes (oj := _) rfl rfl (by decide) (congrArg Value.bool hg15) ?_
  refine WpL_val rfl rfl (by decide) (r_fieldAddr (b := bt) (o := 0) (o' := 3) rfl Try.underlying58 rfl siz22 rfl) ?_
  refine WpL_guard_yes (oj := _) rfl rfl (by decide) (congrArg Value.bool hg15) ?_
  refine WpL_val rfl rfl (by decide) (r_load (v := (.slice (some ⟨bb, bo, none⟩) t.bs.length bc)) rfl flat22 (Bt.cell rfl)) ?_
  refine WpL_guard_yes (oj := _) rfl rfl (by decide) (congrArg Value.bool hg15) ?_
  refine WpL_enter rfl rfl (by decide) (r_callF (vs := [(.slice (some ⟨bb, bo, none⟩) t.bs.length bc)]) Try.func86 nm86 bd86 rfl) (max_c _ _ (natV t.bs) (hb.ext E) hbne) ?_
  rintro _ w29 ⟨rfl, X29⟩
  replace Bt := X29.keep Bt
  replace E := E.ext X29
  refine WpL_guard_yes (oj := _) rfl rfl (by decide) (congrArg Value.bool hg15) ?_
  refine WpL_val rfl rfl (by decide) (r_geq (k := .i64) (a := maxL (natV t.bs)) (b := 3200) rfl rfl) ?_
  refine WpL_val rfl rfl (by decide) (r_pick (b := decide ((minL (natV t.bs) : Int) < 0)) (v := (.bool (decide ((3200 : Int) ≤ maxL (natV t.bs))))) rfl (by rw [hg15]; rfl)) ?_
  refine WpL_val rfl rfl (by decide) (r_assign (v := (.bool (decide ((3200 : Int) ≤ maxL (natV t.bs))))) rfl) ?_
  refine WpL_nil ?_
  have hc16 : (decide ((3200 : Int) ≤ maxL (natV t.bs))) = false := decide_eq_false (by omega)
  refine Wp_cond_false (congrArg Value.bool hc16) ?_
  refine Wp_skip ?_
  refine inB_normal ?_
  refine thn_normal ?_
  refine Wp_seq ?_
  refine Wp_seq_region ?_
  refine WpL_val rfl rfl (by decide) (r_fieldAddr (b := bt) (o := 0) (o' := 4) rfl Try.underlying58 rfl siz22 rfl) ?_
  refine WpL_val rfl rfl (by decide) (r_load (v := (.slice oa t.ow.length oc)) rfl flat22 (Bt.cell rfl)) ?_
  refine WpL_val rfl rfl (by decide) (r_lenSlice (ad := oa) (n := t.ow.length) (cap := oc) Try.underlying22 rfl) ?_
  refine WpL_val rfl rfl (by decide) (r_move (v := (.int .i64 0)) rfl) ?_
  refine WpL_nil ?_
  refine Wp_block ?_
  refine Wp_loop (fun nn_ σ W17 => ∃ (i : Nat), (∃ jj_, σ = upds jj_ [(1, (.pointer (some ⟨bt, 0, none⟩))), (3, (.int .i64 ((t.bs.length : Nat) : Int))), (81, (.slice oa t.ow.length oc)), (82, (.int .i64 ((t.ow.length : Nat) : Int))), (83, (.int .i64 ((i : Nat) : Int)))]) ∧ Chg none1 w0 W17 ∧ Blk W17 bt #[(.int .i64 t.start), (.int .i64 ((t.cols : Nat) : Int)), (.slice aa t.acc.length ac), (.slice (some ⟨bb, bo, none⟩) t.bs.length bc), (.slice oa t.ow.length oc), (.slice na t.nx.length nc)] 58 ∧ (i ≤ t.ow.length) ∧ nn_ = t.ow.length - i) (n := t.ow.length - 0) ?_ ?_
  · exact ⟨0, Fits.out ⟨rfl, rfl, rfl, rfl, rfl, trivial⟩, E, Bt, Nat.zero_le _, rfl⟩
  · clear E Bt
    rintro _ _ W17 ⟨i, ⟨j17, rfl⟩, E, Bt, hi, rfl⟩
    refine Wp_seq_region ?_
    refine WpL_val rfl rfl (by decide) (r_lss (k := .i64) (a := ((i : Nat) : Int)) (b := ((t.ow.length : Nat) : Int)) rfl rfl) ?_
    refine WpL_nil ?_
    refine Wp_seq ?_
    refine Wp_cond (b := decide ((((i : Nat) : Int) : Int) < ((t.ow.length : Nat) : Int))) rfl (fun hlt => ?_) (fun hlt => ?_)
    · have khlt := hlt
      replace hlt := of_decide_eq_true hlt
      obtain ⟨o, hoo⟩ := get_of_lt (l := t.ow) (i := i) (by omega)
      obtain ⟨x, hxx⟩ := get_of_lt (l := t.nx) (i := i) (by omega)
      obtain ⟨ob, oo, hoa, hocl⟩ := ints_cells ho (by omega)
      subst hoa
      obtain ⟨nb, no, hna, hncl⟩ := ints_cells hn (by omega)
      subst hna
      obtain ⟨⟨q1, q2⟩, ⟨q3, q4⟩, q5, q6⟩ := hg.sl i o x hoo hxx
      refine Wp_skip ?_
      refine thn_normal ?_
      refine Wp_seq ?_
      refine Wp_block ?_
      refine Wp_seq_region ?_
      refine WpL_val rfl rfl (by decide) (r_move (v := (.int .i64 ((i : Nat) : Int))) rfl) ?_
      refine WpL_val rfl rfl (by decide) (r_indexSlice (b := ob) (o := oo) (len := t.ow.length) (cap := oc) (i := i) (o' := oo + i) rfl rfl rfl Try.underlying22 siz3 (by omega) (by omega)) ?_
      refine WpL_val rfl rfl (by decide) (r_load (v := (.int .i64 o)) rfl flat3 (E.cell (fun f => f) (hocl i o hoo))) ?_
      refine WpL_val rfl rfl (by decide) (r_assign (v := (.int .i64 ((i : Nat) : Int))) rfl) ?_
      refine WpL_val rfl rfl (by decide) (r_assign (v := (.int .i64 o)) rfl) ?_
      refine WpL_nil ?_
      refine Wp_seq_region ?_
      refine WpL_val rfl rfl (by decide) (r_fieldAddr (b := bt) (o := 0) (o' := 5) rfl Try.underlying58 rfl siz22 rfl) ?_
      refine WpL_val rfl rfl (by decide) (r_load (v := (.slice (some ⟨nb, no, none⟩) t.nx.length nc)) rfl flat22 (Bt.cell rfl)) ?_
      refine WpL_val rfl rfl (by decide) (r_move (v := (.int .i64 ((i : Nat) : Int))) rfl) ?_
      refine WpL_val rfl rfl (by decide) (r_indexSlice (b := nb) (o := no) (len := t.nx.length) (cap := nc) (i := i) (o' := no + i) rfl rfl rfl Try.underlying22 siz3 (by omega) (by omega)) ?_
      refine WpL_val rfl rfl (by decide) (r_load (v := (.int .i64 x)) rfl flat3 (E.cell (fun f => f) (hncl i x hxx))) ?_
      refine WpL_val rfl rfl (by decide) (r_assign (v := (.int .i64 x)) rfl) ?_
      refine WpL_nil ?_
      refine Wp_seq ?_
      refine Wp_seq_region ?_
      refine WpL_val rfl rfl (by decide) (r_move (v := (.int .i64 o)) rfl) ?_
      obtain ⟨e19, he19⟩ : ∃ e, (decide ((o : Int) < (-1))) = e := ⟨_, rfl⟩
      refine WpL_val rfl rfl (by decide) ((r_lss (k := .i64) (a := o) (b := (-1)) rfl rfl).trans (by rw [he19]; try rfl)) ?_
      refine WpL_val rfl rfl (by decide) (r_move (v := (.bool e19)) rfl) ?_
      refine WpL_guard_any (oj := _) (gv := (.bool e19)) (u := (bif e19 then undef else (.int .i64 o))) rfl rfl (by decide) (by decide) rfl (by cases e19 <;> first | exact Or.inr ⟨Or.inl rfl, rfl⟩ | exact Or.inr ⟨Or.inr rfl, rfl⟩ | exact Or.inl ⟨rfl, r_move (v := (.int .i64 o)) rfl⟩) ?_
      refine WpL_guard_any (oj := _) (gv := (.bool e19)) (u := (bif e19 then undef else (.int .i64 ((t.bs.length : Nat) : Int)))) rfl rfl (by decide) (by decide) rfl (by cases e19 <;> first | exact Or.inr ⟨Or.inl rfl, rfl⟩ | exact Or.inr ⟨Or.inr rfl, rfl⟩ | exact Or.inl ⟨rfl, r_move (v := (.int .i64 ((t.bs.length : Nat) : Int))) rfl⟩) ?_
      obtain ⟨e20, he20⟩ : ∃ e, (decide ((((t.bs.length : Nat) : Int) : Int) ≤ o)) = e := ⟨_, rfl⟩
      refine WpL_guard_any (oj := _) (gv := (.bool e19)) (u := (bif e19 then undef else (.bool e20))) rfl rfl (by decide) (by decide) rfl (by cases e19 <;> first | exact Or.inr ⟨Or.inl rfl, rfl⟩ | exact Or.inr ⟨Or.inr rfl, rfl⟩ | exact Or.inl ⟨rfl, (r_geq (k := .i64) (a := o) (b := ((t.bs.length : Nat) : Int)) rfl rfl).trans (by rw [he20]; try rfl)⟩) ?_
      obtain ⟨e21, he21⟩ : ∃ e, (e19 || e20) = e := ⟨_, rfl⟩
      refine WpL_val rfl rfl (by decide) (r_pick (b := e19) (v := .bool e21) rfl (by rw [← he21]; cases e19 <;> rfl)) ?_
      refine WpL_val rfl rfl (by decide) (r_move (v := (.bool e21)) rfl) ?_
      refine WpL_guard_any (oj := _) (gv := (.bool e21)) (u := (bif e21 then undef else (.int .i64 x))) rfl rfl (by decide) (by decide) rfl (by cases e21 <;> first | exact Or.inr ⟨Or.inl rfl, rfl⟩ | exact Or.inr ⟨Or.inr rfl, rfl⟩ | exact Or.inl ⟨rfl, r_move (v := (.int .i64 x)) rfl⟩) ?_
      obtain ⟨e22, he22⟩ : ∃ e, (decide ((x : Int) < (-1))) = e := ⟨_, rfl⟩
      refine WpL_guard_any (oj := _) (gv := (.bool e21)) (u := (bif e21 then undef else (.bool e22))) rfl rfl (by decide) (by decide) rfl (by cases e21 <;> first | exact Or.inr ⟨Or.inl rfl, rfl⟩ | exact Or.inr ⟨Or.inr rfl, rfl⟩ | exact Or.inl ⟨rfl, (r_lss (k := .i64) (a := x) (b := (-1)) rfl rfl).trans (by rw [he22]; try rfl)⟩) ?_
      obtain ⟨e23, he23⟩ : ∃ e, (e21 || e22) = e := ⟨_, rfl⟩
      refine WpL_val rfl rfl (by decide) (r_pick (b := e21) (v := .bool e23) rfl (by rw [← he23]; cases e21 <;> rfl)) ?_
      refine WpL_val rfl rfl (by decide) (r_move (v := (.bool e23)) rfl) ?_
      refine WpL_guard_any (oj := _) (gv := (.bool e23)) (u := (bif e23 then undef else (.int .i64 x))) rfl rfl (by decide) (by decide) rfl (by cases e23 <;> first | exact Or.inr ⟨Or.inl rfl, rfl⟩ | exact Or.inr ⟨Or.inr rfl, rfl⟩ | exact Or.inl ⟨rfl, r_move (v := (.int .i64 x)) rfl⟩) ?_
      refine WpL_guard_any (oj := _) (gv := (.bool e23)) (u := (bif e23 then undef else (.int .i64 ((t.bs.length : Nat) : Int)))) rfl rfl (by decide) (by decide) rfl (by cases e23 <;> first | exact Or.inr ⟨Or.inl rfl, rfl⟩ | exact Or.inr ⟨Or.inr rfl, rfl⟩ | exact Or.inl ⟨rfl, r_move (v := (.int .i64 ((t.bs.length : Nat) : Int))) rfl⟩) ?_
      obtain ⟨e24, he24⟩ : ∃ e, (decide ((((t.bs.length : Nat) : Int) : Int) ≤ x)) = e := ⟨_, rfl⟩
      refine WpL_guard_any (oj := _) (gv := (.bool e23)) (u := (bif e23 then undef else (.bool e24))) rfl rfl (by decide) (by decide) rfl (by cases e23 <;> first | exact Or.inr ⟨Or.inl rfl, rfl⟩ | exact Or.inr ⟨Or.inr rfl, rfl⟩ | exact Or.inl ⟨rfl, (r_geq (k := .i64) (a := x) (b := ((t.bs.length : Nat) : Int)) rfl rfl).trans (by rw [he24]; try rfl)⟩) ?_
      obtain ⟨e25, he25⟩ : ∃ e, (e23 || e24) = e := ⟨_, rfl⟩
      refine WpL_val rfl rfl (by decide) (r_pick (b := e23) (v := .bool e25) rfl (by rw [← he25]; cases e23 <;> rfl)) ?_
      refine WpL_nil ?_
      subst he25
      subst he24
      subst he23
      subst he22
      subst he21
      subst he20
      subst he19
      have hc26 : (((((decide ((o : Int) < (-1))) || (decide ((((t.bs.length : Nat) : Int) : Int) ≤ o))) || (decide ((x : Int) < (-1)))) || (decide ((((t.bs.length : Nat) : Int) : Int) ≤ x)))) = false := by simp only [Bool.or_eq_false_iff, decide_eq_false_iff_not]; omega
      refine Wp_cond_false (congrArg Value.bool hc26) ?_
      rcases Bool.eq_false_or_eq_true (decide (o < 0)) with hs0 | hs0
      · have khs0 := hs0
        replace khs0 := of_decide_eq_true khs0
        have hx1 : decide (x < 0) = true := decide_eq_true (q5.1 khs0)
        have hx2 : decide (0 ≤ o) = false := decide_eq_false (by omega)
        refine Wp_skip ?_
        refine thn_normal ?_
        refine Wp_seq ?_
        obtain ⟨Fs27, hFs27⟩ : ∃ Fs : List Fact, Fs = [.eq (.int .i64 o), .eq (.bool true), .eq (.int .i64 x), .eq (.bool true), .eq (.bool false), .eq (.bool false), .eq (.int .i64 o), .eq (.bool false), .eq (.bool false), .eq undef, .eq undef, .eq undef, .eq undef, .eq undef, .eq undef, .eq undef, .eq undef, .eq undef, .eq undef, .eq undef, .eq undef, .eq undef, .eq undef, .eq undef, .eq undef, .eq undef, .eq undef, .eq undef, .eq (.bool false), .eq (.bool false)] := ⟨_, rfl⟩
        refine Wp_dag [109, 110, 111, 112, 113, 114, 115, 116, 117, 118, 119, 120, 121, 122, 123, 124, 125, 126, 127, 128, 129, 130, 131, 132, 133, 134, 135, 136, 137, 138] [[], [0], [], [2], [1, 3], [4], [5], [5, 6], [5, 7], [8], [8], [8, 10], [8], [8, 11, 12], [8, 13], [8, 9, 14], [8, 15], [16], [16], [16, 18], [16], [16, 19, 20], [16, 21], [16], [16, 23], [16, 22, 24], [16, 17, 25], [8, 16, 26], [5, 8, 27], [5, 28]] Fs27 hFs27 mixed (by kernel_rfl) (by kernel_rfl) ?_ ?_
        · intro wd X0
          refine DagSteps.cons (fun s' w' X U H => Or.inl ⟨?_, ?_⟩) ?_
          · exact Guarded_none rfl
          · exact Does_val (r_move (v := (.int .i64 o)) (U 5 rfl)) (Ext.refl _) rfl
          refine DagSteps.cons (fun s' w' X U H => Or.inl ⟨?_, ?_⟩) ?_
          · exact Guarded_none rfl
          · have e109 : s' 109 = (.int .i64 o) := H 0 rfl 109 (.eq (.int .i64 o)) rfl (by rw [hFs27]; rfl)
            exact Does_val (Eq.trans (r_lss (k := .i64) (a := o) (b := 0) e109 rfl) (by rw [hs0])) (Ext.refl _) rfl
          refine DagSteps.cons (fun s' w' X U H => Or.inl ⟨?_, ?_⟩) ?_
          · exact Guarded_none rfl
          · exact Does_val (r_move (v := (.int .i64 x)) (U 6 rfl)) (Ext.refl _) rfl
          refine DagSteps.cons (fun s' w' X U H => Or.inl ⟨?_, ?_⟩) ?_
          · exact Guarded_none rfl
          · have e111 : s' 111 = (.int .i64 x) := H 2 rfl 111 (.eq (.int .i64 x)) rfl (by rw [hFs27]; rfl)
            exact Does_val (Eq.trans (r_lss (k := .i64) (a := x) (b := 0) e111 rfl) (by rw [hx1])) (Ext.refl _) rfl
          refine DagSteps.cons (fun s' w' X U H => Or.inl ⟨?_, ?_⟩) ?_
          · exact Guarded_none rfl
          · have e110 : s' 110 = (.bool true) := H 1 rfl 110 (.eq (.bool true)) rfl (by rw [hFs27]; rfl)
            have e112 : s' 112 = (.bool true) := H 3 rfl 112 (.eq (.bool true)) rfl (by rw [hFs27]; rfl)
            exact Does_val (r_neqB (p := true) (q := true) Try.underlying4 e110 e112) (Ext.refl _) rfl
          refine DagSteps.cons (fun s' w' X U H => Or.inl ⟨?_, ?_⟩) ?_
          · exact Guarded_none rfl
          · have e113 : s' 113 = (.bool false) := H 4 rfl 113 (.eq (.bool false)) rfl (by rw [hFs27]; rfl)
            exact Does_val (r_move (v := (.bool false)) e113) (Ext.refl _) rfl
          refine DagSteps.cons (fun s' w' X U H => Or.inl ⟨?_, ?_⟩) ?_
          · exact Guarded_some rfl rfl (d := 114) (H 5 rfl 114 (.eq (.bool false)) rfl (by rw [hFs27]; rfl))
          · exact Does_val (r_move (v := (.int .i64 o)) (U 5 rfl)) (Ext.refl _) rfl
          refine DagSteps.cons (fun s' w' X U H => Or.inl ⟨?_, ?_⟩) ?_
          · exact Guarded_some rfl rfl (d := 114) (H 5 rfl 114 (.eq (.bool false)) rfl (by rw [hFs27]; rfl))
          · have e115 : s' 115 = (.int .i64 o) := H 6 rfl 115 (.eq (.int .i64 o)) rfl (by rw [hFs27]; rfl)
            exact Does_val (Eq.trans (r_geq (k := .i64) (a := o) (b := 0) e115 rfl) (by rw [hx2])) (Ext.refl _) rfl
          refine DagSteps.cons (fun s' w' X U H => Or.inl ⟨?_, ?_⟩) ?_
          · exact Guarded_some rfl rfl (d := 114) (H 5 rfl 114 (.eq (.bool false)) rfl (by rw [hFs27]; rfl))
          · have e116 : s' 116 = (.bool false) := H 7 rfl 116 (.eq (.bool false)) rfl (by rw [hFs27]; rfl)
            exact Does_val (r_move (v := (.bool false)) e116) (Ext.refl _) rfl
          refine DagSteps.cons (fun s' w' X U H => Or.inr ⟨?_, rfl⟩) ?_
          · exact Unmet_mk rfl rfl (d := 117) (Or.inl (H 8 rfl 117 (.eq (.bool false)) rfl (by rw [hFs27]; rfl)))
          refine DagSteps.cons (fun s' w' X U H => Or.inr ⟨?_, rfl⟩) ?_
          · exact Unmet_mk rfl rfl (d := 117) (Or.inl (H 8 rfl 117 (.eq (.bool false)) rfl (by rw [hFs27]; rfl)))
          refine DagSteps.cons (fun s' w' X U H => Or.inr ⟨?_, rfl⟩) ?_
          · exact Unmet_mk rfl rfl (d := 117) (Or.inl (H 8 rfl 117 (.eq (.bool false)) rfl (by rw [hFs27]; rfl)))
          refine DagSteps.cons (fun s' w' X U H => Or.inr ⟨?_, rfl⟩) ?_
          · exact Unmet_mk rfl rfl (d := 117) (Or.inl (H 8 rfl 117 (.eq (.bool false)) rfl (by rw [hFs27]; rfl)))
          refine DagSteps.cons (fun s' w' X U H => Or.inr ⟨?_, rfl⟩) ?_
          · exact Unmet_mk rfl rfl (d := 117) (Or.inl (H 8 rfl 117 (.eq (.bool false)) rfl (by rw [hFs27]; rfl)))
          refine DagSteps.cons (fun s' w' X U H => Or.inr ⟨?_, rfl⟩) ?_
          · exact Unmet_mk rfl rfl (d := 117) (Or.inl (H 8 rfl 117 (.eq (.bool false)) rfl (by rw [hFs27]; rfl)))
          refine DagSteps.cons (fun s' w' X U H => Or.inr ⟨?_, rfl⟩) ?_
          · exact Unmet_mk rfl rfl (d := 117) (Or.inl (H 8 rfl 117 (.eq (.bool false)) rfl (by rw [hFs27]; rfl)))
          refine DagSteps.cons (fun s' w' X U H => Or.inr ⟨?_, rfl⟩) ?_
          · exact Unmet_mk rfl rfl (d := 117) (Or.inl (H 8 rfl 117 (.eq (.bool false)) rfl (by rw [hFs27]; rfl)))
          refine DagSteps.cons (fun s' w' X U H => Or.inr ⟨?_, rfl⟩) ?_
          · exact Unmet_mk rfl rfl (d := 125) (Or.inr (H 16 rfl 125 (.eq undef) rfl (by rw [hFs27]; rfl)))
          refine DagSteps.cons (fun s' w' X U H => Or.inr ⟨?_, rfl⟩) ?_
          · exact Unmet_mk rfl rfl (d := 125) (Or.inr (H 16 rfl 125 (.eq undef) rfl (by rw [hFs27]; rfl)))
          refine DagSteps.cons (fun s' w' X U H => Or.inr ⟨?_, rfl⟩) ?_
          · exact Unmet_mk rfl rfl (d := 125) (Or.inr (H 16 rfl 125 (.eq undef) rfl (by rw [hFs27]; rfl)))
          refine DagSteps.cons (fun s' w' X U H => Or.inr ⟨?_, rfl⟩) ?_
          · exact Unmet_mk rfl rfl (d := 125) (Or.inr (H 16 rfl 125 (.eq undef) rfl (by rw [hFs27]; rfl)))
          refine DagSteps.cons (fun s' w' X U H => Or.inr ⟨?_, rfl⟩) ?_
          · exact Unmet_mk rfl rfl (d := 125) (Or.inr (H 16 rfl 125 (.eq undef) rfl (by rw [hFs27]; rfl)))
          refine DagSteps.cons (fun s' w' X U H => Or.inr ⟨?_, rfl⟩) ?_
          · exact Unmet_mk rfl rfl (d := 125) (Or.inr (H 16 rfl 125 (.eq undef) rfl (by rw [hFs27]; rfl)))
          refine DagSteps.cons (fun s' w' X U H => Or.inr ⟨?_, rfl⟩) ?_
          · exact Unmet_mk rfl rfl (d := 125) (Or.inr (H 16 rfl 125 (.eq undef) rfl (by rw [hFs27]; rfl)))
          refine DagSteps.cons (fun s' w' X U H => Or.inr ⟨?_, rfl⟩) ?_
          · exact Unmet_mk rfl rfl (d := 125) (Or.inr (H 16 rfl 125 (.eq undef) rfl (by rw [hFs27]; rfl)))
          refine DagSteps.cons (fun s' w' X U H => Or.inr ⟨?_, rfl⟩) ?_
          · exact Unmet_mk rfl rfl (d := 125) (Or.inr (H 16 rfl 125 (.eq undef) rfl (by rw [hFs27]; rfl)))
          refine DagSteps.cons (fun s' w' X U H => Or.inr ⟨?_, rfl⟩) ?_
          · exact Unmet_mk rfl rfl (d := 125) (Or.inr (H 16 rfl 125 (.eq undef) rfl (by rw [hFs27]; rfl)))
          refine DagSteps.cons (fun s' w' X U H => Or.inr ⟨?_, rfl⟩) ?_
          · exact Unmet_mk rfl rfl (d := 117) (Or.inl (H 8 rfl 117 (.eq (.bool false)) rfl (by rw [hFs27]; rfl)))
          refine DagSteps.cons (fun s' w' X U H => Or.inl ⟨?_, ?_⟩) ?_
          · exact Guarded_some rfl rfl (d := 114) (H 5 rfl 114 (.eq (.bool false)) rfl (by rw [hFs27]; rfl))
          · have e117 : s' 117 = (.bool false) := H 8 rfl 117 (.eq (.bool false)) rfl (by rw [hFs27]; rfl)
            exact Does_val (r_pick (b := false) (v := (.bool false)) e117 rfl) (Ext.refl _) rfl
          refine DagSteps.cons (fun s' w' X U H => Or.inl ⟨?_, ?_⟩) ?_
          · exact Guarded_none rfl
          · have e114 : s' 114 = (.bool false) := H 5 rfl 114 (.eq (.bool false)) rfl (by rw [hFs27]; rfl)
            have e137 : s' 137 = (.bool false) := H 28 rfl 137 (.eq (.bool false)) rfl (by rw [hFs27]; rfl)
            exact Does_val (r_pick (b := false) (v := (.bool false)) e114 e137) (Ext.refl _) rfl
          exact DagSteps.nil
        · intro s' w27 X27 U H
          obtain ⟨j27, rfl⟩ := Fits.out (σ := s') (l := [(1, (.pointer (some ⟨bt, 0, none⟩))), (3, (.int .i64 ((t.bs.length : Nat) : Int))), (81, (.slice (some ⟨ob, oo, none⟩) t.ow.length oc)), (82, (.int .i64 ((t.ow.length : Nat) : Int))), (83, (.int .i64 ((i : Nat) : Int))), (138, (.bool false))]) ⟨U 1 rfl, U 3 rfl, U 81 rfl, U 82 rfl, U 83 rfl, (show s' 138 = (.bool false) from H 29 138 (.eq (.bool false)) rfl (by rw [hFs27]; rfl)), trivial⟩
          clear U H
          replace Bt := X27.keep Bt
          replace E := E.ext X27
          refine thn_normal ?_
          refine Wp_cond_false rfl ?_
          refine Wp_skip ?_
          refine inB_normal ?_
          refine thn_normal ?_
          refine Wp_region ?_
          refine WpL_val rfl rfl (by decide) (r_add (k := .i64) (a := ((i : Nat) : Int)) (b := 1) (c := ((i : Nat) : Int) + 1) rfl rfl (wI64 (by omega))) ?_
          refine WpL_val rfl rfl (by decide) (r_move (v := (.int .i64 (((i : Nat) : Int) + 1))) rfl) ?_
          refine WpL_nil ?_
          refine thn_normal ?_
          exact ⟨t.ow.length - (i + 1), by omega, i + 1, Fits.out ⟨rfl, rfl, rfl, rfl, rfl, trivial⟩, E, Bt, (by omega), rfl⟩
      · have khs0 := hs0
        replace khs0 := of_decide_eq_false khs0
        have hx1 : decide (x < 0) = false := decide_eq_false (fun h => khs0 (q5.2 h))
        have hx2 : decide (0 ≤ o) = true := decide_eq_true (by omega)
        obtain ⟨b, hbb⟩ := get_of_lt (l := t.bs) (i := o.toNat) (by omega)
        obtain ⟨q7, q8⟩ := q6 (by omega) b hbb
        have hbs := hg.bm b (List.mem_of_getElem? hbb)
        have k15 : decide (((i : Nat) : Int) < ((b : Nat) : Int)) = false := decide_eq_false (by omega)
        have k16 : decide (((b : Nat) : Int) + ((t.cols : Nat) : Int) ≤ ((i : Nat) : Int)) = false := decide_eq_false (by omega)
        refine Wp_skip ?_
        refine thn_normal ?_
        refine Wp_seq ?_
        obtain ⟨Fs28, hFs28⟩ : ∃ Fs : List Fact, Fs = [.eq (.int .i64 o), .eq (.bool false), .eq (.int .i64 x), .eq (.bool false), .eq (.bool false), .eq (.bool false), .eq (.int .i64 o), .eq (.bool true), .eq (.bool true), .eq (.int .i64 ((i : Nat) : Int)), .eq (.pointer (some ⟨bt, 3, none⟩)), .eq (.slice (some ⟨bb, bo, none⟩) t.bs.length bc), .eq (.int .i64 o), .eq (.pointer (some ⟨bb, bo + o.toNat, none⟩)), .eq (.int .i64 ((b : Nat) : Int)), .eq (.bool false), .eq (.bool false), .eq (.int .i64 ((i : Nat) : Int)), .eq (.pointer (some ⟨bt, 3, none⟩)), .eq (.slice (some ⟨bb, bo, none⟩) t.bs.length bc), .eq (.int .i64 o), .eq (.pointer (some ⟨bb, bo + o.toNat, none⟩)), .eq (.int .i64 ((b : Nat) : Int)), .eq (.pointer (some ⟨bt, 1, none⟩)), .eq (.int .i64 ((t.cols : Nat) : Int)), .eq (.int .i64 (((b : Nat) : Int) + ((t.cols : Nat) : Int))), .eq (.bool false), .eq (.bool false), .eq (.bool false), .eq (.bool false)] := ⟨_, rfl⟩
        refine Wp_dag [109, 110, 111, 112, 113, 114, 115, 116, 117, 118, 119, 120, 121, 122, 123, 124, 125, 126, 127, 128, 129, 130, 131, 132, 133, 134, 135, 136, 137, 138] [[], [0], [], [2], [1, 3], [4], [5], [5, 6], [5, 7], [8], [8], [8, 10], [8], [8, 11, 12], [8, 13], [8, 9, 14], [8, 15], [16], [16], [16, 18], [16], [16, 19, 20], [16, 21], [16], [16, 23], [16, 22, 24], [16, 17, 25], [8, 16, 26], [5, 8, 27], [5, 28]] Fs28 hFs28 mixed (by kernel_rfl) (by kernel_rfl) ?_ ?_
        · intro wd X0
          refine DagSteps.cons (fun s' w' X U H => Or.inl ⟨?_, ?_⟩) ?_
          · exact Guarded_none rfl
          · exact Does_val (r_move (v := (.int .i64 o)) (U 5 rfl)) (Ext.refl _) rfl
          refine DagSteps.cons (fun s' w' X U H => Or.inl ⟨?_, ?_⟩) ?_
          · exact Guarded_none rfl
          · have e109 : s' 109 = (.int .i64 o) := H 0 rfl 109 (.eq (.int .i64 o)) rfl (by rw [hFs28]; rfl)
            exact Does_val (Eq.trans (r_lss (k := .i64) (a := o) (b := 0) e109 rfl) (by rw [hs0])) (Ext.refl _) rfl
          refine DagSteps.cons (fun s' w' X U H => Or.inl ⟨?_, ?_⟩) ?_
          · exact Guarded_none rfl
          · exact Does_val (r_move (v := (.int .i64 x)) (U 6 rfl)) (Ext.refl _) rfl
          refine DagSteps.cons (fun s' w' X U H => Or.inl ⟨?_, ?_⟩) ?_
          · exact Guarded_none rfl
          · have e111 : s' 111 = (.int .i64 x) := H 2 rfl 111 (.eq (.int .i64 x)) rfl (by rw [hFs28]; rfl)
            exact Does_val (Eq.trans (r_lss (k := .i64) (a := x) (b := 0) e111 rfl) (by rw [hx1])) (Ext.refl _) rfl
          refine DagSteps.cons (fun s' w' X U H => Or.inl ⟨?_, ?_⟩) ?_
          · exact Guarded_none rfl
          · have e110 : s' 110 = (.bool false) := H 1 rfl 110 (.eq (.bool false)) rfl (by rw [hFs28]; rfl)
            have e112 : s' 112 = (.bool false) := H 3 rfl 112 (.eq (.bool false)) rfl (by rw [hFs28]; rfl)
            exact Does_val (r_neqB (p := false) (q := false) Try.underlying4 e110 e112) (Ext.refl _) rfl
          refine DagSteps.cons (fun s' w' X U H => Or.inl ⟨?_, ?_⟩) ?_
          · exact Guarded_none rfl
          · have e113 : s' 113 = (.bool false) := H 4 rfl 113 (.eq (.bool false)) rfl (by rw [hFs28]; rfl)
            exact Does_val (r_move (v := (.bool false)) e113) (Ext.refl _) rfl
          refine DagSteps.cons (fun s' w' X U H => Or.inl ⟨?_, ?_⟩) ?_
          · exact Guarded_some rfl rfl (d := 114) (H 5 rfl 114 (.eq (.bool false)) rfl (by rw [hFs28]; rfl))
          · exact Does_val (r_move (v := (.int .i64 o)) (U 5 rfl)) (Ext.refl _) rfl
          refine DagSteps.cons (fun s' w' X U H => Or.inl ⟨?_, ?_⟩) ?_
          · exact Guarded_some rfl rfl (d := 114) (H 5 rfl 114 (.eq (.bool false)) rfl (by rw [hFs28]; rfl))
          · have e115 : s' 115 = (.int .i64 o) := H 6 rfl 115 (.eq (.int .i64 o)) rfl (by rw [hFs28]; rfl)
            exact Does_val (Eq.trans (r_geq (k := .i64) (a := o) (b := 0) e115 rfl) (by rw [hx2])) (Ext.refl _) rfl
          refine DagSteps.cons (fun s' w' X U H => Or.inl ⟨?_, ?_⟩) ?_
          · exact Guarded_some rfl rfl (d := 114) (H 5 rfl 114 (.eq (.bool false)) rfl (by rw [hFs28]; rfl))
          · have e116 : s' 116 = (.bool true) := H 7 rfl 116 (.eq (.bool true)) rfl (by rw [hFs28]; rfl)
            exact Does_val (r_move (v := (.bool true)) e116) (Ext.refl _) rfl
          refine DagSteps.cons (fun s' w' X U H => Or.inl ⟨?_, ?_⟩) ?_
          · exact Guarded_some rfl rfl (d := 117) (H 8 rfl 117 (.eq (.bool true)) rfl (by rw [hFs28]; rfl))
          · exact Does_val (r_move (v := (.int .i64 ((i : Nat) : Int))) (U 4 rfl)) (Ext.refl _) rfl
          refine DagSteps.cons (fun s' w' X U H => Or.inl ⟨?_, ?_⟩) ?_
          · exact Guarded_some rfl rfl (d := 117) (H 8 rfl 117 (.eq (.bool true)) rfl (by rw [hFs28]; rfl))
          · exact Does_val (r_fieldAddr (b := bt) (o := 0) (o' := 3) (U 1 rfl) Try.underlying58 rfl siz22 rfl) (Ext.refl _) rfl
          refine DagSteps.cons (fun s' w' X U H => Or.inl ⟨?_, ?_⟩) ?_
          · exact Guarded_some rfl rfl (d := 117) (H 8 rfl 117 (.eq (.bool true)) rfl (by rw [hFs28]; rfl))
          · have e119 : s' 119 = (.pointer (some ⟨bt, 3, none⟩)) := H 10 rfl 119 (.eq (.pointer (some ⟨bt, 3, none⟩))) rfl (by rw [hFs28]; rfl)
            exact Does_val (r_load (v := (.slice (some ⟨bb, bo, none⟩) t.bs.length bc)) e119 flat22 (((X0.trans X).keep Bt).cell rfl)) (Ext.refl _) rfl
          refine DagSteps.cons (fun s' w' X U H => Or.inl ⟨?_, ?_⟩) ?_
          · exact Guarded_some rfl rfl (d := 117) (H 8 rfl 117 (.eq (.bool true)) rfl (by rw [hFs28]; rfl))
          · exact Does_val (r_move (v := (.int .i64 o)) (U 5 rfl)) (Ext.refl _) rfl
          refine DagSteps.cons (fun s' w' X U H => Or.inl ⟨?_, ?_⟩) ?_
          · exact Guarded_some rfl rfl (d := 117) (H 8 rfl 117 (.eq (.bool true)) rfl (by rw [hFs28]; rfl))
          · have e120 : s' 120 = (.slice (some ⟨bb, bo, none⟩) t.bs.length bc) := H 11 rfl 120 (.eq (.slice (some ⟨bb, bo, none⟩) t.bs.length bc)) rfl (by rw [hFs28]; rfl)
            have e121 : s' 121 = (.int .i64 o) := H 12 rfl 121 (.eq (.int .i64 o)) rfl (by rw [hFs28]; rfl)
            exact Does_val (r_indexSlice (b := bb) (o := bo) (len := t.bs.length) (cap := bc) (i := o.toNat) (o' := bo + o.toNat) e120 e121 (by omega) Try.underlying22 siz3 (by omega) (by omega)) (Ext.refl _) rfl
          refine DagSteps.cons (fun s' w' X U H => Or.inl ⟨?_, ?_⟩) ?_
          · exact Guarded_some rfl rfl (d := 117) (H 8 rfl 117 (.eq (.bool true)) rfl (by rw [hFs28]; rfl))
          · have e122 : s' 122 = (.pointer (some ⟨bb, bo + o.toNat, none⟩)) := H 13 rfl 122 (.eq (.pointer (some ⟨bb, bo + o.toNat, none⟩))) rfl (by rw [hFs28]; rfl)
            exact Does_val (r_load (v := (.int .i64 ((b : Nat) : Int))) e122 flat3 (Chg.cell (Ext.trans E (X0.trans X)) (fun f => f) (hbcl o.toNat _ (natV_get hbb)))) (Ext.refl _) rfl
          refine DagSteps.cons (fun s' w' X U H => Or.inl ⟨?_, ?_⟩) ?_
          · exact Guarded_some rfl rfl (d := 117) (H 8 rfl 117 (.eq (.bool true)) rfl (by rw [hFs28]; rfl))
          · have e118 : s' 118 = (.int .i64 ((i : Nat) : Int)) := H 9 rfl 118 (.eq (.int .i64 ((i : Nat) : Int))) rfl (by rw [hFs28]; rfl)
            have e123 : s' 123 = (.int .i64 ((b : Nat) : Int)) := H 14 rfl 123 (.eq (.int .i64 ((b : Nat) : Int))) rfl (by rw [hFs28]; rfl)
            exact Does_val (Eq.trans (r_lss (k := .i64) (a := ((i : Nat) : Int)) (b := ((b : Nat) : Int)) e118 e123) (by rw [k15])) (Ext.refl _) rfl
          refine DagSteps.cons (fun s' w' X U H => Or.inl ⟨?_, ?_⟩) ?_
          · exact Guarded_some rfl rfl (d := 117) (H 8 rfl 117 (.eq (.bool true)) rfl (by rw [hFs28]; rfl))
          · have e124 : s' 124 = (.bool false) := H 15 rfl 124 (.eq (.bool false)) rfl (by rw [hFs28]; rfl)
            exact Does_val (r_move (v := (.bool false)) e124) (Ext.refl _) rfl
          refine DagSteps.cons (fun s' w' X U H => Or.inl ⟨?_, ?_⟩) ?_
          · exact Guarded_some rfl rfl (d := 125) (H 16 rfl 125 (.eq (.bool false)) rfl (by rw [hFs28]; rfl))
          · exact Does_val (r_move (v := (.int .i64 ((i : Nat) : Int))) (U 4 rfl)) (Ext.refl _) rfl
          refine DagSteps.cons (fun s' w' X U H => Or.inl ⟨?_, ?_⟩) ?_
          · exact Guarded_some rfl rfl (d := 125) (H 16 rfl 125 (.eq (.bool false)) rfl (by rw [hFs28]; rfl))
          · exact Does_val (r_fieldAddr (b := bt) (o := 0) (o' := 3) (U 1 rfl) Try.underlying58 rfl siz22 rfl) (Ext.refl _) rfl
          refine DagSteps.cons (fun s' w' X U H => Or.inl ⟨?_, ?_⟩) ?_
          · exact Guarded_some rfl rfl (d := 125) (H 16 rfl 125 (.eq (.bool false)) rfl (by rw [hFs28]; rfl))
          · have e127 : s' 127 = (.pointer (some ⟨bt, 3, none⟩)) := H 18 rfl 127 (.eq (.pointer (some ⟨bt, 3, none⟩))) rfl (by rw [hFs28]; rfl)
            exact Does_val (r_load (v := (.slice (some ⟨bb, bo, none⟩) t.bs.length bc)) e127 flat22 (((X0.trans X).keep Bt).cell rfl)) (Ext.refl _) rfl
          refine DagSteps.cons (fun s' w' X U H => Or.inl ⟨?_, ?_⟩) ?_
          · exact Guarded_some rfl rfl (d := 125) (H 16 rfl 125 (.eq (.bool false)) rfl (by rw [hFs28]; rfl))
          · exact Does_val (r_move (v := (.int .i64 o)) (U 5 rfl)) (Ext.refl _) rfl
          refine DagSteps.cons (fun s' w' X U H => Or.inl ⟨?_, ?_⟩) ?_
          · exact Guarded_some rfl rfl (d := 125) (H 16 rfl 125 (.eq (.bool false)) rfl (by rw [hFs28]; rfl))
          · have e128 : s' 128 = (.slice (some ⟨bb, bo, none⟩) t.bs.length bc) := H 19 rfl 128 (.eq (.slice (some ⟨bb, bo, none⟩) t.bs.length bc)) rfl (by rw [hFs28]; rfl)
            have e129 : s' 129 = (.int .i64 o) := H 20 rfl 129 (.eq (.int .i64 o)) rfl (by rw [hFs28]; rfl)
            exact Does_val (r_indexSlice (b := bb) (o := bo) (len := t.bs.length) (cap := bc) (i := o.toNat) (o' := bo + o.toNat) e128 e129 (by omega) Try.underlying22 siz3 (by omega) (by omega)) (Ext.refl _) rfl
          refine DagSteps.cons (fun s' w' X U H => Or.inl ⟨?_, ?_⟩) ?_
          · exact Guarded_some rfl rfl (d := 125) (H 16 rfl 125 (.eq (.bool false)) rfl (by rw [hFs28]; rfl))
          · have e130 : s' 130 = (.pointer (some ⟨bb, bo + o.toNat, none⟩)) := H 21 rfl 130 (.eq (.pointer (some ⟨bb, bo + o.toNat, none⟩))) rfl (by rw [hFs28]; rfl)
            exact Does_val (r_load (v := (.int .i64 ((b : Nat) : Int))) e130 flat3 (Chg.cell (Ext.trans E (X0.trans X)) (fun f => f) (hbcl o.toNat _ (natV_get hbb)))) (Ext.refl _) rfl
          refine DagSteps.cons (fun s' w' X U H => Or.inl ⟨?_, ?_⟩) ?_
          · exact Guarded_some rfl rfl (d := 125) (H 16 rfl 125 (.eq (.bool false)) rfl (by rw [hFs28]; rfl))
          · exact Does_val (r_fieldAddr (b := bt) (o := 0) (o' := 1) (U 1 rfl) Try.underlying58 rfl siz3 rfl) (Ext.refl _) rfl
          refine DagSteps.cons (fun s' w' X U H => Or.inl ⟨?_, ?_⟩) ?_
          · exact Guarded_some rfl rfl (d := 125) (H 16 rfl 125 (.eq (.bool false)) rfl (by rw [hFs28]; rfl))
          · have e132 : s' 132 = (.pointer (some ⟨bt, 1, none⟩)) := H 23 rfl 132 (.eq (.pointer (some ⟨bt, 1, none⟩))) rfl (by rw [hFs28]; rfl)
            exact Does_val (r_load (v := (.int .i64 ((t.cols : Nat) : Int))) e132 flat3 (((X0.trans X).keep Bt).cell rfl)) (Ext.refl _) rfl
          refine DagSteps.cons (fun s' w' X U H => Or.inl ⟨?_, ?_⟩) ?_
          · exact Guarded_some rfl rfl (d := 125) (H 16 rfl 125 (.eq (.bool false)) rfl (by rw [hFs28]; rfl))
          · have e131 : s' 131 = (.int .i64 ((b : Nat) : Int)) := H 22 rfl 131 (.eq (.int .i64 ((b : Nat) : Int))) rfl (by rw [hFs28]; rfl)
            have e133 : s' 133 = (.int .i64 ((t.cols : Nat) : Int)) := H 24 rfl 133 (.eq (.int .i64 ((t.cols : Nat) : Int))) rfl (by rw [hFs28]; rfl)
            exact Does_val (r_add (k := .i64) (a := ((b : Nat) : Int)) (b := ((t.cols : Nat) : Int)) (c := ((b : Nat) : Int) + ((t.cols : Nat) : Int)) e131 e133 (wI64 (by omega))) (Ext.refl _) rfl
          refine DagSteps.cons (fun s' w' X U H => Or.inl ⟨?_, ?_⟩) ?_
          · exact Guarded_some rfl rfl (d := 125) (H 16 rfl 125 (.eq (.bool false)) rfl (by rw [hFs28]; rfl))
          · have e126 : s' 126 = (.int .i64 ((i : Nat) : Int)) := H 17 rfl 126 (.eq (.int .i64 ((i : Nat) : Int))) rfl (by rw [hFs28]; rfl)
            have e134 : s' 134 = (.int .i64 (((b : Nat) : Int) + ((t.cols : Nat) : Int))) := H 25 rfl 134 (.eq (.int .i64 (((b : Nat) : Int) + ((t.cols : Nat) : Int)))) rfl (by rw [hFs28]; rfl)
            exact Does_val (Eq.trans (r_geq (k := .i64) (a := ((i : Nat) : Int)) (b := ((b : Nat) : Int) + ((t.cols : Nat) : Int)) e126 e134) (by rw [k16])) (Ext.refl _) rfl
          refine DagSteps.cons (fun s' w' X U H => Or.inl ⟨?_, ?_⟩) ?_
          · exact Guarded_some rfl rfl (d := 117) (H 8 rfl 117 (.eq (.bool true)) rfl (by rw [hFs28]; rfl))
          · have e125 : s' 125 = (.bool false) := H 16 rfl 125 (.eq (.bool false)) rfl (by rw [hFs28]; rfl)
            have e135 : s' 135 = (.bool false) := H 26 rfl 135 (.eq (.bool false)) rfl (by rw [hFs28]; rfl)
            exact Does_val (r_pick (b := false) (v := (.bool false)) e125 e135) (Ext.refl _) rfl
          refine DagSteps.cons (fun s' w' X U H => Or.inl ⟨?_, ?_⟩) ?_
          · exact Guarded_some rfl rfl (d := 114) (H 5 rfl 114 (.eq (.bool false)) rfl (by rw [hFs28]; rfl))
          · have e117 : s' 117 = (.bool true) := H 8 rfl 117 (.eq (.bool true)) rfl (by rw [hFs28]; rfl)
            have e136 : s' 136 = (.bool false) := H 27 rfl 136 (.eq (.bool false)) rfl (by rw [hFs28]; rfl)
            exact Does_val (r_pick (b := true) (v := (.bool false)) e117 e136) (Ext.refl _) rfl
          refine DagSteps.cons (fun s' w' X U H => Or.inl ⟨?_, ?_⟩) ?_
          · exact Guarded_none rfl
          · have e114 : s' 114 = (.bool false) := H 5 rfl 114 (.eq (.bool false)) rfl (by rw [hFs28]; rfl)
            have e137 : s' 137 = (.bool false) := H 28 rfl 137 (.eq (.bool false)) rfl (by rw [hFs28]; rfl)
            exact Does_val (r_pick (b := false) (v := (.bool false)) e114 e137) (Ext.refl _) rfl
          exact DagSteps.nil
        · intro s' w28 X28 U H
          obtain ⟨j28, rfl⟩ := Fits.out (σ := s') (l := [(1, (.pointer (some ⟨bt, 0, none⟩))), (3, (.int .i64 ((t.bs.length : Nat) : Int))), (81, (.slice (some ⟨ob, oo, none⟩) t.ow.length oc)), (82, (.int .i64 ((t.ow.length : Nat) : Int))), (83, (.int .i64 ((i : Nat) : Int))), (138, (.bool false))]) ⟨U 1 rfl, U 3 rfl, U 81 rfl, U 82 rfl, U 83 rfl, (show s' 138 = (.bool false) from H 29 138 (.eq (.bool false)) rfl (by rw [hFs28]; rfl)), trivial⟩
          clear U H
          replace Bt := X28.keep Bt
          replace E := E.ext X28
          refine thn_normal ?_
          refine Wp_cond_false rfl ?_
          refine Wp_skip ?_
          refine inB_normal ?_
          refine thn_normal ?_
          refine Wp_region ?_
          refine WpL_val rfl rfl (by decide) (r_add (k := .i64) (a := ((i : Nat) : Int)) (b := 1) (c := ((i : Nat) : Int) + 1) rfl rfl (wI64 (by omega))) ?_
          refine WpL_val rfl rfl (by decide) (r_move (v := (.int .i64 (((i : Nat) : Int) + 1))) rfl) ?_
          refine WpL_nil ?_
          refine thn_normal ?_
          exact ⟨t.ow.length - (i + 1), by omega, i + 1, Fits.out ⟨rfl, rfl, rfl, rfl, rfl, trivial⟩, E, Bt, (by omega), rfl⟩
    · have khlt := hlt
      replace hlt := of_decide_eq_false hlt
      refine Wp_exit ?_
      refine thn_exit ?_
      refine thn_exit ?_
      refine inB_here ?_
      refine thn_normal ?_
      refine Wp_seq_region ?_
      refine WpL_val rfl rfl (by decide) (r_assign (v := (.int .i64 0)) rfl) ?_
      refine WpL_nil ?_
      refine Wp_ret ?_
      refine fin_tmp Try.results44 (v := (.int .i64 0)) rfl ?_
      exact ⟨rfl, E⟩
theorem at_c (w0 : World) (t : Tab) (vs : List Value) (s c b : Nat) (h : TabAt w0 t vs) (hb : t.bs[s]? = some b) (hlen : t.nx.length = t.ow.length) (hsm : b + c ≤ 1000000) :
    Ret Try.prog 82 #[.agg vs.toArray, .int .i64 ((s : Nat) : Int), .int .i64 ((c : Nat) : Int)] w0 fun r w => r = .int .i64 (atT t.ow t.nx t.bs s c) ∧ Ext w0 w := by
  obtain ⟨aa, ac, ba, bc, oa, oc, na, nc, rfl, ha, hbs, ho, hn⟩ := h
  have hsl := lt_of_get hb
  have hol : t.ow.length ≤ 9223372036854775807 := by simpa using SlAt.le ho
  have hbl : t.bs.length ≤ 9223372036854775807 := by simpa [natV] using SlAt.le hbs
  obtain ⟨bb, bo, rfl, hbcl⟩ := ints_cells hbs (by omega)
  have hat : atT t.ow t.nx t.bs s c = if t.ow[b + c]? = some ((s : Nat) : Int) then t.nx.getD (b + c) (-1) else -1 := by unfold atT; rw [hb]
  rcases Nat.lt_or_ge (b + c) t.ow.length with hlt | hge
  · obtain ⟨o, hoo⟩ := get_of_lt hlt
    obtain ⟨x, hxx⟩ := get_of_lt (l := t.nx) (i := b + c) (by omega)
    obtain ⟨ob, oo, rfl, hocl⟩ := ints_cells ho (by omega)
    obtain ⟨nb, no, rfl, hncl⟩ := ints_cells hn (by omega)
    refine Ret_of Try.func82 rfl Try.ntmps82 (Nat.le_of_ble_eq_true rfl) ?_
    have E : Chg none1 w0 w0 := Chg.refl _ _
    refine Wp_seq_region ?_
    refine s_box (v := (.agg #[(.int .i64 t.start), (.int .i64 ((t.cols : Nat) : Int)), (.slice aa t.acc.length ac), (.slice (some ⟨bb, bo, none⟩) t.bs.length bc), (.slice (some ⟨ob, oo, none⟩) t.ow.length oc), (.slice (some ⟨nb, no, none⟩) t.nx.length nc)])) (c := #[(.int .i64 t.start), (.int .i64 ((t.cols : Nat) : Int)), (.slice aa t.acc.length ac), (.slice (some ⟨bb, bo, none⟩) t.bs.length bc), (.slice (some ⟨ob, oo, none⟩) t.ow.length oc), (.slice (some ⟨nb, no, none⟩) t.nx.length nc)]) (by decide) rfl rfl ?_
    intro bt wt Nt
    have Ft := Nt.ge E
    replace E := E.ext Nt.ext
    have Bt := Nt.blk
    refine WpL_val rfl rfl (by decide) (r_assign (v := (.int .i64 0)) rfl) ?_
    refine WpL_nil ?_
    refine Wp_seq ?_
    refine Wp_seq_region ?_
    refine WpL_val rfl rfl (by decide) (r_fieldAddr (b := bt) (o := 0) (o' := 3) rfl Try.underlying58 rfl siz22 rfl) ?_
    refine WpL_val rfl rfl (by decide) (r_load (v := (.slice (some ⟨bb, bo, none⟩) t.bs.length bc)) rfl flat22 (Bt.cell rfl)) ?_
    refine WpL_val rfl rfl (by decide) (r_move (v := (.int .i64 ((s : Nat) : Int))) rfl) ?_
    refine WpL_val rfl rfl (by decide) (r_indexSlice (b := bb) (o := bo) (len := t.bs.length) (cap := bc) (i := s) (o' := bo + s) rfl rfl rfl Try.underlying22 siz3 (by omega) (by omega)) ?_
    refine WpL_val rfl rfl (by decide) (r_load (v := (.int .i64 ((b : Nat) : Int))) rfl flat3 (E.cell (fun f => f) (hbcl s _ (natV_get hb)))) ?_
    refine WpL_val rfl rfl (by decide) (r_move (v := (.int .i64 ((c : Nat) : Int))) rfl) ?_
    refine WpL_val rfl rfl (by decide) (r_add (k := .i64) (a := ((b : Nat) : Int)) (b := ((c : Nat) : Int)) (c := (((b + c : Nat) : Nat) : Int)) rfl rfl ((wI64 (by omega)).trans (by omega))) ?_
    refine WpL_val rfl rfl (by decide) (r_assign (v := (.int .i64 (((b + c : Nat) : Nat) : Int))) rfl) ?_
    refine WpL_nil ?_
    refine Wp_seq_region ?_
    refine WpL_val rfl rfl (by decide) (r_move (v := (.int .i64 (((b + c : Nat) : Nat) : Int))) rfl) ?_
    refine WpL_val rfl rfl (by decide) (r_fieldAddr (b := bt) (o := 0) (o' := 4) rfl Try.underlying58 rfl siz22 rfl) ?_
    refine WpL_val rfl rfl (by decide) (r_load (v := (.slice (some ⟨ob, oo, none⟩) t.ow.length oc)) rfl flat22 (Bt.cell rfl)) ?_
    refine WpL_val rfl rfl (by decide) (r_lenSlice (ad := some ⟨ob, oo, none⟩) (n := t.ow.length) (cap := oc) Try.underlying22 rfl) ?_
    refine WpL_val rfl rfl (by decide) (r_lss (k := .i64) (a := (((b + c : Nat) : Nat) : Int)) (b := ((t.ow.length : Nat) : Int)) rfl rfl) ?_
    refine WpL_val rfl rfl (by decide) (r_move (v := (.bool (decide (((((b + c : Nat) : Nat) : Int) : Int) < ((t.ow.length : Nat) : Int))))) rfl) ?_
    have hg1 : (decide (((((b + c : Nat) : Nat) : Int) : Int) < ((t.ow.length : Nat) : Int))) = true := decide_eq_true (by omega)
    refine WpL_guard_yes (oj := _) rfl rfl (by decide) (congrArg Value.bool hg1) ?_
    refine WpL_val rfl rfl (by decide) (r_fieldAddr (b := bt) (o := 0) (o' := 4) rfl Try.underlying58 rfl siz22 rfl) ?_
    refine WpL_guard_yes (oj := _) rfl rfl (by decide) (congrArg Value.bool hg1) ?_
    refine WpL_val rfl rfl (by decide) (r_load (v := (.slice (some ⟨ob, oo, none⟩) t.ow.length oc)) rfl flat22 (Bt.cell rfl)) ?_
    refine WpL_guard_yes (oj := _) rfl rfl (by decide) (congrArg Value.bool hg1) ?_
    refine WpL_val rfl rfl (by decide) (r_move (v := (.int .i64 (((b + c : Nat) : Nat) : Int))) rfl) ?_
    refine WpL_guard_yes (oj := _) rfl rfl (by decide) (congrArg Value.bool hg1) ?_
    refine WpL_val rfl rfl (by decide) (r_indexSlice (b := ob) (o := oo) (len := t.ow.length) (cap := oc) (i := (b + c : Nat)) (o' := oo + (b + c : Nat)) rfl rfl rfl Try.underlying22 siz3 (by omega) (by omega)) ?_
    refine WpL_guard_yes (oj := _) rfl rfl (by decide) (congrArg Value.bool hg1) ?_
    refine WpL_val rfl rfl (by decide) (r_load (v := (.int .i64 o)) rfl flat3 (E.cell (fun f => f) (hocl (b + c) o hoo))) ?_
    refine WpL_guard_yes (oj := _) rfl rfl (by decide) (congrArg Value.bool hg1) ?_
    refine WpL_val rfl rfl (by decide) (r_move (v := (.int .i64 ((s : Nat) : Int))) rfl) ?_
    refine WpL_guard_yes (oj := _) rfl rfl (by decide) (congrArg Value.bool hg1) ?_
    refine WpL_val rfl rfl (by decide) (r_eql (k := .i64) (a := o) (b := ((s : Nat) : Int)) rfl rfl) ?_
    refine WpL_val rfl rfl (by decide) (r_pick (b := decide (((((b + c : Nat) : Nat) : Int) : Int) < ((t.ow.length : Nat) : Int))) (v := (.bool (decide ((o : Int) = ((s : Nat) : Int))))) rfl (by rw [hg1]; rfl)) ?_
    refine WpL_nil ?_
    refine Wp_cond (b := decide ((o : Int) = ((s : Nat) : Int))) rfl (fun he => ?_) (fun he => ?_)
    · have khe := he
      replace he := of_decide_eq_true he
      refine Wp_seq_region ?_
      refine WpL_val rfl rfl (by decide) (r_fieldAddr (b := bt) (o := 0) (o' := 5) rfl Try.underlying58 rfl siz22 rfl) ?_
      refine WpL_val rfl rfl (by decide) (r_load (v := (.slice (some ⟨nb, no, none⟩) t.nx.length nc)) rfl flat22 (Bt.cell rfl)) ?_
      refine WpL_val rfl rfl (by decide) (r_move (v := (.int .i64 (((b + c : Nat) : Nat) : Int))) rfl) ?_
      refine WpL_val rfl rfl (by decide) (r_indexSlice (b := nb) (o := no) (len := t.nx.length) (cap := nc) (i := (b + c : Nat)) (o' := no + (b + c : Nat)) rfl rfl rfl Try.underlying22 siz3 (by omega) (by omega)) ?_
      refine WpL_val rfl rfl (by decide) (r_load (v := (.int .i64 x)) rfl flat3 (E.cell (fun f => f) (hncl (b + c) x hxx))) ?_
      refine WpL_val rfl rfl (by decide) (r_assign (v := (.int .i64 x)) rfl) ?_
      refine WpL_nil ?_
      refine Wp_ret ?_
      refine thn_ret ?_
      refine fin_tmp Try.results82 (v := (.int .i64 x)) rfl ?_
      exact ⟨int_eq (by rw [hat, if_pos (by rw [hoo, he]), List.getD_eq_getElem?_getD, hxx]; rfl), E⟩
    · have khe := he
      replace he := of_decide_eq_false he
      refine Wp_skip ?_
      refine thn_normal ?_
      refine Wp_seq_region ?_
      refine WpL_val rfl rfl (by decide) (r_assign (v := (.int .i64 (-1))) rfl) ?_
      refine WpL_nil ?_
      refine Wp_ret ?_
      refine fin_tmp Try.results82 (v := (.int .i64 (-1))) rfl ?_
      exact ⟨int_eq (by rw [hat, if_neg (by rw [hoo]; simpa using he)]), E⟩
  · skip
    refine Ret_of Try.func82 rfl Try.ntmps82 (Nat.le_of_ble_eq_true rfl) ?_
    have E : Chg none1 w0 w0 := Chg.refl _ _
    refine Wp_seq_region ?_
    refine s_box (v := (.agg #[(.int .i64 t.start), (.int .i64 ((t.cols : Nat) : Int)), (.slice aa t.acc.length ac), (.slice (some ⟨bb, bo, none⟩) t.bs.length bc), (.slice oa t.ow.length oc), (.slice na t.nx.length nc)])) (c := #[(.int .i64 t.start), (.int .i64 ((t.cols : Nat) : Int)), (.slice aa t.acc.length ac), (.slice (some ⟨bb, bo, none⟩) t.bs.length bc), (.slice oa t.ow.length oc), (.slice na t.nx.length nc)]) (by decide) rfl rfl ?_
    intro bt wt Nt
    have Ft := Nt.ge E
    replace E := E.ext Nt.ext
    have Bt := Nt.blk
    refine WpL_val rfl rfl (by decide) (r_assign (v := (.int .i64 0)) rfl) ?_
    refine WpL_nil ?_
    refine Wp_seq ?_
    refine Wp_seq_region ?_
    refine WpL_val rfl rfl (by decide) (r_fieldAddr (b := bt) (o := 0) (o' := 3) rfl Try.underlying58 rfl siz22 rfl) ?_
    refine WpL_val rfl rfl (by decide) (r_load (v := (.slice (some ⟨bb, bo, none⟩) t.bs.length bc)) rfl flat22 (Bt.cell rfl)) ?_
    refine WpL_val rfl rfl (by decide) (r_move (v := (.int .i64 ((s : Nat) : Int))) rfl) ?_
    refine WpL_val rfl rfl (by decide) (r_indexSlice (b := bb) (o := bo) (len := t.bs.length) (cap := bc) (i := s) (o' := bo + s) rfl rfl rfl Try.underlying22 siz3 (by omega) (by omega)) ?_
    refine WpL_val rfl rfl (by decide) (r_load (v := (.int .i64 ((b : Nat) : Int))) rfl flat3 (E.cell (fun f => f) (hbcl s _ (natV_get hb)))) ?_
    refine WpL_val rfl rfl (by decide) (r_move (v := (.int .i64 ((c : Nat) : Int))) rfl) ?_
    refine WpL_val rfl rfl (by decide) (r_add (k := .i64) (a := ((b : Nat) : Int)) (b := ((c : Nat) : Int)) (c := (((b + c : Nat) : Nat) : Int)) rfl rfl ((wI64 (by omega)).trans (by omega))) ?_
    refine WpL_val rfl rfl (by decide) (r_assign (v := (.int .i64 (((b + c : Nat) : Nat) : Int))) rfl) ?_
    refine WpL_nil ?_
    refine Wp_seq_region ?_
    refine WpL_val rfl rfl (by decide) (r_move (v := (.int .i64 (((b + c : Nat) : Nat) : Int))) rfl) ?_
    refine WpL_val rfl rfl (by decide) (r_fieldAddr (b := bt) (o := 0) (o' := 4) rfl Try.underlying58 rfl siz22 rfl) ?_
    refine WpL_val rfl rfl (by decide) (r_load (v := (.slice oa t.ow.length oc)) rfl flat22 (Bt.cell rfl)) ?_
    refine WpL_val rfl rfl (by decide) (r_lenSlice (ad := oa) (n := t.ow.length) (cap := oc) Try.underlying22 rfl) ?_
    refine WpL_val rfl rfl (by decide) (r_lss (k := .i64) (a := (((b + c : Nat) : Nat) : Int)) (b := ((t.ow.length : Nat) : Int)) rfl rfl) ?_
    refine WpL_val rfl rfl (by decide) (r_move (v := (.bool (decide (((((b + c : Nat) : Nat) : Int) : Int) < ((t.ow.length : Nat) : Int))))) rfl) ?_
    have hg1 : (decide (((((b + c : Nat) : Nat) : Int) : Int) < ((t.ow.length : Nat) : Int))) = false := decide_eq_false (by omega)
    refine WpL_guard_no (oj := _) rfl rfl (by decide) (v := .bool false) (congrArg Value.bool hg1) (Or.inl rfl) ?_
    refine WpL_guard_no (oj := _) rfl rfl (by decide) (v := .bool false) (congrArg Value.bool hg1) (Or.inl rfl) ?_
    refine WpL_guard_no (oj := _) rfl rfl (by decide) (v := .bool false) (congrArg Value.bool hg1) (Or.inl rfl) ?_
    refine WpL_guard_no (oj := _) rfl rfl (by decide) (v := .bool false) (congrArg Value.bool hg1) (Or.inl rfl) ?_
    refine WpL_guard_no (oj := _) rfl rfl (by decide) (v := .bool false) (congrArg Value.bool hg1) (Or.inl rfl) ?_
    refine WpL_guard_no (oj := _) rfl rfl (by decide) (v := .bool false) (congrArg Value.bool hg1) (Or.inl rfl) ?_
    refine WpL_guard_no (oj := _) rfl rfl (by decide) (v := .bool false) (congrArg Value.bool hg1) (Or.inl rfl) ?_
    refine WpL_val rfl rfl (by decide) (r_pick (b := decide (((((b + c : Nat) : Nat) : Int) : Int) < ((t.ow.length : Nat) : Int))) (v := (.bool false)) rfl (by rw [hg1]; rfl)) ?_
    refine WpL_nil ?_
    refine Wp_cond_false rfl ?_
    refine Wp_skip ?_
    refine thn_normal ?_
    refine Wp_seq_region ?_
    refine WpL_val rfl rfl (by decide) (r_assign (v := (.int .i64 (-1))) rfl) ?_
    refine WpL_nil ?_
    refine Wp_ret ?_
    refine fin_tmp Try.results82 (v := (.int .i64 (-1))) rfl ?_
    exact ⟨int_eq (by rw [hat, if_neg (by rw [List.getElem?_eq_none hge]; simp)]), E⟩
end Go.Proofs
namespace Go.Proofs
open Go Go.Eng
set_option maxRecDepth 100000
theorem TabAt.owner {w : World} {t : Tab} {x0 x1 va vb vo vn : Value} (h : TabAt w t [x0, x1, va, vb, vo, vn]) : IntsAt w vo t.ow := by
  obtain ⟨aa, ac, ba, bc, oa, oc, na, nc, h1, h2, h3, h4, h5⟩ := h
  simp only [List.cons.injEq] at h1
  rw [h1.2.2.2.2.1]; exact h4
end Go.Proofs
namespace Go.Proofs
open Go Go.Eng
set_option maxRecDepth 100000
set_option maxHeartbeats 4000000 in
theorem swapRange_c (w0 : World) (g c n T : Nat) (l : List Int) (rest : List Value) (fv : Value) (a b k : Nat) (hB : Blk w0 g (l.map (Value.int .i64) ++ rest).toArray T) (hn : l.length = n) (hab : a + k ≤ b) (hbn : b + k ≤ n) (hsz : n ≤ 1000000) :
    Ret Try.prog 128 #[.slice (some ⟨g, 0, none⟩) n c, .int .i64 ((a : Nat) : Int), .int .i64 ((b : Nat) : Int), .int .i64 ((k : Nat) : Int), fv] w0 fun _ w => ∃ l', List.Perm l' l ∧ Blk w g (l'.map (Value.int .i64) ++ rest).toArray T ∧ Chg (fun q => q = g) w0 w := by
  refine Ret_of Try.func128 rfl Try.ntmps128 (Nat.le_of_ble_eq_true rfl) ?_
  have E : Chg (fun q => q = g) w0 w0 := Chg.refl _ _
  refine Wp_seq_region ?_
  refine WpL_val rfl rfl (by decide) (r_assign (v := (.int .i64 0)) rfl) ?_
  refine WpL_nil ?_
  refine Wp_block ?_
  refine Wp_loop (fun nn_ σ W1 => ∃ (i : Nat) (cu : List Int), (∃ jj_, σ = upds jj_ [(0, (.slice (some ⟨g, 0, none⟩) n c)), (1, (.int .i64 ((a : Nat) : Int))), (2, (.int .i64 ((b : Nat) : Int))), (3, (.int .i64 ((k : Nat) : Int))), (10, (.int .i64 ((i : Nat) : Int)))]) ∧ Chg (fun q => q = g) w0 W1 ∧ Blk W1 g ((cu.map (Value.int .i64) ++ rest).toArray) T ∧ (i ≤ k) ∧ (List.Perm cu l) ∧ nn_ = k - i) (n := k - 0) ?_ ?_
  · exact ⟨0, l, Fits.out ⟨rfl, rfl, rfl, rfl, rfl, trivial⟩, E, hB, Nat.zero_le _, List.Perm.refl _, rfl⟩
  · clear E hB
    rintro _ _ W1 ⟨i, cu, ⟨j1, rfl⟩, E, hB, hi, hp, rfl⟩
    refine Wp_seq ?_
    refine Wp_seq_region ?_
    refine WpL_val rfl rfl (by decide) (r_move (v := (.int .i64 ((i : Nat) : Int))) rfl) ?_
    refine WpL_val rfl rfl (by decide) (r_move (v := (.int .i64 ((k : Nat) : Int))) rfl) ?_
    refine WpL_val rfl rfl (by decide) (r_lss (k := .i64) (a := ((i : Nat) : Int)) (b := ((k : Nat) : Int)) rfl rfl) ?_
    refine WpL_nil ?_
    refine Wp_cond (b := decide ((((i : Nat) : Int) : Int) < ((k : Nat) : Int))) rfl (fun hlt => ?_) (fun hlt => ?_)
    · have khlt := hlt
      replace hlt := of_decide_eq_true hlt
      have hcl : cu.length = n := by rw [hp.length_eq, hn]
      obtain ⟨x, hx⟩ := get_of_lt (l := cu) (i := a + i) (by omega)
      obtain ⟨y, hy⟩ := get_of_lt (l := cu) (i := b + i) (by omega)
      refine Wp_skip ?_
      refine thn_normal ?_
      refine Wp_seq ?_
      refine Wp_block ?_
      obtain ⟨Fs3, hFs3⟩ : ∃ Fs : List (FactT ((fun q => q = g))), Fs = [.eq (.slice (some ⟨g, 0, none⟩) n c), .eq (.int .i64 ((a : Nat) : Int)), .eq (.int .i64 ((i : Nat) : Int)), .eq (.int .i64 (((a : Nat) : Int) + ((i : Nat) : Int))), .eq (.slice (some ⟨g, 0, none⟩) n c), .eq (.int .i64 ((b : Nat) : Int)), .eq (.int .i64 ((i : Nat) : Int)), .eq (.int .i64 (((b : Nat) : Int) + ((i : Nat) : Int))), .eq (.slice (some ⟨g, 0, none⟩) n c), .eq (.int .i64 ((b : Nat) : Int)), .eq (.int .i64 ((i : Nat) : Int)), .eq (.int .i64 (((b : Nat) : Int) + ((i : Nat) : Int))), .eq (.pointer (some ⟨g, 0 + (b + i), none⟩)), .eq (.int .i64 y), .eq (.slice (some ⟨g, 0, none⟩) n c), .eq (.int .i64 ((a : Nat) : Int)), .eq (.int .i64 ((i : Nat) : Int)), .eq (.int .i64 (((a : Nat) : Int) + ((i : Nat) : Int))), .eq (.pointer (some ⟨g, 0 + (a + i), none⟩)), .eq (.int .i64 x), .eq (.pointer (some ⟨g, 0 + (a + i), none⟩)), .own (fun _ w => Blk w g ((cu.set (a + i) y).map (Value.int .i64) ++ rest).toArray T) (fun _ _ _ e h => Ext.keep e h)] := ⟨_, rfl⟩
      refine Wp_dagT ((fun q => q = g)) 22 21 [16, 17, 18, 19, 20, 21, 22, 23, 24, 25, 26, 27, 28, 29, 30, 31, 32, 33, 34, 35, 36, 59] [[], [], [], [1, 2], [], [], [], [5, 6], [], [], [], [9, 10], [8, 11], [12], [], [], [], [15, 16], [14, 17], [18], [0, 1, 2, 3, 8, 9, 10, 11, 12, 13, 19], [0, 1, 2, 3, 8, 9, 10, 11, 12, 13, 19, 20]] Fs3 hFs3 rfl mixed (by kernel_rfl) (by kernel_rfl) (by kernel_rfl) ?_ ?_
      · intro wd X0
        refine DagStepsT.cons (fun s' w' X U H => ?_) ?_
        · exact DoesT_val (r_move (v := (.slice (some ⟨g, 0, none⟩) n c)) (U 0 rfl)) (Chg.refl _ _) rfl
        refine DagStepsT.cons (fun s' w' X U H => ?_) ?_
        · exact DoesT_val (r_move (v := (.int .i64 ((a : Nat) : Int))) (U 1 rfl)) (Chg.refl _ _) rfl
        refine DagStepsT.cons (fun s' w' X U H => ?_) ?_
        · exact DoesT_val (r_move (v := (.int .i64 ((i : Nat) : Int))) (U 10 rfl)) (Chg.refl _ _) rfl
        refine DagStepsT.cons (fun s' w' X U H => ?_) ?_
        · have e17 : s' 17 = (.int .i64 ((a : Nat) : Int)) := H 1 rfl 17 (.eq (.int .i64 ((a : Nat) : Int))) rfl (by rw [hFs3]; rfl)
          have e18 : s' 18 = (.int .i64 ((i : Nat) : Int)) := H 2 rfl 18 (.eq (.int .i64 ((i : Nat) : Int))) rfl (by rw [hFs3]; rfl)
          exact DoesT_val (r_add (k := .i64) (a := ((a : Nat) : Int)) (b := ((i : Nat) : Int)) (c := ((a : Nat) : Int) + ((i : Nat) : Int)) e17 e18 (wI64 (by omega))) (Chg.refl _ _) rfl
        refine DagStepsT.cons (fun s' w' X U H => ?_) ?_
        · exact DoesT_val (r_move (v := (.slice (some ⟨g, 0, none⟩) n c)) (U 0 rfl)) (Chg.refl _ _) rfl
        refine DagStepsT.cons (fun s' w' X U H => ?_) ?_
        · exact DoesT_val (r_move (v := (.int .i64 ((b : Nat) : Int))) (U 2 rfl)) (Chg.refl _ _) rfl
        refine DagStepsT.cons (fun s' w' X U H => ?_) ?_
        · exact DoesT_val (r_move (v := (.int .i64 ((i : Nat) : Int))) (U 10 rfl)) (Chg.refl _ _) rfl
        refine DagStepsT.cons (fun s' w' X U H => ?_) ?_
        · have e21 : s' 21 = (.int .i64 ((b : Nat) : Int)) := H 5 rfl 21 (.eq (.int .i64 ((b : Nat) : Int))) rfl (by rw [hFs3]; rfl)
          have e22 : s' 22 = (.int .i64 ((i : Nat) : Int)) := H 6 rfl 22 (.eq (.int .i64 ((i : Nat) : Int))) rfl (by rw [hFs3]; rfl)
          exact DoesT_val (r_add (k := .i64) (a := ((b : Nat) : Int)) (b := ((i : Nat) : Int)) (c := ((b : Nat) : Int) + ((i : Nat) : Int)) e21 e22 (wI64 (by omega))) (Chg.refl _ _) rfl
        refine DagStepsT.cons (fun s' w' X U H => ?_) ?_
        · exact DoesT_val (r_move (v := (.slice (some ⟨g, 0, none⟩) n c)) (U 0 rfl)) (Chg.refl _ _) rfl
        refine DagStepsT.cons (fun s' w' X U H => ?_) ?_
        · exact DoesT_val (r_move (v := (.int .i64 ((b : Nat) : Int))) (U 2 rfl)) (Chg.refl _ _) rfl
        refine DagStepsT.cons (fun s' w' X U H => ?_) ?_
        · exact DoesT_val (r_move (v := (.int .i64 ((i : Nat) : Int))) (U 10 rfl)) (Chg.refl _ _) rfl
        refine DagStepsT.cons (fun s' w' X U H => ?_) ?_
        · have e25 : s' 25 = (.int .i64 ((b : Nat) : Int)) := H 9 rfl 25 (.eq (.int .i64 ((b : Nat) : Int))) rfl (by rw [hFs3]; rfl)
          have e26 : s' 26 = (.int .i64 ((i : Nat) : Int)) := H 10 rfl 26 (.eq (.int .i64 ((i : Nat) : Int))) rfl (by rw [hFs3]; rfl)
          exact DoesT_val (r_add (k := .i64) (a := ((b : Nat) : Int)) (b := ((i : Nat) : Int)) (c := ((b : Nat) : Int) + ((i : Nat) : Int)) e25 e26 (wI64 (by omega))) (Chg.refl _ _) rfl
        refine DagStepsT.cons (fun s' w' X U H => ?_) ?_
        · have e24 : s' 24 = (.slice (some ⟨g, 0, none⟩) n c) := H 8 rfl 24 (.eq (.slice (some ⟨g, 0, none⟩) n c)) rfl (by rw [hFs3]; rfl)
          have e27 : s' 27 = (.int .i64 (((b : Nat) : Int) + ((i : Nat) : Int))) := H 11 rfl 27 (.eq (.int .i64 (((b : Nat) : Int) + ((i : Nat) : Int)))) rfl (by rw [hFs3]; rfl)
          exact DoesT_val (r_indexSlice (b := g) (o := 0) (len := n) (cap := c) (i := b + i) (o' := 0 + (b + i)) e24 e27 (by omega) Try.underlying22 siz3 (by omega) (by omega)) (Chg.refl _ _) rfl
        refine DagStepsT.cons (fun s' w' X U H => ?_) ?_
        · have e28 : s' 28 = (.pointer (some ⟨g, 0 + (b + i), none⟩)) := H 12 rfl 28 (.eq (.pointer (some ⟨g, 0 + (b + i), none⟩))) rfl (by rw [hFs3]; rfl)
          exact DoesT_val (r_load (v := (.int .i64 y)) e28 flat3 (by rw [Nat.zero_add]; exact (Chg.keep X (fun f => f) (X0.keep hB) |> fun h => ints_get h hy))) (Chg.refl _ _) rfl
        refine DagStepsT.cons (fun s' w' X U H => ?_) ?_
        · exact DoesT_val (r_move (v := (.slice (some ⟨g, 0, none⟩) n c)) (U 0 rfl)) (Chg.refl _ _) rfl
        refine DagStepsT.cons (fun s' w' X U H => ?_) ?_
        · exact DoesT_val (r_move (v := (.int .i64 ((a : Nat) : Int))) (U 1 rfl)) (Chg.refl _ _) rfl
        refine DagStepsT.cons (fun s' w' X U H => ?_) ?_
        · exact DoesT_val (r_move (v := (.int .i64 ((i : Nat) : Int))) (U 10 rfl)) (Chg.refl _ _) rfl
        refine DagStepsT.cons (fun s' w' X U H => ?_) ?_
        · have e31 : s' 31 = (.int .i64 ((a : Nat) : Int)) := H 15 rfl 31 (.eq (.int .i64 ((a : Nat) : Int))) rfl (by rw [hFs3]; rfl)
          have e32 : s' 32 = (.int .i64 ((i : Nat) : Int)) := H 16 rfl 32 (.eq (.int .i64 ((i : Nat) : Int))) rfl (by rw [hFs3]; rfl)
          exact DoesT_val (r_add (k := .i64) (a := ((a : Nat) : Int)) (b := ((i : Nat) : Int)) (c := ((a : Nat) : Int) + ((i : Nat) : Int)) e31 e32 (wI64 (by omega))) (Chg.refl _ _) rfl
        refine DagStepsT.cons (fun s' w' X U H => ?_) ?_
        · have e30 : s' 30 = (.slice (some ⟨g, 0, none⟩) n c) := H 14 rfl 30 (.eq (.slice (some ⟨g, 0, none⟩) n c)) rfl (by rw [hFs3]; rfl)
          have e33 : s' 33 = (.int .i64 (((a : Nat) : Int) + ((i : Nat) : Int))) := H 17 rfl 33 (.eq (.int .i64 (((a : Nat) : Int) + ((i : Nat) : Int)))) rfl (by rw [hFs3]; rfl)
          exact DoesT_val (r_indexSlice (b := g) (o := 0) (len := n) (cap := c) (i := a + i) (o' := 0 + (a + i)) e30 e33 (by omega) Try.underlying22 siz3 (by omega) (by omega)) (Chg.refl _ _) rfl
        refine DagStepsT.cons (fun s' w' X U H => ?_) ?_
        · have e34 : s' 34 = (.pointer (some ⟨g, 0 + (a + i), none⟩)) := H 18 rfl 34 (.eq (.pointer (some ⟨g, 0 + (a + i), none⟩))) rfl (by rw [hFs3]; rfl)
          exact DoesT_val (r_load (v := (.int .i64 x)) e34 flat3 (by rw [Nat.zero_add]; exact (Chg.keep X (fun f => f) (X0.keep hB) |> fun h => ints_get h hx))) (Chg.refl _ _) rfl
        refine DagStepsT.cons (fun s' w' X U H => ?_) ?_
        · have e16 : s' 16 = (.slice (some ⟨g, 0, none⟩) n c) := H 0 rfl 16 (.eq (.slice (some ⟨g, 0, none⟩) n c)) rfl (by rw [hFs3]; rfl)
          have e19 : s' 19 = (.int .i64 (((a : Nat) : Int) + ((i : Nat) : Int))) := H 3 rfl 19 (.eq (.int .i64 (((a : Nat) : Int) + ((i : Nat) : Int)))) rfl (by rw [hFs3]; rfl)
          exact DoesT_val (r_indexSlice (b := g) (o := 0) (len := n) (cap := c) (i := a + i) (o' := 0 + (a + i)) e16 e19 (by omega) Try.underlying22 siz3 (by omega) (by omega)) (Chg.refl _ _) rfl
        refine DagStepsT.cons (fun s' w' X U H => ?_) ?_
        · have e36 : s' 36 = (.pointer (some ⟨g, 0 + (a + i), none⟩)) := H 20 rfl 36 (.eq (.pointer (some ⟨g, 0 + (a + i), none⟩))) rfl (by rw [hFs3]; rfl)
          have e29 : s' 29 = (.int .i64 y) := H 13 rfl 29 (.eq (.int .i64 y)) rfl (by rw [hFs3]; rfl)
          exact DoesT_store e36 e29 rfl siz3 (Chg.keep X (fun f => f) (X0.keep hB)) (by simp; omega) rfl (fun w9 h => by have h2 := h.blk; rw [Nat.zero_add, ints_set (by omega) y] at h2; exact h2)
        exact DagStepsT.nil
      · intro s' wd3 w3 X0 X3 U H
        have e20 : s' 20 = (.slice (some ⟨g, 0, none⟩) n c) := H 4 20 (.eq (.slice (some ⟨g, 0, none⟩) n c)) rfl (by rw [hFs3]; rfl)
        have e23 : s' 23 = (.int .i64 (((b : Nat) : Int) + ((i : Nat) : Int))) := H 7 23 (.eq (.int .i64 (((b : Nat) : Int) + ((i : Nat) : Int)))) rfl (by rw [hFs3]; rfl)
        have e35 : s' 35 = (.int .i64 x) := H 19 35 (.eq (.int .i64 x)) rfl (by rw [hFs3]; rfl)
        obtain hB := (show (.own (fun _ w => Blk w g ((cu.set (a + i) y).map (Value.int .i64) ++ rest).toArray T) (fun _ _ _ e h => Ext.keep e h) : FactT ((fun q => q = g))).In (s' 59) w3 from H 21 59 (.own (fun _ w => Blk w g ((cu.set (a + i) y).map (Value.int .i64) ++ rest).toArray T) (fun _ _ _ e h => Ext.keep e h)) rfl (by rw [hFs3]; rfl))
        obtain ⟨j3, rfl⟩ := Fits.out (σ := s') (l := [(0, (.slice (some ⟨g, 0, none⟩) n c)), (1, (.int .i64 ((a : Nat) : Int))), (2, (.int .i64 ((b : Nat) : Int))), (3, (.int .i64 ((k : Nat) : Int))), (10, (.int .i64 ((i : Nat) : Int))), (20, (.slice (some ⟨g, 0, none⟩) n c)), (23, (.int .i64 (((b : Nat) : Int) + ((i : Nat) : Int)))), (35, (.int .i64 x))]) ⟨U 0 rfl, U 1 rfl, U 2 rfl, U 3 rfl, U 10 rfl, e20, e23, e35, trivial⟩
        clear U H
        replace E := (E.ext X0).step X3 (fun q _ h => h)
        refine WpL_val rfl rfl (by decide) (r_indexSlice (b := g) (o := 0) (len := n) (cap := c) (i := b + i) (o' := 0 + (b + i)) rfl rfl (by omega) Try.underlying22 siz3 (by omega) (by omega)) ?_
        refine s_store (b := g) (o := 0 + (b + i)) (c' := (((cu.set (a + i) y).set (b + i) x).map (Value.int .i64) ++ rest).toArray) (v := (.int .i64 x)) rfl rfl rfl siz3 hB (by simp; omega) (by rw [Nat.zero_add]; exact ints_set (by simp; omega) x) ?_
        intro w4 S4
        replace E := S4.step E (by first | exact Or.inl (by omega) | exact Or.inr rfl | exact Or.inr (by assumption) | exact Or.inr (by simp) | exact Or.inr (by omega) | exact Or.inr (by dsimp only; omega))
        replace hB := S4.blk
        refine WpL_nil ?_
        refine inB_normal ?_
        refine thn_normal ?_
        refine Wp_region ?_
        refine WpL_val rfl rfl (by decide) (r_move (v := (.int .i64 ((i : Nat) : Int))) rfl) ?_
        refine WpL_val rfl rfl (by decide) (r_add (k := .i64) (a := ((i : Nat) : Int)) (b := 1) (c := ((i : Nat) : Int) + 1) rfl rfl (wI64 (by omega))) ?_
        refine WpL_val rfl rfl (by decide) (r_assign (v := (.int .i64 (((i : Nat) : Int) + 1))) rfl) ?_
        refine WpL_nil ?_
        refine thn_normal ?_
        exact ⟨k - (i + 1), by omega, i + 1, (cu.set (a + i) y).set (b + i) x, Fits.out ⟨rfl, rfl, rfl, rfl, rfl, trivial⟩, E, hB, (by omega), (swap_perm hx hy (by omega)).trans hp, rfl⟩
    · have khlt := hlt
      replace hlt := of_decide_eq_false hlt
      refine Wp_exit ?_
      refine thn_exit ?_
      refine thn_exit ?_
      refine inB_here ?_
      refine fin_none Try.results128 ?_
      exact ⟨cu, hp, hB, E⟩
set_option maxHeartbeats 4000000 in
theorem rotate_c (w0 : World) (g c n T : Nat) (l : List Int) (rest : List Value) (fv : Value) (a m b : Nat) (hB : Blk w0 g (l.map (Value.int .i64) ++ rest).toArray T) (hn : l.length = n) (ham : a < m) (hmb : m < b) (hbn : b ≤ n) (hsz : n ≤ 1000000) :
    Ret Try.prog 127 #[.slice (some ⟨g, 0, none⟩) n c, .int .i64 ((a : Nat) : Int), .int .i64 ((m : Nat) : Int), .int .i64 ((b : Nat) : Int), fv] w0 fun _ w => ∃ l', List.Perm l' l ∧ Blk w g (l'.map (Value.int .i64) ++ rest).toArray T ∧ Chg (fun q => q = g) w0 w := by
  refine Ret_of Try.func127 rfl Try.ntmps127 (Nat.le_of_ble_eq_true rfl) ?_
  have E : Chg (fun q => q = g) w0 w0 := Chg.refl _ _
  refine Wp_seq_region ?_
  refine WpL_val rfl rfl (by decide) (r_move (v := (.int .i64 ((m : Nat) : Int))) rfl) ?_
  refine WpL_val rfl rfl (by decide) (r_move (v := (.int .i64 ((a : Nat) : Int))) rfl) ?_
  refine WpL_val rfl rfl (by decide) (r_sub (k := .i64) (a := ((m : Nat) : Int)) (b := ((a : Nat) : Int)) (c := (((m - a : Nat) : Nat) : Int)) rfl rfl ((wI64 (by omega)).trans (by omega))) ?_
  refine WpL_val rfl rfl (by decide) (r_assign (v := (.int .i64 (((m - a : Nat) : Nat) : Int))) rfl) ?_
  refine WpL_nil ?_
  refine Wp_seq_region ?_
  refine WpL_val rfl rfl (by decide) (r_move (v := (.int .i64 ((b : Nat) : Int))) rfl) ?_
  refine WpL_val rfl rfl (by decide) (r_move (v := (.int .i64 ((m : Nat) : Int))) rfl) ?_
  refine WpL_val rfl rfl (by decide) (r_sub (k := .i64) (a := ((b : Nat) : Int)) (b := ((m : Nat) : Int)) (c := (((b - m : Nat) : Nat) : Int)) rfl rfl ((wI64 (by omega)).trans (by omega))) ?_
  refine WpL_val rfl rfl (by decide) (r_assign (v := (.int .i64 (((b - m : Nat) : Nat) : Int))) rfl) ?_
  refine WpL_nil ?_
  refine Wp_seq ?_
  refine Wp_block ?_
  refine Wp_loop (fun nn_ σ W1 => ∃ (i j : Nat) (cu : List Int), (∃ jj_, σ = upds jj_ [(0, (.slice (some ⟨g, 0, none⟩) n c)), (2, (.int .i64 ((m : Nat) : Int))), (4, fv), (10, (.int .i64 ((i : Nat) : Int))), (11, (.int .i64 ((j : Nat) : Int)))]) ∧ Chg (fun q => q = g) w0 W1 ∧ (0 < i ∧ i ≤ m - a) ∧ (0 < j ∧ j ≤ b - m) ∧ (List.Perm cu l) ∧ (Blk W1 g (cu.map (Value.int .i64) ++ rest).toArray T) ∧ nn_ = i + j) (n := (m - a) + (b - m)) ?_ ?_
  · exact ⟨m - a, b - m, l, Fits.out ⟨rfl, rfl, rfl, rfl, rfl, trivial⟩, E, ⟨by omega, by omega⟩, ⟨by omega, by omega⟩, List.Perm.refl _, hB, rfl⟩
  · clear E
    rintro _ _ W1 ⟨i, j, cu, ⟨j1, rfl⟩, E, hi, hj, hp, hG, rfl⟩
    refine Wp_seq ?_
    refine Wp_seq_region ?_
    refine WpL_val rfl rfl (by decide) (r_move (v := (.int .i64 ((i : Nat) : Int))) rfl) ?_
    refine WpL_val rfl rfl (by decide) (r_move (v := (.int .i64 ((j : Nat) : Int))) rfl) ?_
    refine WpL_val rfl rfl (by decide) (r_neq (k := .i64) (a := ((i : Nat) : Int)) (b := ((j : Nat) : Int)) rfl rfl) ?_
    refine WpL_nil ?_
    refine Wp_cond (b := decide ((((i : Nat) : Int) : Int) ≠ ((j : Nat) : Int))) rfl (fun hne => ?_) (fun hne => ?_)
    · have khne := hne
      replace hne := of_decide_eq_true hne
      refine Wp_skip ?_
      refine thn_normal ?_
      refine Wp_block ?_
      refine Wp_seq_region ?_
      refine WpL_val rfl rfl (by decide) (r_move (v := (.int .i64 ((i : Nat) : Int))) rfl) ?_
      refine WpL_val rfl rfl (by decide) (r_move (v := (.int .i64 ((j : Nat) : Int))) rfl) ?_
      refine WpL_val rfl rfl (by decide) (r_gtr (k := .i64) (a := ((i : Nat) : Int)) (b := ((j : Nat) : Int)) rfl rfl) ?_
      refine WpL_nil ?_
      refine Wp_cond (b := decide ((((j : Nat) : Int) : Int) < ((i : Nat) : Int))) rfl (fun hgt => ?_) (fun hgt => ?_)
      · have khgt := hgt
        replace hgt := of_decide_eq_true hgt
        refine Wp_seq_region ?_
        refine WpL_val rfl rfl (by decide) (r_move (v := (.slice (some ⟨g, 0, none⟩) n c)) rfl) ?_
        refine WpL_val rfl rfl (by decide) (r_move (v := (.int .i64 ((m : Nat) : Int))) rfl) ?_
        refine WpL_val rfl rfl (by decide) (r_move (v := (.int .i64 ((i : Nat) : Int))) rfl) ?_
        refine WpL_val rfl rfl (by decide) (r_sub (k := .i64) (a := ((m : Nat) : Int)) (b := ((i : Nat) : Int)) (c := (((m - i : Nat) : Nat) : Int)) rfl rfl ((wI64 (by omega)).trans (by omega))) ?_
        refine WpL_val rfl rfl (by decide) (r_move (v := (.int .i64 ((m : Nat) : Int))) rfl) ?_
        refine WpL_val rfl rfl (by decide) (r_move (v := (.int .i64 ((j : Nat) : Int))) rfl) ?_
        refine WpL_val rfl rfl (by decide) (r_move (v := fv) rfl) ?_
        refine WpL_enter rfl rfl (by decide) (r_callF (vs := [(.slice (some ⟨g, 0, none⟩) n c), (.int .i64 (((m - i : Nat) : Nat) : Int)), (.int .i64 ((m : Nat) : Int)), (.int .i64 ((j : Nat) : Int)), fv]) Try.func128 nm128 bd128 rfl) (swapRange_c _ g c n T cu rest fv (m - i) m j hG (by rw [hp.length_eq, hn]) (by omega) (by omega) hsz) ?_
        rintro _ w9 ⟨l', hp', hG', C9⟩
        replace E := E.step C9 (fun q _ h => h)
        refine WpL_nil ?_
        refine Wp_region ?_
        refine WpL_val rfl rfl (by decide) (r_move (v := (.int .i64 ((i : Nat) : Int))) rfl) ?_
        refine WpL_val rfl rfl (by decide) (r_move (v := (.int .i64 ((j : Nat) : Int))) rfl) ?_
        refine WpL_val rfl rfl (by decide) (r_sub (k := .i64) (a := ((i : Nat) : Int)) (b := ((j : Nat) : Int)) (c := (((i - j : Nat) : Nat) : Int)) rfl rfl ((wI64 (by omega)).trans (by omega))) ?_
        refine WpL_val rfl rfl (by decide) (r_assign (v := (.int .i64 (((i - j : Nat) : Nat) : Int))) rfl) ?_
        refine WpL_nil ?_
        refine inB_normal ?_
        refine thn_normal ?_
        exact ⟨(i - j) + j, by omega, i - j, j, l', Fits.out ⟨rfl, rfl, rfl, rfl, rfl, trivial⟩, E, ⟨by omega, by omega⟩, hj, hp'.trans hp, hG', rfl⟩
      · have khgt := hgt
        replace hgt := of_decide_eq_false hgt
        refine Wp_seq_region ?_
        refine WpL_val rfl rfl (by decide) (r_move (v := (.slice (some ⟨g, 0, none⟩) n c)) rfl) ?_
        refine WpL_val rfl rfl (by decide) (r_move (v := (.int .i64 ((m : Nat) : Int))) rfl) ?_
        refine WpL_val rfl rfl (by decide) (r_move (v := (.int .i64 ((i : Nat) : Int))) rfl) ?_
        refine WpL_val rfl rfl (by decide) (r_sub (k := .i64) (a := ((m : Nat) : Int)) (b := ((i : Nat) : Int)) (c := (((m - i : Nat) : Nat) : Int)) rfl rfl ((wI64 (by omega)).trans (by omega))) ?_
        refine WpL_val rfl rfl (by decide) (r_move (v := (.int .i64 ((m : Nat) : Int))) rfl) ?_
        refine WpL_val rfl rfl (by decide) (r_move (v := (.int .i64 ((j : Nat) : Int))) rfl) ?_
        refine WpL_val rfl rfl (by decide) (r_add (k := .i64) (a := ((m : Nat) : Int)) (b := ((j : Nat) : Int)) (c := (((m + j : Nat) : Nat) : Int)) rfl rfl ((wI64 (by omega)).trans (by omega))) ?_
        refine WpL_val rfl rfl (by decide) (r_move (v := (.int .i64 ((i : Nat) : Int))) rfl) ?_
        refine WpL_val rfl rfl (by decide) (r_sub (k := .i64) (a := (((m + j : Nat) : Nat) : Int)) (b := ((i : Nat) : Int)) (c := (((m + j - i : Nat) : Nat) : Int)) rfl rfl ((wI64 (by omega)).trans (by omega))) ?_
        refine WpL_val rfl rfl (by decide) (r_move (v := (.int .i64 ((i : Nat) : Int))) rfl) ?_
        refine WpL_val rfl rfl (by decide) (r_move (v := fv) rfl) ?_
        refine WpL_enter rfl rfl (by decide) (r_callF (vs := [(.slice (some ⟨g, 0, none⟩) n c), (.int .i64 (((m - i : Nat) : Nat) : Int)), (.int .i64 (((m + j - i : Nat) : Nat) : Int)), (.int .i64 ((i : Nat) : Int)), fv]) Try.func128 nm128 bd128 rfl) (swapRange_c _ g c n T cu rest fv (m - i) (m + j - i) i hG (by rw [hp.length_eq, hn]) (by omega) (by omega) hsz) ?_
        rintro _ w19 ⟨l', hp', hG', C19⟩
        replace E := E.step C19 (fun q _ h => h)
        refine WpL_nil ?_
        refine Wp_region ?_
        refine WpL_val rfl rfl (by decide) (r_move (v := (.int .i64 ((j : Nat) : Int))) rfl) ?_
        refine WpL_val rfl rfl (by decide) (r_move (v := (.int .i64 ((i : Nat) : Int))) rfl) ?_
        refine WpL_val rfl rfl (by decide) (r_sub (k := .i64) (a := ((j : Nat) : Int)) (b := ((i : Nat) : Int)) (c := (((j - i : Nat) : Nat) : Int)) rfl rfl ((wI64 (by omega)).trans (by omega))) ?_
        refine WpL_val rfl rfl (by decide) (r_assign (v := (.int .i64 (((j - i : Nat) : Nat) : Int))) rfl) ?_
        refine WpL_nil ?_
        refine inB_normal ?_
        refine thn_normal ?_
        exact ⟨i + (j - i), by omega, i, j - i, l', Fits.out ⟨rfl, rfl, rfl, rfl, rfl, trivial⟩, E, hi, ⟨by omega, by omega⟩, hp'.trans hp, hG', rfl⟩
    · have khne := hne
      replace hne := of_decide_eq_false hne
      have hij : i = j := by omega
      refine Wp_exit ?_
      refine thn_exit ?_
      refine thn_exit ?_
      refine inB_here ?_
      refine thn_normal ?_
      refine Wp_region ?_
      refine WpL_val rfl rfl (by decide) (r_move (v := (.slice (some ⟨g, 0, none⟩) n c)) rfl) ?_
      refine WpL_val rfl rfl (by decide) (r_move (v := (.int .i64 ((m : Nat) : Int))) rfl) ?_
      refine WpL_val rfl rfl (by decide) (r_move (v := (.int .i64 ((i : Nat) : Int))) rfl) ?_
      refine WpL_val rfl rfl (by decide) (r_sub (k := .i64) (a := ((m : Nat) : Int)) (b := ((i : Nat) : Int)) (c := (((m - i : Nat) : Nat) : Int)) rfl rfl ((wI64 (by omega)).trans (by omega))) ?_
      refine WpL_val rfl rfl (by decide) (r_move (v := (.int .i64 ((m : Nat) : Int))) rfl) ?_
      refine WpL_val rfl rfl (by decide) (r_move (v := (.int .i64 ((i : Nat) : Int))) rfl) ?_
      refine WpL_val rfl rfl (by decide) (r_move (v := fv) rfl) ?_
      refine WpL_enter rfl rfl (by decide) (r_callF (vs := [(.slice (some ⟨g, 0, none⟩) n c), (.int .i64 (((m - i : Nat) : Nat) : Int)), (.int .i64 ((m : Nat) : Int)), (.int .i64 ((i : Nat) : Int)), fv]) Try.func128 nm128 bd128 rfl) (swapRange_c _ g c n T cu rest fv (m - i) m i hG (by rw [hp.length_eq, hn]) (by omega) (by omega) hsz) ?_
      rintro _ w29 ⟨l', hp', hG', C29⟩
      replace E := E.step C29 (fun q _ h => h)
      refine WpL_nil ?_
      refine fin_none Try.results127 ?_
      exact ⟨l', hp'.trans hp, hG', E⟩
end Go.Proofs
