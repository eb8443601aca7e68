/- Contracts and plain lemmas, part 4. -/
import Derived.Tactics
import Derived.Deep.Quiet
import Derived.Laws.AppendOwn
import Derived.KernelRfl
import Derived.Laws.Entries
import Derived.Laws.Build
import Derived.Below
import Derived.RowKit3
import Derived.StillTail
import Derived.Sort.Grow
import Derived.Deep.Draws
import Derived.Test.YtllhcafmcbibbaaChecked
import Derived.Laws.StructEq
import Derived.Laws.MakeOwn
import Derived.MapKept
import Derived.Laws.BytesArg
import Derived.Laws.CopyRow
import Derived.DeepKeys3
import Derived.OpenShut
import Derived.ChangeSlices
import Derived.Test.YtllhcafmcbibbaaZr3
namespace Go.Proofs
open Go Go.Eng
set_option maxRecDepth 100000
def cloneF (n0 : Nat) (l : List Int) : Fct := fun v w => ∃ b c rest, v = .slice (some ⟨b, 0, none⟩) l.length c ∧ l.length ≤ c ∧ n0 ≤ b ∧ Blk w b (l.map (Value.int .i64) ++ rest).toArray TI
theorem cloneF_ext (n0 : Nat) (l : List Int) : ∀ v w w', Chg none1 w w' → cloneF n0 l v w → cloneF n0 l v w' := by
  rintro v w w' e ⟨b, c, rest, h1, h2, h3, h4⟩
  exact ⟨b, c, rest, h1, h2, h3, Ext.keep e h4⟩
def makeF (n0 n : Nat) : Fct := fun v w => ∃ b, v = .slice (some ⟨b, 0, none⟩) n n ∧ n0 ≤ b ∧ Blk w b (List.replicate n (Value.int .i64 0)).toArray TI
theorem makeF_ext (n0 n : Nat) : ∀ v w w', Chg none1 w w' → makeF n0 n v w → makeF n0 n v w' := by
  rintro v w w' e ⟨b, h1, h2, h3⟩
  exact ⟨b, h1, h2, Ext.keep e h3⟩
def tabF (n0 : Nat) (start : Int) (cols : Nat) (l : List Int) (n : Nat) : Fct := fun v w => ∃ b c rest q, v = .agg #[.int .i64 start, .int .i64 ((cols : Nat) : Int), .slice (some ⟨b, 0, none⟩) l.length c, .slice (some ⟨q, 0, none⟩) n n, .slice none 0 0, .slice none 0 0] ∧ l.length ≤ c ∧ n0 ≤ b ∧ Blk w b (l.map (Value.int .i64) ++ rest).toArray TI ∧ n0 ≤ q ∧ Blk w q (List.replicate n (Value.int .i64 0)).toArray TI ∧ b ≠ q
theorem tabF_ext (n0 : Nat) (start : Int) (cols : Nat) (l : List Int) (n : Nat) : ∀ v w w', Chg none1 w w' → tabF n0 start cols l n v w → tabF n0 start cols l n v w' := by
  rintro v w w' e ⟨b, c, rest, q, h1, h2, h3, h4, h5, h6, h7⟩
  exact ⟨b, c, rest, q, h1, h2, h3, Ext.keep e h4, h5, Ext.keep e h6, h7⟩
def boxF (n0 : Nat) : Fct := fun v w => ∃ b, v = .pointer (some ⟨b, 0, none⟩) ∧ n0 ≤ b ∧ Blk w b #[.int .i64 0, .int .i64 0, .slice none 0 0, .slice none 0 0, .slice none 0 0, .slice none 0 0] TT
theorem boxF_ext (n0 : Nat) : ∀ v w w', Chg none1 w w' → boxF n0 v w → boxF n0 v w' := by
  rintro v w w' e ⟨b, h1, h2, h3⟩
  exact ⟨b, h1, h2, Ext.keep e h3⟩
theorem blk_ne {w : World} {b b' : Nat} {c c' : Array Value} {t t' : TypeId} (h : Blk w b c t) (h' : Blk w b' c' t') (hne : t ≠ t') : b ≠ b' := fun he => by
  subst he
  unfold Blk at h h'
  rw [h] at h'
  simp at h'
  exact hne h'.2
section
variable {N : Nat} {σ : Env} {w : World} {dst : Option Tmp} {ty : TypeId} {pos : String} {af : Array Edge} {g : Option (Nat × Bool)} {x y : Operand}
theorem make_run {n : Nat} (hx : ev σ x = .int .i64 ((n : Nat) : Int)) (hy : ev σ y = .int .i64 ((n : Nat) : Int)) (hn : n ≤ 1000000) :
    (execOp (ev σ) ⟨dst, .makeSlice 26 x y, ty, pos, af, g⟩).run Try.prog w = .ok (.value (.slice (some ⟨w.heap.size, 0, none⟩) n n)) { w with heap := w.heap.push (.cells (List.replicate n (Value.int .i64 0)).toArray TI (0, 0)) } := by
  have hby := byt3
  have hz := zer3
  have hsz := siz3
  unfold Siz at hsz; unfold Byt at hby; unfold Zer at hz
  cases hi : (Try.prog).info? TI with
  | none => rw [hi] at hsz; simp at hsz
  | some i =>
  rw [hi] at hsz hby hz
  simp at hsz hby hz
  have h := run_make (P := Try.prog) w 26 TI i _ Try.underlying26 hi hz .i64 .i64 ((n : Nat) : Int) ((n : Nat) : Int) (by omega) (Int.le_refl _) (by rw [hby]; omega) (by omega)
  have hc : madeCells (Value.int IntKind.i64 0).cells (n * i.size) = (List.replicate n (Value.int .i64 0)).toArray := by
    rw [hsz, Nat.mul_one]
    apply Array.ext'
    simp only [madeCells, Value.cells]
    apply List.ext_getElem?
    intro j
    simp only [Array.toList_map, List.getElem?_map, List.getElem?_replicate]
    rcases Nat.lt_or_ge j n with hj | hj
    · have h1 : (Array.range n).toList[j]? = some j := by simp [hj]
      rw [h1, if_pos hj]
      simp [Nat.mod_one]
    · have h1 : (Array.range n).toList[j]? = none := by simp; omega
      rw [h1, if_neg (by omega)]; rfl
  simp only [Int.toNat_natCast, hc] at h
  simp only [execOp, hx, hy, Sem.run_bind, h, Result.andThen_ok]
  rfl
theorem DoesT_make {n n0 : Nat} (hx : ev σ x = .int .i64 ((n : Nat) : Int)) (hy : ev σ y = .int .i64 ((n : Nat) : Int)) (hn : n ≤ 1000000) (h0 : n0 ≤ w.heap.size) {R : Value → Prop} (hR : R (.slice (some ⟨w.heap.size, 0, none⟩) n n)) :
    DoesT none1 Try.prog N ⟨dst, .makeSlice 26 x y, ty, pos, af, g⟩ (fun v w => makeF n0 n v w ∧ R v) σ w :=
  DoesT_val (make_run hx hy hn) (New.mk' w _ TI).ext ⟨⟨_, rfl, h0, (New.mk' w _ TI).blk⟩, hR⟩
theorem DoesT_box {n0 : Nat} (h0 : n0 ≤ w.heap.size) : DoesT none1 Try.prog N ⟨dst, .alloc 46, ty, pos, af, g⟩ (boxF n0) σ w := by
  refine DoesT_val (v := .pointer (some ⟨w.heap.size, 0, none⟩)) (w' := { w with heap := w.heap.push (.cells #[.int .i64 0, .int .i64 0, .slice none 0 0, .slice none 0 0, .slice none 0 0, .slice none 0 0] TT (0, 0)) }) ?_ (New.mk' w _ TT).ext ⟨_, rfl, h0, (New.mk' w _ TT).blk⟩
  simp [execOp, Instr.alloc, (zer46).run, newVar, newRow, Value.cells]
end
theorem DoesT_weak {M : Nat → Prop} {P : Program} {N : Nat} {o : Oper} {R R' : Fct} {σ : Env} {w : World} (h : DoesT M P N o R σ w) (hr : ∀ v w, R v w → R' v w) : DoesT M P N o R' σ w := fun dz a ha he Q K hK => h dz a ha he Q K fun v w2 hx2 h2 => hK v w2 hx2 (hr v w2 h2)
theorem clone_run {w : World} {n0 : Nat} {v : Value} {l : List Int} (h : IntsAt w v l) (hl : l.length ≤ 2000000) (hp : 0 < l.length) (h0 : n0 ≤ w.heap.size) : Ret Try.prog 28 #[v] w fun r w' => cloneF n0 l r w' ∧ Chg none1 w w' := by
  refine (clonei_c w v l h hl).mono fun r w' hr => ?_
  obtain ⟨a, c, rfl, h1, h2, h3⟩ := hr
  obtain ⟨b, rest, rfl, h4, h5⟩ := h2.resolve_left (fun he => by rw [he] at hp; simp at hp)
  exact ⟨⟨b, c, rest, rfl, h1, by omega, h5⟩, h3⟩
theorem cloneP {N : Nat} {σ : Env} {w : World} {dst : Option Tmp} {ty : TypeId} {pos : String} {af : Array Edge} {g : Option (Nat × Bool)} {x : Operand} {tys : Array TypeId} {n0 n b : Nat} {v u : Value} {l : List Int} (hx : ev σ x = v) (h : IntsAt w v l) (hl : l.length ≤ 2000000) (hp : 0 < l.length) (h0 : n0 ≤ w.heap.size) (hu : u = .slice (some ⟨b, 0, none⟩) n n) (hb : b < w.heap.size) :
    DoesT none1 Try.prog N ⟨dst, .call ⟨.value (.func 28), #[x], tys⟩, ty, pos, af, g⟩ (fun r w => cloneF n0 l r w ∧ ApartV r u) σ w := by
  refine DoesT_enter (r_callF (vs := [v]) Try.func28 nm28 bd28 (lst1 hx)) ?_
  refine (clone_run (n0 := w.heap.size) h hl hp (Nat.le_refl _)).mono fun r w' hr => ?_
  obtain ⟨⟨b', c, rest, rfl, h1, h2, h3⟩, h4⟩ := hr
  refine ⟨⟨⟨b', c, rest, rfl, h1, by omega, h3⟩, fun y hy hv => ?_⟩, h4⟩
  rw [hu] at hv
  simp [Value.ownBlock] at hy hv
  omega
def oneF (n0 : Nat) (z : Int) : Fct := fun v w => ∃ b, v = .slice (some ⟨b, 0, none⟩) 1 1 ∧ n0 ≤ b ∧ Blk w b #[.int .i64 z] TI
theorem oneF_chg {M : Nat → Prop} (n0 : Nat) (z : Int) (hM : ∀ y, M y → y < n0) : ∀ v w w', Chg M w w' → oneF n0 z v w → oneF n0 z v w' := by
  rintro v w w' e ⟨b, h1, h2, h3⟩
  exact ⟨b, h1, h2, e.keep (fun h => by have := hM b h; omega) h3⟩
def appW (n2 n0 n : Nat) (xs : List Value) (old : Value) : Fct := fun v w => ∃ a c, v = .slice a n c ∧ w.ownsRow n2 TI 1 v n xs ∧ ∀ k, v.ownBlock = some k → old.ownBlock = some k ∨ n0 ≤ k
theorem appF_one {c1 c2 n2 n0 n : Nat} {M1 M2 : Nat → Prop} {xs : List Value} {old : Value} {ws : List Nat} (hs : ∀ k, (old.ownBlock = some k ∨ n0 ≤ k) → ¬ M2 k) : StabX (two c1 c2 M1 M2) c1 ws (fun _ => appW n2 n0 n xs old) := by
  rintro p hp _ σ v w w' e ⟨a, c, h1, h2, h3⟩
  rcases two_ext e with h | h | h
  · exact absurd h.1 hp
  · exact ⟨a, c, h1, own_chg h2 h.2 (fun k hk => hs k (h3 k hk)), h3⟩
  · exact ⟨a, c, h1, own_ext h2 h, h3⟩
theorem appF_two {c1 c2 n2 n0 n : Nat} {M1 M2 : Nat → Prop} {xs : List Value} {old : Value} {ws : List Nat} {t : Nat} (hw : ws.contains c1 = true) : StabX (two c1 c2 M1 M2) c2 ws (fun s v w => appW n2 n0 n xs old v w ∧ ApartV (s t) v) := by
  rintro p hp hpw σ v w w' e ⟨⟨a, c, h1, h2, h3⟩, h4⟩
  rcases two_ext e with h | h | h
  · rw [h.1, hw] at hpw; cases hpw
  · exact absurd h.1 hp
  · exact ⟨⟨a, c, h1, own_ext h2 h, h3⟩, h4⟩
section
variable {N n0 : Nat} {σ : Env} {w : World} {dst : Option Tmp} {ty : TypeId} {pos : String} {af : Array Edge} {g : Option (Nat × Bool)} {s x : Operand}
theorem DoesT_b1 {z : Int} (hx : ev σ x = .int .i64 z) (h0 : n0 ≤ w.heap.size) : DoesT none1 Try.prog N ⟨dst, .buildSlice 26 1 #[(0, x)], ty, pos, af, g⟩ (oneF n0 z) σ w := by
  have hnw := New.mk' w #[.int .i64 z] TI
  exact DoesT_val (run_buildSlice (parts := [(0, x)]) (ps := [(0, .int .i64 z)]) (by simp only [List.map, hx]) Try.underlying26 siz3 zer3 (by decide) (by decide) (by kernel_rfl)) hnw.ext ⟨_, rfl, h0, hnw.blk⟩
theorem DoesT_app {M : Nat → Prop} {n2 n c b : Nat} {a : Option Addr} {xs : List Value} {z : Int} (hs : ev σ s = .slice a n c) (hown : w.ownsRow n2 TI 1 (.slice a n c) n xs) (hx : ev σ x = .slice (some ⟨b, 0, none⟩) 1 1) (hB : Blk w b #[.int .i64 z] TI) (hn : n + 1 ≤ 1000000) (h2 : n2 ≤ w.heap.size) (h0 : n0 ≤ w.heap.size) (hM : ∀ y, (Value.slice a n c).ownBlock = some y → M y) :
    DoesT M Try.prog N ⟨dst, .call ⟨.builtin .append, #[s, x], #[26, 26]⟩, ty, pos, af, g⟩ (appW n2 n0 (n + 1) (xs ++ [.int .i64 z]) (.slice a n c)) σ w := by
  have hsz := siz3
  have hby := byt3
  have hz := zer3
  unfold Siz at hsz; unfold Byt at hby; unfold Zer at hz
  cases hi : (Try.prog).info? TI with
  | none => rw [hi] at hsz; simp at hsz
  | some i =>
  rw [hi] at hsz hby hz
  simp at hsz hby hz
  have hcells : ∀ j u, [Value.int .i64 z][j]? = some u → w.cell? ((⟨b, 0, none⟩ : Addr).add j) = some u := fun j u hj => by rw [Addr.add_lit]; exact hB.cells rfl j u hj
  obtain ⟨v', w', hr, h3, h4, h5⟩ := run_append_own (P := Try.prog) w n2 26 ty TI i _ 1 _ Try.underlying26 hi hz hsz hby rfl (by decide) (.slice a n c) n xs hown ⟨b, 0, none⟩ 1 1 [.int .i64 z] rfl hcells (by simp [Value.oneCell']) (by unfold maxLen; omega) (by omega) h2
  obtain ⟨a', c', rfl⟩ := own_form h3
  refine DoesT_val (v := .slice a' (n + 1) c') (w' := w') (by simp [execOp, resolve, invoke, builtin, hs, hx, hr]) ⟨h4.os, h4.tape, h4.output, append_drawn (P := Try.prog) Try.underlying26 hi hz hsz hby hown (news := [.int .i64 z]) rfl hcells (by simp [Value.oneCell']) (by unfold maxLen; omega) (by omega) hr, h4.size, fun y hy hn => h4.block y hy (fun h => hn (hM y h.symm))⟩ ⟨_, _, rfl, h3, fun k hk => ?_⟩
  exact (append_where (P := Try.prog) Try.underlying26 hi hz hsz hby rfl (by decide) hown (news := [.int .i64 z]) rfl hcells (by simp [Value.oneCell']) (by unfold maxLen; omega) (by omega) hr k hk).imp id (fun h => Nat.le_trans h0 h)
end
theorem app2 {M : Nat → Prop} {P : Program} {N : Nat} {o : Oper} {σ : Env} {w : World} {n2 n4 n m : Nat} {xs ys : List Value} {old old' u : Value} (h : appW n2 n4 n ys old' u w) (hd : DoesT M P N o (appW n2 w.heap.size m xs old) σ w) (h4 : n4 ≤ w.heap.size) (hap : ∀ k, (old'.ownBlock = some k ∨ n4 ≤ k) → old.ownBlock ≠ some k) (ho : ∀ v, Go.Eng.valOf o v = v := by intro v; rfl) :
    DoesT M P N o (fun v w => appW n2 n4 m xs old (Go.Eng.valOf o v) w ∧ ApartV u (Go.Eng.valOf o v)) σ w := by
  refine DoesT_weak hd ?_
  rintro v w2 ⟨a, c, h1, h2, h3⟩
  rw [ho v]
  refine ⟨⟨a, c, h1, h2, fun k hk => (h3 k hk).imp id (fun h => Nat.le_trans h4 h)⟩, fun k hk hv => ?_⟩
  obtain ⟨_, _, _, h5, h6⟩ := h
  rcases h3 k hv with h7 | h7
  · exact hap k (h6 k hk) h7
  · have := (h5.lt k hk).2; omega
/-- Sorting a list of n numbers in place leaves a permutation of it. -/
def SortOk (n : Nat) : Prop := ∀ (w0 : World) (g c T : Nat) (l : List Int) (rest : List Value) (fv : Value) (cf : Int → Int → Int) (κ : Int → Int), (∀ x y, cf x y < 0 ↔ κ x < κ y) → Blk w0 g (l.map (Value.int .i64) ++ rest).toArray T → l.length = n →
    (∀ (w : World) (x y : Int), Chg (fun q => q = g) w0 w → x ∈ l → y ∈ l → CallV Try.prog fv #[.int .i64 x, .int .i64 y] w fun r w' => r = .int .i64 (cf x y) ∧ Ext w w') →
    Ret Try.prog 50 #[.slice (some ⟨g, 0, none⟩) n c, fv] w0 fun _ w => ∃ l' f, List.Perm l' l ∧ Rar κ 0 n l l' f ∧ SrtR κ l' 0 n ∧ Blk w g (l'.map (Value.int .i64) ++ rest).toArray T ∧ Chg (fun q => q = g) w0 w
theorem nodup_natV (k : Nat) : (natV (List.range k)).Nodup := by
  unfold natV
  rw [List.nodup_iff_pairwise_ne, List.pairwise_map]
  exact (List.nodup_iff_pairwise_ne.1 List.nodup_range).imp fun h e => h (by omega)
theorem any_used {owner : List Int} {m : Nat} {is : List Nat} (h : (natV is).any (fun x => !freeB owner (m + x.toNat)) = true) : ∃ c ∈ is, freeB owner (m + c) = false := by
  rw [List.any_eq_true] at h
  obtain ⟨x, hx, h1⟩ := h
  obtain ⟨c, hc, rfl⟩ := natV_mem hx
  exact ⟨c, hc, by simpa using h1⟩
/-- What a value points to was made behind a size of the heap. -/
def NewV (s : Nat) (v : Value) : Prop := ∀ b, v.ownBlock = some b → s ≤ b
set_option maxHeartbeats 16000000 in
theorem pack_c (w0 : World) (d : Dfa) (vs : List Value) (hd : DfaAt w0 d vs) (hchk : checkD d = 0) (hsort : SortOk d.next.length) (hsmall : d.next.length ≤ 200) (row0 : List Int) (hrow0 : d.next[0]? = some row0) (hcols : ∀ row ∈ d.next, row.length = row0.length) (hc16 : row0.length ≤ 16) :
    Ret Try.prog 15 #[.agg vs.toArray] w0 fun r w => ∃ (va vb vo vn : Value) (order : List Nat) (owner nxt : List Int) (bs : List Nat), r = .tuple #[.agg #[.int .i64 d.start, .int .i64 ((row0.length : Nat) : Int), va, vb, vo, vn], .int .i64 0] ∧ IntsAt w va d.accept ∧ IntsAt w vb (natV bs) ∧ IntsAt w vo owner ∧ IntsAt w vn nxt ∧ List.Perm order (List.range d.next.length) ∧ (natV order).Pairwise (fun u v => - entD d u < - entD d v ∨ (- entD d u = - entD d v ∧ u < v)) ∧ PSt d.next order row0.length d.next.length owner nxt bs ∧ (NewV w0.heap.size va ∧ NewV w0.heap.size vb ∧ NewV w0.heap.size vo ∧ NewV w0.heap.size vn) ∧ Ext w0 w := by
  have hd0 := hd
  obtain ⟨aa, ac, na, nc, rfl, ha, hn⟩ := hd
  have hpos := lt_of_get hrow0
  have hane : d.accept.length = d.next.length := by
    unfold checkD at hchk
    rw [if_neg (by omega)] at hchk
    split at hchk
    · omega
    · omega
  obtain ⟨_, _, hv, hcap, hle⟩ := hn.form
  simp only [Value.slice.injEq] at hv
  obtain ⟨rfl, _, rfl⟩ := hv
  obtain ⟨nb, no, rfl, hncl⟩ := intss_cells hn (by omega)
  obtain ⟨ra0, rc0, hcell0, hints0⟩ := hncl 0 row0 hrow0
  refine Ret_of Try.func15 rfl Try.ntmps15 (Nat.le_of_ble_eq_true rfl) ?_
  have E : Chg none1 w0 w0 := Chg.refl _ _
  refine Wp_seq_region ?_
  refine s_box (v := (.agg #[(.int .i64 d.start), (.slice aa d.accept.length ac), (.slice (some ⟨nb, no, none⟩) d.next.length nc)])) (c := #[(.int .i64 d.start), (.slice aa d.accept.length ac), (.slice (some ⟨nb, no, none⟩) d.next.length nc)]) (by decide) rfl rfl ?_
  intro bd wd Nd
  have Fd := Nd.ge E
  replace E := E.ext Nd.ext
  have Bd := Nd.blk
  refine s_alloc (c := #[(.int .i64 0), (.int .i64 0), (.slice none 0 0), (.slice none 0 0), (.slice none 0 0), (.slice none 0 0)]) (by decide) zer46 rfl ?_
  intro bo wo No
  have Fo := No.ge E
  have Oo_bd := No.lt Bd
  replace Bd := No.keep Bd
  replace E := E.ext No.ext
  have Bo := No.blk
  refine WpL_val rfl rfl (by decide) (r_assign (v := (.int .i64 0)) rfl) ?_
  refine WpL_nil ?_
  refine Wp_seq ?_
  refine Wp_seq_region ?_
  refine WpL_val rfl rfl (by decide) (r_loadAgg (vs := [(.int .i64 d.start), (.slice aa d.accept.length ac), (.slice (some ⟨nb, no, none⟩) d.next.length nc)]) rfl agg44 siz44 rfl (Bd.cells rfl)) ?_
  refine WpL_enter rfl rfl (by decide) (r_callF (vs := [(.agg #[(.int .i64 d.start), (.slice aa d.accept.length ac), (.slice (some ⟨nb, no, none⟩) d.next.length nc)])]) Try.func48 nm48 bd48 rfl) ((dcheck_c _ d _ (hd0.ext E)).mono (R' := fun v w => v = .int .i64 0 ∧ Ext wo w) (fun v w h => ⟨by rw [h.1, hchk], h.2⟩)) ?_
  rintro _ w9 ⟨rfl, X9⟩
  replace Bd := X9.keep Bd
  replace Bo := X9.keep Bo
  replace E := E.ext X9
  refine WpL_val rfl rfl (by decide) (r_assign (v := (.int .i64 0)) rfl) ?_
  refine WpL_nil ?_
  refine Wp_seq_region ?_
  refine WpL_val rfl rfl (by decide) (r_move (v := (.int .i64 0)) rfl) ?_
  refine WpL_val rfl rfl (by decide) (r_neq (k := .i64) (a := 0) (b := 0) rfl rfl) ?_
  refine WpL_nil ?_
  refine Wp_cond_false rfl ?_
  refine Wp_skip ?_
  refine thn_normal ?_
  obtain ⟨n0, hn0⟩ : ∃ n0, n0 = w9.heap.size := ⟨_, rfl⟩
  have hbd : bd < n0 := by rw [hn0]; exact Bd.lt
  have hw0 : w0.heap.size ≤ n0 := by rw [hn0]; exact E.size
  have hbo : bo < n0 := by rw [hn0]; exact Bo.lt
  refine Wp_seq ?_
  obtain ⟨Fs1, hFs1⟩ : ∃ Fs : List (FactT (none1)), Fs = [.eq (.pointer (some ⟨bd, 0, none⟩)), .eq (.int .i64 d.start), .eq (.pointer (some ⟨bd, 2, none⟩)), .eq (.slice (some ⟨nb, no, none⟩) d.next.length nc), .eq (.pointer (some ⟨nb, no + 0, none⟩)), .eq (.slice ra0 row0.length rc0), .eq (.int .i64 ((row0.length : Nat) : Int)), .eq (.pointer (some ⟨bd, 1, none⟩)), .eq (.slice aa d.accept.length ac), .gen (cloneF n0 d.accept) (cloneF_ext _ _), .eq (.pointer (some ⟨bd, 2, none⟩)), .eq (.slice (some ⟨nb, no, none⟩) d.next.length nc), .eq (.int .i64 ((d.next.length : Nat) : Int)), .gen (makeF n0 d.next.length) (makeF_ext _ _), .gen (tabF n0 d.start row0.length d.accept d.next.length) (tabF_ext _ _ _ _ _), .gen (boxF n0) (boxF_ext _)] := ⟨_, rfl⟩
  refine Wp_dagT2 (none1) 16 9 [21, 22, 23, 24, 25, 26, 27, 28, 29, 30, 31, 32, 33, 34, 35, 5] [[], [0], [], [2], [3], [4], [5], [], [7], [8], [], [10], [11], [12], [1, 6, 9, 13], []] Fs1 hFs1 rfl mixed (by kernel_rfl) (by kernel_rfl) (by kernel_rfl) 9 13 30 34 (.gen (cloneF n0 d.accept) (cloneF_ext _ _)) (.gen (makeF n0 d.next.length) (makeF_ext _ _)) (ApartV) ⟨⟨by decide, rfl, rfl⟩, by rw [hFs1]; rfl, by rw [hFs1]; rfl⟩ ?_ ?_ ?_ ?_
  · intro wd X0 o_ ws_ ho_ hw_ s' w' X U H HO
    obtain rfl : _ = o_ := Option.some.inj ho_
    obtain rfl : _ = ws_ := Option.some.inj hw_
    obtain ⟨b34, e34, g34, B34⟩ := (show (.gen (makeF n0 d.next.length) (makeF_ext _ _) : FactT (none1)).In (s' 34) w' from HO)
    have e29 : s' 29 = (.slice aa d.accept.length ac) := H 8 rfl 29 (.eq (.slice aa d.accept.length ac)) rfl (by rw [hFs1]; rfl)
    exact cloneP e29 (ha.ext (Ext.trans E (X0.trans X))) (by omega) (by omega) (by have := X0.size; have := X.size; omega) e34 B34.lt
  · intro wd X0 o_ ws_ ho_ hw_ s' w' X U H HO
    obtain rfl : _ = o_ := Option.some.inj ho_
    obtain rfl : _ = ws_ := Option.some.inj hw_
    obtain ⟨b30, c30, r30, e30, f30, g30, B30⟩ := (show (.gen (cloneF n0 d.accept) (cloneF_ext _ _) : FactT (none1)).In (s' 30) w' from HO)
    have e33 : s' 33 = (.int .i64 ((d.next.length : Nat) : Int)) := H 12 rfl 33 (.eq (.int .i64 ((d.next.length : Nat) : Int))) rfl (by rw [hFs1]; rfl)
    exact DoesT_make (x := .tmp 33) (y := .tmp 33) (R := fun v => ApartV (s' 30) v) e33 e33 (by omega) (by have := X0.size; have := X.size; omega) (fun y hy => by rw [e30] at hy; simp [Value.ownBlock] at hy; subst hy; simp [Value.ownBlock]; have := B30.lt; omega)
  · intro wd X0
    refine DagStepsK.cons (fun s' w' X U H HK => ?_) ?_
    · exact DoesT_val (r_fieldAddr (b := bd) (o := 0) (o' := 0) (U 1 rfl) Try.underlying44 rfl siz3 rfl) (Chg.refl _ _) rfl
    refine DagStepsK.cons (fun s' w' X U H HK => ?_) ?_
    · have e21 : s' 21 = (.pointer (some ⟨bd, 0, none⟩)) := H 0 rfl 21 (.eq (.pointer (some ⟨bd, 0, none⟩))) rfl (by rw [hFs1]; rfl)
      exact DoesT_val (r_load (v := (.int .i64 d.start)) e21 flat3 ((Chg.keep X (fun f => f) (X0.keep Bd)).cell rfl)) (Chg.refl _ _) rfl
    refine DagStepsK.cons (fun s' w' X U H HK => ?_) ?_
    · exact DoesT_val (r_fieldAddr (b := bd) (o := 0) (o' := 2) (U 1 rfl) Try.underlying44 rfl siz42 rfl) (Chg.refl _ _) rfl
    refine DagStepsK.cons (fun s' w' X U H HK => ?_) ?_
    · have e23 : s' 23 = (.pointer (some ⟨bd, 2, none⟩)) := H 2 rfl 23 (.eq (.pointer (some ⟨bd, 2, none⟩))) rfl (by rw [hFs1]; rfl)
      exact DoesT_val (r_load (v := (.slice (some ⟨nb, no, none⟩) d.next.length nc)) e23 flat42 ((Chg.keep X (fun f => f) (X0.keep Bd)).cell rfl)) (Chg.refl _ _) rfl
    refine DagStepsK.cons (fun s' w' X U H HK => ?_) ?_
    · have e24 : s' 24 = (.slice (some ⟨nb, no, none⟩) d.next.length nc) := H 3 rfl 24 (.eq (.slice (some ⟨nb, no, none⟩) d.next.length nc)) rfl (by rw [hFs1]; rfl)
      exact DoesT_val (r_indexSlice (b := nb) (o := no) (len := d.next.length) (cap := nc) (i := 0) (o' := no + 0) e24 rfl rfl Try.underlying42 siz26 (by omega) (by omega)) (Chg.refl _ _) rfl
    refine DagStepsK.cons (fun s' w' X U H HK => ?_) ?_
    · have e25 : s' 25 = (.pointer (some ⟨nb, no + 0, none⟩)) := H 4 rfl 25 (.eq (.pointer (some ⟨nb, no + 0, none⟩))) rfl (by rw [hFs1]; rfl)
      exact DoesT_val (r_load (v := (.slice ra0 row0.length rc0)) e25 flat26 ((by rw [Nat.add_zero]; exact (Ext.trans E (X0.trans X)).cell (by simpa using hcell0)))) (Chg.refl _ _) rfl
    refine DagStepsK.cons (fun s' w' X U H HK => ?_) ?_
    · have e26 : s' 26 = (.slice ra0 row0.length rc0) := H 5 rfl 26 (.eq (.slice ra0 row0.length rc0)) rfl (by rw [hFs1]; rfl)
      exact DoesT_val (r_lenSlice (ad := ra0) (n := row0.length) (cap := rc0) Try.underlying26 e26) (Chg.refl _ _) rfl
    refine DagStepsK.cons (fun s' w' X U H HK => ?_) ?_
    · exact DoesT_val (r_fieldAddr (b := bd) (o := 0) (o' := 1) (U 1 rfl) Try.underlying44 rfl siz26 rfl) (Chg.refl _ _) rfl
    refine DagStepsK.cons (fun s' w' X U H HK => ?_) ?_
    · have e28 : s' 28 = (.pointer (some ⟨bd, 1, none⟩)) := H 7 rfl 28 (.eq (.pointer (some ⟨bd, 1, none⟩))) rfl (by rw [hFs1]; rfl)
      exact DoesT_val (r_load (v := (.slice aa d.accept.length ac)) e28 flat26 ((Chg.keep X (fun f => f) (X0.keep Bd)).cell rfl)) (Chg.refl _ _) rfl
    refine DagStepsK.cons (fun s' w' X U H HK => ?_) ?_
    · have e29 : s' 29 = (.slice aa d.accept.length ac) := H 8 rfl 29 (.eq (.slice aa d.accept.length ac)) rfl (by rw [hFs1]; rfl)
      exact DoesT_enter (r_callF (vs := [(.slice aa d.accept.length ac)]) Try.func28 nm28 bd28 (lst1 e29)) (clone_run (ha.ext (Ext.trans E (X0.trans X))) (by omega) (by omega) (by have := X0.size; have := X.size; omega))
    refine DagStepsK.cons (fun s' w' X U H HK => ?_) ?_
    · exact DoesT_val (r_fieldAddr (b := bd) (o := 0) (o' := 2) (U 1 rfl) Try.underlying44 rfl siz42 rfl) (Chg.refl _ _) rfl
    refine DagStepsK.cons (fun s' w' X U H HK => ?_) ?_
    · have e31 : s' 31 = (.pointer (some ⟨bd, 2, none⟩)) := H 10 rfl 31 (.eq (.pointer (some ⟨bd, 2, none⟩))) rfl (by rw [hFs1]; rfl)
      exact DoesT_val (r_load (v := (.slice (some ⟨nb, no, none⟩) d.next.length nc)) e31 flat42 ((Chg.keep X (fun f => f) (X0.keep Bd)).cell rfl)) (Chg.refl _ _) rfl
    refine DagStepsK.cons (fun s' w' X U H HK => ?_) ?_
    · have e32 : s' 32 = (.slice (some ⟨nb, no, none⟩) d.next.length nc) := H 11 rfl 32 (.eq (.slice (some ⟨nb, no, none⟩) d.next.length nc)) rfl (by rw [hFs1]; rfl)
      exact DoesT_val (r_lenSlice (ad := some ⟨nb, no, none⟩) (n := d.next.length) (cap := nc) Try.underlying42 e32) (Chg.refl _ _) rfl
    refine DagStepsK.cons (fun s' w' X U H HK => ?_) ?_
    · have e33 : s' 33 = (.int .i64 ((d.next.length : Nat) : Int)) := H 12 rfl 33 (.eq (.int .i64 ((d.next.length : Nat) : Int))) rfl (by rw [hFs1]; rfl)
      exact DoesT_weak (DoesT_make (x := .tmp 33) (y := .tmp 33) (R := fun _ => True) e33 e33 (by omega) (by have := X0.size; have := X.size; omega) trivial) (fun _ _ h => h.1)
    refine DagStepsK.cons (fun s' w' X U H HK => ?_) ?_
    · have e22 : s' 22 = (.int .i64 d.start) := H 1 rfl 22 (.eq (.int .i64 d.start)) rfl (by rw [hFs1]; rfl)
      have e27 : s' 27 = (.int .i64 ((row0.length : Nat) : Int)) := H 6 rfl 27 (.eq (.int .i64 ((row0.length : Nat) : Int))) rfl (by rw [hFs1]; rfl)
      obtain ⟨b30, c30, r30, e30, f30, g30, B30⟩ := (show (.gen (cloneF n0 d.accept) (cloneF_ext _ _) : FactT (none1)).In (s' 30) w' from H 9 rfl 30 (.gen (cloneF n0 d.accept) (cloneF_ext _ _)) rfl (by rw [hFs1]; rfl))
      obtain ⟨b34, e34, g34, B34⟩ := (show (.gen (makeF n0 d.next.length) (makeF_ext _ _) : FactT (none1)).In (s' 34) w' from H 13 rfl 34 (.gen (makeF n0 d.next.length) (makeF_ext _ _)) rfl (by rw [hFs1]; rfl))
      exact DoesT_val (r_build (ps := [(0, .int .i64 d.start), (1, .int .i64 ((row0.length : Nat) : Int)), (2, .slice (some ⟨b30, 0, none⟩) d.accept.length c30), (3, .slice (some ⟨b34, 0, none⟩) d.next.length d.next.length)]) (v := .agg #[.int .i64 d.start, .int .i64 ((row0.length : Nat) : Int), .slice (some ⟨b30, 0, none⟩) d.accept.length c30, .slice (some ⟨b34, 0, none⟩) d.next.length d.next.length, .slice none 0 0, .slice none 0 0]) (by simp only [List.map, ev, e22, e27, e30, e34]) (by kernel_rfl)) (Chg.refl _ _) ⟨b30, c30, r30, b34, rfl, f30, g30, B30, g34, B34, fun h => by have := HK rfl rfl; rw [e30, e34] at this; exact this b30 (by simp [Value.ownBlock]) (by simp [Value.ownBlock, h])⟩
    refine DagStepsK.cons (fun s' w' X U H HK => ?_) ?_
    · exact DoesT_box (by have := X0.size; have := X.size; omega)
    exact DagStepsK.nil
  · intro s' wd1 w1 X0 X1 U H HK
    obtain ⟨b30, c30, r30, e30, f30, g30, B30⟩ := (show (.gen (cloneF n0 d.accept) (cloneF_ext _ _) : FactT (none1)).In (s' 30) w1 from H 9 30 (.gen (cloneF n0 d.accept) (cloneF_ext _ _)) rfl (by rw [hFs1]; rfl))
    obtain ⟨b35, c35, r35, q35, e35, f35, g35, B35, k35, Q35, n35⟩ := (show (.gen (tabF n0 d.start row0.length d.accept d.next.length) (tabF_ext _ _ _ _ _) : FactT (none1)).In (s' 35) w1 from H 14 35 (.gen (tabF n0 d.start row0.length d.accept d.next.length) (tabF_ext _ _ _ _ _)) rfl (by rw [hFs1]; rfl))
    obtain ⟨b5, e5, g5, B5⟩ := (show (.gen (boxF n0) (boxF_ext _) : FactT (none1)).In (s' 5) w1 from H 15 5 (.gen (boxF n0) (boxF_ext _)) rfl (by rw [hFs1]; rfl))
    obtain ⟨j1, rfl⟩ := Fits.out (σ := s') (l := [(1, (.pointer (some ⟨bd, 0, none⟩))), (2, (.pointer (some ⟨bo, 0, none⟩))), (35, (.agg #[(.int .i64 d.start), (.int .i64 ((row0.length : Nat) : Int)), (.slice (some ⟨b35, 0, none⟩) d.accept.length c35), (.slice (some ⟨q35, 0, none⟩) d.next.length d.next.length), (.slice none 0 0), (.slice none 0 0)])), (5, (.pointer (some ⟨b5, 0, none⟩)))]) ⟨U 1 rfl, U 2 rfl, e35, e5, trivial⟩
    clear U H
    replace Bd := Chg.keep X1 (fun f => f) (X0.keep Bd)
    replace Bo := Chg.keep X1 (fun f => f) (X0.keep Bo)
    replace E := (E.ext X0).step X1 (fun _ _ f => f.elim)
    have n5a := blk_ne B5 B35 (by decide)
    have n5q := blk_ne B5 Q35 (by decide)
    replace Q35 : Blk w1 q35 ((natV (List.replicate d.next.length 0)).map (Value.int .i64) ++ []).toArray TI := by simpa [natV] using Q35
    refine s_storeAgg (b := b5) (o := 0) (c' := #[(.int .i64 d.start), (.int .i64 ((row0.length : Nat) : Int)), (.slice (some ⟨b35, 0, none⟩) d.accept.length c35), (.slice (some ⟨q35, 0, none⟩) d.next.length d.next.length), (.slice none 0 0), (.slice none 0 0)]) rfl rfl (by simp [Value.oneCell']) siz46 rfl B5 (by first | (simp; done) | exact Nat.le_of_ble_eq_true rfl) rfl ?_
    intro w2 S2
    replace Bd := S2.keep (by omega) Bd
    replace Bo := S2.keep (by omega) Bo
    replace B35 := S2.keep (by omega) B35
    replace Q35 := S2.keep (by omega) Q35
    replace E := S2.step E (by first | exact Or.inl (by omega) | exact Or.inr rfl | exact Or.inr (by assumption) | exact Or.inr (by simp) | exact Or.inr (by omega) | exact Or.inr (by dsimp only; omega))
    replace B5 := S2.blk
    refine WpL_nil ?_
    refine thn_normal ?_
    refine Wp_seq_region ?_
    refine WpL_val rfl rfl (by decide) (r_makeFunc (vs := []) (us := [(.pointer (some ⟨bd, 0, none⟩))]) rfl rfl) ?_
    refine s_allocStore (v := (.func (.func 49) #[] #[(.pointer (some ⟨bd, 0, none⟩))])) (c := #[(.func (.func 49) #[] #[(.pointer (some ⟨bd, 0, none⟩))])]) (n := 1) (by decide) zer97 rfl siz97 rfl rfl rfl (by simp [Value.oneCell']) ?_
    intro bf wf Nf
    have Ff := Nf.ge E
    have Of_bd := Nf.lt Bd
    have Of_bo := Nf.lt Bo
    have Of_b5 := Nf.lt B5
    have Of_b35 := Nf.lt B35
    have Of_q35 := Nf.lt Q35
    replace Bd := Nf.keep Bd
    replace Bo := Nf.keep Bo
    replace B5 := Nf.keep B5
    replace B35 := Nf.keep B35
    replace Q35 := Nf.keep Q35
    replace E := E.ext Nf.ext
    have Bf := Nf.blk
    refine WpL_nil ?_
    refine Wp_seq_region ?_
    refine WpL_val rfl rfl (by decide) (r_assign (v := (.slice none 0 0)) rfl) ?_
    refine WpL_nil ?_
    refine Wp_seq ?_
    refine Wp_seq_region ?_
    refine WpL_val rfl rfl (by decide) (r_fieldAddr (b := bd) (o := 0) (o' := 2) rfl Try.underlying44 rfl siz42 rfl) ?_
    refine WpL_val rfl rfl (by decide) (r_load (v := (.slice (some ⟨nb, no, none⟩) d.next.length nc)) rfl flat42 (Bd.cell rfl)) ?_
    refine WpL_val rfl rfl (by decide) (r_lenSlice (ad := some ⟨nb, no, none⟩) (n := d.next.length) (cap := nc) Try.underlying42 rfl) ?_
    refine WpL_val rfl rfl (by decide) (r_move (v := (.int .i64 0)) rfl) ?_
    refine WpL_nil ?_
    refine Wp_block ?_
    obtain ⟨n1, hn1⟩ : ∃ n1, n1 = wf.heap.size := ⟨_, rfl⟩
    have l1 : bd < n1 ∧ bo < n1 ∧ b5 < n1 ∧ b35 < n1 ∧ q35 < n1 ∧ bf < n1 := by rw [hn1]; exact ⟨Bd.lt, Bo.lt, B5.lt, B35.lt, Q35.lt, Bf.lt⟩
    have hw1 : w0.heap.size ≤ n1 := by rw [hn1]; exact E.size
    refine Wp_loop (fun nn_ σ W3 => ∃ (k : Nat) (la : Option Addr) (lc : Nat), (∃ jj_, σ = upds jj_ [(1, (.pointer (some ⟨bd, 0, none⟩))), (2, (.pointer (some ⟨bo, 0, none⟩))), (5, (.pointer (some ⟨b5, 0, none⟩))), (6, (.pointer (some ⟨bf, 0, none⟩))), (39, (.int .i64 ((d.next.length : Nat) : Int))), (40, (.int .i64 ((k : Nat) : Int))), (7, (.slice la k lc))]) ∧ Chg none1 w0 W3 ∧ Blk W3 bd #[(.int .i64 d.start), (.slice aa d.accept.length ac), (.slice (some ⟨nb, no, none⟩) d.next.length nc)] 44 ∧ Blk W3 bo #[(.int .i64 0), (.int .i64 0), (.slice none 0 0), (.slice none 0 0), (.slice none 0 0), (.slice none 0 0)] 46 ∧ Blk W3 b5 #[(.int .i64 d.start), (.int .i64 ((row0.length : Nat) : Int)), (.slice (some ⟨b35, 0, none⟩) d.accept.length c35), (.slice (some ⟨q35, 0, none⟩) d.next.length d.next.length), (.slice none 0 0), (.slice none 0 0)] TT ∧ Blk W3 b35 ((d.accept.map (Value.int .i64) ++ r35).toArray) TI ∧ Blk W3 q35 (((natV (List.replicate d.next.length 0)).map (Value.int .i64) ++ []).toArray) TI ∧ Blk W3 bf #[(.func (.func 49) #[] #[(.pointer (some ⟨bd, 0, none⟩))])] 97 ∧ (k ≤ d.next.length) ∧ (W3.ownsRow n1 TI 1 (.slice la k lc) k ((natV (List.range k)).map (Value.int .i64))) ∧ (n1 ≤ W3.heap.size) ∧ nn_ = d.next.length - k) (n := d.next.length - 0) ?_ ?_
    · exact ⟨0, none, 0, Fits.out ⟨rfl, rfl, rfl, rfl, rfl, rfl, rfl, trivial⟩, E, Bd, Bo, B5, B35, Q35, Bf, Nat.zero_le _, World.ownsRow_nil _ _ _ _, (by omega), rfl⟩
    · clear E Bd Bo B5 B35 Q35 Bf
      rintro _ _ W3 ⟨k, la, lc, ⟨j3, rfl⟩, E, Bd, Bo, B5, B35, Q35, Bf, hk, hown, hbs, rfl⟩
      refine Wp_seq_region ?_
      refine WpL_val rfl rfl (by decide) (r_lss (k := .i64) (a := ((k : Nat) : Int)) (b := ((d.next.length : Nat) : Int)) rfl rfl) ?_
      refine WpL_nil ?_
      refine Wp_seq ?_
      refine Wp_cond (b := decide ((((k : Nat) : Int) : Int) < ((d.next.length : Nat) : Int))) rfl (fun hlt => ?_) (fun hlt => ?_)
      · have khlt := hlt
        replace hlt := of_decide_eq_true hlt
        refine Wp_skip ?_
        refine thn_normal ?_
        refine Wp_seq ?_
        refine Wp_block ?_
        refine Wp_seq_region ?_
        refine WpL_val rfl rfl (by decide) (r_move (v := (.int .i64 ((k : Nat) : Int))) rfl) ?_
        refine WpL_val rfl rfl (by decide) (r_assign (v := (.int .i64 ((k : Nat) : Int))) rfl) ?_
        refine WpL_nil ?_
        refine Wp_region ?_
        refine WpL_val rfl rfl (by decide) (r_move (v := (.slice la k lc)) rfl) ?_
        refine WpL_val rfl rfl (by decide) (r_move (v := (.int .i64 ((k : Nat) : Int))) rfl) ?_
        refine s_buildSlice (ps := [(0, (.int .i64 ((k : Nat) : Int)))]) (c := #[(.int .i64 ((k : Nat) : Int))]) (by decide) rfl Try.underlying26 siz3 zer3 (by decide) (by decide) (by kernel_rfl) ?_
        intro bq wq Nq
        have Fq := Nq.ge E
        have Oq_bd := Nq.lt Bd
        have Oq_bo := Nq.lt Bo
        have Oq_b5 := Nq.lt B5
        have Oq_b35 := Nq.lt B35
        have Oq_q35 := Nq.lt Q35
        have Oq_bf := Nq.lt Bf
        replace Bd := Nq.keep Bd
        replace Bo := Nq.keep Bo
        replace B5 := Nq.keep B5
        replace B35 := Nq.keep B35
        replace Q35 := Nq.keep Q35
        replace Bf := Nq.keep Bf
        replace hown := own_ext hown Nq.ext
        replace hbs := Nat.le_trans hbs Nq.ext.size
        replace E := E.ext Nq.ext
        have Bq := Nq.blk
        refine s_append (base := n1) (n := k) (m := 1) (xs := (natV (List.range k)).map (Value.int .i64)) (news := [(.int .i64 ((k : Nat) : Int))]) (size := 1) (bytes := 8) (v := (.slice la k lc)) (by decide) Try.underlying26 siz3 byt3 zer3 rfl (by decide) rfl hown rfl (rfl) (Bq.cells rfl) (by simp [Value.oneCell']) (by unfold maxLen; omega) (by omega) (hbs) ?_
        intro v9 w29 Ov9 Cv9 Dv9
        replace Bd := Cv9.keep (fun h => by have := (hown.lt _ h).1; omega) Bd
        replace Bo := Cv9.keep (fun h => by have := (hown.lt _ h).1; omega) Bo
        replace B5 := Cv9.keep (fun h => by have := (hown.lt _ h).1; omega) B5
        replace B35 := Cv9.keep (fun h => by have := (hown.lt _ h).1; omega) B35
        replace Q35 := Cv9.keep (fun h => by have := (hown.lt _ h).1; omega) Q35
        replace Bf := Cv9.keep (fun h => by have := (hown.lt _ h).1; omega) Bf
        replace E := E.step Cv9 (fun x hx h => absurd (hown.lt x h).1 (by omega))
        obtain ⟨la2, lc2, rfl⟩ := own_form Ov9
        refine WpL_val rfl rfl (by decide) (r_assign (v := (.slice la2 (k + 1) lc2)) rfl) ?_
        refine WpL_nil ?_
        refine inB_normal ?_
        refine thn_normal ?_
        refine Wp_region ?_
        refine WpL_val rfl rfl (by decide) (r_add (k := .i64) (a := ((k : Nat) : Int)) (b := 1) (c := ((k : Nat) : Int) + 1) rfl rfl (wI64 (by omega))) ?_
        refine WpL_val rfl rfl (by decide) (r_move (v := (.int .i64 (((k : Nat) : Int) + 1))) rfl) ?_
        refine WpL_nil ?_
        refine thn_normal ?_
        exact ⟨d.next.length - (k + 1), by omega, k + 1, la2, lc2, Fits.out ⟨rfl, rfl, rfl, rfl, rfl, rfl, rfl, trivial⟩, E, Bd, Bo, B5, B35, Q35, Bf, (by omega), (by simpa [natV, List.range_succ] using Ov9), Nat.le_trans hbs Cv9.size, rfl⟩
      · have khlt := hlt
        replace hlt := of_decide_eq_false hlt
        have hkk : k = d.next.length := by omega
        obtain ⟨g, gr, rfl, hg1, hkc, hlm, hgl, hG⟩ := own_blkL hown (by omega)
        refine Wp_exit ?_
        refine thn_exit ?_
        refine thn_exit ?_
        refine inB_here ?_
        refine thn_normal ?_
        refine Wp_seq_region ?_
        refine WpL_val rfl rfl (by decide) (r_move (v := (.slice (some ⟨g, 0, none⟩) k lc)) rfl) ?_
        refine WpL_val rfl rfl (by decide) (r_makeFunc (vs := []) (us := [(.pointer (some ⟨bf, 0, none⟩))]) rfl rfl) ?_
        have hf : ∀ (w : World) (x y : Int), Chg (fun q => q = g) W3 w → x ∈ natV (List.range k) → y ∈ natV (List.range k) → CallV Try.prog (.func (.func 51) #[] #[.pointer (some ⟨bf, 0, none⟩)]) #[.int .i64 x, .int .i64 y] w fun r w' => r = .int .i64 (cmpI (entD d y) (entD d x)) ∧ Ext w w' := by (intro w x y hC hx hy; obtain ⟨s, hs, rfl⟩ := natV_mem hx; obtain ⟨u, hu, rfl⟩ := natV_mem hy; rw [List.mem_range] at hs hu; exact CallV.mk (first := #[]) (cap := #[.pointer (some ⟨bf, 0, none⟩)]) Try.func51 nm51 bd51 rfl (cmp2_c w bd bf d _ s u (hC.keep (fun h => by have h' : bd = g := h; omega) Bd) (hd0.ext (E.step hC (fun y hy h => by have h' : y = g := h; omega))) (hC.keep (fun h => by have h' : bf = g := h; omega) Bf) (by omega) (by omega)))
        have hsort2 : SortOk k := by rw [hkk]; exact hsort
        refine WpL_enter rfl rfl (by decide) (r_callF (vs := [(.slice (some ⟨g, 0, none⟩) k lc), (.func (.func 51) #[] #[(.pointer (some ⟨bf, 0, none⟩))])]) Try.func50 nm50 bd50 rfl) (hsort2 _ g lc TI (natV (List.range k)) gr _ (fun x y => cmpI (entD d y) (entD d x)) (fun x => - entD d x) (fun x y => by unfold cmpI; split <;> (try split) <;> omega) hG (by simp [natV]) hf) ?_
        rintro _ w39 ⟨l', f9, hp, hR9, hS9, hG9, C9⟩
        replace Bd := C9.keep (by omega) Bd
        replace Bo := C9.keep (by omega) Bo
        replace B5 := C9.keep (by omega) B5
        replace B35 := C9.keep (by omega) B35
        replace Q35 := C9.keep (by omega) Q35
        replace Bf := C9.keep (by omega) Bf
        replace E := E.step C9 (fun y hy h => by have h' : y = g := h; omega)
        have hpw := rar_uniq hR9 hS9 (by rw [hp.length_eq]; simp [natV]) (hp.nodup_iff.2 (nodup_natV k))
        obtain ⟨order, rfl, hop⟩ := natV_perm hp
        refine WpL_nil ?_
        refine Wp_seq_region ?_
        refine WpL_val rfl rfl (by decide) (r_makeFunc (vs := []) (us := [(.pointer (some ⟨b5, 0, none⟩))]) rfl rfl) ?_
        refine s_allocStore (v := (.func (.func 53) #[] #[(.pointer (some ⟨b5, 0, none⟩))])) (c := #[(.func (.func 53) #[] #[(.pointer (some ⟨b5, 0, none⟩))])]) (n := 1) (by decide) zer100 rfl siz100 rfl rfl rfl (by simp [Value.oneCell']) ?_
        intro be we Ne
        have Fe := Ne.ge E
        have Oe_bd := Ne.lt Bd
        have Oe_bo := Ne.lt Bo
        have Oe_b5 := Ne.lt B5
        have Oe_b35 := Ne.lt B35
        have Oe_q35 := Ne.lt Q35
        have Oe_bf := Ne.lt Bf
        have Oe_g := Ne.lt hG9
        replace Bd := Ne.keep Bd
        replace Bo := Ne.keep Bo
        replace B5 := Ne.keep B5
        replace B35 := Ne.keep B35
        replace Q35 := Ne.keep Q35
        replace Bf := Ne.keep Bf
        replace hG9 := Ne.keep hG9
        replace E := E.ext Ne.ext
        have Be := Ne.blk
        refine WpL_nil ?_
        refine Wp_seq ?_
        refine Wp_seq_region ?_
        refine WpL_val rfl rfl (by decide) (r_move (v := (.slice (some ⟨g, 0, none⟩) k lc)) rfl) ?_
        refine WpL_val rfl rfl (by decide) (r_lenSlice (ad := some ⟨g, 0, none⟩) (n := k) (cap := lc) Try.underlying26 rfl) ?_
        refine WpL_val rfl rfl (by decide) (r_move (v := (.int .i64 0)) rfl) ?_
        refine WpL_nil ?_
        refine Wp_block ?_
        obtain ⟨n2, hn2⟩ : ∃ n2, n2 = we.heap.size := ⟨_, rfl⟩
        have l2 : bd < n2 ∧ bo < n2 ∧ b5 < n2 ∧ b35 < n2 ∧ q35 < n2 ∧ bf < n2 ∧ g < n2 ∧ be < n2 := by rw [hn2]; exact ⟨Bd.lt, Bo.lt, B5.lt, B35.lt, Q35.lt, Bf.lt, hG9.lt, Be.lt⟩
        have hw2 : w0.heap.size ≤ n2 := by rw [hn2]; exact E.size
        have hol : order.length = k := by rw [hop.length_eq]; simp
        have hond : order.Nodup := hop.nodup_iff.2 List.nodup_range
        refine Wp_loop (fun nn_ σ W5 => ∃ (j L oc nc2 : Nat) (oa na2 : Option Addr) (owner nxt : List Int) (bs : List Nat), (∃ jj_, σ = upds jj_ [(1, (.pointer (some ⟨bd, 0, none⟩))), (2, (.pointer (some ⟨bo, 0, none⟩))), (5, (.pointer (some ⟨b5, 0, none⟩))), (6, (.pointer (some ⟨bf, 0, none⟩))), (9, (.pointer (some ⟨be, 0, none⟩))), (52, (.slice (some ⟨g, 0, none⟩) k lc)), (53, (.int .i64 ((k : Nat) : Int))), (54, (.int .i64 ((j : Nat) : Int)))]) ∧ Chg none1 w0 W5 ∧ Blk W5 bd #[(.int .i64 d.start), (.slice aa d.accept.length ac), (.slice (some ⟨nb, no, none⟩) d.next.length nc)] 44 ∧ Blk W5 bo #[(.int .i64 0), (.int .i64 0), (.slice none 0 0), (.slice none 0 0), (.slice none 0 0), (.slice none 0 0)] 46 ∧ Blk W5 b5 (#[(.int .i64 d.start), (.int .i64 ((row0.length : Nat) : Int)), (.slice (some ⟨b35, 0, none⟩) d.accept.length c35), (.slice (some ⟨q35, 0, none⟩) d.next.length d.next.length), (.slice oa L oc), (.slice na2 L nc2)]) TT ∧ Blk W5 b35 ((d.accept.map (Value.int .i64) ++ r35).toArray) TI ∧ Blk W5 q35 (((natV bs).map (Value.int .i64) ++ []).toArray) TI ∧ Blk W5 bf #[(.func (.func 49) #[] #[(.pointer (some ⟨bd, 0, none⟩))])] 97 ∧ Blk W5 g (((natV order).map (Value.int .i64) ++ gr).toArray) TI ∧ Blk W5 be #[(.func (.func 53) #[] #[(.pointer (some ⟨b5, 0, none⟩))])] 100 ∧ (j ≤ k) ∧ (PSt d.next order row0.length j owner nxt bs) ∧ (OSt n2 (fun _ => False) W5 (.slice oa L oc) (.slice na2 L nc2) L owner nxt) ∧ (n2 ≤ W5.heap.size) ∧ nn_ = k - j) (n := k - 0) ?_ ?_
        · exact ⟨0, 0, 0, 0, none, none, [], [], List.replicate d.next.length 0, Fits.out ⟨rfl, rfl, rfl, rfl, rfl, rfl, rfl, rfl, trivial⟩, E, Bd, Bo, B5, B35, Q35, Bf, hG9, Be, Nat.zero_le _, PSt.start _ _ _, OSt.start _ _ _, (by omega), rfl⟩
        · clear E Bd Bo B5 B35 Q35 Bf hG9 Be
          rintro _ _ W5 ⟨j, L, oc, nc2, oa, na2, owner, nxt, bs, ⟨j5, rfl⟩, E, Bd, Bo, B5, B35, Q35, Bf, hG9, Be, hj, hP, hO, hbs, rfl⟩
          refine Wp_seq_region ?_
          refine WpL_val rfl rfl (by decide) (r_lss (k := .i64) (a := ((j : Nat) : Int)) (b := ((k : Nat) : Int)) rfl rfl) ?_
          refine WpL_nil ?_
          refine Wp_seq ?_
          refine Wp_cond (b := decide ((((j : Nat) : Int) : Int) < ((k : Nat) : Int))) rfl (fun hlt => ?_) (fun hlt => ?_)
          · have khlt := hlt
            replace hlt := of_decide_eq_true hlt
            obtain ⟨s, hs⟩ := get_of_lt (l := order) (i := j) (by omega)
            have hsl : s < d.next.length := by have := hop.mem_iff.1 (List.mem_of_getElem? hs); simp at this; omega
            obtain ⟨row, hrow⟩ := get_of_lt hsl
            have hrl := hcols row (List.mem_of_getElem? hrow)
            obtain ⟨ra, rc, hcell, hints⟩ := hncl s row hrow
            have hjm : j * row0.length ≤ 201 * 16 := Nat.mul_le_mul (by omega) hc16
            have hjm1 : (j + 1) * row0.length ≤ 201 * 16 := Nat.mul_le_mul (by omega) hc16
            have hile : (idxs row).length ≤ 16 := by have := idxsN_le row row.length; unfold idxs; omega
            refine Wp_skip ?_
            refine thn_normal ?_
            refine Wp_seq ?_
            refine Wp_block ?_
            refine Wp_seq_region ?_
            refine WpL_val rfl rfl (by decide) (r_indexSlice (b := g) (o := 0) (len := k) (cap := lc) (i := j) (o' := 0 + j) rfl rfl rfl Try.underlying26 siz3 (by omega) (by omega)) ?_
            refine WpL_val rfl rfl (by decide) (r_load (v := (.int .i64 ((s : Nat) : Int))) rfl flat3 ((by rw [Nat.zero_add]; exact ints_get hG9 (natV_get hs)))) ?_
            refine WpL_val rfl rfl (by decide) (r_assign (v := (.int .i64 ((s : Nat) : Int))) rfl) ?_
            refine WpL_nil ?_
            refine Wp_seq ?_
            refine Wp_seq_region ?_
            refine WpL_val rfl rfl (by decide) (r_load (v := (.func (.func 49) #[] #[(.pointer (some ⟨bd, 0, none⟩))])) rfl flat97 (Bf.cell rfl)) ?_
            refine WpL_val rfl rfl (by decide) (r_move (v := (.int .i64 ((s : Nat) : Int))) rfl) ?_
            refine WpL_enter rfl rfl (by decide) (r_callV (first := #[]) (cap := #[(.pointer (some ⟨bd, 0, none⟩))]) (vs := [(.int .i64 ((s : Nat) : Int))]) (ws := #[(.int .i64 ((s : Nat) : Int)), (.pointer (some ⟨bd, 0, none⟩))]) rfl Try.func49 nm49 bd49 rfl rfl) (entries_c _ bd d _ s row Bd (hd0.ext E) hrow) ?_
            rintro _ w49 ⟨rfl, X49⟩
            replace Bd := X49.keep Bd
            replace Bo := X49.keep Bo
            replace B5 := X49.keep B5
            replace B35 := X49.keep B35
            replace Q35 := X49.keep Q35
            replace Bf := X49.keep Bf
            replace hG9 := X49.keep hG9
            replace Be := X49.keep Be
            replace hO := hO.ext X49
            replace hbs := Nat.le_trans hbs X49.size
            replace E := E.ext X49
            refine WpL_val rfl rfl (by decide) (r_eql (k := .i64) (a := (((idxs row).length : Nat) : Int)) (b := 0) rfl rfl) ?_
            refine WpL_nil ?_
            refine Wp_cond (b := decide (((((idxs row).length : Nat) : Int) : Int) = 0)) rfl (fun h0 => ?_) (fun h0 => ?_)
            · have kh0 := h0
              replace h0 := of_decide_eq_true h0
              refine Wp_exit ?_
              refine thn_exit ?_
              refine inB_here ?_
              refine thn_normal ?_
              refine Wp_region ?_
              refine WpL_val rfl rfl (by decide) (r_add (k := .i64) (a := ((j : Nat) : Int)) (b := 1) (c := ((j : Nat) : Int) + 1) rfl rfl (wI64 (by omega))) ?_
              refine WpL_val rfl rfl (by decide) (r_move (v := (.int .i64 (((j : Nat) : Int) + 1))) rfl) ?_
              refine WpL_nil ?_
              refine thn_normal ?_
              exact ⟨k - (j + 1), by omega, j + 1, L, oc, nc2, oa, na2, owner, nxt, bs, Fits.out ⟨rfl, rfl, rfl, rfl, rfl, rfl, rfl, rfl, trivial⟩, E, Bd, Bo, B5, B35, Q35, Bf, hG9, Be, (by omega), hP.skip hs hrow (List.length_eq_zero_iff.1 (by omega)), hO, hbs, rfl⟩
            · have kh0 := h0
              replace h0 := of_decide_eq_false h0
              have hOn := hO.new
              have hbs0 := hbs
              refine Wp_skip ?_
              refine thn_normal ?_
              refine Wp_seq_region ?_
              refine s_allocStore (v := (.int .i64 0)) (c := #[(.int .i64 0)]) (n := 1) (by decide) zer3 rfl siz3 rfl rfl rfl (by simp [Value.oneCell']) ?_
              intro bm wm Nm
              have Fm := Nm.ge E
              have Om_bd := Nm.lt Bd
              have Om_bo := Nm.lt Bo
              have Om_b5 := Nm.lt B5
              have Om_b35 := Nm.lt B35
              have Om_q35 := Nm.lt Q35
              have Om_bf := Nm.lt Bf
              have Om_g := Nm.lt hG9
              have Om_be := Nm.lt Be
              replace Bd := Nm.keep Bd
              replace Bo := Nm.keep Bo
              replace B5 := Nm.keep B5
              replace B35 := Nm.keep B35
              replace Q35 := Nm.keep Q35
              replace Bf := Nm.keep Bf
              replace hG9 := Nm.keep hG9
              replace Be := Nm.keep Be
              replace hO := hO.ext Nm.ext
              replace hbs := Nat.le_trans hbs Nm.ext.size
              replace E := E.ext Nm.ext
              have Bm := Nm.blk
              refine WpL_nil ?_
              refine Wp_seq ?_
              refine Wp_block ?_
              refine Wp_loop (fun nn_ σ W8 => ∃ (m : Nat), (∃ jj_, σ = upds jj_ [(1, (.pointer (some ⟨bd, 0, none⟩))), (2, (.pointer (some ⟨bo, 0, none⟩))), (5, (.pointer (some ⟨b5, 0, none⟩))), (6, (.pointer (some ⟨bf, 0, none⟩))), (9, (.pointer (some ⟨be, 0, none⟩))), (12, (.pointer (some ⟨bm, 0, none⟩))), (52, (.slice (some ⟨g, 0, none⟩) k lc)), (53, (.int .i64 ((k : Nat) : Int))), (54, (.int .i64 ((j : Nat) : Int))), (11, (.int .i64 ((s : Nat) : Int)))]) ∧ Chg none1 w0 W8 ∧ Blk W8 bd #[(.int .i64 d.start), (.slice aa d.accept.length ac), (.slice (some ⟨nb, no, none⟩) d.next.length nc)] 44 ∧ Blk W8 bo #[(.int .i64 0), (.int .i64 0), (.slice none 0 0), (.slice none 0 0), (.slice none 0 0), (.slice none 0 0)] 46 ∧ Blk W8 b5 #[(.int .i64 d.start), (.int .i64 ((row0.length : Nat) : Int)), (.slice (some ⟨b35, 0, none⟩) d.accept.length c35), (.slice (some ⟨q35, 0, none⟩) d.next.length d.next.length), (.slice oa L oc), (.slice na2 L nc2)] TT ∧ Blk W8 b35 ((d.accept.map (Value.int .i64) ++ r35).toArray) TI ∧ Blk W8 q35 (((natV bs).map (Value.int .i64) ++ []).toArray) TI ∧ Blk W8 bf #[(.func (.func 49) #[] #[(.pointer (some ⟨bd, 0, none⟩))])] 97 ∧ Blk W8 g (((natV order).map (Value.int .i64) ++ gr).toArray) TI ∧ Blk W8 be #[(.func (.func 53) #[] #[(.pointer (some ⟨b5, 0, none⟩))])] 100 ∧ Blk W8 bm (#[.int .i64 ((m : Nat) : Int)]) 3 ∧ (m ≤ owner.length) ∧ (∀ b', b' < m → ∃ c ∈ idxs row, freeB owner (b' + c) = false) ∧ (OSt n2 (fun y => y = bm) W8 (.slice oa L oc) (.slice na2 L nc2) L owner nxt) ∧ (n2 ≤ W8.heap.size) ∧ nn_ = owner.length - m) (n := owner.length - 0) ?_ ?_
              · exact ⟨0, Fits.out ⟨rfl, rfl, rfl, rfl, rfl, rfl, rfl, rfl, rfl, rfl, trivial⟩, E, Bd, Bo, B5, B35, Q35, Bf, hG9, Be, Bm, Nat.zero_le _, (fun b' h => absurd h (Nat.not_lt_zero _)), hO.fresh (fun y hy => .inr (hOn y (by rw [hy, Nm.eq]; exact Nat.le_refl _))), hbs, rfl⟩
              · clear E Bd Bo B5 B35 Q35 Bf hG9 Be Bm
                rintro _ _ W8 ⟨m, ⟨j8, rfl⟩, E, Bd, Bo, B5, B35, Q35, Bf, hG9, Be, Bm, hm, hmin, hO, hbs, rfl⟩
                refine Wp_seq ?_
                refine Wp_seq_region ?_
                refine WpL_val rfl rfl (by decide) (r_fieldAddr (b := bd) (o := 0) (o' := 2) rfl Try.underlying44 rfl siz42 rfl) ?_
                refine WpL_val rfl rfl (by decide) (r_load (v := (.slice (some ⟨nb, no, none⟩) d.next.length nc)) rfl flat42 (Bd.cell rfl)) ?_
                refine WpL_val rfl rfl (by decide) (r_move (v := (.int .i64 ((s : Nat) : Int))) rfl) ?_
                refine WpL_val rfl rfl (by decide) (r_indexSlice (b := nb) (o := no) (len := d.next.length) (cap := nc) (i := s) (o' := no + s) rfl rfl rfl Try.underlying42 siz26 (by omega) (by omega)) ?_
                refine WpL_val rfl rfl (by decide) (r_load (v := (.slice ra row.length rc)) rfl flat26 (E.cell (fun f => f) hcell)) ?_
                refine WpL_enter rfl rfl (by decide) (r_callF (vs := [(.slice ra row.length rc)]) Try.func55 nm55 bd55 rfl) (indices_c _ _ row (hints.ext E) (by omega)) ?_
                rintro _ w59 ⟨⟨ia, ic, rfl, hI⟩, X59⟩
                replace Bd := X59.keep Bd
                replace Bo := X59.keep Bo
                replace B5 := X59.keep B5
                replace B35 := X59.keep B35
                replace Q35 := X59.keep Q35
                replace Bf := X59.keep Bf
                replace hG9 := X59.keep hG9
                replace Be := X59.keep Be
                replace Bm := X59.keep Bm
                replace hO := hO.ext X59
                replace hbs := Nat.le_trans hbs X59.size
                replace E := E.ext X59
                refine WpL_val rfl rfl (by decide) (r_makeFunc (vs := []) (us := [(.pointer (some ⟨be, 0, none⟩)), (.pointer (some ⟨bm, 0, none⟩))]) rfl rfl) ?_
                have hf2 : ∀ (w : World) (x : Int), Ext w59 w → x ∈ natV (idxs row) → CallV Try.prog (.func (.func 56) #[] #[.pointer (some ⟨be, 0, none⟩), .pointer (some ⟨bm, 0, none⟩)]) #[.int .i64 x] w fun r w' => r = .bool (!freeB owner (m + x.toNat)) ∧ Ext w w' := by (intro w x hE hx; obtain ⟨c, hc, rfl⟩ := natV_mem hx; have hcl : c < row.length := (by obtain ⟨y, h1, _⟩ := mem_idxs.1 hc; exact lt_of_get h1); have := hP.ol; exact CallV.mk (first := #[]) (cap := #[.pointer (some ⟨be, 0, none⟩), .pointer (some ⟨bm, 0, none⟩)]) Try.func56 nm56 bd56 rfl (cont_c w b5 be bm c m owner _ _ _ _ _ _ (Ext.keep hE B5) (own_ints (own_ext hO.o hE) hO.ol) (Ext.keep hE Be) (Ext.keep hE Bm) (by omega)))
                refine WpL_enter rfl rfl (by decide) (r_callF (vs := [(.slice ia ((idxs row).length) ic), (.func (.func 56) #[] #[(.pointer (some ⟨be, 0, none⟩)), (.pointer (some ⟨bm, 0, none⟩))])]) Try.func54 nm54 bd54 rfl) (fi_has_c _ _ _ (natV (idxs row)) (fun x => !freeB owner (m + x.toNat)) (own_ints hI (by simp [natV])) hf2) ?_
                rintro _ w69 ⟨rfl, X69⟩
                replace Bd := X69.keep Bd
                replace Bo := X69.keep Bo
                replace B5 := X69.keep B5
                replace B35 := X69.keep B35
                replace Q35 := X69.keep Q35
                replace Bf := X69.keep Bf
                replace hG9 := X69.keep hG9
                replace Be := X69.keep Be
                replace Bm := X69.keep Bm
                replace hO := hO.ext X69
                replace hbs := Nat.le_trans hbs X69.size
                replace E := E.ext X69
                refine WpL_nil ?_
                refine Wp_cond (b := (natV (idxs row)).any (fun x => !freeB owner (m + x.toNat))) rfl (fun hany => ?_) (fun hany => ?_)
                · have khany := hany
                  have hml : m < owner.length := by rcases Nat.lt_or_ge m owner.length with h | h; exact h; rw [row_free h] at hany; cases hany
                  have hol2 := hP.ol
                  refine Wp_skip ?_
                  refine thn_normal ?_
                  refine Wp_block ?_
                  refine Wp_region ?_
                  refine WpL_val rfl rfl (by decide) (r_load (v := (.int .i64 ((m : Nat) : Int))) rfl flat3 (Bm.cell rfl)) ?_
                  refine WpL_val rfl rfl (by decide) (r_add (k := .i64) (a := ((m : Nat) : Int)) (b := 1) (c := (((m + 1 : Nat) : Nat) : Int)) rfl rfl ((wI64 (by omega)).trans (by omega))) ?_
                  refine s_store (b := bm) (o := 0) (c' := #[(.int .i64 (((m + 1 : Nat) : Nat) : Int))]) (v := (.int .i64 (((m + 1 : Nat) : Nat) : Int))) rfl rfl rfl siz3 Bm (by simp) rfl ?_
                  intro w10 S10
                  replace hO := hO.chg S10.chg (fun y hy => .inr hy)
                  replace hbs := Nat.le_trans hbs S10.chg.size
                  replace Bd := S10.keep (by omega) Bd
                  replace Bo := S10.keep (by omega) Bo
                  replace B5 := S10.keep (by omega) B5
                  replace B35 := S10.keep (by omega) B35
                  replace Q35 := S10.keep (by omega) Q35
                  replace Bf := S10.keep (by omega) Bf
                  replace hG9 := S10.keep (by omega) hG9
                  replace Be := S10.keep (by omega) Be
                  replace E := S10.step E (by first | exact Or.inl (by omega) | exact Or.inr rfl | exact Or.inr (by assumption) | exact Or.inr (by simp) | exact Or.inr (by omega) | exact Or.inr (by dsimp only; omega))
                  replace Bm := S10.blk
                  refine WpL_nil ?_
                  refine inB_normal ?_
                  refine thn_normal ?_
                  exact ⟨owner.length - (m + 1), by omega, m + 1, Fits.out ⟨rfl, rfl, rfl, rfl, rfl, rfl, rfl, rfl, rfl, rfl, trivial⟩, E, Bd, Bo, B5, B35, Q35, Bf, hG9, Be, Bm, (by omega), (fun b' hb' => by rcases Nat.lt_or_ge b' m with h9 | h9; exact hmin b' h9; obtain rfl : b' = m := (by omega); exact any_used hany), hO, hbs, rfl⟩
                · have khany := hany
                  have hfr := any_free (by simpa using hany)
                  have hol2 := hP.ol
                  refine Wp_exit ?_
                  refine thn_exit ?_
                  refine thn_exit ?_
                  refine inB_here ?_
                  refine thn_normal ?_
                  refine Wp_seq_region ?_
                  refine WpL_val rfl rfl (by decide) (r_fieldAddr (b := b5) (o := 0) (o' := 3) rfl Try.underlying46 rfl siz26 rfl) ?_
                  refine WpL_val rfl rfl (by decide) (r_load (v := (.slice (some ⟨q35, 0, none⟩) d.next.length d.next.length)) rfl flat26 (B5.cell rfl)) ?_
                  refine WpL_val rfl rfl (by decide) (r_move (v := (.int .i64 ((s : Nat) : Int))) rfl) ?_
                  refine WpL_val rfl rfl (by decide) (r_load (v := (.int .i64 ((m : Nat) : Int))) rfl flat3 (Bm.cell rfl)) ?_
                  refine WpL_val rfl rfl (by decide) (r_indexSlice (b := q35) (o := 0) (len := d.next.length) (cap := d.next.length) (i := s) (o' := 0 + s) rfl rfl (by omega) Try.underlying26 siz3 (by omega) (by omega)) ?_
                  refine s_store (b := q35) (o := 0 + s) (c' := ((natV (bs.set s m)).map (Value.int .i64) ++ []).toArray) (v := (.int .i64 ((m : Nat) : Int))) rfl rfl rfl siz3 Q35 (by simp [natV, hP.bl]; omega) (by rw [Nat.zero_add, ints_set (by simp [natV, hP.bl]; omega), natV_set]) ?_
                  intro w11 S11
                  replace hO := hO.chg S11.chg (fun y hy => .inl (by have h' : y = q35 := hy; omega))
                  replace hbs := Nat.le_trans hbs S11.chg.size
                  replace Bd := S11.keep (by omega) Bd
                  replace Bo := S11.keep (by omega) Bo
                  replace B5 := S11.keep (by omega) B5
                  replace B35 := S11.keep (by omega) B35
                  replace Bf := S11.keep (by omega) Bf
                  replace hG9 := S11.keep (by omega) hG9
                  replace Be := S11.keep (by omega) Be
                  replace Bm := S11.keep (by omega) Bm
                  replace E := S11.step E (by first | exact Or.inl (by omega) | exact Or.inr rfl | exact Or.inr (by assumption) | exact Or.inr (by simp) | exact Or.inr (by omega) | exact Or.inr (by dsimp only; omega))
                  replace Q35 := S11.blk
                  have hQ0 := QSt.start hP hs hond hsl hm (by omega) hfr hmin
                  have hOn2 := hO.new
                  have hbm0 := Bm.lt
                  refine WpL_nil ?_
                  refine Wp_seq_region ?_
                  refine WpL_val rfl rfl (by decide) (r_fieldAddr (b := bd) (o := 0) (o' := 2) rfl Try.underlying44 rfl siz42 rfl) ?_
                  refine WpL_val rfl rfl (by decide) (r_load (v := (.slice (some ⟨nb, no, none⟩) d.next.length nc)) rfl flat42 (Bd.cell rfl)) ?_
                  refine WpL_val rfl rfl (by decide) (r_move (v := (.int .i64 ((s : Nat) : Int))) rfl) ?_
                  refine WpL_val rfl rfl (by decide) (r_indexSlice (b := nb) (o := no) (len := d.next.length) (cap := nc) (i := s) (o' := no + s) rfl rfl rfl Try.underlying42 siz26 (by omega) (by omega)) ?_
                  refine WpL_val rfl rfl (by decide) (r_load (v := (.slice ra row.length rc)) rfl flat26 (E.cell (fun f => f) hcell)) ?_
                  refine WpL_enter rfl rfl (by decide) (r_callF (vs := [(.slice ra row.length rc)]) Try.func55 nm55 bd55 rfl) (indices_c _ _ row (hints.ext E) (by omega)) ?_
                  rintro _ w79 ⟨⟨ia, ic, rfl, hI⟩, X79⟩
                  replace Bd := X79.keep Bd
                  replace Bo := X79.keep Bo
                  replace B5 := X79.keep B5
                  replace B35 := X79.keep B35
                  replace Q35 := X79.keep Q35
                  replace Bf := X79.keep Bf
                  replace hG9 := X79.keep hG9
                  replace Be := X79.keep Be
                  replace Bm := X79.keep Bm
                  replace hO := hO.ext X79
                  replace hbs := Nat.le_trans hbs X79.size
                  replace E := E.ext X79
                  obtain ⟨ib, ir, rfl, hi1, hi2, hi3, hi4, hIB⟩ := own_blkL hI (by omega)
                  have hbi : bm < ib ∧ n2 ≤ bm := ⟨by omega, by have := Nm.eq; omega⟩
                  refine WpL_val rfl rfl (by decide) (r_lenSlice (ad := some ⟨ib, 0, none⟩) (n := (idxs row).length) (cap := ic) Try.underlying26 rfl) ?_
                  refine WpL_val rfl rfl (by decide) (r_move (v := (.int .i64 0)) rfl) ?_
                  refine WpL_nil ?_
                  refine Wp_block ?_
                  refine Wp_loop (fun nn_ σ W12 => ∃ (q L3 oc3 nc3 : Nat) (oa3 na3 : Option Addr) (ow3 nx3 : List Int), (∃ jj_, σ = upds jj_ [(1, (.pointer (some ⟨bd, 0, none⟩))), (2, (.pointer (some ⟨bo, 0, none⟩))), (5, (.pointer (some ⟨b5, 0, none⟩))), (6, (.pointer (some ⟨bf, 0, none⟩))), (9, (.pointer (some ⟨be, 0, none⟩))), (11, (.int .i64 ((s : Nat) : Int))), (12, (.pointer (some ⟨bm, 0, none⟩))), (52, (.slice (some ⟨g, 0, none⟩) k lc)), (53, (.int .i64 ((k : Nat) : Int))), (54, (.int .i64 ((j : Nat) : Int))), (83, (.int .i64 (((idxs row).length : Nat) : Int))), (84, (.int .i64 ((q : Nat) : Int))), (82, (.slice (some ⟨ib, 0, none⟩) ((idxs row).length) ic))]) ∧ Chg none1 w0 W12 ∧ Blk W12 bd #[(.int .i64 d.start), (.slice aa d.accept.length ac), (.slice (some ⟨nb, no, none⟩) d.next.length nc)] 44 ∧ Blk W12 bo #[(.int .i64 0), (.int .i64 0), (.slice none 0 0), (.slice none 0 0), (.slice none 0 0), (.slice none 0 0)] 46 ∧ Blk W12 b5 (#[(.int .i64 d.start), (.int .i64 ((row0.length : Nat) : Int)), (.slice (some ⟨b35, 0, none⟩) d.accept.length c35), (.slice (some ⟨q35, 0, none⟩) d.next.length d.next.length), (.slice oa3 L3 oc3), (.slice na3 L3 nc3)]) TT ∧ Blk W12 b35 ((d.accept.map (Value.int .i64) ++ r35).toArray) TI ∧ Blk W12 q35 (((natV (bs.set s m)).map (Value.int .i64) ++ []).toArray) TI ∧ Blk W12 bf #[(.func (.func 49) #[] #[(.pointer (some ⟨bd, 0, none⟩))])] 97 ∧ Blk W12 g (((natV order).map (Value.int .i64) ++ gr).toArray) TI ∧ Blk W12 be #[(.func (.func 53) #[] #[(.pointer (some ⟨b5, 0, none⟩))])] 100 ∧ Blk W12 bm #[(.int .i64 ((m : Nat) : Int))] TI ∧ Blk W12 ib (((natV (idxs row)).map (Value.int .i64) ++ ir).toArray) TI ∧ (q ≤ (idxs row).length) ∧ (QSt d.next order row0.length j s m row q ow3 nx3 (bs.set s m)) ∧ (OSt n2 (fun y => y = bm ∨ y = ib) W12 (.slice oa3 L3 oc3) (.slice na3 L3 nc3) L3 ow3 nx3) ∧ (n2 ≤ W12.heap.size) ∧ nn_ = (idxs row).length - q) (n := (idxs row).length - 0) ?_ ?_
                  · exact ⟨0, L, oc, nc2, oa, na2, owner, nxt, Fits.out ⟨rfl, rfl, rfl, rfl, rfl, rfl, rfl, rfl, rfl, rfl, rfl, rfl, rfl, trivial⟩, E, Bd, Bo, B5, B35, Q35, Bf, hG9, Be, Bm, hIB, Nat.zero_le _, hQ0, hO.fresh (fun y hy => by rcases hy with h | h; exact .inl h; exact .inr (hOn2 y (by omega))), hbs, rfl⟩
                  · clear E Bd Bo B5 B35 Q35 Bf hG9 Be Bm hIB
                    rintro _ _ W12 ⟨q, L3, oc3, nc3, oa3, na3, ow3, nx3, ⟨j12, rfl⟩, E, Bd, Bo, B5, B35, Q35, Bf, hG9, Be, Bm, hIB, hq, hQ, hO, hbs, rfl⟩
                    refine Wp_seq_region ?_
                    refine WpL_val rfl rfl (by decide) (r_lss (k := .i64) (a := ((q : Nat) : Int)) (b := (((idxs row).length : Nat) : Int)) rfl rfl) ?_
                    refine WpL_nil ?_
                    refine Wp_seq ?_
                    refine Wp_cond (b := decide ((((q : Nat) : Int) : Int) < (((idxs row).length : Nat) : Int))) rfl (fun hlt2 => ?_) (fun hlt2 => ?_)
                    · have khlt2 := hlt2
                      replace hlt2 := of_decide_eq_true hlt2
                      obtain ⟨c, hc⟩ := get_of_lt (l := idxs row) (i := q) (by omega)
                      have hcl : c < row.length := by obtain ⟨y, h1, _⟩ := mem_idxs.1 (List.mem_of_getElem? hc); exact lt_of_get h1
                      refine Wp_skip ?_
                      refine thn_normal ?_
                      refine Wp_seq ?_
                      refine Wp_block ?_
                      refine Wp_seq_region ?_
                      refine WpL_val rfl rfl (by decide) (r_indexSlice (b := ib) (o := 0) (len := (idxs row).length) (cap := ic) (i := q) (o' := 0 + q) rfl rfl rfl Try.underlying26 siz3 (by omega) (by omega)) ?_
                      refine WpL_val rfl rfl (by decide) (r_load (v := (.int .i64 ((c : Nat) : Int))) rfl flat3 ((by rw [Nat.zero_add]; exact ints_get hIB (natV_get hc)))) ?_
                      refine WpL_val rfl rfl (by decide) (r_assign (v := (.int .i64 ((c : Nat) : Int))) rfl) ?_
                      refine WpL_nil ?_
                      refine Wp_seq ?_
                      refine Wp_block ?_
                      refine Wp_loop (fun nn_ σ W14 => ∃ (L4 oc4 nc4 : Nat) (oa4 na4 : Option Addr) (ow4 nx4 : List Int), (∃ jj_, σ = upds jj_ [(1, (.pointer (some ⟨bd, 0, none⟩))), (2, (.pointer (some ⟨bo, 0, none⟩))), (5, (.pointer (some ⟨b5, 0, none⟩))), (6, (.pointer (some ⟨bf, 0, none⟩))), (9, (.pointer (some ⟨be, 0, none⟩))), (11, (.int .i64 ((s : Nat) : Int))), (12, (.pointer (some ⟨bm, 0, none⟩))), (52, (.slice (some ⟨g, 0, none⟩) k lc)), (53, (.int .i64 ((k : Nat) : Int))), (54, (.int .i64 ((j : Nat) : Int))), (82, (.slice (some ⟨ib, 0, none⟩) ((idxs row).length) ic)), (83, (.int .i64 (((idxs row).length : Nat) : Int))), (84, (.int .i64 ((q : Nat) : Int))), (14, (.int .i64 ((c : Nat) : Int)))]) ∧ Chg none1 w0 W14 ∧ Blk W14 bd #[(.int .i64 d.start), (.slice aa d.accept.length ac), (.slice (some ⟨nb, no, none⟩) d.next.length nc)] 44 ∧ Blk W14 bo #[(.int .i64 0), (.int .i64 0), (.slice none 0 0), (.slice none 0 0), (.slice none 0 0), (.slice none 0 0)] 46 ∧ Blk W14 b5 (#[(.int .i64 d.start), (.int .i64 ((row0.length : Nat) : Int)), (.slice (some ⟨b35, 0, none⟩) d.accept.length c35), (.slice (some ⟨q35, 0, none⟩) d.next.length d.next.length), (.slice oa4 L4 oc4), (.slice na4 L4 nc4)]) TT ∧ Blk W14 b35 ((d.accept.map (Value.int .i64) ++ r35).toArray) TI ∧ Blk W14 q35 (((natV (bs.set s m)).map (Value.int .i64) ++ []).toArray) TI ∧ Blk W14 bf #[(.func (.func 49) #[] #[(.pointer (some ⟨bd, 0, none⟩))])] 97 ∧ Blk W14 g (((natV order).map (Value.int .i64) ++ gr).toArray) TI ∧ Blk W14 be #[(.func (.func 53) #[] #[(.pointer (some ⟨b5, 0, none⟩))])] 100 ∧ Blk W14 bm #[(.int .i64 ((m : Nat) : Int))] TI ∧ Blk W14 ib (((natV (idxs row)).map (Value.int .i64) ++ ir).toArray) TI ∧ (QSt d.next order row0.length j s m row q ow4 nx4 (bs.set s m)) ∧ (OSt n2 (fun y => y = bm ∨ y = ib) W14 (.slice oa4 L4 oc4) (.slice na4 L4 nc4) L4 ow4 nx4) ∧ (n2 ≤ W14.heap.size) ∧ nn_ = m + c + 1 - L4) (n := m + c + 1 - L3) ?_ ?_
                      · exact ⟨L3, oc3, nc3, oa3, na3, ow3, nx3, Fits.out ⟨rfl, rfl, rfl, rfl, rfl, rfl, rfl, rfl, rfl, rfl, rfl, rfl, rfl, rfl, trivial⟩, E, Bd, Bo, B5, B35, Q35, Bf, hG9, Be, Bm, hIB, hQ, hO, hbs, rfl⟩
                      · clear E Bd Bo B5 B35 Q35 Bf hG9 Be Bm hIB
                        rintro _ _ W14 ⟨L4, oc4, nc4, oa4, na4, ow4, nx4, ⟨j14, rfl⟩, E, Bd, Bo, B5, B35, Q35, Bf, hG9, Be, Bm, hIB, hQ4, hO, hbs, rfl⟩
                        have hmb := hQ4.mb
                        have hlb := hQ4.ol
                        have hlb2 := hO.ol
                        refine Wp_seq ?_
                        refine Wp_seq_region ?_
                        refine WpL_val rfl rfl (by decide) (r_fieldAddr (b := b5) (o := 0) (o' := 4) rfl Try.underlying46 rfl siz26 rfl) ?_
                        refine WpL_val rfl rfl (by decide) (r_load (v := (.slice oa4 L4 oc4)) rfl flat26 (B5.cell rfl)) ?_
                        refine WpL_val rfl rfl (by decide) (r_lenSlice (ad := oa4) (n := L4) (cap := oc4) Try.underlying26 rfl) ?_
                        refine WpL_val rfl rfl (by decide) (r_load (v := (.int .i64 ((m : Nat) : Int))) rfl flat3 (Bm.cell rfl)) ?_
                        refine WpL_val rfl rfl (by decide) (r_move (v := (.int .i64 ((c : Nat) : Int))) rfl) ?_
                        refine WpL_val rfl rfl (by decide) (r_add (k := .i64) (a := ((m : Nat) : Int)) (b := ((c : Nat) : Int)) (c := (((m + c : Nat) : Nat) : Int)) rfl rfl ((wI64 (by omega)).trans (by omega))) ?_
                        refine WpL_val rfl rfl (by decide) (r_leq (k := .i64) (a := ((L4 : Nat) : Int)) (b := (((m + c : Nat) : Nat) : Int)) rfl rfl) ?_
                        refine WpL_nil ?_
                        refine Wp_cond (b := decide ((((L4 : Nat) : Int) : Int) ≤ (((m + c : Nat) : Nat) : Int))) rfl (fun hpad => ?_) (fun hpad => ?_)
                        · have khpad := hpad
                          replace hpad := of_decide_eq_true hpad
                          obtain ⟨n4, hn4⟩ : ∃ n4, n4 = W14.heap.size := ⟨_, rfl⟩
                          have l4 : bm < n4 ∧ ib < n4 := by rw [hn4]; exact ⟨Bm.lt, hIB.lt⟩
                          have hO0 := hO
                          refine Wp_skip ?_
                          refine thn_normal ?_
                          refine Wp_block ?_
                          obtain ⟨Fs16, hFs16⟩ : ∃ Fs : List FctE, Fs = [(fun _ v _ => v = (.pointer (some ⟨b5, 4, none⟩))), (fun _ v _ => v = (.slice oa4 L4 oc4)), (fun _ => oneF n4 (-1)), (fun _ => appW n2 n4 (L4 + 1) (ow4.map (Value.int .i64) ++ [.int .i64 (-1)]) (.slice oa4 L4 oc4)), (fun _ v _ => v = (.pointer (some ⟨b5, 5, none⟩))), (fun _ v _ => v = (.slice na4 L4 nc4)), (fun _ => oneF n4 (-1)), (fun s v w => appW n2 n4 (L4 + 1) (nx4.map (Value.int .i64) ++ [.int .i64 (-1)]) (.slice na4 L4 nc4) v w ∧ ApartV (s 98) v), (fun _ v _ => v = (.pointer (some ⟨b5, 4, none⟩)))] := ⟨_, rfl⟩
                          refine Wp_dagX (two 3 7 (fun y => (Value.slice oa4 L4 oc4).ownBlock = some y) (fun y => (Value.slice na4 L4 nc4).ownBlock = some y)) 9 [95, 96, 97, 98, 99, 100, 101, 102, 103] [[], [0], [], [1, 2], [], [4], [], [3, 5, 6], [0, 1, 2, 3, 4, 5]] [[], [0], [], [1, 0, 2], [], [4], [], [3, 1, 0, 2, 5, 4, 6], [0, 1, 2, 3, 4, 5]] Fs16 hFs16 (by kernel_rfl) mixed (by kernel_rfl) (by kernel_rfl) (by kernel_rfl) ?_ ?_
                          · intro wd X0
                            refine DagStepsX.cons (StabX.eq) (fun _ _ _ _ _ h => h) (fun s' w' X U H => ?_) ?_
                            · exact DoesT_val (r_fieldAddr (b := b5) (o := 0) (o' := 4) (U 5 rfl) Try.underlying46 rfl siz26 rfl) (Chg.refl _ _) rfl
                            refine DagStepsX.cons (StabX.eq) (fun _ _ _ _ _ h => h) (fun s' w' X U H => ?_) ?_
                            · have e95 : s' 95 = (.pointer (some ⟨b5, 4, none⟩)) := H 0 rfl 95 ((fun _ v _ => v = (.pointer (some ⟨b5, 4, none⟩)))) rfl (by rw [hFs16]; rfl)
                              exact DoesT_val (r_load (v := (.slice oa4 L4 oc4)) e95 flat26 ((Chg.keep X (fun h => (fun h => h.elim (fun h => by have := (hO0.o.lt _ h).1; omega) (fun h => by have := (hO0.n.lt _ h).1; omega)) (Past.or h)) (X0.keep B5)).cell rfl)) (Chg.refl _ _) rfl
                            refine DagStepsX.cons (fun p _ _ _ => oneF_chg _ _ (fun y hy => (two_or hy).elim (fun h => by have := (hO0.o.lt y h.2).2; omega) (fun h => by have := (hO0.n.lt y h.2).2; omega))) (LocX.const) (fun s' w' X U H => ?_) ?_
                            · exact DoesT_b1 rfl (by have := X0.size; have := X.size; omega)
                            refine DagStepsX.cons (appF_one (fun k hk hm => hk.elim (fun h => hO0.ap k h hm) (fun h => by have := (hO0.n.lt k hm).2; omega))) (LocX.const) (fun s' w' X U H => ?_) ?_
                            · have e96 : s' 96 = (.slice oa4 L4 oc4) := H 1 rfl 96 ((fun _ v _ => v = (.slice oa4 L4 oc4))) rfl (by rw [hFs16]; rfl)
                              obtain ⟨b97, e97, g97, B97⟩ := (show ((fun _ => oneF n4 (-1)) : FctE) s' (s' 97) w' from H 2 rfl 97 ((fun _ => oneF n4 (-1))) rfl (by rw [hFs16]; rfl))
                              exact DoesT_app e96 (own_ext (own_ext hO0.o X0) (X.mono (fun y _ h => Past.none rfl rfl h))) e97 B97 (by omega) (by have := X0.size; have := X.size; omega) (by have := X0.size; have := X.size; omega) (fun y h => h)
                            refine DagStepsX.cons (StabX.eq) (fun _ _ _ _ _ h => h) (fun s' w' X U H => ?_) ?_
                            · exact DoesT_val (r_fieldAddr (b := b5) (o := 0) (o' := 5) (U 5 rfl) Try.underlying46 rfl siz26 rfl) (Chg.refl _ _) rfl
                            refine DagStepsX.cons (StabX.eq) (fun _ _ _ _ _ h => h) (fun s' w' X U H => ?_) ?_
                            · have e99 : s' 99 = (.pointer (some ⟨b5, 5, none⟩)) := H 4 rfl 99 ((fun _ v _ => v = (.pointer (some ⟨b5, 5, none⟩)))) rfl (by rw [hFs16]; rfl)
                              exact DoesT_val (r_load (v := (.slice na4 L4 nc4)) e99 flat26 ((Chg.keep X (fun h => (fun h => h.elim (fun h => by have := (hO0.o.lt _ h).1; omega) (fun h => by have := (hO0.n.lt _ h).1; omega)) (Past.or h)) (X0.keep B5)).cell rfl)) (Chg.refl _ _) rfl
                            refine DagStepsX.cons (fun p _ _ _ => oneF_chg _ _ (fun y hy => (two_or hy).elim (fun h => by have := (hO0.o.lt y h.2).2; omega) (fun h => by have := (hO0.n.lt y h.2).2; omega))) (LocX.const) (fun s' w' X U H => ?_) ?_
                            · exact DoesT_b1 rfl (by have := X0.size; have := X.size; omega)
                            refine DagStepsX.cons (appF_two rfl) (fun s1 s2 h v w h2 => ⟨h2.1, by have := h 3 98 rfl rfl; rw [this]; exact h2.2⟩) (fun s' w' X U H => ?_) ?_
                            · have e100 : s' 100 = (.slice na4 L4 nc4) := H 5 rfl 100 ((fun _ v _ => v = (.slice na4 L4 nc4))) rfl (by rw [hFs16]; rfl)
                              obtain ⟨b101, e101, g101, B101⟩ := (show ((fun _ => oneF n4 (-1)) : FctE) s' (s' 101) w' from H 6 rfl 101 ((fun _ => oneF n4 (-1))) rfl (by rw [hFs16]; rfl))
                              exact app2 (H 3 rfl 98 _ rfl (by rw [hFs16]; rfl)) (DoesT_app (n0 := w'.heap.size) e100 (own_chg (own_ext hO0.n X0) (X.mono (fun y _ h => Past.fst rfl h)) (fun k hk hm => hO0.ap k hm hk)) e101 B101 (by omega) (by have := X0.size; have := X.size; omega) (Nat.le_refl _) (fun y h => h)) (by have := X0.size; have := X.size; omega) (fun k h1 h2 => h1.elim (fun h => hO0.ap k h h2) (fun h => by have := (hO0.n.lt k h2).2; omega))
                            refine DagStepsX.cons (StabX.eq) (fun _ _ _ _ _ h => h) (fun s' w' X U H => ?_) ?_
                            · exact DoesT_val (r_fieldAddr (b := b5) (o := 0) (o' := 4) (U 5 rfl) Try.underlying46 rfl siz26 rfl) (Chg.refl _ _) rfl
                            exact DagStepsX.nil
                          · intro s' wd16 w16 X0 X16 U H
                            replace X16 := X16.mono (M' := fun y => (fun y => (Value.slice oa4 L4 oc4).ownBlock = some y) y ∨ (fun y => (Value.slice na4 L4 nc4).ownBlock = some y) y) (fun y _ h => by obtain ⟨j, h⟩ := h; rcases two_or h with h | h; exact .inl h.2; exact .inr h.2)
                            obtain ⟨a98, c98, e98, O98, D98⟩ := (show ((fun _ => appW n2 n4 (L4 + 1) (ow4.map (Value.int .i64) ++ [.int .i64 (-1)]) (.slice oa4 L4 oc4)) : FctE) s' (s' 98) w16 from H 3 98 ((fun _ => appW n2 n4 (L4 + 1) (ow4.map (Value.int .i64) ++ [.int .i64 (-1)]) (.slice oa4 L4 oc4))) rfl (by rw [hFs16]; rfl))
                            obtain ⟨⟨a102, c102, e102, O102, D102⟩, A102⟩ := (show ((fun s v w => appW n2 n4 (L4 + 1) (nx4.map (Value.int .i64) ++ [.int .i64 (-1)]) (.slice na4 L4 nc4) v w ∧ ApartV (s 98) v) : FctE) s' (s' 102) w16 from H 7 102 ((fun s v w => appW n2 n4 (L4 + 1) (nx4.map (Value.int .i64) ++ [.int .i64 (-1)]) (.slice na4 L4 nc4) v w ∧ ApartV (s 98) v)) rfl (by rw [hFs16]; rfl))
                            have e103 : s' 103 = (.pointer (some ⟨b5, 4, none⟩)) := H 8 103 ((fun _ v _ => v = (.pointer (some ⟨b5, 4, none⟩)))) rfl (by rw [hFs16]; rfl)
                            obtain ⟨j16, rfl⟩ := Fits.out (σ := s') (l := [(1, (.pointer (some ⟨bd, 0, none⟩))), (2, (.pointer (some ⟨bo, 0, none⟩))), (5, (.pointer (some ⟨b5, 0, none⟩))), (6, (.pointer (some ⟨bf, 0, none⟩))), (9, (.pointer (some ⟨be, 0, none⟩))), (11, (.int .i64 ((s : Nat) : Int))), (12, (.pointer (some ⟨bm, 0, none⟩))), (14, (.int .i64 ((c : Nat) : Int))), (52, (.slice (some ⟨g, 0, none⟩) k lc)), (53, (.int .i64 ((k : Nat) : Int))), (54, (.int .i64 ((j : Nat) : Int))), (82, (.slice (some ⟨ib, 0, none⟩) ((idxs row).length) ic)), (83, (.int .i64 (((idxs row).length : Nat) : Int))), (84, (.int .i64 ((q : Nat) : Int))), (98, (.slice a98 (L4 + 1) c98)), (102, (.slice a102 (L4 + 1) c102)), (103, (.pointer (some ⟨b5, 4, none⟩)))]) ⟨U 1 rfl, U 2 rfl, U 5 rfl, U 6 rfl, U 9 rfl, U 11 rfl, U 12 rfl, U 14 rfl, U 52 rfl, U 53 rfl, U 54 rfl, U 82 rfl, U 83 rfl, U 84 rfl, e98, e102, e103, trivial⟩
                            clear U H
                            replace Bd := Chg.keep X16 (fun h => h.elim (fun h => by have := (hO0.o.lt _ h).1; omega) (fun h => by have := (hO0.n.lt _ h).1; omega)) (X0.keep Bd)
                            replace Bo := Chg.keep X16 (fun h => h.elim (fun h => by have := (hO0.o.lt _ h).1; omega) (fun h => by have := (hO0.n.lt _ h).1; omega)) (X0.keep Bo)
                            replace B5 := Chg.keep X16 (fun h => h.elim (fun h => by have := (hO0.o.lt _ h).1; omega) (fun h => by have := (hO0.n.lt _ h).1; omega)) (X0.keep B5)
                            replace B35 := Chg.keep X16 (fun h => h.elim (fun h => by have := (hO0.o.lt _ h).1; omega) (fun h => by have := (hO0.n.lt _ h).1; omega)) (X0.keep B35)
                            replace Q35 := Chg.keep X16 (fun h => h.elim (fun h => by have := (hO0.o.lt _ h).1; omega) (fun h => by have := (hO0.n.lt _ h).1; omega)) (X0.keep Q35)
                            replace Bf := Chg.keep X16 (fun h => h.elim (fun h => by have := (hO0.o.lt _ h).1; omega) (fun h => by have := (hO0.n.lt _ h).1; omega)) (X0.keep Bf)
                            replace hG9 := Chg.keep X16 (fun h => h.elim (fun h => by have := (hO0.o.lt _ h).1; omega) (fun h => by have := (hO0.n.lt _ h).1; omega)) (X0.keep hG9)
                            replace Be := Chg.keep X16 (fun h => h.elim (fun h => by have := (hO0.o.lt _ h).1; omega) (fun h => by have := (hO0.n.lt _ h).1; omega)) (X0.keep Be)
                            replace Bm := Chg.keep X16 (fun h => h.elim (fun h => hO0.ob _ h (.inl rfl)) (fun h => hO0.nb _ h (.inl rfl))) (X0.keep Bm)
                            replace hIB := Chg.keep X16 (fun h => h.elim (fun h => hO0.ob _ h (.inr rfl)) (fun h => hO0.nb _ h (.inr rfl))) (X0.keep hIB)
                            replace hO := hO.ext X0
                            replace hbs := Nat.le_trans hbs X0.size
                            replace hbs := Nat.le_trans hbs X16.size
                            replace E := (E.ext X0).step X16 (fun y hy h => h.elim (fun h => by have := (hO0.o.lt y h).1; omega) (fun h => by have := (hO0.n.lt y h).1; omega))
                            replace hO := hO0.pad O98 (fun k hk => by rw [← hn4]; exact D98 k hk) O102 (fun k hk => by rw [← hn4]; exact D102 k hk) (by rw [e98] at A102; exact A102) (fun y hy => by rcases hy with h | h <;> omega)
                            refine s_store (b := b5) (o := 4) (c' := #[(.int .i64 d.start), (.int .i64 ((row0.length : Nat) : Int)), (.slice (some ⟨b35, 0, none⟩) d.accept.length c35), (.slice (some ⟨q35, 0, none⟩) d.next.length d.next.length), (.slice a98 (L4 + 1) c98), (.slice na4 L4 nc4)]) (v := (.slice a98 (L4 + 1) c98)) rfl rfl rfl siz26 B5 (by simp) rfl ?_
                            intro w17 S17
                            replace hO := hO.chg S17.chg (fun y hy => .inl (by have h' : y = b5 := hy; omega))
                            replace hbs := Nat.le_trans hbs S17.chg.size
                            replace Bd := S17.keep (by omega) Bd
                            replace Bo := S17.keep (by omega) Bo
                            replace B35 := S17.keep (by omega) B35
                            replace Q35 := S17.keep (by omega) Q35
                            replace Bf := S17.keep (by omega) Bf
                            replace hG9 := S17.keep (by omega) hG9
                            replace Be := S17.keep (by omega) Be
                            replace Bm := S17.keep (by omega) Bm
                            replace hIB := S17.keep (by omega) hIB
                            replace E := S17.step E (by first | exact Or.inl (by omega) | exact Or.inr rfl | exact Or.inr (by assumption) | exact Or.inr (by simp) | exact Or.inr (by omega) | exact Or.inr (by dsimp only; omega))
                            replace B5 := S17.blk
                            refine WpL_val rfl rfl (by decide) (r_fieldAddr (b := b5) (o := 0) (o' := 5) rfl Try.underlying46 rfl siz26 rfl) ?_
                            refine s_store (b := b5) (o := 5) (c' := #[(.int .i64 d.start), (.int .i64 ((row0.length : Nat) : Int)), (.slice (some ⟨b35, 0, none⟩) d.accept.length c35), (.slice (some ⟨q35, 0, none⟩) d.next.length d.next.length), (.slice a98 (L4 + 1) c98), (.slice a102 (L4 + 1) c102)]) (v := (.slice a102 (L4 + 1) c102)) rfl rfl rfl siz26 B5 (by simp) rfl ?_
                            intro w18 S18
                            replace hO := hO.chg S18.chg (fun y hy => .inl (by have h' : y = b5 := hy; omega))
                            replace hbs := Nat.le_trans hbs S18.chg.size
                            replace Bd := S18.keep (by omega) Bd
                            replace Bo := S18.keep (by omega) Bo
                            replace B35 := S18.keep (by omega) B35
                            replace Q35 := S18.keep (by omega) Q35
                            replace Bf := S18.keep (by omega) Bf
                            replace hG9 := S18.keep (by omega) hG9
                            replace Be := S18.keep (by omega) Be
                            replace Bm := S18.keep (by omega) Bm
                            replace hIB := S18.keep (by omega) hIB
                            replace E := S18.step E (by first | exact Or.inl (by omega) | exact Or.inr rfl | exact Or.inr (by assumption) | exact Or.inr (by simp) | exact Or.inr (by omega) | exact Or.inr (by dsimp only; omega))
                            replace B5 := S18.blk
                            refine WpL_nil ?_
                            refine inB_normal ?_
                            refine thn_normal ?_
                            exact ⟨m + c + 1 - (L4 + 1), by omega, L4 + 1, c98, c102, a98, a102, ow4 ++ [-1], nx4 ++ [-1], Fits.out ⟨rfl, rfl, rfl, rfl, rfl, rfl, rfl, rfl, rfl, rfl, rfl, rfl, rfl, rfl, trivial⟩, E, Bd, Bo, B5, B35, Q35, Bf, hG9, Be, Bm, hIB, hQ4.pad (c := c) (by omega) (by omega) (List.mem_of_getElem? hc), hO, hbs, rfl⟩
                        · have khpad := hpad
                          replace hpad := of_decide_eq_false hpad
                          obtain ⟨x, hx⟩ := get_of_lt hcl
                          obtain ⟨rb, ro, hra, hrc⟩ := ints_cells hints (by omega)
                          subst hra
                          have hO0 := hO
                          obtain ⟨g1, r1, rfl, p1, p2, p3, p4, G1⟩ := own_blkL hO.o (by omega)
                          obtain ⟨g2, r2, rfl, s1, s2, s3, s4, G2⟩ := own_blkL hO.n (by omega)
                          have h12 : g1 ≠ g2 := fun h => hO.ap g1 rfl (by rw [h]; rfl)
                          have h1m : g1 ≠ bm := fun h => hO.ob g1 rfl (.inl h)
                          have h1i : g1 ≠ ib := fun h => hO.ob g1 rfl (.inr h)
                          have h2m : g2 ≠ bm := fun h => hO.nb g2 rfl (.inl h)
                          have h2i : g2 ≠ ib := fun h => hO.nb g2 rfl (.inr h)
                          refine Wp_exit ?_
                          refine thn_exit ?_
                          refine thn_exit ?_
                          refine inB_here ?_
                          refine thn_normal ?_
                          obtain ⟨Fs19, hFs19⟩ : ∃ Fs : List (FactT ((fun y => y = g1))), Fs = [.eq (.pointer (some ⟨b5, 4, none⟩)), .eq (.slice (some ⟨g1, 0, none⟩) L4 oc4), .eq (.int .i64 ((m : Nat) : Int)), .eq (.int .i64 ((c : Nat) : Int)), .eq (.int .i64 (((m : Nat) : Int) + ((c : Nat) : Int))), .eq (.pointer (some ⟨b5, 5, none⟩)), .eq (.slice (some ⟨g2, 0, none⟩) L4 nc4), .eq (.int .i64 ((m : Nat) : Int)), .eq (.int .i64 ((c : Nat) : Int)), .eq (.int .i64 (((m : Nat) : Int) + ((c : Nat) : Int))), .eq (.int .i64 ((s : Nat) : Int)), .eq (.pointer (some ⟨bd, 2, none⟩)), .eq (.slice (some ⟨nb, no, none⟩) d.next.length nc), .eq (.int .i64 ((s : Nat) : Int)), .eq (.pointer (some ⟨nb, no + s, none⟩)), .eq (.slice (some ⟨rb, ro, none⟩) row.length rc), .eq (.int .i64 ((c : Nat) : Int)), .eq (.pointer (some ⟨rb, ro + c, none⟩)), .eq (.int .i64 x), .eq (.pointer (some ⟨g1, 0 + (m + c), none⟩)), .own (fun _ w => Blk w g1 ((ow4.set (m + c) ((s : Nat) : Int)).map (Value.int .i64) ++ r1).toArray TI) (fun _ _ _ e h => Ext.keep e h)] := ⟨_, rfl⟩
                          refine Wp_dagT ((fun y => y = g1)) 21 20 [105, 106, 107, 108, 109, 110, 111, 112, 113, 114, 115, 116, 117, 118, 119, 120, 121, 122, 123, 124, 149] [[], [0], [], [], [2, 3], [], [5], [], [], [7, 8], [], [], [11], [], [12, 13], [14], [], [15, 16], [17], [0, 1, 2, 3, 4, 10, 15, 18], [0, 1, 2, 3, 4, 10, 15, 18, 19]] Fs19 hFs19 rfl mixed (by kernel_rfl) (by kernel_rfl) (by kernel_rfl) ?_ ?_
                          · intro wd X0
                            refine DagStepsT.cons (fun s' w' X U H => ?_) ?_
                            · exact DoesT_val (r_fieldAddr (b := b5) (o := 0) (o' := 4) (U 5 rfl) Try.underlying46 rfl siz26 rfl) (Chg.refl _ _) rfl
                            refine DagStepsT.cons (fun s' w' X U H => ?_) ?_
                            · have e105 : s' 105 = (.pointer (some ⟨b5, 4, none⟩)) := H 0 rfl 105 (.eq (.pointer (some ⟨b5, 4, none⟩))) rfl (by rw [hFs19]; rfl)
                              exact DoesT_val (r_load (v := (.slice (some ⟨g1, 0, none⟩) L4 oc4)) e105 flat26 ((Chg.keep X (fun f => f) (X0.keep B5)).cell rfl)) (Chg.refl _ _) rfl
                            refine DagStepsT.cons (fun s' w' X U H => ?_) ?_
                            · exact DoesT_val (r_load (v := (.int .i64 ((m : Nat) : Int))) (U 12 rfl) flat3 ((Chg.keep X (fun f => f) (X0.keep Bm)).cell rfl)) (Chg.refl _ _) rfl
                            refine DagStepsT.cons (fun s' w' X U H => ?_) ?_
                            · exact DoesT_val (r_move (v := (.int .i64 ((c : Nat) : Int))) (U 14 rfl)) (Chg.refl _ _) rfl
                            refine DagStepsT.cons (fun s' w' X U H => ?_) ?_
                            · have e107 : s' 107 = (.int .i64 ((m : Nat) : Int)) := H 2 rfl 107 (.eq (.int .i64 ((m : Nat) : Int))) rfl (by rw [hFs19]; rfl)
                              have e108 : s' 108 = (.int .i64 ((c : Nat) : Int)) := H 3 rfl 108 (.eq (.int .i64 ((c : Nat) : Int))) rfl (by rw [hFs19]; rfl)
                              exact DoesT_val (r_add (k := .i64) (a := ((m : Nat) : Int)) (b := ((c : Nat) : Int)) (c := ((m : Nat) : Int) + ((c : Nat) : Int)) e107 e108 (wI64 (by omega))) (Chg.refl _ _) rfl
                            refine DagStepsT.cons (fun s' w' X U H => ?_) ?_
                            · exact DoesT_val (r_fieldAddr (b := b5) (o := 0) (o' := 5) (U 5 rfl) Try.underlying46 rfl siz26 rfl) (Chg.refl _ _) rfl
                            refine DagStepsT.cons (fun s' w' X U H => ?_) ?_
                            · have e110 : s' 110 = (.pointer (some ⟨b5, 5, none⟩)) := H 5 rfl 110 (.eq (.pointer (some ⟨b5, 5, none⟩))) rfl (by rw [hFs19]; rfl)
                              exact DoesT_val (r_load (v := (.slice (some ⟨g2, 0, none⟩) L4 nc4)) e110 flat26 ((Chg.keep X (fun h => by have h' : b5 = g1 := h; omega) (X0.keep B5)).cell rfl)) (Chg.refl _ _) rfl
                            refine DagStepsT.cons (fun s' w' X U H => ?_) ?_
                            · exact DoesT_val (r_load (v := (.int .i64 ((m : Nat) : Int))) (U 12 rfl) flat3 ((Chg.keep X (fun h => by have h' : bm = g1 := h; omega) (X0.keep Bm)).cell rfl)) (Chg.refl _ _) rfl
                            refine DagStepsT.cons (fun s' w' X U H => ?_) ?_
                            · exact DoesT_val (r_move (v := (.int .i64 ((c : Nat) : Int))) (U 14 rfl)) (Chg.refl _ _) rfl
                            refine DagStepsT.cons (fun s' w' X U H => ?_) ?_
                            · have e112 : s' 112 = (.int .i64 ((m : Nat) : Int)) := H 7 rfl 112 (.eq (.int .i64 ((m : Nat) : Int))) rfl (by rw [hFs19]; rfl)
                              have e113 : s' 113 = (.int .i64 ((c : Nat) : Int)) := H 8 rfl 113 (.eq (.int .i64 ((c : Nat) : Int))) rfl (by rw [hFs19]; rfl)
                              exact DoesT_val (r_add (k := .i64) (a := ((m : Nat) : Int)) (b := ((c : Nat) : Int)) (c := ((m : Nat) : Int) + ((c : Nat) : Int)) e112 e113 (wI64 (by omega))) (Chg.refl _ _) rfl
                            refine DagStepsT.cons (fun s' w' X U H => ?_) ?_
                            · exact DoesT_val (r_move (v := (.int .i64 ((s : Nat) : Int))) (U 11 rfl)) (Chg.refl _ _) rfl
                            refine DagStepsT.cons (fun s' w' X U H => ?_) ?_
                            · exact DoesT_val (r_fieldAddr (b := bd) (o := 0) (o' := 2) (U 1 rfl) Try.underlying44 rfl siz42 rfl) (Chg.refl _ _) rfl
                            refine DagStepsT.cons (fun s' w' X U H => ?_) ?_
                            · have e116 : s' 116 = (.pointer (some ⟨bd, 2, none⟩)) := H 11 rfl 116 (.eq (.pointer (some ⟨bd, 2, none⟩))) rfl (by rw [hFs19]; rfl)
                              exact DoesT_val (r_load (v := (.slice (some ⟨nb, no, none⟩) d.next.length nc)) e116 flat42 ((Chg.keep X (fun h => by have h' : bd = g1 := h; omega) (X0.keep Bd)).cell rfl)) (Chg.refl _ _) rfl
                            refine DagStepsT.cons (fun s' w' X U H => ?_) ?_
                            · exact DoesT_val (r_move (v := (.int .i64 ((s : Nat) : Int))) (U 11 rfl)) (Chg.refl _ _) rfl
                            refine DagStepsT.cons (fun s' w' X U H => ?_) ?_
                            · have e117 : s' 117 = (.slice (some ⟨nb, no, none⟩) d.next.length nc) := H 12 rfl 117 (.eq (.slice (some ⟨nb, no, none⟩) d.next.length nc)) rfl (by rw [hFs19]; rfl)
                              have e118 : s' 118 = (.int .i64 ((s : Nat) : Int)) := H 13 rfl 118 (.eq (.int .i64 ((s : Nat) : Int))) rfl (by rw [hFs19]; rfl)
                              exact DoesT_val (r_indexSlice (b := nb) (o := no) (len := d.next.length) (cap := nc) (i := s) (o' := no + s) e117 e118 rfl Try.underlying42 siz26 (by omega) (by omega)) (Chg.refl _ _) rfl
                            refine DagStepsT.cons (fun s' w' X U H => ?_) ?_
                            · have e119 : s' 119 = (.pointer (some ⟨nb, no + s, none⟩)) := H 14 rfl 119 (.eq (.pointer (some ⟨nb, no + s, none⟩))) rfl (by rw [hFs19]; rfl)
                              exact DoesT_val (r_load (v := (.slice (some ⟨rb, ro, none⟩) row.length rc)) e119 flat26 (Chg.cell (Ext.trans E (X0.trans X)) (fun f => f) hcell)) (Chg.refl _ _) rfl
                            refine DagStepsT.cons (fun s' w' X U H => ?_) ?_
                            · exact DoesT_val (r_move (v := (.int .i64 ((c : Nat) : Int))) (U 14 rfl)) (Chg.refl _ _) rfl
                            refine DagStepsT.cons (fun s' w' X U H => ?_) ?_
                            · have e120 : s' 120 = (.slice (some ⟨rb, ro, none⟩) row.length rc) := H 15 rfl 120 (.eq (.slice (some ⟨rb, ro, none⟩) row.length rc)) rfl (by rw [hFs19]; rfl)
                              have e121 : s' 121 = (.int .i64 ((c : Nat) : Int)) := H 16 rfl 121 (.eq (.int .i64 ((c : Nat) : Int))) rfl (by rw [hFs19]; rfl)
                              exact DoesT_val (r_indexSlice (b := rb) (o := ro) (len := row.length) (cap := rc) (i := c) (o' := ro + c) e120 e121 rfl Try.underlying26 siz3 (by omega) (by omega)) (Chg.refl _ _) rfl
                            refine DagStepsT.cons (fun s' w' X U H => ?_) ?_
                            · have e122 : s' 122 = (.pointer (some ⟨rb, ro + c, none⟩)) := H 17 rfl 122 (.eq (.pointer (some ⟨rb, ro + c, none⟩))) rfl (by rw [hFs19]; rfl)
                              exact DoesT_val (r_load (v := (.int .i64 x)) e122 flat3 (Chg.cell (Ext.trans E (X0.trans X)) (fun f => f) (hrc c x hx))) (Chg.refl _ _) rfl
                            refine DagStepsT.cons (fun s' w' X U H => ?_) ?_
                            · have e106 : s' 106 = (.slice (some ⟨g1, 0, none⟩) L4 oc4) := H 1 rfl 106 (.eq (.slice (some ⟨g1, 0, none⟩) L4 oc4)) rfl (by rw [hFs19]; rfl)
                              have e109 : s' 109 = (.int .i64 (((m : Nat) : Int) + ((c : Nat) : Int))) := H 4 rfl 109 (.eq (.int .i64 (((m : Nat) : Int) + ((c : Nat) : Int)))) rfl (by rw [hFs19]; rfl)
                              exact DoesT_val (r_indexSlice (b := g1) (o := 0) (len := L4) (cap := oc4) (i := m + c) (o' := 0 + (m + c)) e106 e109 (by omega) Try.underlying26 siz3 (by omega) (by omega)) (Chg.refl _ _) rfl
                            refine DagStepsT.cons (fun s' w' X U H => ?_) ?_
                            · have e124 : s' 124 = (.pointer (some ⟨g1, 0 + (m + c), none⟩)) := H 19 rfl 124 (.eq (.pointer (some ⟨g1, 0 + (m + c), none⟩))) rfl (by rw [hFs19]; rfl)
                              have e115 : s' 115 = (.int .i64 ((s : Nat) : Int)) := H 10 rfl 115 (.eq (.int .i64 ((s : Nat) : Int))) rfl (by rw [hFs19]; rfl)
                              exact DoesT_store e124 e115 rfl siz3 (Chg.keep X (fun f => f) (X0.keep G1)) (by simp; omega) rfl (fun w9 h => by have h2 := h.blk; rw [Nat.zero_add, ints_set (by omega) _] at h2; exact h2)
                            exact DagStepsT.nil
                          · intro s' wd19 w19 X0 X19 U H
                            have e111 : s' 111 = (.slice (some ⟨g2, 0, none⟩) L4 nc4) := H 6 111 (.eq (.slice (some ⟨g2, 0, none⟩) L4 nc4)) rfl (by rw [hFs19]; rfl)
                            have e114 : s' 114 = (.int .i64 (((m : Nat) : Int) + ((c : Nat) : Int))) := H 9 114 (.eq (.int .i64 (((m : Nat) : Int) + ((c : Nat) : Int)))) rfl (by rw [hFs19]; rfl)
                            have e123 : s' 123 = (.int .i64 x) := H 18 123 (.eq (.int .i64 x)) rfl (by rw [hFs19]; rfl)
                            obtain G1 := (show (.own (fun _ w => Blk w g1 ((ow4.set (m + c) ((s : Nat) : Int)).map (Value.int .i64) ++ r1).toArray TI) (fun _ _ _ e h => Ext.keep e h) : FactT ((fun y => y = g1))).In (s' 149) w19 from H 20 149 (.own (fun _ w => Blk w g1 ((ow4.set (m + c) ((s : Nat) : Int)).map (Value.int .i64) ++ r1).toArray TI) (fun _ _ _ e h => Ext.keep e h)) rfl (by rw [hFs19]; rfl))
                            obtain ⟨j19, rfl⟩ := Fits.out (σ := s') (l := [(1, (.pointer (some ⟨bd, 0, none⟩))), (2, (.pointer (some ⟨bo, 0, none⟩))), (5, (.pointer (some ⟨b5, 0, none⟩))), (6, (.pointer (some ⟨bf, 0, none⟩))), (9, (.pointer (some ⟨be, 0, none⟩))), (11, (.int .i64 ((s : Nat) : Int))), (12, (.pointer (some ⟨bm, 0, none⟩))), (52, (.slice (some ⟨g, 0, none⟩) k lc)), (53, (.int .i64 ((k : Nat) : Int))), (54, (.int .i64 ((j : Nat) : Int))), (82, (.slice (some ⟨ib, 0, none⟩) ((idxs row).length) ic)), (83, (.int .i64 (((idxs row).length : Nat) : Int))), (84, (.int .i64 ((q : Nat) : Int))), (111, (.slice (some ⟨g2, 0, none⟩) L4 nc4)), (114, (.int .i64 (((m : Nat) : Int) + ((c : Nat) : Int)))), (123, (.int .i64 x))]) ⟨U 1 rfl, U 2 rfl, U 5 rfl, U 6 rfl, U 9 rfl, U 11 rfl, U 12 rfl, U 52 rfl, U 53 rfl, U 54 rfl, U 82 rfl, U 83 rfl, U 84 rfl, e111, e114, e123, trivial⟩
                            clear U H
                            replace Bd := Chg.keep X19 (fun h => by have h' : bd = g1 := h; omega) (X0.keep Bd)
                            replace Bo := Chg.keep X19 (fun h => by have h' : bo = g1 := h; omega) (X0.keep Bo)
                            replace B5 := Chg.keep X19 (fun h => by have h' : b5 = g1 := h; omega) (X0.keep B5)
                            replace B35 := Chg.keep X19 (fun h => by have h' : b35 = g1 := h; omega) (X0.keep B35)
                            replace Q35 := Chg.keep X19 (fun h => by have h' : q35 = g1 := h; omega) (X0.keep Q35)
                            replace Bf := Chg.keep X19 (fun h => by have h' : bf = g1 := h; omega) (X0.keep Bf)
                            replace hG9 := Chg.keep X19 (fun h => by have h' : g = g1 := h; omega) (X0.keep hG9)
                            replace Be := Chg.keep X19 (fun h => by have h' : be = g1 := h; omega) (X0.keep Be)
                            replace Bm := Chg.keep X19 (fun h => by have h' : bm = g1 := h; omega) (X0.keep Bm)
                            replace hIB := Chg.keep X19 (fun h => by have h' : ib = g1 := h; omega) (X0.keep hIB)
                            replace G2 := Chg.keep X19 (fun h => by have h' : g2 = g1 := h; omega) (X0.keep G2)
                            replace hbs := Nat.le_trans hbs X0.size
                            replace hbs := Nat.le_trans hbs X19.size
                            replace E := (E.ext X0).step X19 (fun y hy h => by have h' : y = g1 := h; omega)
                            refine WpL_val rfl rfl (by decide) (r_indexSlice (b := g2) (o := 0) (len := L4) (cap := nc4) (i := m + c) (o' := 0 + (m + c)) rfl rfl (by omega) Try.underlying26 siz3 (by omega) (by omega)) ?_
                            refine s_store (b := g2) (o := 0 + (m + c)) (c' := ((nx4.set (m + c) x).map (Value.int .i64) ++ r2).toArray) (v := (.int .i64 x)) rfl rfl rfl siz3 G2 (by have := hO0.nl; simp; omega) (by rw [Nat.zero_add]; exact ints_set (by have := hO0.nl; omega) _) ?_
                            intro w20 S20
                            replace hbs := Nat.le_trans hbs S20.chg.size
                            replace Bd := S20.keep (by omega) Bd
                            replace Bo := S20.keep (by omega) Bo
                            replace B5 := S20.keep (by omega) B5
                            replace B35 := S20.keep (by omega) B35
                            replace Q35 := S20.keep (by omega) Q35
                            replace Bf := S20.keep (by omega) Bf
                            replace hG9 := S20.keep (by omega) hG9
                            replace Be := S20.keep (by omega) Be
                            replace Bm := S20.keep (by omega) Bm
                            replace hIB := S20.keep (by omega) hIB
                            replace G1 := S20.keep (by omega) G1
                            replace E := S20.step E (by first | exact Or.inl (by omega) | exact Or.inr rfl | exact Or.inr (by assumption) | exact Or.inr (by simp) | exact Or.inr (by omega) | exact Or.inr (by dsimp only; omega))
                            replace G2 := S20.blk
                            have hO9 : OSt n2 (fun y => y = bm ∨ y = ib) w20 (.slice (some ⟨g1, 0, none⟩) L4 oc4) (.slice (some ⟨g2, 0, none⟩) L4 nc4) L4 (ow4.set (m + c) ((s : Nat) : Int)) (nx4.set (m + c) x) := ⟨blk_own G1 p1 (by simpa using hO0.ol) p2 p3 (by simpa using p4), blk_own G2 s1 (by simpa using hO0.nl) s2 s3 (by simpa using s4), hO0.ap, hO0.ob, hO0.nb, by simpa using hO0.ol, by simpa using hO0.nl⟩
                            refine WpL_nil ?_
                            refine inB_normal ?_
                            refine thn_normal ?_
                            refine Wp_region ?_
                            refine WpL_val rfl rfl (by decide) (r_add (k := .i64) (a := ((q : Nat) : Int)) (b := 1) (c := ((q : Nat) : Int) + 1) rfl rfl (wI64 (by omega))) ?_
                            refine WpL_val rfl rfl (by decide) (r_move (v := (.int .i64 (((q : Nat) : Int) + 1))) rfl) ?_
                            refine WpL_nil ?_
                            refine thn_normal ?_
                            exact ⟨(idxs row).length - (q + 1), by omega, q + 1, L4, oc4, nc4, some ⟨g1, 0, none⟩, some ⟨g2, 0, none⟩, ow4.set (m + c) ((s : Nat) : Int), nx4.set (m + c) x, Fits.out ⟨rfl, rfl, rfl, rfl, rfl, rfl, rfl, rfl, rfl, rfl, rfl, rfl, rfl, trivial⟩, E, Bd, Bo, B5, B35, Q35, Bf, hG9, Be, Bm, hIB, (by omega), hQ4.put hrow hc hx (by omega), hO9, hbs, rfl⟩
                    · have khlt2 := hlt2
                      replace hlt2 := of_decide_eq_false hlt2
                      have hqq : q = (idxs row).length := by omega
                      refine Wp_exit ?_
                      refine thn_exit ?_
                      refine thn_exit ?_
                      refine inB_here ?_
                      refine inB_normal ?_
                      refine thn_normal ?_
                      refine Wp_region ?_
                      refine WpL_val rfl rfl (by decide) (r_add (k := .i64) (a := ((j : Nat) : Int)) (b := 1) (c := ((j : Nat) : Int) + 1) rfl rfl (wI64 (by omega))) ?_
                      refine WpL_val rfl rfl (by decide) (r_move (v := (.int .i64 (((j : Nat) : Int) + 1))) rfl) ?_
                      refine WpL_nil ?_
                      refine thn_normal ?_
                      exact ⟨k - (j + 1), by omega, j + 1, L3, oc3, nc3, oa3, na3, ow3, nx3, bs.set s m, Fits.out ⟨rfl, rfl, rfl, rfl, rfl, rfl, rfl, rfl, trivial⟩, E, Bd, Bo, B5, B35, Q35, Bf, hG9, Be, (by omega), (by rw [hqq] at hQ; exact hQ.done hs hrow (fun h9 => h0 (by rw [h9]; rfl))), hO.fresh (fun y h => h.elim), hbs, rfl⟩
          · have khlt := hlt
            replace hlt := of_decide_eq_false hlt
            refine Wp_exit ?_
            refine thn_exit ?_
            refine thn_exit ?_
            refine inB_here ?_
            refine thn_normal ?_
            refine Wp_seq_region ?_
            refine WpL_val rfl rfl (by decide) (r_loadAgg (vs := [(.int .i64 d.start), (.int .i64 ((row0.length : Nat) : Int)), (.slice (some ⟨b35, 0, none⟩) d.accept.length c35), (.slice (some ⟨q35, 0, none⟩) d.next.length d.next.length), (.slice oa L oc), (.slice na2 L nc2)]) rfl agg46 siz46 rfl (B5.cells rfl)) ?_
            refine s_storeAgg (b := bo) (o := 0) (c' := #[(.int .i64 d.start), (.int .i64 ((row0.length : Nat) : Int)), (.slice (some ⟨b35, 0, none⟩) d.accept.length c35), (.slice (some ⟨q35, 0, none⟩) d.next.length d.next.length), (.slice oa L oc), (.slice na2 L nc2)]) rfl rfl (by simp [Value.oneCell']) siz46 rfl Bo (by first | (simp; done) | exact Nat.le_of_ble_eq_true rfl) rfl ?_
            intro w21 S21
            replace hO := hO.chg S21.chg (fun y hy => .inl (by have h' : y = bo := hy; omega))
            replace Bd := S21.keep (by omega) Bd
            replace B5 := S21.keep (by omega) B5
            replace B35 := S21.keep (by omega) B35
            replace Q35 := S21.keep (by omega) Q35
            replace Bf := S21.keep (by omega) Bf
            replace hG9 := S21.keep (by omega) hG9
            replace Be := S21.keep (by omega) Be
            replace E := S21.step E (by first | exact Or.inl (by omega) | exact Or.inr rfl | exact Or.inr (by assumption) | exact Or.inr (by simp) | exact Or.inr (by omega) | exact Or.inr (by dsimp only; omega))
            replace Bo := S21.blk
            refine WpL_val rfl rfl (by decide) (r_assign (v := (.int .i64 0)) rfl) ?_
            refine WpL_nil ?_
            refine Wp_ret ?_
            refine fin_agg_tmp Try.results15 (vs := [(.int .i64 d.start), (.int .i64 ((row0.length : Nat) : Int)), (.slice (some ⟨b35, 0, none⟩) d.accept.length c35), (.slice (some ⟨q35, 0, none⟩) d.next.length d.next.length), (.slice oa L oc), (.slice na2 L nc2)]) (b := bo) (v' := (.int .i64 0)) rfl agg46 siz46 rfl (Bo.cells rfl) rfl ?_
            have hjk : j = d.next.length := by omega
            subst hjk
            exact ⟨_, _, _, _, order, owner, nxt, bs, rfl, ints_own B35 f35 (by omega), (by have h9 := ints_own (c := bs.length) Q35 (by simp [natV]) (by simp [natV, hP.bl]; omega); rw [show (natV bs).length = bs.length from by simp [natV], hP.bl] at h9; exact h9), own_ints hO.o hO.ol, own_ints hO.n hO.nl, hkk ▸ hop, hpw, hP, ⟨fun b h => by have h' : b35 = b := Option.some.inj h; have := E.size; omega, fun b h => by have h' : q35 = b := Option.some.inj h; have := E.size; omega, fun b h => by have := (hO.o.lt b h).1; omega, fun b h => by have := (hO.n.lt b h).1; omega⟩, E⟩
end Go.Proofs
namespace Go.Proofs
open Go Go.Eng
/-- All rows are packed, those with more entries first. -/
def PkX (rows : List (List Int)) (ow nx : List Int) (bs : List Nat) : Prop := ∃ order : List Nat, List.Perm order (List.range rows.length) ∧ order.Pairwise (ltR rows) ∧ PTr rows order rows.length ow nx bs
theorem pkX_of {d : Dfa} {order : List Nat} {ow nx : List Int} {bs : List Nat} (hp : List.Perm order (List.range d.next.length)) (hw : (natV order).Pairwise (fun u v => - entD d u < - entD d v ∨ (- entD d u = - entD d v ∧ u < v))) (h : PTr d.next order d.next.length ow nx bs) : PkX d.next ow nx bs := by
  refine ⟨order, hp, ?_, h⟩
  unfold natV at hw
  rw [List.pairwise_map] at hw
  refine hw.imp fun {u v} h => ?_
  have e : ∀ s : Nat, entD d ((s : Nat) : Int) = ((cntR d.next s : Nat) : Int) := fun s => by unfold entD cntR; rw [Int.toNat_natCast]
  rw [e, e] at h
  unfold ltR
  omega
/-- The state that the reference ends in. -/
structure RFin (rows : List (List Int)) (dn : List Nat) (ow nx : List Int) (bs : List Nat) : Prop where
  tr : ∃ O X B, PkR rows dn.reverse O X B ∧ (∀ i, ow.getD i (-1) = O i) ∧ (∀ i, nx.getD i (-1) = X i) ∧ (∀ t, t < rows.length → bs[t]? = some (B t)) ∧ (∀ i, i < ow.length → ∃ k, i ≤ k ∧ 0 ≤ O k)
  nl : nx.length = ow.length
theorem pk_eq {rows : List (List Int)} {dn : List Nat} {ow nx ow' nx' : List Int} {bs bs' : List Nat} (h : PkX rows ow nx bs) (hR : RefO rows dn 0 0) (k : RFin rows dn ow' nx' bs') (hl : bs.length = rows.length) (hl' : bs'.length = rows.length) : ow' = ow ∧ nx' = nx ∧ bs' = bs := by
  obtain ⟨order, hp, hw, ⟨⟨O, X, B, h1, h2, h3, h4, h5⟩, h6⟩⟩ := h
  obtain ⟨⟨O', X', B', k1, k2, k3, k4, k5⟩, k6⟩ := k
  have hol : order.length = rows.length := by rw [hp.length_eq]; simp
  have e : order.filter (fun s => decide (idxs (rows.getD s []) ≠ [])) = dn := by
    refine ltR_uniq (hw.filter _) hR.pw fun u => ?_
    rw [List.mem_filter, hR.mem u, hp.mem_iff, List.mem_range, decide_eq_true_iff]
    unfold cntR
    rw [ne_eq, ← List.length_eq_zero_iff]
    omega
  unfold doneR at h1
  rw [show order.take rows.length = order by rw [← hol, List.take_length], e] at h1
  obtain ⟨rfl, rfl, rfl⟩ := PkR.uniq h1 k1
  have e1 := tight_eq k2 h2 k5 h5
  refine ⟨e1, getD_eq k3 h3 (by rw [k6, h6, e1]), ?_⟩
  apply List.ext_getElem?
  intro i
  rcases Nat.lt_or_ge i rows.length with h9 | h9
  · rw [h4 i h9, k4 i h9]
  · rw [List.getElem?_eq_none (by omega), List.getElem?_eq_none (by omega)]
end Go.Proofs
namespace Go.Eng
open Go
def edgeB (l : List Oper) (t u : Nat) : Bool := match l[t]? with
  | some o => o.after.any fun e => Region.binds .any e && Nat.beq e.on u
  | none => false
def guardB (hd : List Bool) (o : Oper) : Bool := match o.guard with | some p => hd.getD p.1 false | none => true
def permB (ops : Array Oper) : List Nat → Array Bool → Bool
  | [], listed => (Region.ready .any ops listed).isEmpty
  | k :: ks, listed => decide (Region.ready .any ops listed = [k]) && permB ops ks (listed.setIfInBounds k true)
theorem wpAny_of_perm {P : Program} {ops : Array Oper} {Q' : Exit → Act → World → Prop} : ∀ (ks : List Nat) (listed : Array Bool) (a : Act) (w : World), permB ops ks listed = true → wpList P ops Q' (ks.filterMap fun k => ops[k]?) a w → wpAny P .any ops Q' ks.length listed a w
  | [], _, _, _, hB, h => ⟨by simpa [permB] using hB, h⟩
  | k :: ks, listed, a, w, hB, h => by
    simp only [permB, Bool.and_eq_true, decide_eq_true_eq] at hB
    refine ⟨fun h1 => (by rw [hB.1] at h1; cases h1), fun i hi => ?_⟩
    have hi0 := hi
    rw [hB.1] at hi
    have hik : i = k := by simpa using hi
    subst hik
    obtain ⟨_, o, h0, _⟩ := mem_ready.1 hi0
    have hw : wpOp P ops Q' i (wpList P ops Q' (ks.filterMap fun k => ops[k]?)) a w := by
      rw [List.filterMap_cons, h0] at h
      unfold wpOp; simp only [h0]; exact h
    exact wpOp_mono (fun a' w' h' => wpAny_of_perm ks _ a' w' hB.2 h') hw
/-- How many of the head are yet to come. -/
def leftH (hd : List Bool) (listed : List Bool) : Nat := ((hd.zip listed).filter fun p => p.1 && !p.2).length
theorem leftH_set : ∀ {hd listed : List Bool} {i : Nat}, hd[i]? = some true → listed[i]? = some false → leftH hd (listed.set i true) + 1 = leftH hd listed
  | [], _, _, h, _ => by simp at h
  | _ :: _, [], _, _, h => by simp at h
  | h :: hd, x :: listed, 0, h1, h2 => by
    simp at h1 h2
    subst h1; subst h2
    simp [leftH]
  | h :: hd, x :: listed, i + 1, h1, h2 => by
    have := leftH_set (hd := hd) (listed := listed) (i := i) (by simpa using h1) (by simpa using h2)
    simp only [leftH, List.set_cons_succ, List.zip_cons_cons, List.filter_cons] at this ⊢
    split
    · simp only [List.length_cons]; omega
    · exact this
theorem leftH_zero : ∀ {hd listed : List Bool}, hd.length = listed.length → leftH hd listed = 0 → (∀ (i : Nat), hd[i]? = some false → listed[i]? = some false) → listed = hd
  | [], [], _, _, _ => rfl
  | [], _ :: _, h, _, _ => by simp at h
  | _ :: _, [], h, _, _ => by simp at h
  | h :: hd, x :: listed, hl, h0, ht => by
    have e1 : leftH hd listed = 0 := by
      simp only [leftH, List.zip_cons_cons, List.filter_cons] at h0 ⊢
      split at h0
      · simp at h0
      · exact h0
    have e2 := leftH_zero (by simpa using hl) e1 fun i hi => by have := ht (i + 1) (by simpa using hi); simpa using this
    have e3 : x = h := by
      cases h with
      | false => have := ht 0 rfl; simpa using this
      | true =>
        cases x with
        | true => rfl
        | false => simp [leftH] at h0
    rw [e2, e3]
theorem leftH_pos : ∀ {hd listed : List Bool}, 0 < leftH hd listed → ∃ i : Nat, hd[i]? = some true ∧ listed[i]? = some false
  | [], _, h => by simp [leftH] at h
  | _ :: _, [], h => by simp [leftH] at h
  | h :: hd, x :: listed, hp => by
    simp only [leftH, List.zip_cons_cons, List.filter_cons] at hp
    split at hp
    · rename_i hc
      simp at hc
      exact ⟨0, by simp [hc.1], by simp [hc.2]⟩
    · obtain ⟨i, h1, h2⟩ := leftH_pos (hd := hd) (listed := listed) hp
      exact ⟨i + 1, by simpa using h1, by simpa using h2⟩
theorem getD_arr {listed : Array Bool} {i : Nat} {b d : Bool} (h : listed.toList[i]? = some b) : listed.getD i d = b := by
  have : listed[i]? = some b := by simpa using h
  simp [Array.getD_eq_getD_getElem?, this]
section
variable {P : Program} {N : Nat} {σ : Env} {w : World} {dst : Option Tmp} {ty : TypeId} {pos : String} {af : Array Edge} {g : Option (Nat × Bool)} {t : TypeId} {x y z u : Operand} {a b c d : Value} {i j k m : Nat}
theorem bld1 (h : ev σ x = a) : ([(i, x)].map fun (i, x) => (i, ev σ x)) = [(i, a)] := by simp only [List.map, h]
theorem bld2 (h : ev σ x = a) (h2 : ev σ y = b) : ([(i, x), (j, y)].map fun (i, x) => (i, ev σ x)) = [(i, a), (j, b)] := by simp only [List.map, h, h2]
/-- A new variable, with its cells. -/
def alF (e : Nat) (c : Array Value) (hs : Nat) : Fct := fun v w => ∃ b, v = .pointer (some ⟨b, 0, none⟩) ∧ Blk w b c e ∧ hs ≤ b
theorem alF_ext (e : Nat) (c : Array Value) (hs : Nat) : Stable (alF e c hs) := by
  rintro v w w' x ⟨b, h1, h2, h3⟩
  exact ⟨b, h1, Ext.keep x h2, h3⟩
end
end Go.Eng
namespace Go.Eng
open Go
abbrev FctS := (Nat → Bool) → Env → Fct
def HoldsS (ds : List Nat) (Fs : List FctS) (S : Nat → Bool) (j : Nat) (σ : Env) (w : World) : Prop := ∀ d F, ds[j]? = some d → Fs[j]? = some F → F S σ (σ d) w
def insS (S : Nat → Bool) (i : Nat) : Nat → Bool := fun j => bif Nat.beq j i then true else S j
theorem insS_self (S : Nat → Bool) (i : Nat) : insS S i i = true := by simp [insS]
theorem insS_ne {S : Nat → Bool} {i j : Nat} (h : j ≠ i) : insS S i j = S j := by
  have : Nat.beq j i = false := by cases hb : Nat.beq j i; rfl; exact absurd (Nat.eq_of_beq_eq_true hb) h
  simp [insS, this]
/-- The blocks that the operations change. -/
def MsL : List (Nat × (Nat → Prop)) → Nat → Nat → Prop
  | [], _, _ => False
  | p :: r, j, y => (j = p.1 ∧ p.2 y) ∨ MsL r j y
def dagOneS (N i : Nat) (hd : List Bool) (o : Oper) (d : Nat) (ws : List Nat) : Bool :=
  (match o.dst with | some d' => Nat.beq d' d && Nat.blt d N | none => Nat.ble N d) && (o.after.all fun e => !Region.binds .any e || (Nat.blt e.on i && hd.getD e.on false)) && (ws.all fun j => o.after.any fun e => Region.binds .any e && Nat.beq e.on j) && guardB hd o
def dagSB (N : Nat) (hd : List Bool) : Nat → List Oper → List Nat → List (List Nat) → List Bool → Bool
  | _, [], [], [], [] => true
  | i, o :: l, d :: ds, ws :: wss, h :: hs => (bif h then dagOneS N i hd o d ws else Nat.ble N d) && dagSB N hd (i + 1) l ds wss hs
  | _, _, _, _, _ => false
theorem dagSB_get {N : Nat} {hd : List Bool} : ∀ {i : Nat} {l : List Oper} {ds : List Nat} {wss : List (List Nat)} {hs : List Bool}, dagSB N hd i l ds wss hs = true → ∀ {j : Nat} {o : Oper}, l[j]? = some o → ∃ d ws h, ds[j]? = some d ∧ wss[j]? = some ws ∧ hs[j]? = some h ∧ (bif h then dagOneS N (i + j) hd o d ws else Nat.ble N d) = true
  | _, [], _, _, _, _, j, o, h => by simp at h
  | i, x :: l, [], _, _, hB, _, _, _ => by simp [dagSB] at hB
  | i, x :: l, d :: ds, [], _, hB, _, _, _ => by simp [dagSB] at hB
  | i, x :: l, d :: ds, ws :: wss, [], hB, _, _, _ => by simp [dagSB] at hB
  | i, x :: l, d :: ds, ws :: wss, h0 :: hs, hB, j, o, h => by
    simp only [dagSB, Bool.and_eq_true] at hB
    cases j with
    | zero => simp at h; subst h; exact ⟨d, ws, h0, rfl, rfl, rfl, hB.1⟩
    | succ j =>
      simp at h
      obtain ⟨d', ws', h', h1, h2, h3, h4⟩ := dagSB_get hB.2 h
      exact ⟨d', ws', h', by simpa using h1, by simpa using h2, by simpa using h3, by rw [show i + (j + 1) = i + 1 + j from by omega]; exact h4⟩
theorem dagSB_len {N : Nat} {hd : List Bool} : ∀ {i : Nat} {l : List Oper} {ds : List Nat} {wss : List (List Nat)} {hs : List Bool}, dagSB N hd i l ds wss hs = true → ds.length = l.length ∧ hs.length = l.length ∧ wss.length = l.length
  | _, [], [], [], [], _ => ⟨rfl, rfl, rfl⟩
  | _, [], [], [], _ :: _, hB => by simp [dagSB] at hB
  | _, [], [], _ :: _, _, hB => by simp [dagSB] at hB
  | _, [], _ :: _, _, _, hB => by simp [dagSB] at hB
  | i, x :: l, [], _, _, hB => by simp [dagSB] at hB
  | i, x :: l, d :: ds, [], _, hB => by simp [dagSB] at hB
  | i, x :: l, d :: ds, ws :: wss, [], hB => by simp [dagSB] at hB
  | i, x :: l, d :: ds, ws :: wss, h0 :: hs, hB => by
    simp only [dagSB, Bool.and_eq_true] at hB
    have := dagSB_len hB.2
    simp [this.1, this.2.1, this.2.2]
def DagStepS (P : Program) (N : Nat) (ds : List Nat) (Fs : List FctS) (σ : Env) (w : World) (Ms : Nat → Nat → Prop) (cl : List (List Nat)) (i : Nat) (o : Oper) (ws : List Nat) (F : FctS) : Prop :=
  ∀ (S : Nat → Bool) σ' w', S i = false → (∀ j, (cl.getD j []).contains i = true → S j = false) → Chg (fun y => ∃ j, S j = true ∧ Ms j y) w w' → (∀ t, ds.contains t = false → σ' t = σ t) → (∀ j d, ds[j]? = some d → S j = false → σ' d = σ d) → (∀ j, ws.contains j = true → S j = true ∧ HoldsS ds Fs S j σ' w') →
    (Guarded ds o σ' ∧ DoesT (Ms i) P N o (fun v w => F (insS S i) σ' (Go.Eng.valOf o v) w) σ' w') ∨ (Unmet ds o σ' ∧ F (insS S i) σ' undef w')
/-- A fact lasts while other operations are done. -/
def StabS (Ms : Nat → Nat → Prop) (i : Nat) (ws : List Nat) (F : FctS) : Prop := ∀ p, p ≠ i → ws.contains p = false → ∀ S σ v w w', S i = true → S p = false → Chg (Ms p) w w' → F S σ v w → F (insS S p) σ v w'
/-- A fact speaks of the values of the operations that it waits for alone. -/
def LocS (ds : List Nat) (ws : List Nat) (F : FctS) : Prop := ∀ S (σ1 σ2 : Env), (∀ j d, ws.contains j = true → ds[j]? = some d → σ2 d = σ1 d) → ∀ v w, F S σ1 v w → F S σ2 v w
inductive DagStepsS (P : Program) (N : Nat) (ds : List Nat) (Fs : List FctS) (σ : Env) (w : World) (Ms : Nat → Nat → Prop) (cl : List (List Nat)) : Nat → List Oper → List (List Nat) → List Bool → List FctS → Prop where
  | nil {i : Nat} : DagStepsS P N ds Fs σ w Ms cl i [] [] [] []
  | cons {i : Nat} {o : Oper} {ws : List Nat} {F : FctS} {l : List Oper} {wss : List (List Nat)} {hs : List Bool} {Gs : List FctS} (s : StabS Ms i ws F) (lc : LocS ds ws F) (h : DagStepS P N ds Fs σ w Ms cl i o ws F) (t : DagStepsS P N ds Fs σ w Ms cl (i + 1) l wss hs Gs) : DagStepsS P N ds Fs σ w Ms cl i (o :: l) (ws :: wss) (true :: hs) (F :: Gs)
  | tail {i : Nat} {o : Oper} {ws : List Nat} {F : FctS} {l : List Oper} {wss : List (List Nat)} {hs : List Bool} {Gs : List FctS} (t : DagStepsS P N ds Fs σ w Ms cl (i + 1) l wss hs Gs) : DagStepsS P N ds Fs σ w Ms cl i (o :: l) (ws :: wss) (false :: hs) (F :: Gs)
def allS (hd : List Bool) : Nat → Bool := fun j => hd.getD j false
def DoesX (M : Nat → Prop) (ch : List PanicEntry) (X : World → Prop) (P : Program) (N : Nat) (o : Oper) (R : Fct) (σ : Env) (w : World) : Prop :=
  ∀ dz a, Ok dz N a → env a = σ → ∀ (Q : Exit → Act → World → Prop) (K : Act → World → Prop), (∀ v w', Chg M w w' → R v w' → K (a.put o.dst v) w') → (∀ w', Chg M w w' → X w' → Q (.panic ch) a w') → o.wp P a w K Q
theorem DoesT.x {M : Nat → Prop} {ch : List PanicEntry} {X : World → Prop} {P : Program} {N : Nat} {o : Oper} {R : Fct} {σ : Env} {w : World} (h : DoesT M P N o R σ w) : DoesX M ch X P N o R σ w := fun dz a ha he Q K hK _ => h dz a ha he Q K hK
theorem DoesX.weak {M : Nat → Prop} {ch : List PanicEntry} {X : World → Prop} {P : Program} {N : Nat} {o : Oper} {R R' : Fct} {σ : Env} {w : World} (h : DoesX M ch X P N o R σ w) (hr : ∀ v w', Chg M w w' → R v w' → R' v w') : DoesX M ch X P N o R' σ w := fun dz a ha he Q K hK hX => h dz a ha he Q K (fun v w' c r => hK v w' c (hr v w' c r)) hX
def DagStepG (P : Program) (N : Nat) (ds : List Nat) (Fs : List FctS) (σ : Env) (w : World) (Ms : Nat → Nat → Prop) (Rs : Nat → World → World → Prop) (ch : List PanicEntry) (X : World → Prop) (cl : List (List Nat)) (i : Nat) (o : Oper) (ws : List Nat) (F : FctS) : Prop :=
  ∀ (S : Nat → Bool) σ' w', S i = false → (∀ j, (cl.getD j []).contains i = true → S j = false) → Chg (fun y => ∃ j, S j = true ∧ Ms j y) w w' → (∀ t, ds.contains t = false → σ' t = σ t) → (∀ j d, ds[j]? = some d → S j = false → σ' d = σ d) → (∀ j, ws.contains j = true → S j = true ∧ HoldsS ds Fs S j σ' w') →
    (Guarded ds o σ' ∧ DoesX (Ms i) ch X P N o (fun v w => F (insS S i) σ' (Go.Eng.valOf o v) w ∧ Rs i w' w) σ' w') ∨ (Unmet ds o σ' ∧ F (insS S i) σ' undef w' ∧ Rs i w' w')
/-- A fact lasts while other operations are done. -/
def StabG (Ms : Nat → Nat → Prop) (Rs : Nat → World → World → Prop) (cl : List (List Nat)) (i : Nat) (ws : List Nat) (F : FctS) : Prop := ∀ p, p ≠ i → ws.contains p = false → ∀ S σ v w w', S i = true → S p = false → (∀ j, (cl.getD p []).contains j = true → S j = true) → Chg (Ms p) w w' → Rs p w w' → F S σ v w → F (insS S p) σ v w'
inductive DagStepsG (P : Program) (N : Nat) (ds : List Nat) (Fs : List FctS) (σ : Env) (w : World) (Ms : Nat → Nat → Prop) (Rs : Nat → World → World → Prop) (ch : List PanicEntry) (X : World → Prop) (cl : List (List Nat)) : Nat → List Oper → List (List Nat) → List Bool → List FctS → Prop where
  | nil {i : Nat} : DagStepsG P N ds Fs σ w Ms Rs ch X cl i [] [] [] []
  | cons {i : Nat} {o : Oper} {ws : List Nat} {F : FctS} {l : List Oper} {wss : List (List Nat)} {hs : List Bool} {Gs : List FctS} (s : StabG Ms Rs cl i ws F) (lc : LocS ds ws F) (h : DagStepG P N ds Fs σ w Ms Rs ch X cl i o ws F) (t : DagStepsG P N ds Fs σ w Ms Rs ch X cl (i + 1) l wss hs Gs) : DagStepsG P N ds Fs σ w Ms Rs ch X cl i (o :: l) (ws :: wss) (true :: hs) (F :: Gs)
  | tail {i : Nat} {o : Oper} {ws : List Nat} {F : FctS} {l : List Oper} {wss : List (List Nat)} {hs : List Bool} {Gs : List FctS} (t : DagStepsG P N ds Fs σ w Ms Rs ch X cl (i + 1) l wss hs Gs) : DagStepsG P N ds Fs σ w Ms Rs ch X cl i (o :: l) (ws :: wss) (false :: hs) (F :: Gs)
theorem DagStepsG.get {P : Program} {N : Nat} {ds : List Nat} {Fs : List FctS} {σ : Env} {w : World} {Ms : Nat → Nat → Prop} {Rs : Nat → World → World → Prop} {ch : List PanicEntry} {X : World → Prop} {cl : List (List Nat)} : ∀ {i : Nat} {l : List Oper} {wss : List (List Nat)} {hs : List Bool} {Gs : List FctS}, DagStepsG P N ds Fs σ w Ms Rs ch X cl i l wss hs Gs → ∀ {j : Nat} {o : Oper}, l[j]? = some o → hs[j]? = some true → ∃ ws F, wss[j]? = some ws ∧ Gs[j]? = some F ∧ StabG Ms Rs cl (i + j) ws F ∧ LocS ds ws F ∧ DagStepG P N ds Fs σ w Ms Rs ch X cl (i + j) o ws F
  | _, _, _, _, _, .nil, j, o, h, _ => by simp at h
  | i, _, _, _, _, .cons s lc h t, 0, o, ho, _ => by
    simp at ho; subst ho
    exact ⟨_, _, rfl, rfl, s, lc, h⟩
  | _, _, _, _, _, .tail t, 0, o, h, ht => by simp at ht
  | i, _, _, _, _, .cons s lc h t, j + 1, o, ho, ht => by
    obtain ⟨ws, F, h1, h2, h3, h5, h4⟩ := t.get (j := j) (by simpa using ho) (by simpa using ht)
    exact ⟨ws, F, by simpa using h1, by simpa using h2, by rw [show i + (j + 1) = i + 1 + j from by omega]; exact h3, h5, by rw [show i + (j + 1) = i + 1 + j from by omega]; exact h4⟩
  | i, _, _, _, _, .tail t, j + 1, o, ho, ht => by
    obtain ⟨ws, F, h1, h2, h3, h5, h4⟩ := t.get (j := j) (by simpa using ho) (by simpa using ht)
    exact ⟨ws, F, by simpa using h1, by simpa using h2, by rw [show i + (j + 1) = i + 1 + j from by omega]; exact h3, h5, by rw [show i + (j + 1) = i + 1 + j from by omega]; exact h4⟩
/-- An operation waits for another, be it by way of others. -/
def reachB (l : List Oper) : Nat → Nat → Nat → Bool
  | 0, i, u => edgeB l i u
  | k + 1, i, u => edgeB l i u || (List.range l.length).any fun v => edgeB l i v && reachB l k v u
def tailQB (l : List Oper) (hd : List Bool) (ts : List Nat) : Bool :=
  (List.range l.length).all fun i => hd.getD i false || (ts.contains i && ((List.range l.length).all (fun u => !hd.getD u false || reachB l 4 i u) || ts.any fun p => !hd.getD p true && edgeB l i p))
theorem reach_listed {l : List Oper} {listed : Array Bool} (hcd : ∀ (j : Nat) oj, l[j]? = some oj → listed.getD j false = true → ∀ e ∈ oj.after, Region.binds .any e = true → listed.getD e.on false = true) :
    ∀ (k j u : Nat), listed.getD j false = true → reachB l k j u = true → listed.getD u false = true := by
  have edge : ∀ j u, listed.getD j false = true → edgeB l j u = true → listed.getD u false = true := fun j u hj hu => by
    unfold edgeB at hu
    cases ho : l[j]? with
    | none => rw [ho] at hu; cases hu
    | some o =>
      rw [ho] at hu
      simp only [Array.any_eq_true', Bool.and_eq_true] at hu
      obtain ⟨e, he, hb1, hb2⟩ := hu
      have := Nat.eq_of_beq_eq_true hb2
      rw [← this]
      exact hcd j o ho hj e he hb1
  intro k
  induction k with
  | zero => intro j u hj h; exact edge j u hj h
  | succ k ih =>
    intro j u hj h
    simp only [reachB, Bool.or_eq_true] at h
    rcases h with h | h
    · exact edge j u hj h
    · obtain ⟨v, _, h2⟩ := List.any_eq_true.1 h
      rw [Bool.and_eq_true] at h2
      exact ih v u (edge j v hj h2.1) h2.2
theorem Wp_dagG {P : Program} {N : Nat} {Q : Post} {σ : Env} {w : World} {id : Nat} {l : List Oper} (Ms : Nat → Nat → Prop) (Rs : Nat → World → World → Prop) (ch : List PanicEntry) (X : World → Prop) (hd : List Bool) (ts : List Nat) (ds : List Nat) (wss cl : List (List Nat)) (Fs : List FctS) {Gs : List FctS} (hG : Fs = Gs) (hC : closB wss cl = true) (hm : P.follows .mixedOrders = true) (hB : dagSB N hd 0 l ds wss hd = true) (hn : nodupB ds = true)
    (hT : (tailQB l hd ts && permB l.toArray ts hd.toArray) = true) (hN : Nat.beq (leftH hd (List.replicate l.length false) + ts.length) l.length = true)
    (steps : ∀ w1, Ext w w1 → DagStepsG P N ds Fs σ w1 Ms Rs ch X cl 0 l cl hd Gs)
    (hX : ∀ σ' w1 w', Ext w w1 → Chg (fun y => ∃ j, Ms j y) w1 w' → X w' → Q (.panic ch) σ' w')
    (k : ∀ σ' w1 w', Ext w w1 → Chg (fun y => ∃ j, hd.getD j false = true ∧ Ms j y) w1 w' → (∀ t, ds.contains t = false → σ' t = σ t) → (∀ j, hd[j]? = some true → HoldsS ds Fs (allS hd) j σ' w') → WpL P N l.toArray (Q .normal) Q (ts.filterMap fun k => l[k]?) σ' w') : Wp P N (.region id l.toArray true) Q σ w := by
  intro dz a ha he
  have eQ : lift dz N (thn (Q .normal) Q) = lift dz N Q := by funext e a w; cases e <;> rfl
  refine wp_region_any hm ?_
  obtain ⟨w1, hw1⟩ : ∃ w1 : World, w1 = { w with drawn := w.drawn + 1 } := ⟨_, rfl⟩
  have hE1 : Ext w w1 := by rw [hw1]; exact drew_ext w
  rw [← hw1]
  have hst := steps w1 hE1
  rw [← hG] at hst
  rw [Bool.and_eq_true] at hT
  obtain ⟨hT1, hT2⟩ := hT
  obtain ⟨hlen, hlen2, hlen3⟩ := dagSB_len hB
  let Lf : Array Bool → Nat → Bool := fun listed j => listed.getD j false
  have key : ∀ (m : Nat) (listed : Array Bool) (a : Act) (w' : World), leftH hd listed.toList = m → listed.size = l.length → (∀ (t : Nat), hd[t]? = some false → listed.toList[t]? = some false) → (∀ (j : Nat) oj, l[j]? = some oj → listed.getD j false = true → ∀ e ∈ oj.after, Region.binds .any e = true → listed.getD e.on false = true) → Ok dz N a → Chg (fun y => ∃ j, listed.getD j false = true ∧ Ms j y) w1 w' → (∀ t, ds.contains t = false → env a t = σ t) → (∀ j d, ds[j]? = some d → listed.getD j false = false → env a d = σ d) → (∀ j, hd[j]? = some true → listed.getD j false = true → HoldsS ds Fs (Lf listed) j (env a) w') →
      wpAny P .any l.toArray (lift dz N Q) (m + ts.length) listed a w' := by
    intro m
    induction m with
    | zero =>
      intro listed a w' hc0 hsz htl hcd ha hx hu hv0 hh
      have hl : listed = hd.toArray := by
        apply Array.ext'
        exact leftH_zero (by simp; omega) hc0 htl
      have hLf : Lf listed = allS hd := by
        funext j
        show listed.getD j false = hd.getD j false
        rw [hl]; simp [List.getD_eq_getElem?_getD]
      rw [Nat.zero_add]
      have h1 := k (env a) w1 w' hE1 (hx.mono fun y _ h => by
        obtain ⟨j, h1, h2⟩ := h
        have : allS hd j = true := by rw [← hLf]; exact h1
        exact ⟨j, this, h2⟩) hu (fun j hj => by rw [← hLf]; exact hh j hj (getD_arr (by rw [hl]; exact hj))) dz a ha rfl
      rw [eQ] at h1
      exact wpAny_of_perm ts listed a w' (by rw [hl]; exact hT2) (by simpa using h1)
    | succ m ih =>
      intro listed a w' hcm hsz htl hcd ha hx hu hv0 hh
      obtain ⟨i0, hi0, hi1⟩ := leftH_pos (hd := hd) (listed := listed.toList) (by omega)
      rw [show m + 1 + ts.length = (m + ts.length) + 1 by omega]
      refine ⟨fun hr => ?_, fun i hi => ?_⟩
      · exfalso
        have hall : ∀ i : Nat, hd[i]? = some true → listed.getD i true = true := by
          intro i
          induction i using Nat.strongRecOn with
          | _ i ihi =>
            intro hi
            cases hv : listed.getD i true with
            | true => rfl
            | false =>
              exfalso
              obtain ⟨o, ho⟩ := get_of_lt (l := l) (i := i) (by have := lt_of_get hi; omega)
              obtain ⟨d, ws, h, _, _, h2, h3⟩ := dagSB_get hB ho
              rw [hi] at h2
              cases h2
              simp only [cond_true, dagOneS, Bool.and_eq_true, Nat.zero_add] at h3
              have : i ∈ Region.ready .any l.toArray listed := by
                refine mem_ready.2 ⟨hv, o, by simpa using ho, fun e he hb => ?_⟩
                have h4 := h3.1.1.2
                simp only [Array.all_eq_true_iff_forall_mem, Bool.or_eq_true, Bool.not_eq_true', Bool.and_eq_true] at h4
                have h6 := (h4 e he).resolve_left (by simp [hb])
                have hlt : e.on < i := by simpa [Nat.blt_eq] using h6.1
                have h7 := h6.2
                have hj0 : e.on < hd.length := by have := lt_of_get hi; omega
                have h8 : hd[e.on]? = some true := by
                  rw [List.getD_eq_getElem?_getD, List.getElem?_eq_getElem hj0, Option.getD_some] at h7
                  rw [List.getElem?_eq_getElem hj0, h7]
                have h9 := ihi e.on hlt h8
                have hj : e.on < listed.size := by omega
                simpa only [Array.getD_eq_getD_getElem?, Array.getElem?_eq_getElem hj, Option.getD_some] using h9
              rw [hr] at this
              cases this
        have := hall i0 hi0
        rw [getD_arr hi1] at this
        cases this
      · obtain ⟨h1, o, h2, h3⟩ := mem_ready.1 hi
        have ho : l[i]? = some o := by simpa using h2
        have hil : i < l.length := lt_of_get ho
        have hih : hd[i]? = some true := by
          obtain ⟨b, hb⟩ := get_of_lt (l := hd) (i := i) (by omega)
          cases b with
          | true => exact hb
          | false =>
            exfalso
            have h4 := List.all_eq_true.1 hT1 i (List.mem_range.2 hil)
            rw [List.getD_eq_getElem?_getD, hb, Option.getD_some, Bool.false_or, Bool.and_eq_true, Bool.or_eq_true] at h4
            have edge : ∀ u, edgeB l i u = true → listed.getD u false = true := fun u hu' => by
              unfold edgeB at hu'
              rw [ho] at hu'
              simp only [Array.any_eq_true', Bool.and_eq_true] at hu'
              obtain ⟨e, he, hb1, hb2⟩ := hu'
              have := Nat.eq_of_beq_eq_true hb2
              rw [← this]
              exact h3 e he hb1
            rcases h4.2 with h5 | h5
            · have h6 := List.all_eq_true.1 h5 i0 (List.mem_range.2 (by have := lt_of_get hi0; omega))
              rw [List.getD_eq_getElem?_getD, hi0, Option.getD_some, Bool.not_true, Bool.false_or] at h6
              have : listed.getD i0 false = true := by
                simp only [reachB, Bool.or_eq_true] at h6
                rcases h6 with h6 | h6
                · exact edge i0 h6
                · obtain ⟨v, _, h7⟩ := List.any_eq_true.1 h6
                  rw [Bool.and_eq_true] at h7
                  refine reach_listed hcd 3 v i0 (edge v h7.1) ?_
                  simp only [reachB]
                  exact h7.2
              rw [getD_arr hi1] at this
              cases this
            · obtain ⟨p, _, h6⟩ := List.any_eq_true.1 h5
              rw [Bool.and_eq_true, Bool.not_eq_true'] at h6
              have h7 := edge p h6.2
              have hp : hd[p]? = some false := by
                have h8 := h6.1
                rw [List.getD_eq_getElem?_getD] at h8
                cases h9 : hd[p]? with
                | none => rw [h9] at h8; cases h8
                | some b => rw [h9, Option.getD_some] at h8; rw [h8]
              rw [getD_arr (htl p hp)] at h7
              cases h7
        obtain ⟨d, ws, h, hd', hws, hhs, h4⟩ := dagSB_get hB ho
        rw [hih] at hhs
        cases hhs
        obtain ⟨ci, F, hci, hF, hstab, hloc, hstep⟩ := hst.get ho hih
        rw [Nat.zero_add] at hstab hstep
        simp only [cond_true, dagOneS, Bool.and_eq_true, List.all_eq_true, Array.any_eq_true', Nat.zero_add] at h4
        obtain ⟨⟨⟨hdst, _⟩, hwait⟩, hgB⟩ := h4
        have hlisted : ∀ j, listed.getD j false = true → hd[j]? = some true := fun j hj => by
          obtain ⟨b, hb⟩ := get_of_lt (l := hd) (i := j) (by
            rcases Nat.lt_or_ge j listed.size with h9 | h9
            · omega
            · simp [Array.getD_eq_getD_getElem?, Array.getElem?_eq_none h9] at hj)
          cases b with
          | true => exact hb
          | false => rw [getD_arr (htl j hb)] at hj; cases hj
        have hcl : ∀ j, listed.getD j false = true → ∀ c, (cl.getD j []).contains c = true → listed.getD c false = true := by
          intro j
          induction j using Nat.strongRecOn with
          | _ j ihj =>
            intro hlj c hc
            have hjh := hlisted j hlj
            obtain ⟨oc, hoc⟩ := get_of_lt (l := l) (i := j) (by have := lt_of_get hjh; omega)
            obtain ⟨dc, wsc, hb, _, hwsc, hhb, h5⟩ := dagSB_get hB hoc
            rw [hjh] at hhb
            cases hhb
            simp only [cond_true, dagOneS, Bool.and_eq_true, List.all_eq_true, Array.any_eq_true', Array.all_eq_true_iff_forall_mem, Bool.or_eq_true, Bool.not_eq_true', Nat.zero_add] at h5
            have hdir : ∀ e' ∈ wsc, listed.getD e' false = true ∧ e' < j := by
              intro e' he'
              obtain ⟨e, he, hb1, hb2⟩ := h5.1.2 e' he'
              have hei : e.on = e' := Nat.eq_of_beq_eq_true hb2
              have h6 := hcd j oc hoc hlj e he hb1
              have h7 := (h5.1.1.2 e he).resolve_left (by simp [hb1])
              rw [hei] at h6 h7
              exact ⟨h6, by simpa [Nat.blt_eq] using h7.1⟩
            rcases closB_get hC hwsc hc with h6 | ⟨e', he', h6⟩
            · exact (hdir c h6).1
            · exact ihj e' (hdir e' he').2 (hdir e' he').1 c h6
        have hclo : ∀ j, ci.contains j = true → listed.getD j false = true := by
          intro j hj
          have hj' : (cl.getD i []).contains j = true := by rw [List.getD_eq_getElem?_getD, hci, Option.getD_some]; exact hj
          have hdir : ∀ e' ∈ ws, listed.getD e' false = true := by
            intro e' he'
            obtain ⟨e, he, hb1, hb2⟩ := hwait e' he'
            have : e.on = e' := Nat.eq_of_beq_eq_true hb2
            exact this ▸ h3 e he hb1
          rcases closB_get hC hws hj' with h6 | ⟨e', he', h6⟩
          · exact hdir j h6
          · exact hcl e' (hdir e' he') j h6
        have hclo0 : ∀ j, (cl.getD i []).contains j = true → Lf listed j = true := fun j hj => hclo j (by rw [List.getD_eq_getElem?_getD, hci, Option.getD_some] at hj; exact hj)
        have hSi : Lf listed i = false := getD_both h1
        have hSn : ∀ j, (cl.getD j []).contains i = true → Lf listed j = false := by
          intro j hj
          cases hlj : Lf listed j with
          | false => rfl
          | true =>
            exfalso
            have := hcl j hlj i hj
            rw [getD_both h1] at this; cases this
        have hH : ∀ j, ci.contains j = true → Lf listed j = true ∧ HoldsS ds Fs (Lf listed) j (env a) w' := fun j hj => ⟨hclo j hj, hh j (hlisted j (hclo j hj)) (hclo j hj)⟩
        have hil2 : i < listed.size := by omega
        have hLs : Lf (listed.setIfInBounds i true) = insS (Lf listed) i := by
          funext j
          by_cases hij : j = i
          · subst hij
            rw [insS_self]
            show (listed.setIfInBounds j true).getD j false = true
            simp [Array.getD_eq_getD_getElem?, hil2]
          · rw [insS_ne hij]
            exact getD_set_ne _ (Ne.symm hij)
        have hstep2 : ∀ w2, Chg (Ms i) w' w2 → Chg (fun y => ∃ j, (listed.setIfInBounds i true).getD j false = true ∧ Ms j y) w1 w2 := by
          intro w2 hx2
          have hg : (listed.setIfInBounds i true).getD i false = true := by simp [Array.getD_eq_getD_getElem?, hil2]
          refine Chg.step (hx.mono fun y _ h => ?_) hx2 (fun y _ h => ⟨i, hg, h⟩)
          obtain ⟨j, h5, h6⟩ := h
          by_cases hij : j = i
          · exact ⟨i, hg, hij ▸ h6⟩
          · exact ⟨j, by rw [getD_set_ne _ (Ne.symm hij)]; exact h5, h6⟩
        have cont : ∀ v w2, Chg (Ms i) w' w2 → F (insS (Lf listed) i) (env a) (Go.Eng.valOf o v) w2 ∧ Rs i w' w2 → wpAny P .any l.toArray (lift dz N Q) (m + ts.length) (listed.setIfInBounds i true) (a.put o.dst v) w2 := by
          rintro v w2 hx2 ⟨hv, hrs⟩
          have henv : (∀ t, t ≠ d → env (a.put o.dst v) t = env a t) ∧ env (a.put o.dst v) d = Go.Eng.valOf o v := by
            cases hod : o.dst with
            | none =>
              rw [hod] at hdst
              have hNd : N ≤ d := Nat.le_of_ble_eq_true hdst
              refine ⟨fun t _ => rfl, ?_⟩
              simp only [Go.Eng.valOf, hod]
              show a.tmps.getD d undef = undef
              have : a.tmps.size ≤ d := by rw [ha.size]; exact hNd
              simp [Array.getElem?_eq_none this]
            | some d' =>
              rw [hod] at hdst
              simp only [Bool.and_eq_true] at hdst
              have hd1 : d' = d := Nat.eq_of_beq_eq_true hdst.1
              have hd2 : d < N := by simpa [Nat.blt_eq] using hdst.2
              subst hd1
              rw [env_put ha hd2 v]
              refine ⟨fun t ht => ?_, ?_⟩
              · have : Nat.beq t d' = false := by cases hb : Nat.beq t d'; rfl; exact absurd (Nat.eq_of_beq_eq_true hb) ht
                simp [upd, this]
              · simp [upd, Go.Eng.valOf, hod]
          have hlf : listed.toList[i]? = some false := by
            simp only [Array.getD_eq_getD_getElem?, Array.getElem?_eq_getElem hil2, Option.getD_some] at h1
            rw [Array.getElem?_toList, Array.getElem?_eq_getElem hil2, h1]
          refine ih _ _ _ ?_ (by simpa using hsz) (fun t ht => ?_) (fun j oj hoj hlj e he hb => ?_) (ha.put _ _) (hstep2 w2 hx2) ?_ ?_ ?_
          · rw [Array.toList_setIfInBounds]
            have := leftH_set hih hlf
            omega
          · rw [Array.toList_setIfInBounds, List.getElem?_set]
            have hne : i ≠ t := fun e => by rw [← e, hih] at ht; cases ht
            rw [if_neg hne]
            exact htl t ht
          · refine getD_set_true ?_
            by_cases hij : j = i
            · subst hij
              rw [ho] at hoj; cases hoj
              exact h3 e he hb
            · rw [getD_set_ne _ (Ne.symm hij)] at hlj
              exact hcd j oj hoj hlj e he hb
          · intro t ht
            rw [henv.1 t (fun h => by
              subst h
              have := List.mem_of_getElem? hd'
              simp [this] at ht), hu t ht]
          · intro j d2 hd2 hj2
            by_cases hij : j = i
            · subst hij
              have hg2 : (listed.setIfInBounds j true).getD j false = true := by simp [Array.getD_eq_getD_getElem?, hil2]
              rw [hg2] at hj2; cases hj2
            · rw [getD_set_ne _ (Ne.symm hij)] at hj2
              rw [henv.1 d2 (fun h => by subst h; exact hij (nodupB_get hn hd2 hd')), hv0 j d2 hd2 hj2]
          · intro j hjh hj d2 F2 hd2 hF2
            rw [hLs]
            by_cases hij : j = i
            · subst hij
              rw [hd'] at hd2; cases hd2
              rw [hF] at hF2; cases hF2
              rw [henv.2]
              refine hloc _ (env a) _ (fun j' d2 hj' hd2 => henv.1 d2 fun he => ?_) _ _ hv
              have := nodupB_get hn (he ▸ hd2) hd'
              subst this
              have := hclo j' hj'
              rw [getD_both h1] at this
              cases this
            · have hne : d2 ≠ d := by
                intro h
                subst h
                exact hij (nodupB_get hn hd2 hd')
              rw [henv.1 d2 hne]
              rw [getD_set_ne _ (Ne.symm hij)] at hj
              have h6 := hh j hjh hj d2 F2 hd2 hF2
              obtain ⟨oj, hoj⟩ := get_of_lt (l := l) (i := j) (by have := lt_of_get hjh; omega)
              obtain ⟨cj, Fj, hcj, hFj, hsj, hlj, _⟩ := hst.get hoj hjh
              rw [hF2] at hFj; cases hFj
              rw [Nat.zero_add] at hsj
              have hgc : cl.getD j [] = cj := by rw [List.getD_eq_getElem?_getD, hcj, Option.getD_some]
              have hcji : cj.contains i = false := by
                cases hcji : cj.contains i with
                | false => rfl
                | true =>
                  exfalso
                  have := hSn j (by rw [hgc]; exact hcji)
                  have hj' : Lf listed j = true := hj
                  rw [hj'] at this; cases this
              refine hlj _ (env a) _ (fun j' d3 hj' hd3 => henv.1 d3 fun he => ?_) _ _ (hsj i (Ne.symm hij) hcji (Lf listed) (env a) _ _ _ hj hSi hclo0 hx2 hrs h6)
              have h8 := nodupB_get hn (he ▸ hd3) hd'
              subst h8
              rw [hcji] at hj'
              cases hj'
        have gd : ∀ j b, o.guard = some (j, b) → ∀ dj, ds[j]? = some dj → ((∃ oj, l[j]? = some oj ∧ oj.dst = some dj) ∧ dj < N) ∨ (N ≤ dj ∧ ∃ oj, l[j]? = some oj ∧ oj.dst = none) := fun j b hgd dj hdj => by
          obtain ⟨oj, hoj⟩ := get_of_lt (l := l) (i := j) (by have := lt_of_get hdj; omega)
          obtain ⟨dj', _, hj, hdj', _, h5, h6⟩ := dagSB_get hB hoj
          rw [hdj] at hdj'
          cases hdj'
          unfold guardB at hgB
          rw [hgd] at hgB
          simp only at hgB
          have h7 : hj = true := by rw [List.getD_eq_getElem?_getD, h5, Option.getD_some] at hgB; exact hgB
          rw [h7] at h6
          simp only [cond_true, Bool.and_eq_true, dagOneS] at h6
          have hdst2 := h6.1.1.1
          split at hdst2
          · rename_i d2 hq
            rw [Bool.and_eq_true] at hdst2
            exact .inl ⟨⟨oj, hoj, by rw [hq, Nat.eq_of_beq_eq_true hdst2.1]⟩, by simpa [Nat.blt_eq] using hdst2.2⟩
          · rename_i hq
            exact .inr ⟨Nat.le_of_ble_eq_true hdst2, oj, hoj, hq⟩
        rcases hstep (Lf listed) (env a) w' hSi hSn hx hu hv0 hH with ⟨hg, hdo⟩ | ⟨⟨j, b, dj, hgd, hdj, hvj⟩, hund, hrs⟩
        · have hw : Region.wanted o (yielded l.toArray a.tmps) = true := by
            cases hgd : o.guard with
            | none => simp [Region.wanted, hgd]
            | some p =>
              obtain ⟨j, b⟩ := p
              obtain ⟨dj, hdj, hvj⟩ := hg j b hgd
              rcases gd j b hgd dj hdj with ⟨hdst2, hdN2⟩ | ⟨hge, _⟩
              · have h6 : a.tmps[dj]? = some (Value.bool b) := by
                  have h2 : a.tmps.getD dj undef = .bool b := hvj
                  have hlt : dj < a.tmps.size := by rw [ha.size]; exact hdN2
                  rw [Array.getElem?_eq_getElem hlt]
                  simpa [hlt] using h2
                obtain ⟨oj, hoj, hdst2⟩ := hdst2
                simp [Region.wanted, hgd, yielded, hoj, hdst2, h6]
              · exfalso
                have h2 : a.tmps.getD dj undef = .bool b := hvj
                have : a.tmps.size ≤ dj := by rw [ha.size]; exact hge
                simp [Array.getElem?_eq_none this, undef] at h2
          unfold wpOp
          simp only [h2, hw, if_true]
          exact Or.inl (hdo _ a ha rfl _ _ cont (fun w2 hx2 hX2 => ⟨ha, hX (env a) w1 w2 hE1 ((hstep2 w2 hx2).mono fun y _ h => h.imp fun j h => h.2) hX2⟩))
        · have hw : Region.wanted o (yielded l.toArray a.tmps) = false := by
            rcases gd j b hgd dj hdj with ⟨hdst2, hdN2⟩ | ⟨_, oj, hoj, hq⟩
            · have hlt : dj < a.tmps.size := by rw [ha.size]; exact hdN2
              have h6 : a.tmps[dj]? = some (env a dj) := by
                rw [Array.getElem?_eq_getElem hlt]
                simp [env, hlt]
              obtain ⟨oj, hoj, hdst2⟩ := hdst2
              rcases hvj with hvj | hvj
              · rw [hvj] at h6
                cases b <;> simp [Region.wanted, hgd, yielded, hoj, hdst2, h6]
              · rw [hvj] at h6
                simp [Region.wanted, hgd, yielded, hoj, hdst2, h6, undef]
            · simp [Region.wanted, hgd, yielded, hoj, hq]
          unfold wpOp
          simp only [h2, hw, Bool.false_eq_true, if_false]
          exact cont undef w' (Chg.refl _ _) (by
            have : Go.Eng.valOf o undef = undef := by unfold Go.Eng.valOf; split <;> rfl
            rw [this]; exact ⟨hund, hrs⟩)
  have h1 := key (leftH hd (Array.replicate l.toArray.size false).toList) (Array.replicate l.toArray.size false) a w1 rfl (by simp) (fun t ht => by have h9 := lt_of_get ht; rw [Array.toList_replicate, List.getElem?_replicate, if_pos (by rw [List.size_toArray]; omega)]) (fun j oj _ hl => (by rw [getD_replicate_false] at hl; cases hl)) ha (Chg.refl _ _) (fun t _ => by rw [he]) (fun j d _ _ => by rw [he]) (fun j _ hj => by rw [getD_replicate_false] at hj; cases hj)
  have e3 : leftH hd (Array.replicate l.toArray.size false).toList + ts.length = l.toArray.size := by have h9 := Nat.eq_of_beq_eq_true hN; simpa using h9
  rw [e3] at h1
  exact h1
theorem DagStepS.toG {P : Program} {N : Nat} {ds : List Nat} {Fs : List FctS} {σ : Env} {w : World} {Ms : Nat → Nat → Prop} {cl : List (List Nat)} {i : Nat} {o : Oper} {ws : List Nat} {F : FctS} (h : DagStepS P N ds Fs σ w Ms cl i o ws F) : DagStepG P N ds Fs σ w Ms (fun _ _ _ => True) [] (fun _ => False) cl i o ws F := fun S σ' w' a b c d e f =>
  (h S σ' w' a b c d e f).imp (fun ⟨g, h⟩ => ⟨g, (DoesT.x h).weak fun _ _ _ r => ⟨r, trivial⟩⟩) fun ⟨u, f⟩ => ⟨u, f, trivial⟩
theorem DagStepsS.toG {P : Program} {N : Nat} {ds : List Nat} {Fs : List FctS} {σ : Env} {w : World} {Ms : Nat → Nat → Prop} {cl : List (List Nat)} : ∀ {i : Nat} {l : List Oper} {wss : List (List Nat)} {hs : List Bool} {Gs : List FctS}, DagStepsS P N ds Fs σ w Ms cl i l wss hs Gs → DagStepsG P N ds Fs σ w Ms (fun _ _ _ => True) [] (fun _ => False) cl i l wss hs Gs
  | _, _, _, _, _, .nil => .nil
  | _, _, _, _, _, .cons s lc h t => .cons (fun p hp hw S σ v w w' hi hS _ hC _ hF => s p hp hw S σ v w w' hi hS hC hF) lc h.toG t.toG
  | _, _, _, _, _, .tail t => .tail t.toG
theorem Wp_dagS {P : Program} {N : Nat} {Q : Post} {σ : Env} {w : World} {id : Nat} {l : List Oper} (Ms : Nat → Nat → Prop) (hd : List Bool) (ts : List Nat) (ds : List Nat) (wss cl : List (List Nat)) (Fs : List FctS) {Gs : List FctS} (hG : Fs = Gs) (hC : closB wss cl = true) (hm : P.follows .mixedOrders = true) (hB : dagSB N hd 0 l ds wss hd = true) (hn : nodupB ds = true)
    (hT : (tailQB l hd ts && permB l.toArray ts hd.toArray) = true) (hN : Nat.beq (leftH hd (List.replicate l.length false) + ts.length) l.length = true)
    (steps : ∀ w1, Ext w w1 → DagStepsS P N ds Fs σ w1 Ms cl 0 l cl hd Gs)
    (k : ∀ σ' w1 w', Ext w w1 → Chg (fun y => ∃ j, hd.getD j false = true ∧ Ms j y) w1 w' → (∀ t, ds.contains t = false → σ' t = σ t) → (∀ j, hd[j]? = some true → HoldsS ds Fs (allS hd) j σ' w') → WpL P N l.toArray (Q .normal) Q (ts.filterMap fun k => l[k]?) σ' w') : Wp P N (.region id l.toArray true) Q σ w :=
  Wp_dagG Ms (fun _ _ _ => True) [] (fun _ => False) hd ts ds wss cl Fs hG hC hm hB hn hT hN (fun w1 e => (steps w1 e).toG) (fun _ _ _ _ _ h => h.elim) k
section
variable {Ms : Nat → Nat → Prop} {i : Nat} {ws ds : List Nat}
theorem StabS.eq {u : Value} : StabS Ms i ws (fun _ _ v _ => v = u) := fun _ _ _ _ _ _ _ _ _ _ _ h => h
theorem StabS.chg {F : Fct} {U : Nat → Prop} (hF : ∀ v w w', Chg U w w' → F v w → F v w') (hM : ∀ p y, p ≠ i → ws.contains p = false → Ms p y → U y) : StabS Ms i ws (fun _ _ => F) :=
  fun p h1 h2 _ _ v w w' _ _ x h => hF v w w' (x.mono fun y _ hy => hM p y h1 h2 hy) h
theorem LocS.const {G : (Nat → Bool) → Fct} : LocS ds ws (fun S _ => G S) := fun _ _ _ _ _ _ h => h
end
section
variable {M : Nat → Prop} {P : Program} {N : Nat} {o : Oper} {R : Fct} {σ : Env} {w : World} {dst : Option Tmp} {ty : TypeId} {pos : String} {af : Array Edge} {g : Option (Nat × Bool)} {t : TypeId}
theorem DoesT_pure {v : Value} (hr : (execOp (ev σ) o).run P w = .ok (.value v) w) (h : R v w) : DoesT M P N o R σ w := DoesT_val hr (Chg.refl _ _) h
theorem DoesT_callE {f : FuncId} {args : Array Value} (hr : (execOp (ev σ) o).run P w = .ok (.enter f args) w) (hc : Ret P f args w fun v w' => R v w' ∧ Ext w w') : DoesT M P N o R σ w :=
  DoesT_enter hr (hc.mono fun _ _ h => ⟨h.1, Ext.chg h.2⟩)
theorem DoesT_alloc {d hs : Nat} {z : Value} {c : Array Value} (hz : Zer P t z) (hc : z.cells = c) (hh : hs ≤ w.heap.size) : DoesT M P N ⟨some d, .alloc t, ty, pos, af, g⟩ (alF t c hs) σ w := by
  subst hc
  have hn := New.mk' w z.cells t
  exact DoesT_val (v := .pointer (some ⟨w.heap.size, 0, none⟩)) (by simp [execOp, Instr.alloc, hz.run, newVar, newRow]) (Ext.chg hn.ext) ⟨_, rfl, hn.blk, hh⟩
end
end Go.Eng
