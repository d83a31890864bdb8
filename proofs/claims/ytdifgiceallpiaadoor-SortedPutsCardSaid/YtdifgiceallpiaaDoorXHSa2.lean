/- suffix.fresh, walked by hand. -/
import Derived.Test.YtdifgiceallpiaaDoorXHSa1
set_option linter.unusedVariables false
set_option linter.unusedSimpArgs false
set_option linter.unusedSectionVars false
namespace Go.Proofs.YtdifgiceallpiaaDoor.Sais
def lessF (s : Nat → Nat) : Nat → Nat → Bool
 | 0, _ => true
 | d + 1, i => decide (s i < s (i + 1)) || (decide (s i = s (i + 1)) && lessF s d (i + 1))
def less (n : Nat) (s : Nat → Nat) (i : Nat) : Bool := lessF s (n - 1 - i) i
theorem less_last (n : Nat) (s : Nat → Nat) : less n s (n - 1) = true := by unfold less; rw [Nat.sub_self]; rfl
theorem less_step {n : Nat} {s : Nat → Nat} {i : Nat} (h : i + 1 < n) : less n s i = (decide (s i < s (i + 1)) || (decide (s i = s (i + 1)) && less n s (i + 1))) := by
 unfold less
 rw [show n - 1 - i = (n - 1 - (i + 1)) + 1 from by omega, lessF]
theorem txt_of {n : Nat} {s : Nat → Nat} (h2 : 2 ≤ n) (hl : s (n - 1) = 0) (hp : ∀ i, i + 1 < n → 0 < s i) : Txt n s (less n s) := ⟨h2, hl, hp, less_last n s, fun i hi => less_step hi⟩
def szT (s : Nat → Nat) (i c : Nat) : Nat := cnt i (fun j => s j == c)
theorem szT_succ (s : Nat → Nat) (i c : Nat) : szT s (i + 1) c = szT s i c + if s i = c then 1 else 0 := by
 unfold szT cnt
 rw [List.range_succ, List.filter_append, List.length_append]
 by_cases h : s i = c
 ·simp [h]
 ·simp [h]
theorem szT_le (s : Nat → Nat) (i c : Nat) : szT s i c ≤ i := cnt_le i _
end Go.Proofs.YtdifgiceallpiaaDoor.Sais
namespace Go.Proofs.YtdifgiceallpiaaDoor.Hd
open Go Go.RowKit YtdifgiceallpiaaDoorW.PrintWords YtdifgiceallpiaaDoorW.PrintLast YtdifgiceallpiaaDoorW.PrintMore YtdifgiceallpiaaDoor.Hw YtdifgiceallpiaaDoor.Com YtdifgiceallpiaaDoor.Cn YtdifgiceallpiaaDoor.P YtdifgiceallpiaaDoor.Sais
attribute [local go_sem] za9 za8 zbi zbj za0 za1 zba zbb
theorem info4 : (Tryd.prog.info? 4).map (fun i => (i.zero, i.size, i.bytes)) = some (some (.bool false), 1, 1) := by kernel_rfl
section
variable {P : Program} {o : Oper} {a : Act}
theorem make_ints_run {W : World} {t e : TypeId} {x y : Operand} (ho : o.op = .makeSlice t x y) (n : Nat) (hx : a.eval x = .int .i64 (n : Int)) (hy : a.eval y = .int .i64 (n : Int))
  (ht : P.underlying t = some (.slice e)) (k : IntKind) {bytes : Nat} (hinfo : (P.info? e).map (fun i => (i.zero, i.size, i.bytes)) = some (some (.int k 0), 1, bytes)) (hb0 : 0 < bytes) (hn : n * bytes ≤ 281474976710656) :
  (execOp a.eval o).run P W = .ok (.value (.slice (some ⟨W.heap.size, 0, none⟩) n n)) (W.alloc (.cells (ints k (List.replicate n 0)) e)) := by
 have hr := print_make_int (P := P) t e (.int k 0) bytes ht hinfo rfl hb0 (n : Int) (by omega) (by simpa using hn) W
 rw [made_ints] at hr
 simp only [Int.toNat_natCast] at hr
 simp [execOp, ho, hx, hy, hr]
theorem make_bools_run {W : World} {t e : TypeId} {x y : Operand} (ho : o.op = .makeSlice t x y) (n : Nat) (hx : a.eval x = .int .i64 (n : Int)) (hy : a.eval y = .int .i64 (n : Int))
  (ht : P.underlying t = some (.slice e)) {bytes : Nat} (hinfo : (P.info? e).map (fun i => (i.zero, i.size, i.bytes)) = some (some (.bool false), 1, bytes)) (hb0 : 0 < bytes) (hn : n * bytes ≤ 281474976710656) :
  (execOp a.eval o).run P W = .ok (.value (.slice (some ⟨W.heap.size, 0, none⟩) n n)) (W.alloc (.cells (bools (List.replicate n false)) e)) := by
 have hr := print_make_int (P := P) t e (.bool false) bytes ht hinfo rfl hb0 (n : Int) (by omega) (by simpa using hn) W
 rw [made_bools] at hr
 simp only [Int.toNat_natCast] at hr
 simp [execOp, ho, hx, hy, hr]
end
def Fr3 (w : World) (n m gl gz : Nat) (W : World) : Prop := BlB W gl 4 (List.replicate n false) ∧ Blk W gz .i64 3 (List.replicate m 0) ∧ w.heap.size ≤ gl ∧ w.heap.size ≤ gz ∧ Below w.heap.size w W
section
variable {w w2 w3 : World} {n m gl gz : Nat}
theorem fr3a (hgl : w.drew.heap.size = gl) (hb2 : Below w.drew.heap.size w.drew w2) (hl : BlB w3 gl 4 (List.replicate n false)) (hz : Blk w3 gz .i64 3 (List.replicate m 0)) (hgz : w2.heap.size = gz) (hb3 : Below w2.heap.size w2 w3) : Fr3 w n m gl gz w3 :=
 ⟨hl, hz, Nat.le_of_eq hgl, hgz ▸ hb2.size, zaf (zaf (zbl (Below.refl w.heap.size w)) hb2) hb3⟩
theorem fr3b (hgl : w3.heap.size = gl) (hb2 : Below w3.heap.size w3 w2) (hl : BlB w2 gl 4 (List.replicate n false)) (hz : Blk w2 gz .i64 3 (List.replicate m 0)) (hgz : w.drew.heap.size = gz) (hb3 : Below w.drew.heap.size w.drew w3) : Fr3 w n m gl gz w2 :=
 ⟨hl, hz, hgl ▸ hb3.size, Nat.le_of_eq hgz, zaf (zaf (zbl (Below.refl w.heap.size w)) hb3) hb2⟩
theorem fr3_box {W : World} (h : Fr3 w n m gl gz W) (o : Obj) : Fr3 w n m gl gz (W.alloc o) ∧ (W.alloc o).heap[W.heap.size]? = some o ∧ w.heap.size ≤ W.heap.size := by
 have hb := zac (Below.refl W.heap.size W) o
 exact ⟨⟨h.1.below hb, h.2.1.below hb, h.2.2.1, h.2.2.2.1, zaf h.2.2.2.2 hb⟩, zck W _, h.2.2.2.2.size⟩
end
structure Fr (w : World) (gx : Nat) (A : Option Addr) (c0 gl gz n m : Nat) (fl : Nat → Bool) (fz : Nat → Nat) (W : World) : Prop where
 hx : W.heap[gx]? = some (.cells #[.slice A n c0, .slice (some ⟨gl, 0, none⟩) n n, .slice (some ⟨gz, 0, none⟩) m m] 141 (0, 0))
 hl : BlB W gl 4 (tabB n fl)
 hz : Blk W gz .i64 3 (tabn m (fun c => (fz c : Int)))
 lx : w.heap.size ≤ gx
 ll : w.heap.size ≤ gl
 lz : w.heap.size ≤ gz
 bl : Below w.heap.size w W
section
variable {w W : World} {gx : Nat} {A : Option Addr} {c0 gl gz n m : Nat} {fl fl' : Nat → Bool} {fz fz' : Nat → Nat}
theorem Fr.k1 (h : Fr w gx A c0 gl gz n m fl fz W) : W.cell? ⟨gx, 1, none⟩ = some (.slice (some ⟨gl, 0, none⟩) n n) := (zah h.hx 1).trans rfl
theorem Fr.k2 (h : Fr w gx A c0 gl gz n m fl fz W) : W.cell? ⟨gx, 2, none⟩ = some (.slice (some ⟨gz, 0, none⟩) m m) := (zah h.hx 2).trans rfl
theorem Fr.cl (h : Fr w gx A c0 gl gz n m fl fz W) {i : Nat} (hi : i < n) : W.cell? ⟨gl, i, none⟩ = some (.bool (fl i)) := by
 have := h.hl.cell i (by rw [tabB_length]; exact hi)
 rw [tabB_getD hi] at this
 exact this
theorem Fr.cz (h : Fr w gx A c0 gl gz n m fl fz W) {i : Nat} (hi : i < m) : W.cell? ⟨gz, i, none⟩ = some (.int .i64 (fz i : Int)) := by
 have := h.hz.cell i (by rw [za2]; exact hi)
 rw [zbr hi] at this
 exact this
theorem Fr.drew (h : Fr w gx A c0 gl gz n m fl fz W) : Fr w gx A c0 gl gz n m fl fz W.drew := ⟨h.hx, h.hl, h.hz, h.lx, h.ll, h.lz, zbl h.bl⟩
theorem Fr.ne (h : Fr w gx A c0 gl gz n m fl fz W) : gx ≠ gl ∧ gx ≠ gz ∧ gl ≠ gz :=
 ⟨zb9 h.hx (show W.heap[gl]? = some (.cells (bools (tabB n fl)) 4 (0, 0)) from h.hl) (by decide), zb9 h.hx (show W.heap[gz]? = some (.cells (ints .i64 (tabn m (fun c => (fz c : Int)))) 3 (0, 0)) from h.hz) (by decide),
  zb9 (show W.heap[gl]? = some (.cells (bools (tabB n fl)) 4 (0, 0)) from h.hl) (show W.heap[gz]? = some (.cells (ints .i64 (tabn m (fun c => (fz c : Int)))) 3 (0, 0)) from h.hz) (by decide)⟩
theorem Fr.setl (h : Fr w gx A c0 gl gz n m fl fz W) (i : Nat) (v : Bool) (hf : ∀ j, j < n → (if j = i then v else fl j) = fl' j) : Fr w gx A c0 gl gz n m fl' fz (W.setCell ⟨gl, i, none⟩ (.bool v)) := by
 have e : BlB (W.setCell ⟨gl, i, none⟩ (.bool v)) gl 4 (tabB n fl') := by
  have := h.hl.put i v
  rw [tabB_set] at this
  exact (congrArg (BlB _ gl 4) (tabB_congr hf)).mp this
 exact ⟨zbo h.hx h.ne.1 _, e, h.hz.far h.ne.2.2.symm _, h.lx, h.ll, h.lz, zat h.bl h.ll⟩
theorem Fr.setz (h : Fr w gx A c0 gl gz n m fl fz W) (i : Nat) (v : Nat) (hf : ∀ j, j < m → (if j = i then v else fz j) = fz' j) : Fr w gx A c0 gl gz n m fl fz' (W.setCell ⟨gz, i, none⟩ (.int .i64 (v : Int))) := by
 refine ⟨zbo h.hx h.ne.2.1 _, zbo h.hl h.ne.2.2 _, zb7 h.hz (fun j hj => ?_), h.lx, h.ll, h.lz, zat h.bl h.lz⟩
 rw [← hf j hj]
 split <;> rfl
end
set_option maxHeartbeats 8000000 in
set_option maxRecDepth 100000 in
theorem fresh_ok (A : Option Addr) (c0 n m : Nat) (s : Nat → Nat) (w : World) (hs : Kd.C (Kd.int .i64) w A n (tabn n (fun i => (s i : Int)))) (hn1 : 1 ≤ n) (hn : n ≤ 1099511627776) (hm : m ≤ 1099511627776) (hsm : ∀ i, i < n → s i < m) :
  Calls Tryd.prog 79 #[.slice A n c0, .int .i64 (m : Int)] w fun e w' => ∃ gx gl gz : Nat, e = .returned (.pointer (some ⟨gx, 0, none⟩)) ∧ Ind w' gx A c0 gl gz n m s (less n s) ∧ Below w.heap.size w w' := by
 have HS := zaa.mk hs
 have HN := zaa.mk (And.intro hn1 (And.intro hn hm))
 have HM := zaa.mk hsm
 have hCs : ∀ i, i < n → ∃ ad : Addr, A = some ad ∧ w.cell? (ad.add i) = some (.int .i64 (s i : Int)) := by
  intro i hi
  obtain ⟨ad, h1, h2⟩ := Kd.at_int hs (i : Int) (by omega) (by omega)
  rw [Int.toNat_natCast, rd_nat, zbr hi] at h2
  exact ⟨ad, h1, h2⟩
 obtain ⟨ad, rfl, _⟩ := hCs 0 (by omega)
 have HC := zaa.mk (show ∀ i, i < n → w.cell? (ad.add i) = some (.int .i64 (s i : Int)) from fun i hi => by
  obtain ⟨ad2, h1, h2⟩ := hCs i hi
  cases h1
  exact h2)
 clear hs hn1 hn hm hsm hCs
 obtain ⟨A, hA⟩ : ∃ A, some ad = A := ⟨_, rfl⟩
 have HA0 := zaa.mk hA
 rw [hA]
 clear hA
 go_enter Tryd.func79, Tryd.ntmps79
 go_wp2
 refine zcr (n := 9) (S := fun w' => True) (ds := []) #[false, false, false, false, false, false, false, false, false] (by kernel_rfl) rfl rfl trivial (fun hHeld => ?_)
 refine pure_ (i := 0) (N := some 10) (v := ?_) (a' := ?_) #[true, false, false, false, false, false, false, false, false] rfl rfl (by kernel_rfl) (fun _ _ _ h => h) (Or.inl ⟨by rfl, ?_⟩) ?_ ?_
 rotate_left
 ·intro w'
  go_simp
  with_reducible rfl
 rotate_left
 ·simp only [Act.put, sAt, sZr, sSc, i64_w, i32_w]
  rfl
 refine pure_ (i := 1) (N := some 11) (v := ?_) (a' := ?_) #[true, true, false, false, false, false, false, false, false] rfl rfl (by kernel_rfl) (fun _ _ _ h => h) (Or.inl ⟨by rfl, ?_⟩) ?_ ?_
 rotate_left
 ·intro w'
  go_simp
  with_reducible rfl
 rotate_left
 ·simp only [Act.put, sAt, sZr, sSc, i64_w, i32_w]
  rfl
 refine pure_ (i := 2) (N := some 12) (v := ?_) (a' := ?_) #[true, true, true, false, false, false, false, false, false] rfl rfl (by kernel_rfl) (fun _ _ _ h => h) (Or.inl ⟨by rfl, ?_⟩) ?_ ?_
 rotate_left
 ·intro w'
  go_simp
  with_reducible rfl
 rotate_left
 ·simp only [Act.put, sAt, sZr, sSc, i64_w, i32_w]
  rfl
 refine pure_ (i := 4) (N := some 14) (v := ?_) (a' := ?_) #[true, true, true, false, true, false, false, false, false] rfl rfl (by kernel_rfl) (fun _ _ _ h => h) (Or.inl ⟨by rfl, ?_⟩) ?_ ?_
 rotate_left
 ·intro w'
  go_simp
  with_reducible rfl
 rotate_left
 ·simp only [Act.put, sAt, sZr, sSc, i64_w, i32_w]
  rfl
 refine join_ (σ := (Nat × Nat)) 3 #[true, true, true, true, true, true, false, false, false] (fun s => [(13, .slice (some ⟨s.1, 0, none⟩) n n), (15, .slice (some ⟨s.2, 0, none⟩) m m)]) (fun s w' => Fr3 w n m s.1 s.2 w') ?_ ?_
 rotate_left
 ·intro hCont
  refine two_ (i := 3) (j := 5) (Ni := some 13) (Nj := some 15) #[true, true, true, true, true, false, false, false, false] #[true, true, true, false, true, true, false, false, false] rfl rfl rfl rfl (by kernel_rfl) (by decide) (by decide) (fun K hK => ?_) (fun K hK => ?_)
  ·skip
   refine value_ (w1 := w.drew.alloc (.cells (bools (List.replicate n false)) 4)) (v := .slice (some ⟨w.drew.heap.size, 0, none⟩) n n) (by rfl) rfl (make_bools_run rfl n rfl rfl Tryd.underlying55 info4 (by decide) (by have := HN.out; omega)) ?_
   obtain ⟨gl, hgl⟩ : ∃ g, w.drew.heap.size = g := ⟨_, rfl⟩
   have hl2 : BlB (w.drew.alloc (.cells (bools (List.replicate n false)) 4)) gl 4 (List.replicate n false) := by rw [← hgl]; exact zck w.drew _
   have hb2 := zac (Below.refl w.drew.heap.size w.drew) (.cells (bools (List.replicate n false)) 4)
   obtain ⟨w2, hw2⟩ : ∃ w2, w.drew.alloc (.cells (bools (List.replicate n false)) 4) = w2 := ⟨_, rfl⟩
   rw [hw2] at hl2 hb2
   rw [hw2, hgl]
   refine hK.out _ _ trivial (fun hHeld => ?_)
   clear hK K
   refine norm_ (a' := ?_) ?_ ?_
   rotate_left
   ·show Act.put _ (some 13) _ = _
    simp only [Act.put, sAt, sZr, sSc, i64_w, i32_w]
    rfl
   refine one_ (i := 5) (N := some 15) #[true, true, true, true, true, true, false, false, false] rfl rfl (by kernel_rfl) (by decide) (fun K hK => ?_)
   refine value_ (w1 := w2.alloc (.cells (ints .i64 (List.replicate m 0)) 3)) (v := .slice (some ⟨w2.heap.size, 0, none⟩) m m) (by rfl) rfl (make_ints_run rfl m rfl rfl Tryd.underlying29 .i64 info3 (by decide) (by have := HN.out; omega)) ?_
   obtain ⟨gz, hgz⟩ : ∃ g, w2.heap.size = g := ⟨_, rfl⟩
   have hz3 : Blk (w2.alloc (.cells (ints .i64 (List.replicate m 0)) 3)) gz .i64 3 (List.replicate m 0) := by rw [← hgz]; exact zck w2 _
   have hb3 := zac (Below.refl w2.heap.size w2) (.cells (ints .i64 (List.replicate m 0)) 3)
   obtain ⟨w3, hw3⟩ : ∃ w3, w2.alloc (.cells (ints .i64 (List.replicate m 0)) 3) = w3 := ⟨_, rfl⟩
   rw [hw3] at hz3 hb3
   rw [hw3, hgz]
   have hl2 := hl2.below hb3
   refine hK.out _ _ trivial (fun hHeld => ?_)
   clear hK K
   refine norm_ (a' := ?_) ?_ ?_
   rotate_left
   ·show Act.put _ (some 15) _ = _
    simp only [Act.put, sAt, sZr, sSc, i64_w, i32_w]
    rfl
   exact norm_ (by simp only [putAll, Act.put, sAt, sZr, sSc]) (hCont (gl, gz) _ (fr3a hgl hb2 hl2 hz3 hgz hb3))
  ·skip
   refine value_ (w1 := w.drew.alloc (.cells (ints .i64 (List.replicate m 0)) 3)) (v := .slice (some ⟨w.drew.heap.size, 0, none⟩) m m) (by rfl) rfl (make_ints_run rfl m rfl rfl Tryd.underlying29 .i64 info3 (by decide) (by have := HN.out; omega)) ?_
   obtain ⟨gz, hgz⟩ : ∃ g, w.drew.heap.size = g := ⟨_, rfl⟩
   have hz3 : Blk (w.drew.alloc (.cells (ints .i64 (List.replicate m 0)) 3)) gz .i64 3 (List.replicate m 0) := by rw [← hgz]; exact zck w.drew _
   have hb3 := zac (Below.refl w.drew.heap.size w.drew) (.cells (ints .i64 (List.replicate m 0)) 3)
   obtain ⟨w3, hw3⟩ : ∃ w3, w.drew.alloc (.cells (ints .i64 (List.replicate m 0)) 3) = w3 := ⟨_, rfl⟩
   rw [hw3] at hz3 hb3
   rw [hw3, hgz]
   refine hK.out _ _ trivial (fun hHeld => ?_)
   clear hK K
   refine norm_ (a' := ?_) ?_ ?_
   rotate_left
   ·show Act.put _ (some 15) _ = _
    simp only [Act.put, sAt, sZr, sSc, i64_w, i32_w]
    rfl
   refine one_ (i := 3) (N := some 13) #[true, true, true, true, true, true, false, false, false] rfl rfl (by kernel_rfl) (by decide) (fun K hK => ?_)
   refine value_ (w1 := w3.alloc (.cells (bools (List.replicate n false)) 4)) (v := .slice (some ⟨w3.heap.size, 0, none⟩) n n) (by rfl) rfl (make_bools_run rfl n rfl rfl Tryd.underlying55 info4 (by decide) (by have := HN.out; omega)) ?_
   obtain ⟨gl, hgl⟩ : ∃ g, w3.heap.size = g := ⟨_, rfl⟩
   have hl2 : BlB (w3.alloc (.cells (bools (List.replicate n false)) 4)) gl 4 (List.replicate n false) := by rw [← hgl]; exact zck w3 _
   have hb2 := zac (Below.refl w3.heap.size w3) (.cells (bools (List.replicate n false)) 4)
   obtain ⟨w2, hw2⟩ : ∃ w2, w3.alloc (.cells (bools (List.replicate n false)) 4) = w2 := ⟨_, rfl⟩
   rw [hw2] at hl2 hb2
   rw [hw2, hgl]
   have hz3 := hz3.below hb2
   refine hK.out _ _ trivial (fun hHeld => ?_)
   clear hK K
   refine norm_ (a' := ?_) ?_ ?_
   rotate_left
   ·show Act.put _ (some 13) _ = _
    simp only [Act.put, sAt, sZr, sSc, i64_w, i32_w]
    rfl
   exact norm_ (by simp only [putAll, Act.put, sAt, sZr, sSc]) (hCont (gl, gz) _ (fr3b hgl hb2 hl2 hz3 hgz hb3))
 rintro ⟨gl, gz⟩ w4 h4
 have E4 := zaa.mk h4
 clear h4
 have hHeld : True := trivial
 refine norm_ (a' := ?_) ?_ ?_
 rotate_left
 ·simp only [putAll, Act.put, sAt, sZr, sSc]
  rfl
 refine pure_ (i := 6) (N := some 16) (v := ?_) (a' := ?_) #[true, true, true, true, true, true, true, false, false] rfl rfl (by kernel_rfl) (fun _ _ _ h => h) (Or.inl ⟨by rfl, ?_⟩) ?_ ?_
 rotate_left
 ·intro w'
  go_simp
  with_reducible rfl
 rotate_left
 ·simp only [Act.put, sAt, sZr, sSc, i64_w, i32_w]
  rfl
 refine one_ (i := 7) (N := some 17) #[true, true, true, true, true, true, true, true, false] rfl rfl (by kernel_rfl) (by decide) (fun K hK => ?_)
 refine value_ (w1 := ?_) (v := ?_) (by rfl) rfl ?_ ?_
 rotate_left 2
 ·go_simp
  constructor
  ·rfl
  ·rfl
 have E5 := zaa.mk (fr3_box E4.out (.cells #[.slice A n c0, .slice (some ⟨gl, 0, none⟩) n n, .slice (some ⟨gz, 0, none⟩) m m] 141 (0, 0)))
 refine hK.out _ _ trivial (fun hHeld => ?_)
 clear hK K
 refine norm_ (a' := ?_) ?_ ?_
 rotate_left
 ·show Act.put _ (some 17) _ = _
  simp only [Act.put, sAt, sZr, sSc, i64_w, i32_w]
  rfl
 refine pure_ (i := 8) (N := some 5) (v := ?_) (a' := ?_) #[true, true, true, true, true, true, true, true, true] rfl rfl (by kernel_rfl) (fun _ _ _ h => h) (Or.inl ⟨by rfl, ?_⟩) ?_ ?_
 rotate_left
 ·intro w'
  go_simp
  with_reducible rfl
 rotate_left
 ·simp only [Act.put, sAt, sZr, sSc, i64_w, i32_w]
  rfl
 refine done_ (by kernel_rfl) ?_
 clear hHeld
 obtain ⟨gx, hgx⟩ : ∃ g, w4.heap.size = g := ⟨_, rfl⟩
 obtain ⟨w5, hw5⟩ : ∃ w5, w4.alloc (.cells #[.slice A n c0, .slice (some ⟨gl, 0, none⟩) n n, .slice (some ⟨gz, 0, none⟩) m m] 141 (0, 0)) = w5 := ⟨_, rfl⟩
 have F0 := zaa.mk (show Fr w gx A c0 gl gz n m (fun _ => false) (fun _ => 0) w5 from by
  have h := E5.out
  rw [hw5, hgx] at h
  obtain ⟨⟨h1, h2, h3, h4, h5⟩, h6, h7⟩ := h
  rw [tabB_zero] at h1
  rw [zb8] at h2
  exact ⟨h6, h1, h2, h7, h3, h4, h5⟩)
 rw [hw5, hgx]
 clear hw5 hgx E5 E4
 have k1 := F0.out.k1
 have kf := F0.out.hl.free (n - 1)
 have kc := F0.out.cl (show n - 1 < n by have := HN.out; omega)
 have e1 : wrap64 ((n : Int) - 1) = (n : Int) - 1 := w64 (by have := HN.out; omega) (by have := HN.out; omega)
 have e2 : wrap64 ((n : Int) - 1 - 1) = (n : Int) - 1 - 1 := w64 (by have := HN.out; omega) (by have := HN.out; omega)
 have p3 : (1 ≤ (n : Int)) = True := eq_true (by have := HN.out; omega)
 have p4 : ((n : Int) - 1 < (n : Int)) = True := eq_true (by omega)
 have p5 : (0 ≤ (n : Int) - 1) = True := eq_true (by have := HN.out; omega)
 go_wp2
 have F1 := zaa.mk (F0.out.setl (fl' := fun j => if n - 1 ≤ j then less n s j else false) (n - 1) true (fun j hj => by
  by_cases e : j = n - 1
  ·rw [if_pos e, if_pos (by omega), e, less_last]
  ·rw [if_neg e, if_neg (by omega)]))
 obtain ⟨w6, hw6⟩ : ∃ w6, w5.setCell ⟨gl, n - 1, none⟩ (.bool true) = w6 := ⟨_, rfl⟩
 rw [hw6] at F1
 try rw [hw6]
 clear hw6 k1 kf kc F0
 go_loopg [7] (n - 1) (fun q v7 w' => ∃ L : Int, v7 = .int .i64 L ∧ zaa (L = (q : Int) - 1 ∧ q ≤ n - 1) ∧ zaa (Fr w gx A c0 gl gz n m (fun j => if q ≤ j then less n s j else false) (fun _ => 0) w'))
 case atStart => exact ⟨(n : Int) - 1 - 1, by simp only [e1, e2], ⟨by have := HN.out; omega, Nat.le_refl _⟩, F1⟩
 case round =>
  clear F1 e1 e2 p3 p4 p5
  obtain ⟨L, rfl, HL, F⟩ := hrel
  cases gk with
  | zero =>
   have t1 : decide (0 ≤ L) = false := decide_eq_false (by have := HL.out; omega)
   have F2 := zaa.mk (show Fr w gx A c0 gl gz n m (less n s) (szT s 0) wr from by
    have h := F.out
    exact ⟨h.hx, by have := h.hl; rw [tabB_congr (g := less n s) (fun j hj => if_pos (Nat.zero_le _))] at this; exact this, h.hz, h.lx, h.ll, h.lz, h.bl⟩)
   clear F HL
   go_wp2
   go_loopg [73] n (fun q v73 w' => ∃ (L : Int) (i : Nat), v73 = .int .i64 L ∧ zaa (L = (i : Int) ∧ i + q = n) ∧ zaa (Fr w gx A c0 gl gz n m (less n s) (szT s i) w'))
   case atStart => exact ⟨0, 0, rfl, ⟨rfl, by omega⟩, F2⟩
   case round =>
    clear F2 t1
    obtain ⟨L, i, rfl, HL, F⟩ := hrel
    cases gk with
    | zero =>
     have t1 : decide (L < (n : Int)) = false := decide_eq_false (by have := HL.out; omega)
     have ei : i = n := by have := HL.out; omega
     have F3 := zaa.mk (show Ind wr gx A c0 gl gz n m s (less n s) from by
      have h := F.out
      refine ⟨h.hx, by have hA := HA0.out; subst hA; exact Kd.C_below HS.out h.bl, h.hl, ?_, HN.out.2.1, HN.out.2.2⟩
      have := h.hz
      rw [ei] at this
      exact this)
     clear ei
     go_wp2
     go_ret
     exact ⟨gx, gl, gz, rfl, F3.out, F.out.bl⟩
    | succ q =>
     have t1 : decide (L < (n : Int)) = true := decide_eq_true (by have := HL.out; omega)
     have p1 : (0 ≤ L) = True := eq_true (by have := HL.out; omega)
     have p2 : (L < (n : Int)) = True := eq_true (by have := HL.out; omega)
     obtain rfl : L = (i : Int) := HL.out.1
     have hin : i < n := by have := HL.out; omega
     have hc := HC.out i hin
     have hc1 := (F.out.bl.cell (World.block_lt_of_cell? w _ hc)).trans hc
     have hsm := HM.out i hin
     obtain ⟨c, hcc⟩ : ∃ c, s i = c := ⟨_, rfl⟩
     rw [hcc] at hc1 hsm
     have p3 : (0 ≤ (c : Int)) = True := eq_true (by omega)
     have p4 : ((c : Int) < (m : Int)) = True := eq_true (by omega)
     have p5 : (c < m) = True := eq_true hsm
     have k2 := F.out.k2
     have kz := F.out.cz hsm
     have kf := F.out.hz.free c
     have EW := zaa.mk (show wrap64 ((szT s i c : Int) + 1) = ((szT s i c + 1 : Nat) : Int) from by
      have := szT_le s i c
      have := HN.out
      rw [w64 (by omega) (by omega)]; omega)
     have HI := zaa.mk (And.intro hcc hin)
     have hA := HA0.out
     subst hA
     clear hc hsm hcc hin
     go_wp2
     go_roundg q
     case measure => omega
     case rel =>
      refine ⟨wrap64 ((i : Int) + 1), i + 1, rfl, ⟨?_, by have := HL.out; omega⟩, ⟨?_⟩⟩
      ·have := HL.out
       have := HN.out
       rw [w64 (by omega) (by omega)]; omega
      ·rw [EW.out]
       refine F.out.setz c (szT s i c + 1) (fun j hj => ?_)
       rw [szT_succ, HI.out.1]
       by_cases e : j = c
       ·rw [if_pos e, if_pos e.symm, e]
       ·rw [if_neg e, if_neg (Ne.symm e), Nat.add_zero]
  | succ q =>
   obtain rfl : L = (q : Int) := by have := HL.out; omega
   have hq1 : q + 1 < n := by have := HL.out; have := HN.out; omega
   have t0 : decide (0 ≤ (q : Int)) = true := decide_eq_true (by omega)
   have e1 : wrap64 ((q : Int) + 1) = ((q + 1 : Nat) : Int) := by have := HN.out; rw [w64 (by omega) (by omega)]; omega
   have e3 : IntKind.i64.wrap ((q : Int) + 1) = ((q + 1 : Nat) : Int) := (i64_w _).trans e1
   have e2 : wrap64 ((q : Int) - 1) = (q : Int) - 1 := by have := HN.out; exact w64 (by omega) (by omega)
   have p1 : (0 ≤ (q : Int)) = True := eq_true (by omega)
   have p2 : ((q : Int) < (n : Int)) = True := eq_true (by omega)
   have p3 : (((q + 1 : Nat) : Int) < (n : Int)) = True := eq_true (by omega)
   have p4 : (0 ≤ ((q + 1 : Nat) : Int)) = True := eq_true (by omega)
   have p5 : ((q : Int) + 1 < (n : Int)) = True := eq_true (by omega)
   have p6 : (0 ≤ (q : Int) + 1) = True := eq_true (by omega)
   have q2 : (q < n) = True := eq_true (by omega)
   have q3 : (q + 1 < n) = True := eq_true (by omega)
   have hc := HC.out q (by omega)
   have hc1 := (F.out.bl.cell (World.block_lt_of_cell? w _ hc)).trans hc
   have hd := HC.out (q + 1) (by omega)
   have hd1 := (F.out.bl.cell (World.block_lt_of_cell? w _ hd)).trans hd
   have k1 := F.out.k1
   have kl := F.out.cl hq1
   rw [if_pos (Nat.le_refl (q + 1))] at kl
   have kl0 := F.out.cl (show q < n by omega)
   have kf := F.out.hl.free q
   have HST := zaa.mk (less_step (s := s) hq1)
   obtain ⟨a, ha⟩ : ∃ a, s q = a := ⟨_, rfl⟩
   obtain ⟨b, hb⟩ : ∃ b, s (q + 1) = b := ⟨_, rfl⟩
   obtain ⟨lb, hlb⟩ : ∃ lb, less n s (q + 1) = lb := ⟨_, rfl⟩
   rw [ha, hb, hlb] at HST
   rw [ha] at hc1
   rw [hb] at hd1
   rw [hlb] at kl
   have hd2 := hd1
   unfold Addr.add at hd2
   rw [if_neg (Nat.succ_ne_zero q)] at hd2
   have hA := HA0.out
   subst hA
   clear hc hd ha hb hlb hq1
   have hfin : ∀ v : Bool, less n s q = v → Fr w gx (some ad) c0 gl gz n m (fun j => if q ≤ j then less n s j else false) (fun _ => 0) (wr.setCell ⟨gl, q, none⟩ (.bool v)) := by
    intro v hv
    refine F.out.setl q v (fun j hj => ?_)
    by_cases e : j = q
    ·rw [if_pos e, if_pos (by omega), e, hv]
    ·rw [if_neg e]
     by_cases h2 : q ≤ j
     ·rw [if_pos h2, if_pos (by omega)]
     ·rw [if_neg h2, if_neg (by omega)]
   have HFIN := zaa.mk hfin
   clear hfin
   by_cases g1 : a < b
   ·have t1 : decide ((a : Int) < (b : Int)) = true := decide_eq_true (by omega)
    have t2 : decide (a < b) = true := decide_eq_true g1
    have HV := zaa.mk (show less n s q = true from by rw [HST.out, t2]; rfl)
    clear HST g1
    go_wp2
    refine zcr (n := 39) (S := fun w' => w'.cell? ⟨gx, 1, none⟩ = some (.slice (some ⟨gl, 0, none⟩) n n) ∧ w'.cell? (ad.add q) = some (.int .i64 (a : Int)) ∧ w'.cell? ⟨ad.block, ad.off + (q + 1), none⟩ = some (.int .i64 (b : Int)) ∧ w'.cell? ⟨gl, q + 1, none⟩ = some (.bool lb)) (ds := [38]) #[false, false, false, false, false, false, false, false, false, false, false, false, false, false, false, false, false, false, false, false, false, false, false, false, false, false, false, false, false, false, false, false, false, false, false, false, false, false, false] (by kernel_rfl) rfl rfl ⟨k1, hc1, hd2, kl⟩ (fun hHeld => ?_)
    refine pure_ (i := 0) (N := some 33) (v := ?_) (a' := ?_) #[true, false, false, false, false, false, false, false, false, false, false, false, false, false, false, false, false, false, false, false, false, false, false, false, false, false, false, false, false, false, false, false, false, false, false, false, false, false, false] rfl rfl (by kernel_rfl) (fun _ _ _ h => h) (Or.inl ⟨by rfl, ?_⟩) ?_ ?_
    rotate_left
    ·intro w'
     go_simp
     with_reducible rfl
    rotate_left
    ·simp only [Act.put, sAt, sZr, sSc, i64_w, i32_w]
     rfl
    refine pure_ (i := 1) (N := some 34) (v := ?_) (a' := ?_) #[true, true, false, false, false, false, false, false, false, false, false, false, false, false, false, false, false, false, false, false, false, false, false, false, false, false, false, false, false, false, false, false, false, false, false, false, false, false, false] rfl rfl (by kernel_rfl) (fun _ _ _ h => h) (Or.inl ⟨by rfl, ?_⟩) ?_ ?_
    rotate_left
    ·intro w'
     go_simp
     with_reducible rfl
    rotate_left
    ·simp only [Act.put, sAt, sZr, sSc, i64_w, i32_w]
     rfl
    refine pure_ (i := 2) (N := some 35) (v := ?_) (a' := ?_) #[true, true, true, false, false, false, false, false, false, false, false, false, false, false, false, false, false, false, false, false, false, false, false, false, false, false, false, false, false, false, false, false, false, false, false, false, false, false, false] rfl rfl (by kernel_rfl) (fun _ _ _ h => h) (Or.inl ⟨by rfl, ?_⟩) ?_ ?_
    rotate_left
    ·intro w'
     go_simp
     with_reducible rfl
    rotate_left
    ·simp only [Act.put, sAt, sZr, sSc, i64_w, i32_w]
     rfl
    refine pure_ (i := 4) (N := some 37) (v := ?_) (a' := ?_) #[true, true, true, false, true, false, false, false, false, false, false, false, false, false, false, false, false, false, false, false, false, false, false, false, false, false, false, false, false, false, false, false, false, false, false, false, false, false, false] rfl rfl (by kernel_rfl) (fun _ _ _ h => h) (Or.inl ⟨by rfl, ?_⟩) ?_ ?_
    rotate_left
    ·intro w'
     go_simp
     with_reducible rfl
    rotate_left
    ·simp only [Act.put, sAt, sZr, sSc, i64_w, i32_w]
     rfl
    refine pure_ (i := 5) (N := some 38) (v := ?_) (a' := ?_) #[true, true, true, false, true, true, false, false, false, false, false, false, false, false, false, false, false, false, false, false, false, false, false, false, false, false, false, false, false, false, false, false, false, false, false, false, false, false, false] rfl rfl (by kernel_rfl) (fun _ _ _ h => h) (Or.inl ⟨by rfl, ?_⟩) ?_ ?_
    rotate_left
    ·intro w'
     go_simp
     with_reducible rfl
    rotate_left
    ·simp only [Act.put, sAt, sZr, sSc, i64_w, i32_w]
     rfl
    refine pure_ (i := 6) (N := some 39) (v := ?_) (a' := ?_) #[true, true, true, false, true, true, true, false, false, false, false, false, false, false, false, false, false, false, false, false, false, false, false, false, false, false, false, false, false, false, false, false, false, false, false, false, false, false, false] rfl rfl (by kernel_rfl) (fun _ _ _ h => h) (Or.inl ⟨by rfl, ?_⟩) ?_ ?_
    rotate_left
    ·intro w'
     go_simp
     with_reducible rfl
    rotate_left
    ·simp only [Act.put, sAt, sZr, sSc, i64_w, i32_w]
     rfl
    refine pure_ (i := 7) (N := some 40) (v := ?_) (a' := ?_) #[true, true, true, false, true, true, true, true, false, false, false, false, false, false, false, false, false, false, false, false, false, false, false, false, false, false, false, false, false, false, false, false, false, false, false, false, false, false, false] rfl rfl (by kernel_rfl) (fun _ _ _ h => h) (Or.inl ⟨by rfl, ?_⟩) ?_ ?_
    rotate_left
    ·intro w'
     go_simp
     with_reducible rfl
    rotate_left
    ·simp only [Act.put, sAt, sZr, sSc, i64_w, i32_w]
     rfl
    refine pure_ (i := 9) (N := some 42) (v := ?_) (a' := ?_) #[true, true, true, false, true, true, true, true, false, true, false, false, false, false, false, false, false, false, false, false, false, false, false, false, false, false, false, false, false, false, false, false, false, false, false, false, false, false, false] rfl rfl (by kernel_rfl) (fun _ _ _ h => h) (Or.inl ⟨by rfl, ?_⟩) ?_ ?_
    rotate_left
    ·intro w'
     go_simp
     with_reducible rfl
    rotate_left
    ·simp only [Act.put, sAt, sZr, sSc, i64_w, i32_w]
     rfl
    refine pure_ (i := 10) (N := some 43) (v := ?_) (a' := ?_) #[true, true, true, false, true, true, true, true, false, true, true, false, false, false, false, false, false, false, false, false, false, false, false, false, false, false, false, false, false, false, false, false, false, false, false, false, false, false, false] rfl rfl (by kernel_rfl) (fun _ _ _ h => h) (Or.inl ⟨by rfl, ?_⟩) ?_ ?_
    rotate_left
    ·intro w'
     go_simp
     with_reducible rfl
    rotate_left
    ·simp only [Act.put, sAt, sZr, sSc, i64_w, i32_w]
     rfl
    refine pure_ (i := 11) (N := some 44) (v := ?_) (a' := ?_) #[true, true, true, false, true, true, true, true, false, true, true, true, false, false, false, false, false, false, false, false, false, false, false, false, false, false, false, false, false, false, false, false, false, false, false, false, false, false, false] rfl rfl (by kernel_rfl) (fun _ _ _ h => h) (Or.inl ⟨by rfl, ?_⟩) ?_ ?_
    rotate_left
    ·intro w'
     go_simp
     with_reducible rfl
    rotate_left
    ·simp only [Act.put, sAt, sZr, sSc, i64_w, i32_w]
     rfl
    refine pure_ (i := 12) (N := some 45) (v := ?_) (a' := ?_) #[true, true, true, false, true, true, true, true, false, true, true, true, true, false, false, false, false, false, false, false, false, false, false, false, false, false, false, false, false, false, false, false, false, false, false, false, false, false, false] rfl rfl (by kernel_rfl) (fun _ _ _ h => h) (Or.inl ⟨by rfl, ?_⟩) ?_ ?_
    rotate_left
    ·intro w'
     go_simp
     with_reducible rfl
    rotate_left
    ·simp only [Act.put, sAt, sZr, sSc, i64_w, i32_w]
     rfl
    refine take_ (i := 3) (N := some 36) (v := ?_) (a' := ?_) #[true, true, true, true, true, true, true, true, false, true, true, true, true, false, false, false, false, false, false, false, false, false, false, false, false, false, false, false, false, false, false, false, false, false, false, false, false, false, false] rfl rfl (by kernel_rfl) (fun _ _ _ h => h) (Or.inl ⟨by rfl, ?_⟩) hHeld ?_ ?_
    rotate_left
    ·rintro w' ⟨s0, s1, s2, s3⟩
     go_simp
     with_reducible rfl
    rotate_left
    ·simp only [Act.put, sAt, sZr, sSc, i64_w, i32_w]
     rfl
    refine take_ (i := 8) (N := some 41) (v := ?_) (a' := ?_) #[true, true, true, true, true, true, true, true, true, true, true, true, true, false, false, false, false, false, false, false, false, false, false, false, false, false, false, false, false, false, false, false, false, false, false, false, false, false, false] rfl rfl (by kernel_rfl) (fun _ _ _ h => h) (Or.inl ⟨by rfl, ?_⟩) hHeld ?_ ?_
    rotate_left
    ·rintro w' ⟨s0, s1, s2, s3⟩
     go_simp
     with_reducible rfl
    rotate_left
    ·simp only [Act.put, sAt, sZr, sSc, i64_w, i32_w]
     rfl
    refine take_ (i := 13) (N := some 46) (v := ?_) (a' := ?_) #[true, true, true, true, true, true, true, true, true, true, true, true, true, true, false, false, false, false, false, false, false, false, false, false, false, false, false, false, false, false, false, false, false, false, false, false, false, false, false] rfl rfl (by kernel_rfl) (fun _ _ _ h => h) (Or.inl ⟨by rfl, ?_⟩) hHeld ?_ ?_
    rotate_left
    ·rintro w' ⟨s0, s1, s2, s3⟩
     go_simp
     with_reducible rfl
    rotate_left
    ·simp only [Act.put, sAt, sZr, sSc, i64_w, i32_w]
     rfl
    refine pure_ (i := 14) (N := some 47) (v := ?_) (a' := ?_) #[true, true, true, true, true, true, true, true, true, true, true, true, true, true, true, false, false, false, false, false, false, false, false, false, false, false, false, false, false, false, false, false, false, false, false, false, false, false, false] rfl rfl (by kernel_rfl) (fun _ _ _ h => h) (Or.inl ⟨by rfl, ?_⟩) ?_ ?_
    rotate_left
    ·intro w'
     go_simp
     with_reducible rfl
    rotate_left
    ·simp only [Act.put, sAt, sZr, sSc, i64_w, i32_w]
     rfl
    refine pure_ (i := 15) (N := some 48) (v := ?_) (a' := ?_) #[true, true, true, true, true, true, true, true, true, true, true, true, true, true, true, true, false, false, false, false, false, false, false, false, false, false, false, false, false, false, false, false, false, false, false, false, false, false, false] rfl rfl (by kernel_rfl) (fun _ _ _ h => h) (Or.inl ⟨by rfl, ?_⟩) ?_ ?_
    rotate_left
    ·intro w'
     go_simp
     with_reducible rfl
    rotate_left
    ·simp only [Act.put, sAt, sZr, sSc, i64_w, i32_w]
     rfl
    refine pure_ (i := 16) (N := some 49) (v := undef) (a' := ?_) #[true, true, true, true, true, true, true, true, true, true, true, true, true, true, true, true, true, false, false, false, false, false, false, false, false, false, false, false, false, false, false, false, false, false, false, false, false, false, false] rfl rfl (by kernel_rfl) (fun _ _ _ h => h) (Or.inr ⟨by rfl, rfl⟩) ?_ ?_
    rotate_left
    ·simp only [Act.put, sAt, sZr, sSc, i64_w, i32_w]
     rfl
    refine pure_ (i := 17) (N := some 50) (v := undef) (a' := ?_) #[true, true, true, true, true, true, true, true, true, true, true, true, true, true, true, true, true, true, false, false, false, false, false, false, false, false, false, false, false, false, false, false, false, false, false, false, false, false, false] rfl rfl (by kernel_rfl) (fun _ _ _ h => h) (Or.inr ⟨by rfl, rfl⟩) ?_ ?_
    rotate_left
    ·simp only [Act.put, sAt, sZr, sSc, i64_w, i32_w]
     rfl
    refine pure_ (i := 18) (N := some 51) (v := undef) (a' := ?_) #[true, true, true, true, true, true, true, true, true, true, true, true, true, true, true, true, true, true, true, false, false, false, false, false, false, false, false, false, false, false, false, false, false, false, false, false, false, false, false] rfl rfl (by kernel_rfl) (fun _ _ _ h => h) (Or.inr ⟨by rfl, rfl⟩) ?_ ?_
    rotate_left
    ·simp only [Act.put, sAt, sZr, sSc, i64_w, i32_w]
     rfl
    refine pure_ (i := 19) (N := some 52) (v := undef) (a' := ?_) #[true, true, true, true, true, true, true, true, true, true, true, true, true, true, true, true, true, true, true, true, false, false, false, false, false, false, false, false, false, false, false, false, false, false, false, false, false, false, false] rfl rfl (by kernel_rfl) (fun _ _ _ h => h) (Or.inr ⟨by rfl, rfl⟩) ?_ ?_
    rotate_left
    ·simp only [Act.put, sAt, sZr, sSc, i64_w, i32_w]
     rfl
    refine pure_ (i := 20) (N := some 53) (v := undef) (a' := ?_) #[true, true, true, true, true, true, true, true, true, true, true, true, true, true, true, true, true, true, true, true, true, false, false, false, false, false, false, false, false, false, false, false, false, false, false, false, false, false, false] rfl rfl (by kernel_rfl) (fun _ _ _ h => h) (Or.inr ⟨by rfl, rfl⟩) ?_ ?_
    rotate_left
    ·simp only [Act.put, sAt, sZr, sSc, i64_w, i32_w]
     rfl
    refine pure_ (i := 21) (N := some 54) (v := undef) (a' := ?_) #[true, true, true, true, true, true, true, true, true, true, true, true, true, true, true, true, true, true, true, true, true, true, false, false, false, false, false, false, false, false, false, false, false, false, false, false, false, false, false] rfl rfl (by kernel_rfl) (fun _ _ _ h => h) (Or.inr ⟨by rfl, rfl⟩) ?_ ?_
    rotate_left
    ·simp only [Act.put, sAt, sZr, sSc, i64_w, i32_w]
     rfl
    refine pure_ (i := 22) (N := some 55) (v := undef) (a' := ?_) #[true, true, true, true, true, true, true, true, true, true, true, true, true, true, true, true, true, true, true, true, true, true, true, false, false, false, false, false, false, false, false, false, false, false, false, false, false, false, false] rfl rfl (by kernel_rfl) (fun _ _ _ h => h) (Or.inr ⟨by rfl, rfl⟩) ?_ ?_
    rotate_left
    ·simp only [Act.put, sAt, sZr, sSc, i64_w, i32_w]
     rfl
    refine pure_ (i := 23) (N := some 56) (v := undef) (a' := ?_) #[true, true, true, true, true, true, true, true, true, true, true, true, true, true, true, true, true, true, true, true, true, true, true, true, false, false, false, false, false, false, false, false, false, false, false, false, false, false, false] rfl rfl (by kernel_rfl) (fun _ _ _ h => h) (Or.inr ⟨by rfl, rfl⟩) ?_ ?_
    rotate_left
    ·simp only [Act.put, sAt, sZr, sSc, i64_w, i32_w]
     rfl
    refine pure_ (i := 24) (N := some 57) (v := undef) (a' := ?_) #[true, true, true, true, true, true, true, true, true, true, true, true, true, true, true, true, true, true, true, true, true, true, true, true, true, false, false, false, false, false, false, false, false, false, false, false, false, false, false] rfl rfl (by kernel_rfl) (fun _ _ _ h => h) (Or.inr ⟨by rfl, rfl⟩) ?_ ?_
    rotate_left
    ·simp only [Act.put, sAt, sZr, sSc, i64_w, i32_w]
     rfl
    refine pure_ (i := 25) (N := some 58) (v := undef) (a' := ?_) #[true, true, true, true, true, true, true, true, true, true, true, true, true, true, true, true, true, true, true, true, true, true, true, true, true, true, false, false, false, false, false, false, false, false, false, false, false, false, false] rfl rfl (by kernel_rfl) (fun _ _ _ h => h) (Or.inr ⟨by rfl, rfl⟩) ?_ ?_
    rotate_left
    ·simp only [Act.put, sAt, sZr, sSc, i64_w, i32_w]
     rfl
    refine pure_ (i := 26) (N := some 59) (v := undef) (a' := ?_) #[true, true, true, true, true, true, true, true, true, true, true, true, true, true, true, true, true, true, true, true, true, true, true, true, true, true, true, false, false, false, false, false, false, false, false, false, false, false, false] rfl rfl (by kernel_rfl) (fun _ _ _ h => h) (Or.inr ⟨by rfl, rfl⟩) ?_ ?_
    rotate_left
    ·simp only [Act.put, sAt, sZr, sSc, i64_w, i32_w]
     rfl
    refine pure_ (i := 27) (N := some 60) (v := undef) (a' := ?_) #[true, true, true, true, true, true, true, true, true, true, true, true, true, true, true, true, true, true, true, true, true, true, true, true, true, true, true, true, false, false, false, false, false, false, false, false, false, false, false] rfl rfl (by kernel_rfl) (fun _ _ _ h => h) (Or.inr ⟨by rfl, rfl⟩) ?_ ?_
    rotate_left
    ·simp only [Act.put, sAt, sZr, sSc, i64_w, i32_w]
     rfl
    refine pure_ (i := 28) (N := some 61) (v := undef) (a' := ?_) #[true, true, true, true, true, true, true, true, true, true, true, true, true, true, true, true, true, true, true, true, true, true, true, true, true, true, true, true, true, false, false, false, false, false, false, false, false, false, false] rfl rfl (by kernel_rfl) (fun _ _ _ h => h) (Or.inr ⟨by rfl, rfl⟩) ?_ ?_
    rotate_left
    ·simp only [Act.put, sAt, sZr, sSc, i64_w, i32_w]
     rfl
    refine pure_ (i := 29) (N := some 62) (v := undef) (a' := ?_) #[true, true, true, true, true, true, true, true, true, true, true, true, true, true, true, true, true, true, true, true, true, true, true, true, true, true, true, true, true, true, false, false, false, false, false, false, false, false, false] rfl rfl (by kernel_rfl) (fun _ _ _ h => h) (Or.inr ⟨by rfl, rfl⟩) ?_ ?_
    rotate_left
    ·simp only [Act.put, sAt, sZr, sSc, i64_w, i32_w]
     rfl
    refine pure_ (i := 30) (N := some 63) (v := undef) (a' := ?_) #[true, true, true, true, true, true, true, true, true, true, true, true, true, true, true, true, true, true, true, true, true, true, true, true, true, true, true, true, true, true, true, false, false, false, false, false, false, false, false] rfl rfl (by kernel_rfl) (fun _ _ _ h => h) (Or.inr ⟨by rfl, rfl⟩) ?_ ?_
    rotate_left
    ·simp only [Act.put, sAt, sZr, sSc, i64_w, i32_w]
     rfl
    refine pure_ (i := 31) (N := some 64) (v := undef) (a' := ?_) #[true, true, true, true, true, true, true, true, true, true, true, true, true, true, true, true, true, true, true, true, true, true, true, true, true, true, true, true, true, true, true, true, false, false, false, false, false, false, false] rfl rfl (by kernel_rfl) (fun _ _ _ h => h) (Or.inr ⟨by rfl, rfl⟩) ?_ ?_
    rotate_left
    ·simp only [Act.put, sAt, sZr, sSc, i64_w, i32_w]
     rfl
    refine pure_ (i := 32) (N := some 65) (v := undef) (a' := ?_) #[true, true, true, true, true, true, true, true, true, true, true, true, true, true, true, true, true, true, true, true, true, true, true, true, true, true, true, true, true, true, true, true, true, false, false, false, false, false, false] rfl rfl (by kernel_rfl) (fun _ _ _ h => h) (Or.inr ⟨by rfl, rfl⟩) ?_ ?_
    rotate_left
    ·simp only [Act.put, sAt, sZr, sSc, i64_w, i32_w]
     rfl
    refine pure_ (i := 33) (N := some 66) (v := undef) (a' := ?_) #[true, true, true, true, true, true, true, true, true, true, true, true, true, true, true, true, true, true, true, true, true, true, true, true, true, true, true, true, true, true, true, true, true, true, false, false, false, false, false] rfl rfl (by kernel_rfl) (fun _ _ _ h => h) (Or.inr ⟨by rfl, rfl⟩) ?_ ?_
    rotate_left
    ·simp only [Act.put, sAt, sZr, sSc, i64_w, i32_w]
     rfl
    refine pure_ (i := 34) (N := some 67) (v := undef) (a' := ?_) #[true, true, true, true, true, true, true, true, true, true, true, true, true, true, true, true, true, true, true, true, true, true, true, true, true, true, true, true, true, true, true, true, true, true, true, false, false, false, false] rfl rfl (by kernel_rfl) (fun _ _ _ h => h) (Or.inr ⟨by rfl, rfl⟩) ?_ ?_
    rotate_left
    ·simp only [Act.put, sAt, sZr, sSc, i64_w, i32_w]
     rfl
    refine pure_ (i := 35) (N := some 68) (v := undef) (a' := ?_) #[true, true, true, true, true, true, true, true, true, true, true, true, true, true, true, true, true, true, true, true, true, true, true, true, true, true, true, true, true, true, true, true, true, true, true, true, false, false, false] rfl rfl (by kernel_rfl) (fun _ _ _ h => h) (Or.inr ⟨by rfl, rfl⟩) ?_ ?_
    rotate_left
    ·simp only [Act.put, sAt, sZr, sSc, i64_w, i32_w]
     rfl
    refine pure_ (i := 36) (N := some 69) (v := ?_) (a' := ?_) #[true, true, true, true, true, true, true, true, true, true, true, true, true, true, true, true, true, true, true, true, true, true, true, true, true, true, true, true, true, true, true, true, true, true, true, true, true, false, false] rfl rfl (by kernel_rfl) (fun _ _ _ h => h) (Or.inl ⟨by rfl, ?_⟩) ?_ ?_
    rotate_left
    ·intro w'
     go_simp
     with_reducible rfl
    rotate_left
    ·simp only [Act.put, sAt, sZr, sSc, i64_w, i32_w]
     rfl
    refine pure_ (i := 37) (N := some 70) (v := ?_) (a' := ?_) #[true, true, true, true, true, true, true, true, true, true, true, true, true, true, true, true, true, true, true, true, true, true, true, true, true, true, true, true, true, true, true, true, true, true, true, true, true, true, false] rfl rfl (by kernel_rfl) (fun _ _ _ h => h) (Or.inl ⟨by rfl, ?_⟩) ?_ ?_
    rotate_left
    ·intro w'
     go_simp
     with_reducible rfl
    rotate_left
    ·simp only [Act.put, sAt, sZr, sSc, i64_w, i32_w]
     rfl
    refine last_ (i := 38) (N := none) #[true, true, true, true, true, true, true, true, true, true, true, true, true, true, true, true, true, true, true, true, true, true, true, true, true, true, true, true, true, true, true, true, true, true, true, true, true, true, true] rfl rfl (by kernel_rfl) (by decide) (fun K hK => ?_)
    have hfz := F.out.drew.hl.free q
    have hcz := F.out.drew.cl (show q < n from of_eq_true q2)
    refine skip_ (w1 := ?_) (by rfl) rfl ?_ ?_
    rotate_left
    ·go_simp
     rfl
    refine hK.out _ _ ?_
    clear hK K
    refine done_ (by kernel_rfl) ?_
    go_wp2
    go_roundg q
    case measure => omega
    case rel => exact ⟨(q : Int) - 1, by simp only [e2], ⟨rfl, by have := HL.out; omega⟩, ⟨(HFIN.out true HV.out).drew⟩⟩
   ·have t1 : decide ((a : Int) < (b : Int)) = false := decide_eq_false (by omega)
    have t2 : decide (a < b) = false := decide_eq_false g1
    by_cases g2 : a = b
    ·have t3 : ((a : Int) == (b : Int)) = true := beq_iff_eq.2 (by omega)
     have t4 : (a == b) = true := beq_iff_eq.2 g2
     have HV := zaa.mk (show less n s q = lb from by rw [HST.out, t2, decide_eq_true g2]; cases lb <;> rfl)
     clear HST g1 g2
     go_wp2
     refine zcr (n := 39) (S := fun w' => w'.cell? ⟨gx, 1, none⟩ = some (.slice (some ⟨gl, 0, none⟩) n n) ∧ w'.cell? (ad.add q) = some (.int .i64 (a : Int)) ∧ w'.cell? ⟨ad.block, ad.off + (q + 1), none⟩ = some (.int .i64 (b : Int)) ∧ w'.cell? ⟨gl, q + 1, none⟩ = some (.bool lb)) (ds := [38]) #[false, false, false, false, false, false, false, false, false, false, false, false, false, false, false, false, false, false, false, false, false, false, false, false, false, false, false, false, false, false, false, false, false, false, false, false, false, false, false] (by kernel_rfl) rfl rfl ⟨k1, hc1, hd2, kl⟩ (fun hHeld => ?_)
     refine pure_ (i := 0) (N := some 33) (v := ?_) (a' := ?_) #[true, false, false, false, false, false, false, false, false, false, false, false, false, false, false, false, false, false, false, false, false, false, false, false, false, false, false, false, false, false, false, false, false, false, false, false, false, false, false] rfl rfl (by kernel_rfl) (fun _ _ _ h => h) (Or.inl ⟨by rfl, ?_⟩) ?_ ?_
     rotate_left
     ·intro w'
      go_simp
      with_reducible rfl
     rotate_left
     ·simp only [Act.put, sAt, sZr, sSc, i64_w, i32_w]
      rfl
     refine pure_ (i := 1) (N := some 34) (v := ?_) (a' := ?_) #[true, true, false, false, false, false, false, false, false, false, false, false, false, false, false, false, false, false, false, false, false, false, false, false, false, false, false, false, false, false, false, false, false, false, false, false, false, false, false] rfl rfl (by kernel_rfl) (fun _ _ _ h => h) (Or.inl ⟨by rfl, ?_⟩) ?_ ?_
     rotate_left
     ·intro w'
      go_simp
      with_reducible rfl
     rotate_left
     ·simp only [Act.put, sAt, sZr, sSc, i64_w, i32_w]
      rfl
     refine pure_ (i := 2) (N := some 35) (v := ?_) (a' := ?_) #[true, true, true, false, false, false, false, false, false, false, false, false, false, false, false, false, false, false, false, false, false, false, false, false, false, false, false, false, false, false, false, false, false, false, false, false, false, false, false] rfl rfl (by kernel_rfl) (fun _ _ _ h => h) (Or.inl ⟨by rfl, ?_⟩) ?_ ?_
     rotate_left
     ·intro w'
      go_simp
      with_reducible rfl
     rotate_left
     ·simp only [Act.put, sAt, sZr, sSc, i64_w, i32_w]
      rfl
     refine pure_ (i := 4) (N := some 37) (v := ?_) (a' := ?_) #[true, true, true, false, true, false, false, false, false, false, false, false, false, false, false, false, false, false, false, false, false, false, false, false, false, false, false, false, false, false, false, false, false, false, false, false, false, false, false] rfl rfl (by kernel_rfl) (fun _ _ _ h => h) (Or.inl ⟨by rfl, ?_⟩) ?_ ?_
     rotate_left
     ·intro w'
      go_simp
      with_reducible rfl
     rotate_left
     ·simp only [Act.put, sAt, sZr, sSc, i64_w, i32_w]
      rfl
     refine pure_ (i := 5) (N := some 38) (v := ?_) (a' := ?_) #[true, true, true, false, true, true, false, false, false, false, false, false, false, false, false, false, false, false, false, false, false, false, false, false, false, false, false, false, false, false, false, false, false, false, false, false, false, false, false] rfl rfl (by kernel_rfl) (fun _ _ _ h => h) (Or.inl ⟨by rfl, ?_⟩) ?_ ?_
     rotate_left
     ·intro w'
      go_simp
      with_reducible rfl
     rotate_left
     ·simp only [Act.put, sAt, sZr, sSc, i64_w, i32_w]
      rfl
     refine pure_ (i := 6) (N := some 39) (v := ?_) (a' := ?_) #[true, true, true, false, true, true, true, false, false, false, false, false, false, false, false, false, false, false, false, false, false, false, false, false, false, false, false, false, false, false, false, false, false, false, false, false, false, false, false] rfl rfl (by kernel_rfl) (fun _ _ _ h => h) (Or.inl ⟨by rfl, ?_⟩) ?_ ?_
     rotate_left
     ·intro w'
      go_simp
      with_reducible rfl
     rotate_left
     ·simp only [Act.put, sAt, sZr, sSc, i64_w, i32_w]
      rfl
     refine pure_ (i := 7) (N := some 40) (v := ?_) (a' := ?_) #[true, true, true, false, true, true, true, true, false, false, false, false, false, false, false, false, false, false, false, false, false, false, false, false, false, false, false, false, false, false, false, false, false, false, false, false, false, false, false] rfl rfl (by kernel_rfl) (fun _ _ _ h => h) (Or.inl ⟨by rfl, ?_⟩) ?_ ?_
     rotate_left
     ·intro w'
      go_simp
      with_reducible rfl
     rotate_left
     ·simp only [Act.put, sAt, sZr, sSc, i64_w, i32_w]
      rfl
     refine pure_ (i := 9) (N := some 42) (v := ?_) (a' := ?_) #[true, true, true, false, true, true, true, true, false, true, false, false, false, false, false, false, false, false, false, false, false, false, false, false, false, false, false, false, false, false, false, false, false, false, false, false, false, false, false] rfl rfl (by kernel_rfl) (fun _ _ _ h => h) (Or.inl ⟨by rfl, ?_⟩) ?_ ?_
     rotate_left
     ·intro w'
      go_simp
      with_reducible rfl
     rotate_left
     ·simp only [Act.put, sAt, sZr, sSc, i64_w, i32_w]
      rfl
     refine pure_ (i := 10) (N := some 43) (v := ?_) (a' := ?_) #[true, true, true, false, true, true, true, true, false, true, true, false, false, false, false, false, false, false, false, false, false, false, false, false, false, false, false, false, false, false, false, false, false, false, false, false, false, false, false] rfl rfl (by kernel_rfl) (fun _ _ _ h => h) (Or.inl ⟨by rfl, ?_⟩) ?_ ?_
     rotate_left
     ·intro w'
      go_simp
      with_reducible rfl
     rotate_left
     ·simp only [Act.put, sAt, sZr, sSc, i64_w, i32_w]
      rfl
     refine pure_ (i := 11) (N := some 44) (v := ?_) (a' := ?_) #[true, true, true, false, true, true, true, true, false, true, true, true, false, false, false, false, false, false, false, false, false, false, false, false, false, false, false, false, false, false, false, false, false, false, false, false, false, false, false] rfl rfl (by kernel_rfl) (fun _ _ _ h => h) (Or.inl ⟨by rfl, ?_⟩) ?_ ?_
     rotate_left
     ·intro w'
      go_simp
      with_reducible rfl
     rotate_left
     ·simp only [Act.put, sAt, sZr, sSc, i64_w, i32_w]
      rfl
     refine pure_ (i := 12) (N := some 45) (v := ?_) (a' := ?_) #[true, true, true, false, true, true, true, true, false, true, true, true, true, false, false, false, false, false, false, false, false, false, false, false, false, false, false, false, false, false, false, false, false, false, false, false, false, false, false] rfl rfl (by kernel_rfl) (fun _ _ _ h => h) (Or.inl ⟨by rfl, ?_⟩) ?_ ?_
     rotate_left
     ·intro w'
      go_simp
      with_reducible rfl
     rotate_left
     ·simp only [Act.put, sAt, sZr, sSc, i64_w, i32_w]
      rfl
     refine take_ (i := 3) (N := some 36) (v := ?_) (a' := ?_) #[true, true, true, true, true, true, true, true, false, true, true, true, true, false, false, false, false, false, false, false, false, false, false, false, false, false, false, false, false, false, false, false, false, false, false, false, false, false, false] rfl rfl (by kernel_rfl) (fun _ _ _ h => h) (Or.inl ⟨by rfl, ?_⟩) hHeld ?_ ?_
     rotate_left
     ·rintro w' ⟨s0, s1, s2, s3⟩
      go_simp
      with_reducible rfl
     rotate_left
     ·simp only [Act.put, sAt, sZr, sSc, i64_w, i32_w]
      rfl
     refine take_ (i := 8) (N := some 41) (v := ?_) (a' := ?_) #[true, true, true, true, true, true, true, true, true, true, true, true, true, false, false, false, false, false, false, false, false, false, false, false, false, false, false, false, false, false, false, false, false, false, false, false, false, false, false] rfl rfl (by kernel_rfl) (fun _ _ _ h => h) (Or.inl ⟨by rfl, ?_⟩) hHeld ?_ ?_
     rotate_left
     ·rintro w' ⟨s0, s1, s2, s3⟩
      go_simp
      with_reducible rfl
     rotate_left
     ·simp only [Act.put, sAt, sZr, sSc, i64_w, i32_w]
      rfl
     refine take_ (i := 13) (N := some 46) (v := ?_) (a' := ?_) #[true, true, true, true, true, true, true, true, true, true, true, true, true, true, false, false, false, false, false, false, false, false, false, false, false, false, false, false, false, false, false, false, false, false, false, false, false, false, false] rfl rfl (by kernel_rfl) (fun _ _ _ h => h) (Or.inl ⟨by rfl, ?_⟩) hHeld ?_ ?_
     rotate_left
     ·rintro w' ⟨s0, s1, s2, s3⟩
      go_simp
      with_reducible rfl
     rotate_left
     ·simp only [Act.put, sAt, sZr, sSc, i64_w, i32_w]
      rfl
     refine pure_ (i := 14) (N := some 47) (v := ?_) (a' := ?_) #[true, true, true, true, true, true, true, true, true, true, true, true, true, true, true, false, false, false, false, false, false, false, false, false, false, false, false, false, false, false, false, false, false, false, false, false, false, false, false] rfl rfl (by kernel_rfl) (fun _ _ _ h => h) (Or.inl ⟨by rfl, ?_⟩) ?_ ?_
     rotate_left
     ·intro w'
      go_simp
      with_reducible rfl
     rotate_left
     ·simp only [Act.put, sAt, sZr, sSc, i64_w, i32_w]
      rfl
     refine pure_ (i := 15) (N := some 48) (v := ?_) (a' := ?_) #[true, true, true, true, true, true, true, true, true, true, true, true, true, true, true, true, false, false, false, false, false, false, false, false, false, false, false, false, false, false, false, false, false, false, false, false, false, false, false] rfl rfl (by kernel_rfl) (fun _ _ _ h => h) (Or.inl ⟨by rfl, ?_⟩) ?_ ?_
     rotate_left
     ·intro w'
      go_simp
      with_reducible rfl
     rotate_left
     ·simp only [Act.put, sAt, sZr, sSc, i64_w, i32_w]
      rfl
     refine pure_ (i := 16) (N := some 49) (v := ?_) (a' := ?_) #[true, true, true, true, true, true, true, true, true, true, true, true, true, true, true, true, true, false, false, false, false, false, false, false, false, false, false, false, false, false, false, false, false, false, false, false, false, false, false] rfl rfl (by kernel_rfl) (fun _ _ _ h => h) (Or.inl ⟨by rfl, ?_⟩) ?_ ?_
     rotate_left
     ·intro w'
      go_simp
      with_reducible rfl
     rotate_left
     ·simp only [Act.put, sAt, sZr, sSc, i64_w, i32_w]
      rfl
     refine pure_ (i := 17) (N := some 50) (v := ?_) (a' := ?_) #[true, true, true, true, true, true, true, true, true, true, true, true, true, true, true, true, true, true, false, false, false, false, false, false, false, false, false, false, false, false, false, false, false, false, false, false, false, false, false] rfl rfl (by kernel_rfl) (fun _ _ _ h => h) (Or.inl ⟨by rfl, ?_⟩) ?_ ?_
     rotate_left
     ·intro w'
      go_simp
      with_reducible rfl
     rotate_left
     ·simp only [Act.put, sAt, sZr, sSc, i64_w, i32_w]
      rfl
     refine pure_ (i := 18) (N := some 51) (v := ?_) (a' := ?_) #[true, true, true, true, true, true, true, true, true, true, true, true, true, true, true, true, true, true, true, false, false, false, false, false, false, false, false, false, false, false, false, false, false, false, false, false, false, false, false] rfl rfl (by kernel_rfl) (fun _ _ _ h => h) (Or.inl ⟨by rfl, ?_⟩) ?_ ?_
     rotate_left
     ·intro w'
      go_simp
      with_reducible rfl
     rotate_left
     ·simp only [Act.put, sAt, sZr, sSc, i64_w, i32_w]
      rfl
     refine pure_ (i := 20) (N := some 53) (v := ?_) (a' := ?_) #[true, true, true, true, true, true, true, true, true, true, true, true, true, true, true, true, true, true, true, false, true, false, false, false, false, false, false, false, false, false, false, false, false, false, false, false, false, false, false] rfl rfl (by kernel_rfl) (fun _ _ _ h => h) (Or.inl ⟨by rfl, ?_⟩) ?_ ?_
     rotate_left
     ·intro w'
      go_simp
      with_reducible rfl
     rotate_left
     ·simp only [Act.put, sAt, sZr, sSc, i64_w, i32_w]
      rfl
     refine pure_ (i := 21) (N := some 54) (v := ?_) (a' := ?_) #[true, true, true, true, true, true, true, true, true, true, true, true, true, true, true, true, true, true, true, false, true, true, false, false, false, false, false, false, false, false, false, false, false, false, false, false, false, false, false] rfl rfl (by kernel_rfl) (fun _ _ _ h => h) (Or.inl ⟨by rfl, ?_⟩) ?_ ?_
     rotate_left
     ·intro w'
      go_simp
      with_reducible rfl
     rotate_left
     ·simp only [Act.put, sAt, sZr, sSc, i64_w, i32_w]
      rfl
     refine pure_ (i := 22) (N := some 55) (v := ?_) (a' := ?_) #[true, true, true, true, true, true, true, true, true, true, true, true, true, true, true, true, true, true, true, false, true, true, true, false, false, false, false, false, false, false, false, false, false, false, false, false, false, false, false] rfl rfl (by kernel_rfl) (fun _ _ _ h => h) (Or.inl ⟨by rfl, ?_⟩) ?_ ?_
     rotate_left
     ·intro w'
      go_simp
      with_reducible rfl
     rotate_left
     ·simp only [Act.put, sAt, sZr, sSc, i64_w, i32_w]
      rfl
     refine pure_ (i := 23) (N := some 56) (v := ?_) (a' := ?_) #[true, true, true, true, true, true, true, true, true, true, true, true, true, true, true, true, true, true, true, false, true, true, true, true, false, false, false, false, false, false, false, false, false, false, false, false, false, false, false] rfl rfl (by kernel_rfl) (fun _ _ _ h => h) (Or.inl ⟨by rfl, ?_⟩) ?_ ?_
     rotate_left
     ·intro w'
      go_simp
      with_reducible rfl
     rotate_left
     ·simp only [Act.put, sAt, sZr, sSc, i64_w, i32_w]
      rfl
     refine take_ (i := 19) (N := some 52) (v := ?_) (a' := ?_) #[true, true, true, true, true, true, true, true, true, true, true, true, true, true, true, true, true, true, true, true, true, true, true, true, false, false, false, false, false, false, false, false, false, false, false, false, false, false, false] rfl rfl (by kernel_rfl) (fun _ _ _ h => h) (Or.inl ⟨by rfl, ?_⟩) hHeld ?_ ?_
     rotate_left
     ·rintro w' ⟨s0, s1, s2, s3⟩
      go_simp
      with_reducible rfl
     rotate_left
     ·simp only [Act.put, sAt, sZr, sSc, i64_w, i32_w]
      rfl
     refine take_ (i := 24) (N := some 57) (v := ?_) (a' := ?_) #[true, true, true, true, true, true, true, true, true, true, true, true, true, true, true, true, true, true, true, true, true, true, true, true, true, false, false, false, false, false, false, false, false, false, false, false, false, false, false] rfl rfl (by kernel_rfl) (fun _ _ _ h => h) (Or.inl ⟨by rfl, ?_⟩) hHeld ?_ ?_
     rotate_left
     ·rintro w' ⟨s0, s1, s2, s3⟩
      go_simp
      with_reducible rfl
     rotate_left
     ·simp only [Act.put, sAt, sZr, sSc, i64_w, i32_w]
      rfl
     refine pure_ (i := 25) (N := some 58) (v := ?_) (a' := ?_) #[true, true, true, true, true, true, true, true, true, true, true, true, true, true, true, true, true, true, true, true, true, true, true, true, true, true, false, false, false, false, false, false, false, false, false, false, false, false, false] rfl rfl (by kernel_rfl) (fun _ _ _ h => h) (Or.inl ⟨by rfl, ?_⟩) ?_ ?_
     rotate_left
     ·intro w'
      go_simp
      with_reducible rfl
     rotate_left
     ·simp only [Act.put, sAt, sZr, sSc, i64_w, i32_w]
      rfl
     refine pure_ (i := 26) (N := some 59) (v := ?_) (a' := ?_) #[true, true, true, true, true, true, true, true, true, true, true, true, true, true, true, true, true, true, true, true, true, true, true, true, true, true, true, false, false, false, false, false, false, false, false, false, false, false, false] rfl rfl (by kernel_rfl) (fun _ _ _ h => h) (Or.inl ⟨by rfl, ?_⟩) ?_ ?_
     rotate_left
     ·intro w'
      go_simp
      with_reducible rfl
     rotate_left
     ·simp only [Act.put, sAt, sZr, sSc, i64_w, i32_w]
      rfl
     refine pure_ (i := 27) (N := some 60) (v := ?_) (a' := ?_) #[true, true, true, true, true, true, true, true, true, true, true, true, true, true, true, true, true, true, true, true, true, true, true, true, true, true, true, true, false, false, false, false, false, false, false, false, false, false, false] rfl rfl (by kernel_rfl) (fun _ _ _ h => h) (Or.inl ⟨by rfl, ?_⟩) ?_ ?_
     rotate_left
     ·intro w'
      go_simp
      with_reducible rfl
     rotate_left
     ·simp only [Act.put, sAt, sZr, sSc, i64_w, i32_w]
      rfl
     refine pure_ (i := 28) (N := some 61) (v := ?_) (a' := ?_) #[true, true, true, true, true, true, true, true, true, true, true, true, true, true, true, true, true, true, true, true, true, true, true, true, true, true, true, true, true, false, false, false, false, false, false, false, false, false, false] rfl rfl (by kernel_rfl) (fun _ _ _ h => h) (Or.inl ⟨by rfl, ?_⟩) ?_ ?_
     rotate_left
     ·intro w'
      go_simp
      with_reducible rfl
     rotate_left
     ·simp only [Act.put, sAt, sZr, sSc, i64_w, i32_w]
      rfl
     refine pure_ (i := 29) (N := some 62) (v := ?_) (a' := ?_) #[true, true, true, true, true, true, true, true, true, true, true, true, true, true, true, true, true, true, true, true, true, true, true, true, true, true, true, true, true, true, false, false, false, false, false, false, false, false, false] rfl rfl (by kernel_rfl) (fun _ _ _ h => h) (Or.inl ⟨by rfl, ?_⟩) ?_ ?_
     rotate_left
     ·intro w'
      go_simp
      with_reducible rfl
     rotate_left
     ·simp only [Act.put, sAt, sZr, sSc, i64_w, i32_w]
      rfl
     refine pure_ (i := 31) (N := some 64) (v := ?_) (a' := ?_) #[true, true, true, true, true, true, true, true, true, true, true, true, true, true, true, true, true, true, true, true, true, true, true, true, true, true, true, true, true, true, false, true, false, false, false, false, false, false, false] rfl rfl (by kernel_rfl) (fun _ _ _ h => h) (Or.inl ⟨by rfl, ?_⟩) ?_ ?_
     rotate_left
     ·intro w'
      go_simp
      with_reducible rfl
     rotate_left
     ·simp only [Act.put, sAt, sZr, sSc, i64_w, i32_w]
      rfl
     refine pure_ (i := 32) (N := some 65) (v := ?_) (a' := ?_) #[true, true, true, true, true, true, true, true, true, true, true, true, true, true, true, true, true, true, true, true, true, true, true, true, true, true, true, true, true, true, false, true, true, false, false, false, false, false, false] rfl rfl (by kernel_rfl) (fun _ _ _ h => h) (Or.inl ⟨by rfl, ?_⟩) ?_ ?_
     rotate_left
     ·intro w'
      go_simp
      with_reducible rfl
     rotate_left
     ·simp only [Act.put, sAt, sZr, sSc, i64_w, i32_w]
      rfl
     refine take_ (i := 30) (N := some 63) (v := ?_) (a' := ?_) #[true, true, true, true, true, true, true, true, true, true, true, true, true, true, true, true, true, true, true, true, true, true, true, true, true, true, true, true, true, true, true, true, true, false, false, false, false, false, false] rfl rfl (by kernel_rfl) (fun _ _ _ h => h) (Or.inl ⟨by rfl, ?_⟩) hHeld ?_ ?_
     rotate_left
     ·rintro w' ⟨s0, s1, s2, s3⟩
      go_simp
      with_reducible rfl
     rotate_left
     ·simp only [Act.put, sAt, sZr, sSc, i64_w, i32_w]
      rfl
     refine pure_ (i := 33) (N := some 66) (v := ?_) (a' := ?_) #[true, true, true, true, true, true, true, true, true, true, true, true, true, true, true, true, true, true, true, true, true, true, true, true, true, true, true, true, true, true, true, true, true, true, false, false, false, false, false] rfl rfl (by kernel_rfl) (fun _ _ _ h => h) (Or.inl ⟨by rfl, ?_⟩) ?_ ?_
     rotate_left
     ·intro w'
      go_simp
      with_reducible rfl
     rotate_left
     ·simp only [Act.put, sAt, sZr, sSc, i64_w, i32_w]
      rfl
     refine take_ (i := 34) (N := some 67) (v := ?_) (a' := ?_) #[true, true, true, true, true, true, true, true, true, true, true, true, true, true, true, true, true, true, true, true, true, true, true, true, true, true, true, true, true, true, true, true, true, true, true, false, false, false, false] rfl rfl (by kernel_rfl) (fun _ _ _ h => h) (Or.inl ⟨by rfl, ?_⟩) hHeld ?_ ?_
     rotate_left
     ·rintro w' ⟨s0, s1, s2, s3⟩
      go_simp
      with_reducible rfl
     rotate_left
     ·simp only [Act.put, sAt, sZr, sSc, i64_w, i32_w]
      rfl
     refine pure_ (i := 35) (N := some 68) (v := ?_) (a' := ?_) #[true, true, true, true, true, true, true, true, true, true, true, true, true, true, true, true, true, true, true, true, true, true, true, true, true, true, true, true, true, true, true, true, true, true, true, true, false, false, false] rfl rfl (by kernel_rfl) (fun _ _ _ h => h) (Or.inl ⟨by rfl, ?_⟩) ?_ ?_
     rotate_left
     ·intro w'
      go_simp
      with_reducible rfl
     rotate_left
     ·simp only [Act.put, sAt, sZr, sSc, i64_w, i32_w]
      rfl
     refine pure_ (i := 36) (N := some 69) (v := ?_) (a' := ?_) #[true, true, true, true, true, true, true, true, true, true, true, true, true, true, true, true, true, true, true, true, true, true, true, true, true, true, true, true, true, true, true, true, true, true, true, true, true, false, false] rfl rfl (by kernel_rfl) (fun _ _ _ h => h) (Or.inl ⟨by rfl, ?_⟩) ?_ ?_
     rotate_left
     ·intro w'
      go_simp
      with_reducible rfl
     rotate_left
     ·simp only [Act.put, sAt, sZr, sSc, i64_w, i32_w]
      rfl
     refine pure_ (i := 37) (N := some 70) (v := ?_) (a' := ?_) #[true, true, true, true, true, true, true, true, true, true, true, true, true, true, true, true, true, true, true, true, true, true, true, true, true, true, true, true, true, true, true, true, true, true, true, true, true, true, false] rfl rfl (by kernel_rfl) (fun _ _ _ h => h) (Or.inl ⟨by rfl, ?_⟩) ?_ ?_
     rotate_left
     ·intro w'
      go_simp
      with_reducible rfl
     rotate_left
     ·simp only [Act.put, sAt, sZr, sSc, i64_w, i32_w]
      rfl
     refine last_ (i := 38) (N := none) #[true, true, true, true, true, true, true, true, true, true, true, true, true, true, true, true, true, true, true, true, true, true, true, true, true, true, true, true, true, true, true, true, true, true, true, true, true, true, true] rfl rfl (by kernel_rfl) (by decide) (fun K hK => ?_)
     have hfz := F.out.drew.hl.free q
     have hcz := F.out.drew.cl (show q < n from of_eq_true q2)
     refine skip_ (w1 := ?_) (by rfl) rfl ?_ ?_
     rotate_left
     ·go_simp
      rfl
     refine hK.out _ _ ?_
     clear hK K
     refine done_ (by kernel_rfl) ?_
     go_wp2
     go_roundg q
     case measure => omega
     case rel => exact ⟨(q : Int) - 1, by simp only [e2], ⟨rfl, by have := HL.out; omega⟩, ⟨(HFIN.out lb HV.out).drew⟩⟩
    ·have t3 : ((a : Int) == (b : Int)) = false := beq_false_of_ne (by omega)
     have t4 : (a == b) = false := beq_false_of_ne g2
     have HV := zaa.mk (show less n s q = false from by rw [HST.out, t2, decide_eq_false g2]; cases lb <;> rfl)
     clear HST g1 g2
     go_wp2
     refine zcr (n := 39) (S := fun w' => w'.cell? ⟨gx, 1, none⟩ = some (.slice (some ⟨gl, 0, none⟩) n n) ∧ w'.cell? (ad.add q) = some (.int .i64 (a : Int)) ∧ w'.cell? ⟨ad.block, ad.off + (q + 1), none⟩ = some (.int .i64 (b : Int)) ∧ w'.cell? ⟨gl, q + 1, none⟩ = some (.bool lb)) (ds := [38]) #[false, false, false, false, false, false, false, false, false, false, false, false, false, false, false, false, false, false, false, false, false, false, false, false, false, false, false, false, false, false, false, false, false, false, false, false, false, false, false] (by kernel_rfl) rfl rfl ⟨k1, hc1, hd2, kl⟩ (fun hHeld => ?_)
     refine pure_ (i := 0) (N := some 33) (v := ?_) (a' := ?_) #[true, false, false, false, false, false, false, false, false, false, false, false, false, false, false, false, false, false, false, false, false, false, false, false, false, false, false, false, false, false, false, false, false, false, false, false, false, false, false] rfl rfl (by kernel_rfl) (fun _ _ _ h => h) (Or.inl ⟨by rfl, ?_⟩) ?_ ?_
     rotate_left
     ·intro w'
      go_simp
      with_reducible rfl
     rotate_left
     ·simp only [Act.put, sAt, sZr, sSc, i64_w, i32_w]
      rfl
     refine pure_ (i := 1) (N := some 34) (v := ?_) (a' := ?_) #[true, true, false, false, false, false, false, false, false, false, false, false, false, false, false, false, false, false, false, false, false, false, false, false, false, false, false, false, false, false, false, false, false, false, false, false, false, false, false] rfl rfl (by kernel_rfl) (fun _ _ _ h => h) (Or.inl ⟨by rfl, ?_⟩) ?_ ?_
     rotate_left
     ·intro w'
      go_simp
      with_reducible rfl
     rotate_left
     ·simp only [Act.put, sAt, sZr, sSc, i64_w, i32_w]
      rfl
     refine pure_ (i := 2) (N := some 35) (v := ?_) (a' := ?_) #[true, true, true, false, false, false, false, false, false, false, false, false, false, false, false, false, false, false, false, false, false, false, false, false, false, false, false, false, false, false, false, false, false, false, false, false, false, false, false] rfl rfl (by kernel_rfl) (fun _ _ _ h => h) (Or.inl ⟨by rfl, ?_⟩) ?_ ?_
     rotate_left
     ·intro w'
      go_simp
      with_reducible rfl
     rotate_left
     ·simp only [Act.put, sAt, sZr, sSc, i64_w, i32_w]
      rfl
     refine pure_ (i := 4) (N := some 37) (v := ?_) (a' := ?_) #[true, true, true, false, true, false, false, false, false, false, false, false, false, false, false, false, false, false, false, false, false, false, false, false, false, false, false, false, false, false, false, false, false, false, false, false, false, false, false] rfl rfl (by kernel_rfl) (fun _ _ _ h => h) (Or.inl ⟨by rfl, ?_⟩) ?_ ?_
     rotate_left
     ·intro w'
      go_simp
      with_reducible rfl
     rotate_left
     ·simp only [Act.put, sAt, sZr, sSc, i64_w, i32_w]
      rfl
     refine pure_ (i := 5) (N := some 38) (v := ?_) (a' := ?_) #[true, true, true, false, true, true, false, false, false, false, false, false, false, false, false, false, false, false, false, false, false, false, false, false, false, false, false, false, false, false, false, false, false, false, false, false, false, false, false] rfl rfl (by kernel_rfl) (fun _ _ _ h => h) (Or.inl ⟨by rfl, ?_⟩) ?_ ?_
     rotate_left
     ·intro w'
      go_simp
      with_reducible rfl
     rotate_left
     ·simp only [Act.put, sAt, sZr, sSc, i64_w, i32_w]
      rfl
     refine pure_ (i := 6) (N := some 39) (v := ?_) (a' := ?_) #[true, true, true, false, true, true, true, false, false, false, false, false, false, false, false, false, false, false, false, false, false, false, false, false, false, false, false, false, false, false, false, false, false, false, false, false, false, false, false] rfl rfl (by kernel_rfl) (fun _ _ _ h => h) (Or.inl ⟨by rfl, ?_⟩) ?_ ?_
     rotate_left
     ·intro w'
      go_simp
      with_reducible rfl
     rotate_left
     ·simp only [Act.put, sAt, sZr, sSc, i64_w, i32_w]
      rfl
     refine pure_ (i := 7) (N := some 40) (v := ?_) (a' := ?_) #[true, true, true, false, true, true, true, true, false, false, false, false, false, false, false, false, false, false, false, false, false, false, false, false, false, false, false, false, false, false, false, false, false, false, false, false, false, false, false] rfl rfl (by kernel_rfl) (fun _ _ _ h => h) (Or.inl ⟨by rfl, ?_⟩) ?_ ?_
     rotate_left
     ·intro w'
      go_simp
      with_reducible rfl
     rotate_left
     ·simp only [Act.put, sAt, sZr, sSc, i64_w, i32_w]
      rfl
     refine pure_ (i := 9) (N := some 42) (v := ?_) (a' := ?_) #[true, true, true, false, true, true, true, true, false, true, false, false, false, false, false, false, false, false, false, false, false, false, false, false, false, false, false, false, false, false, false, false, false, false, false, false, false, false, false] rfl rfl (by kernel_rfl) (fun _ _ _ h => h) (Or.inl ⟨by rfl, ?_⟩) ?_ ?_
     rotate_left
     ·intro w'
      go_simp
      with_reducible rfl
     rotate_left
     ·simp only [Act.put, sAt, sZr, sSc, i64_w, i32_w]
      rfl
     refine pure_ (i := 10) (N := some 43) (v := ?_) (a' := ?_) #[true, true, true, false, true, true, true, true, false, true, true, false, false, false, false, false, false, false, false, false, false, false, false, false, false, false, false, false, false, false, false, false, false, false, false, false, false, false, false] rfl rfl (by kernel_rfl) (fun _ _ _ h => h) (Or.inl ⟨by rfl, ?_⟩) ?_ ?_
     rotate_left
     ·intro w'
      go_simp
      with_reducible rfl
     rotate_left
     ·simp only [Act.put, sAt, sZr, sSc, i64_w, i32_w]
      rfl
     refine pure_ (i := 11) (N := some 44) (v := ?_) (a' := ?_) #[true, true, true, false, true, true, true, true, false, true, true, true, false, false, false, false, false, false, false, false, false, false, false, false, false, false, false, false, false, false, false, false, false, false, false, false, false, false, false] rfl rfl (by kernel_rfl) (fun _ _ _ h => h) (Or.inl ⟨by rfl, ?_⟩) ?_ ?_
     rotate_left
     ·intro w'
      go_simp
      with_reducible rfl
     rotate_left
     ·simp only [Act.put, sAt, sZr, sSc, i64_w, i32_w]
      rfl
     refine pure_ (i := 12) (N := some 45) (v := ?_) (a' := ?_) #[true, true, true, false, true, true, true, true, false, true, true, true, true, false, false, false, false, false, false, false, false, false, false, false, false, false, false, false, false, false, false, false, false, false, false, false, false, false, false] rfl rfl (by kernel_rfl) (fun _ _ _ h => h) (Or.inl ⟨by rfl, ?_⟩) ?_ ?_
     rotate_left
     ·intro w'
      go_simp
      with_reducible rfl
     rotate_left
     ·simp only [Act.put, sAt, sZr, sSc, i64_w, i32_w]
      rfl
     refine take_ (i := 3) (N := some 36) (v := ?_) (a' := ?_) #[true, true, true, true, true, true, true, true, false, true, true, true, true, false, false, false, false, false, false, false, false, false, false, false, false, false, false, false, false, false, false, false, false, false, false, false, false, false, false] rfl rfl (by kernel_rfl) (fun _ _ _ h => h) (Or.inl ⟨by rfl, ?_⟩) hHeld ?_ ?_
     rotate_left
     ·rintro w' ⟨s0, s1, s2, s3⟩
      go_simp
      with_reducible rfl
     rotate_left
     ·simp only [Act.put, sAt, sZr, sSc, i64_w, i32_w]
      rfl
     refine take_ (i := 8) (N := some 41) (v := ?_) (a' := ?_) #[true, true, true, true, true, true, true, true, true, true, true, true, true, false, false, false, false, false, false, false, false, false, false, false, false, false, false, false, false, false, false, false, false, false, false, false, false, false, false] rfl rfl (by kernel_rfl) (fun _ _ _ h => h) (Or.inl ⟨by rfl, ?_⟩) hHeld ?_ ?_
     rotate_left
     ·rintro w' ⟨s0, s1, s2, s3⟩
      go_simp
      with_reducible rfl
     rotate_left
     ·simp only [Act.put, sAt, sZr, sSc, i64_w, i32_w]
      rfl
     refine take_ (i := 13) (N := some 46) (v := ?_) (a' := ?_) #[true, true, true, true, true, true, true, true, true, true, true, true, true, true, false, false, false, false, false, false, false, false, false, false, false, false, false, false, false, false, false, false, false, false, false, false, false, false, false] rfl rfl (by kernel_rfl) (fun _ _ _ h => h) (Or.inl ⟨by rfl, ?_⟩) hHeld ?_ ?_
     rotate_left
     ·rintro w' ⟨s0, s1, s2, s3⟩
      go_simp
      with_reducible rfl
     rotate_left
     ·simp only [Act.put, sAt, sZr, sSc, i64_w, i32_w]
      rfl
     refine pure_ (i := 14) (N := some 47) (v := ?_) (a' := ?_) #[true, true, true, true, true, true, true, true, true, true, true, true, true, true, true, false, false, false, false, false, false, false, false, false, false, false, false, false, false, false, false, false, false, false, false, false, false, false, false] rfl rfl (by kernel_rfl) (fun _ _ _ h => h) (Or.inl ⟨by rfl, ?_⟩) ?_ ?_
     rotate_left
     ·intro w'
      go_simp
      with_reducible rfl
     rotate_left
     ·simp only [Act.put, sAt, sZr, sSc, i64_w, i32_w]
      rfl
     refine pure_ (i := 15) (N := some 48) (v := ?_) (a' := ?_) #[true, true, true, true, true, true, true, true, true, true, true, true, true, true, true, true, false, false, false, false, false, false, false, false, false, false, false, false, false, false, false, false, false, false, false, false, false, false, false] rfl rfl (by kernel_rfl) (fun _ _ _ h => h) (Or.inl ⟨by rfl, ?_⟩) ?_ ?_
     rotate_left
     ·intro w'
      go_simp
      with_reducible rfl
     rotate_left
     ·simp only [Act.put, sAt, sZr, sSc, i64_w, i32_w]
      rfl
     refine pure_ (i := 16) (N := some 49) (v := ?_) (a' := ?_) #[true, true, true, true, true, true, true, true, true, true, true, true, true, true, true, true, true, false, false, false, false, false, false, false, false, false, false, false, false, false, false, false, false, false, false, false, false, false, false] rfl rfl (by kernel_rfl) (fun _ _ _ h => h) (Or.inl ⟨by rfl, ?_⟩) ?_ ?_
     rotate_left
     ·intro w'
      go_simp
      with_reducible rfl
     rotate_left
     ·simp only [Act.put, sAt, sZr, sSc, i64_w, i32_w]
      rfl
     refine pure_ (i := 17) (N := some 50) (v := ?_) (a' := ?_) #[true, true, true, true, true, true, true, true, true, true, true, true, true, true, true, true, true, true, false, false, false, false, false, false, false, false, false, false, false, false, false, false, false, false, false, false, false, false, false] rfl rfl (by kernel_rfl) (fun _ _ _ h => h) (Or.inl ⟨by rfl, ?_⟩) ?_ ?_
     rotate_left
     ·intro w'
      go_simp
      with_reducible rfl
     rotate_left
     ·simp only [Act.put, sAt, sZr, sSc, i64_w, i32_w]
      rfl
     refine pure_ (i := 18) (N := some 51) (v := ?_) (a' := ?_) #[true, true, true, true, true, true, true, true, true, true, true, true, true, true, true, true, true, true, true, false, false, false, false, false, false, false, false, false, false, false, false, false, false, false, false, false, false, false, false] rfl rfl (by kernel_rfl) (fun _ _ _ h => h) (Or.inl ⟨by rfl, ?_⟩) ?_ ?_
     rotate_left
     ·intro w'
      go_simp
      with_reducible rfl
     rotate_left
     ·simp only [Act.put, sAt, sZr, sSc, i64_w, i32_w]
      rfl
     refine pure_ (i := 20) (N := some 53) (v := ?_) (a' := ?_) #[true, true, true, true, true, true, true, true, true, true, true, true, true, true, true, true, true, true, true, false, true, false, false, false, false, false, false, false, false, false, false, false, false, false, false, false, false, false, false] rfl rfl (by kernel_rfl) (fun _ _ _ h => h) (Or.inl ⟨by rfl, ?_⟩) ?_ ?_
     rotate_left
     ·intro w'
      go_simp
      with_reducible rfl
     rotate_left
     ·simp only [Act.put, sAt, sZr, sSc, i64_w, i32_w]
      rfl
     refine pure_ (i := 21) (N := some 54) (v := ?_) (a' := ?_) #[true, true, true, true, true, true, true, true, true, true, true, true, true, true, true, true, true, true, true, false, true, true, false, false, false, false, false, false, false, false, false, false, false, false, false, false, false, false, false] rfl rfl (by kernel_rfl) (fun _ _ _ h => h) (Or.inl ⟨by rfl, ?_⟩) ?_ ?_
     rotate_left
     ·intro w'
      go_simp
      with_reducible rfl
     rotate_left
     ·simp only [Act.put, sAt, sZr, sSc, i64_w, i32_w]
      rfl
     refine pure_ (i := 22) (N := some 55) (v := ?_) (a' := ?_) #[true, true, true, true, true, true, true, true, true, true, true, true, true, true, true, true, true, true, true, false, true, true, true, false, false, false, false, false, false, false, false, false, false, false, false, false, false, false, false] rfl rfl (by kernel_rfl) (fun _ _ _ h => h) (Or.inl ⟨by rfl, ?_⟩) ?_ ?_
     rotate_left
     ·intro w'
      go_simp
      with_reducible rfl
     rotate_left
     ·simp only [Act.put, sAt, sZr, sSc, i64_w, i32_w]
      rfl
     refine pure_ (i := 23) (N := some 56) (v := ?_) (a' := ?_) #[true, true, true, true, true, true, true, true, true, true, true, true, true, true, true, true, true, true, true, false, true, true, true, true, false, false, false, false, false, false, false, false, false, false, false, false, false, false, false] rfl rfl (by kernel_rfl) (fun _ _ _ h => h) (Or.inl ⟨by rfl, ?_⟩) ?_ ?_
     rotate_left
     ·intro w'
      go_simp
      with_reducible rfl
     rotate_left
     ·simp only [Act.put, sAt, sZr, sSc, i64_w, i32_w]
      rfl
     refine take_ (i := 19) (N := some 52) (v := ?_) (a' := ?_) #[true, true, true, true, true, true, true, true, true, true, true, true, true, true, true, true, true, true, true, true, true, true, true, true, false, false, false, false, false, false, false, false, false, false, false, false, false, false, false] rfl rfl (by kernel_rfl) (fun _ _ _ h => h) (Or.inl ⟨by rfl, ?_⟩) hHeld ?_ ?_
     rotate_left
     ·rintro w' ⟨s0, s1, s2, s3⟩
      go_simp
      with_reducible rfl
     rotate_left
     ·simp only [Act.put, sAt, sZr, sSc, i64_w, i32_w]
      rfl
     refine take_ (i := 24) (N := some 57) (v := ?_) (a' := ?_) #[true, true, true, true, true, true, true, true, true, true, true, true, true, true, true, true, true, true, true, true, true, true, true, true, true, false, false, false, false, false, false, false, false, false, false, false, false, false, false] rfl rfl (by kernel_rfl) (fun _ _ _ h => h) (Or.inl ⟨by rfl, ?_⟩) hHeld ?_ ?_
     rotate_left
     ·rintro w' ⟨s0, s1, s2, s3⟩
      go_simp
      with_reducible rfl
     rotate_left
     ·simp only [Act.put, sAt, sZr, sSc, i64_w, i32_w]
      rfl
     refine pure_ (i := 25) (N := some 58) (v := ?_) (a' := ?_) #[true, true, true, true, true, true, true, true, true, true, true, true, true, true, true, true, true, true, true, true, true, true, true, true, true, true, false, false, false, false, false, false, false, false, false, false, false, false, false] rfl rfl (by kernel_rfl) (fun _ _ _ h => h) (Or.inl ⟨by rfl, ?_⟩) ?_ ?_
     rotate_left
     ·intro w'
      go_simp
      with_reducible rfl
     rotate_left
     ·simp only [Act.put, sAt, sZr, sSc, i64_w, i32_w]
      rfl
     refine pure_ (i := 26) (N := some 59) (v := ?_) (a' := ?_) #[true, true, true, true, true, true, true, true, true, true, true, true, true, true, true, true, true, true, true, true, true, true, true, true, true, true, true, false, false, false, false, false, false, false, false, false, false, false, false] rfl rfl (by kernel_rfl) (fun _ _ _ h => h) (Or.inl ⟨by rfl, ?_⟩) ?_ ?_
     rotate_left
     ·intro w'
      go_simp
      with_reducible rfl
     rotate_left
     ·simp only [Act.put, sAt, sZr, sSc, i64_w, i32_w]
      rfl
     refine pure_ (i := 27) (N := some 60) (v := undef) (a' := ?_) #[true, true, true, true, true, true, true, true, true, true, true, true, true, true, true, true, true, true, true, true, true, true, true, true, true, true, true, true, false, false, false, false, false, false, false, false, false, false, false] rfl rfl (by kernel_rfl) (fun _ _ _ h => h) (Or.inr ⟨by rfl, rfl⟩) ?_ ?_
     rotate_left
     ·simp only [Act.put, sAt, sZr, sSc, i64_w, i32_w]
      rfl
     refine pure_ (i := 28) (N := some 61) (v := undef) (a' := ?_) #[true, true, true, true, true, true, true, true, true, true, true, true, true, true, true, true, true, true, true, true, true, true, true, true, true, true, true, true, true, false, false, false, false, false, false, false, false, false, false] rfl rfl (by kernel_rfl) (fun _ _ _ h => h) (Or.inr ⟨by rfl, rfl⟩) ?_ ?_
     rotate_left
     ·simp only [Act.put, sAt, sZr, sSc, i64_w, i32_w]
      rfl
     refine pure_ (i := 29) (N := some 62) (v := undef) (a' := ?_) #[true, true, true, true, true, true, true, true, true, true, true, true, true, true, true, true, true, true, true, true, true, true, true, true, true, true, true, true, true, true, false, false, false, false, false, false, false, false, false] rfl rfl (by kernel_rfl) (fun _ _ _ h => h) (Or.inr ⟨by rfl, rfl⟩) ?_ ?_
     rotate_left
     ·simp only [Act.put, sAt, sZr, sSc, i64_w, i32_w]
      rfl
     refine pure_ (i := 30) (N := some 63) (v := undef) (a' := ?_) #[true, true, true, true, true, true, true, true, true, true, true, true, true, true, true, true, true, true, true, true, true, true, true, true, true, true, true, true, true, true, true, false, false, false, false, false, false, false, false] rfl rfl (by kernel_rfl) (fun _ _ _ h => h) (Or.inr ⟨by rfl, rfl⟩) ?_ ?_
     rotate_left
     ·simp only [Act.put, sAt, sZr, sSc, i64_w, i32_w]
      rfl
     refine pure_ (i := 31) (N := some 64) (v := undef) (a' := ?_) #[true, true, true, true, true, true, true, true, true, true, true, true, true, true, true, true, true, true, true, true, true, true, true, true, true, true, true, true, true, true, true, true, false, false, false, false, false, false, false] rfl rfl (by kernel_rfl) (fun _ _ _ h => h) (Or.inr ⟨by rfl, rfl⟩) ?_ ?_
     rotate_left
     ·simp only [Act.put, sAt, sZr, sSc, i64_w, i32_w]
      rfl
     refine pure_ (i := 32) (N := some 65) (v := undef) (a' := ?_) #[true, true, true, true, true, true, true, true, true, true, true, true, true, true, true, true, true, true, true, true, true, true, true, true, true, true, true, true, true, true, true, true, true, false, false, false, false, false, false] rfl rfl (by kernel_rfl) (fun _ _ _ h => h) (Or.inr ⟨by rfl, rfl⟩) ?_ ?_
     rotate_left
     ·simp only [Act.put, sAt, sZr, sSc, i64_w, i32_w]
      rfl
     refine pure_ (i := 33) (N := some 66) (v := undef) (a' := ?_) #[true, true, true, true, true, true, true, true, true, true, true, true, true, true, true, true, true, true, true, true, true, true, true, true, true, true, true, true, true, true, true, true, true, true, false, false, false, false, false] rfl rfl (by kernel_rfl) (fun _ _ _ h => h) (Or.inr ⟨by rfl, rfl⟩) ?_ ?_
     rotate_left
     ·simp only [Act.put, sAt, sZr, sSc, i64_w, i32_w]
      rfl
     refine pure_ (i := 34) (N := some 67) (v := undef) (a' := ?_) #[true, true, true, true, true, true, true, true, true, true, true, true, true, true, true, true, true, true, true, true, true, true, true, true, true, true, true, true, true, true, true, true, true, true, true, false, false, false, false] rfl rfl (by kernel_rfl) (fun _ _ _ h => h) (Or.inr ⟨by rfl, rfl⟩) ?_ ?_
     rotate_left
     ·simp only [Act.put, sAt, sZr, sSc, i64_w, i32_w]
      rfl
     refine pure_ (i := 35) (N := some 68) (v := ?_) (a' := ?_) #[true, true, true, true, true, true, true, true, true, true, true, true, true, true, true, true, true, true, true, true, true, true, true, true, true, true, true, true, true, true, true, true, true, true, true, true, false, false, false] rfl rfl (by kernel_rfl) (fun _ _ _ h => h) (Or.inl ⟨by rfl, ?_⟩) ?_ ?_
     rotate_left
     ·intro w'
      go_simp
      with_reducible rfl
     rotate_left
     ·simp only [Act.put, sAt, sZr, sSc, i64_w, i32_w]
      rfl
     refine pure_ (i := 36) (N := some 69) (v := ?_) (a' := ?_) #[true, true, true, true, true, true, true, true, true, true, true, true, true, true, true, true, true, true, true, true, true, true, true, true, true, true, true, true, true, true, true, true, true, true, true, true, true, false, false] rfl rfl (by kernel_rfl) (fun _ _ _ h => h) (Or.inl ⟨by rfl, ?_⟩) ?_ ?_
     rotate_left
     ·intro w'
      go_simp
      with_reducible rfl
     rotate_left
     ·simp only [Act.put, sAt, sZr, sSc, i64_w, i32_w]
      rfl
     refine pure_ (i := 37) (N := some 70) (v := ?_) (a' := ?_) #[true, true, true, true, true, true, true, true, true, true, true, true, true, true, true, true, true, true, true, true, true, true, true, true, true, true, true, true, true, true, true, true, true, true, true, true, true, true, false] rfl rfl (by kernel_rfl) (fun _ _ _ h => h) (Or.inl ⟨by rfl, ?_⟩) ?_ ?_
     rotate_left
     ·intro w'
      go_simp
      with_reducible rfl
     rotate_left
     ·simp only [Act.put, sAt, sZr, sSc, i64_w, i32_w]
      rfl
     refine last_ (i := 38) (N := none) #[true, true, true, true, true, true, true, true, true, true, true, true, true, true, true, true, true, true, true, true, true, true, true, true, true, true, true, true, true, true, true, true, true, true, true, true, true, true, true] rfl rfl (by kernel_rfl) (by decide) (fun K hK => ?_)
     have hfz := F.out.drew.hl.free q
     have hcz := F.out.drew.cl (show q < n from of_eq_true q2)
     refine skip_ (w1 := ?_) (by rfl) rfl ?_ ?_
     rotate_left
     ·go_simp
      rfl
     refine hK.out _ _ ?_
     clear hK K
     refine done_ (by kernel_rfl) ?_
     go_wp2
     go_roundg q
     case measure => omega
     case rel => exact ⟨(q : Int) - 1, by simp only [e2], ⟨rfl, by have := HL.out; omega⟩, ⟨(HFIN.out false HV.out).drew⟩⟩
end Go.Proofs.YtdifgiceallpiaaDoor.Hd
