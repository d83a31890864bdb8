/- flat's Next, walked by hand. -/
import Derived.Test.YtpmllmllabjopaaHFl
import Derived.Test.YtpmllmllabjopaaBtRdB
import Derived.Test.YtpmllmllabjopaaHNewB
import Derived.Test.YtpmllmllabjopaaPx2
set_option linter.unusedVariables false
set_option linter.unusedSimpArgs false
set_option linter.unusedSectionVars false
namespace Go.Proofs.Ytpmllmllabjopaa.Hd
open Go Go.RowKit Go.Deep Go.Proofs.YtpmllmllabjopaaW.PrintWords Go.Proofs.YtpmllmllabjopaaW.PrintLast Go.Proofs.YtpmllmllabjopaaW.PrintMore Go.Proofs.Ytpmllmllabjopaa.Hw Go.Proofs.Ytpmllmllabjopaa.Com Go.Proofs.Ytpmllmllabjopaa.Cn Go.Proofs.Ytpmllmllabjopaa.P Go.Proofs.Ytpmllmllabjopaa.Pure
attribute [local go_sem] max2_int min2_int max_two min_two max_three min_three max_four min_four
section
variable {P : Program} {ops : Array Oper} {Q : Exit → Act → World → Prop}
theorem alloc_step {oi : Oper} {N : Option Tmp} {a : Act} {W : World} {K : Act → World → Prop} {cs : Array Value} {e : TypeId} (hw : Region.wanted oi (yielded ops a.tmps) = true) (hN : oi.dst = N) (hr : (execOp a.eval oi).run P W = .ok (.value (.pointer (some ⟨W.heap.size, 0, none⟩))) (W.alloc (.cells cs e)))
    (h : ∀ k W1, k = W.heap.size → W1.heap[k]? = some (.cells cs e (0, 0)) → Below W.heap.size W W1 → K (a.put N (.pointer (some ⟨k, 0, none⟩))) W1) : if Region.wanted oi (yielded ops a.tmps) = true then Oper.wp P oi a W K Q else K (a.put N undef) W :=
  value_ hw hN hr (h _ _ rfl (blk_new W _) (below_alloc (Below.refl _ _) _))
theorem store_run {o : Oper} {a : Act} {W : World} {ty : TypeId} {x y : Operand} {b o' : Nat} {cells : Array Value} (ho : o.op = .store ty x y) (hx : a.eval x = .pointer (some ⟨b, o', none⟩)) (hy : a.eval y = .agg cells)
    (ht : W.there b o' cells.size) (hi : (P.info? ty).map (·.size) = some cells.size) (h1 : cells.all (·.oneCell') = true) : (execOp a.eval o).run P W = .ok .skip (W.setCells b o' cells.toList) := by
  have := run_storeAt_mid (P := P) W b o' ty cells ht hi h1
  simp [execOp, ho, hx, hy, this]
theorem load_run {o : Oper} {a : Act} {W : World} {ty : TypeId} {x : Operand} {b o' : Nat} {cs : List Value} {d : TypeDesc} (ho : o.op = .load ty x) (hx : a.eval x = .pointer (some ⟨b, o', none⟩)) (hc : W.rangeAt b o' cs)
    (hu : P.underlying ty = some d) (hd : d.isRow = true) (hi : (P.info? ty).map (·.size) = some cs.length) : (execOp a.eval o).run P W = .ok (.value (.agg cs.toArray)) W := by
  have := run_loadAt_mid (P := P) W b o' ty cs d hc hu hd hi
  simp [execOp, ho, hx, this]
theorem there2 {W : World} {k : Nat} {u v : Value} {t : TypeId} (h : W.heap[k]? = some (.cells #[u, v] t (0, 0))) : W.there k 0 2 := fun j hj => by
  refine ⟨?_, blk_frozen h _⟩
  rw [blk_cell h]
  match j, hj with
  | 0, _ => rfl
  | 1, _ => rfl
end
/-- Between the steps. -/
structure NXT (w0 w : World) (g b M : Nat) (m : Int) (f : Nat → Nat × Nat) (gr : Nat) (Bs : List Int) (p : Int) (W : World) : Prop where
  t : TabS W g b M m f
  i : IsS54 w0 W gr Bs p
  bl : Below w0.heap.size w0 W
  kp : KeepBut w W gr none
section
variable {w0 w W W1 : World} {g b M gr x sy nn : Nat} {m p p' : Int} {f : Nat → Nat × Nat} {Bs : List Int}
theorem keep_below (h : KeepBut w W gr none) (hb : Below W.heap.size W W1) : KeepBut w W1 gr none := ⟨Nat.le_trans h.1 hb.size, fun i hi hne hr => (hb.block i (Nat.lt_of_lt_of_le hi h.1)).trans (h.2 i hi hne hr)⟩
theorem keep_keep (h : KeepBut w W gr none) (k : KeepBut W W1 gr none) : KeepBut w W1 gr none := ⟨Nat.le_trans h.1 k.1, fun i hi hne hr => (k.2 i (Nat.lt_of_lt_of_le hi h.1) hne hr).trans (h.2 i hi hne hr)⟩
theorem NXT.below (h : NXT w0 w g b M m f gr Bs p W) (hb : Below W.heap.size W W1) : NXT w0 w g b M m f gr Bs p W1 := ⟨⟨blk_below h.t.1 hb, h.t.2.below hb⟩, h.i.below hb, below_step h.bl hb, keep_below h.kp hb⟩
theorem NXT.ne (h : NXT w0 w g b M m f gr Bs p W) : g ≠ gr ∧ b ≠ gr := ⟨fun e => h.i.ne_blk h.t.1 (by decide) e.symm, fun e => h.i.ne_blk h.t.2 (by decide) e.symm⟩
theorem NXT.call (h : NXT w0 w g b M m f gr Bs p W) (hI : IsS54 w0 W1 gr Bs p') (hB : Below w0.heap.size w0 W1) (hK : KeepBut W W1 gr none) : NXT w0 w g b M m f gr Bs p' W1 :=
  ⟨⟨KeepBut.blk hK h.t.1 h.ne.1 (by simp), h.t.2.keep hK h.ne.2⟩, hI, hB, keep_keep h.kp hK⟩
theorem NXT.c1 (h : NXT w0 w g b M m f gr Bs p W) : W.cell? ⟨g, 1, none⟩ = some (.slice (some ⟨b, 0, none⟩) M M) := (blk_cell h.t.1 1).trans rfl
theorem NXT.c0 (h : NXT w0 w g b M m f gr Bs p W) : W.cell? ⟨g, 0, none⟩ = some (.int .i64 m) := (blk_cell h.t.1 0).trans rfl
theorem NXT.rg (h : NXT w0 w g b M m f gr Bs p W) (hx : x < M) (hf : f x = (sy, nn)) : W.rangeAt b (x * 2) [.int .i64 (sy : Int), .int .i64 (nn : Int)] := by
  have := h.t.2.range hx rfl
  simp only [ent, hf] at this
  exact this
theorem NXT.setC {k : Nat} {C : Array Value} (h : NXT w0 w g b M m f gr Bs p W) (hb : b < w.heap.size) (h0 : w0.heap.size ≤ w.heap.size) (hA : W.heap[k]? = some (.cells C 51 (0, 0))) (hk : w.heap.size ≤ k) (vs : List Value) : NXT w0 w g b M m f gr Bs p (W.setCells k 0 vs) := by
  have n1 : g ≠ k := blk_ne h.t.1 hA (by decide)
  have n2 : b ≠ k := by omega
  have n3 : gr ≠ k := h.i.ne_blk hA (by decide)
  obtain ⟨A, c, i1, i2, i3⟩ := h.i
  exact ⟨⟨(setC_far vs 0 g n1).trans h.t.1, h.t.2.same (setC_far vs 0 b n2)⟩, ⟨A, c, (setC_far vs 0 gr n3).trans i1, i2, i3⟩, below_setC vs 0 h.bl (by omega),
    ⟨by rw [setC_size]; exact h.kp.1, fun i hi hne hr => (setC_far vs 0 i (by omega)).trans (h.kp.2 i hi hne hr)⟩⟩
end
set_option maxHeartbeats 8000000 in
set_option maxRecDepth 100000 in
theorem flat_Next.calls (g b M gr : Nat) (m : Int) (f : Nat → Nat × Nat) (B : List Nat) (q : Nat) (w0 w : World) (hT : TabS w g b M m f) (hI : IsS54 w0 w gr (zs B) (q : Int)) (hBl : Below w0.heap.size w0 w)
    (hM : M = 2 ^ m.toNat) (hm : 1 ≤ m ∧ m ≤ 15) (hf : ∀ x, (f x).2 ≤ 16 ∧ ((f x).2 = 0 → (f x).1 = 0)) (hB : ∀ x ∈ B, x < 256) (hl : B.length ≤ 1099511627776) (hq : q ≤ 8 * B.length) :
    Calls Try.prog 12 #[.pointer (some ⟨g, 0, none⟩), .pointer (some ⟨gr, 0, none⟩)] w fun e w' => e = .returned (.tuple #[.int .i64 (lookE (f (pkv B q m.toNat)) (8 * B.length - q)).1, .int .i64 (lookE (f (pkv B q m.toNat)) (8 * B.length - q)).2.2]) ∧
      IsS54 w0 w' gr (zs B) ((q : Int) + (lookE (f (pkv B q m.toNat)) (8 * B.length - q)).2.1) ∧ Below w0.heap.size w0 w' ∧ KeepBut w w' gr none := by
  obtain ⟨kp, hkp⟩ := ev_get (peek_ev B hB hl q hq m)
  have hin : inW m = true := by unfold inW; exact decide_eq_true (by omega)
  rw [show rpeek B q m = (pkv B q m.toNat : Int) from if_pos hin] at hkp
  have hxM : pkv B q m.toNat < M := by rw [hM]; exact Nat.mod_lt _ (Nat.two_pow_pos _)
  obtain ⟨x, hx⟩ : ∃ x, pkv B q m.toNat = x := ⟨_, rfl⟩
  rw [hx] at hkp hxM
  rw [hx]
  obtain ⟨sy, nn, hfx⟩ : ∃ sy nn, f x = (sy, nn) := ⟨_, _, rfl⟩
  have hfp := hf x
  rw [hfx] at hfp
  rw [hfx]
  have KP := Aside0.mk hkp
  have HX := Aside0.mk hxM
  have HF := Aside0.mk hfx
  have HP := Aside0.mk hfp
  have HL := Aside0.mk (And.intro hl hq)
  have J0 := Aside0.mk (show NXT w0 w g b M m f gr (zs B) (q : Int) w.drew from ⟨⟨hT.1, hT.2⟩, hI.drew, below_drew hBl, KeepBut.of_below (below_drew (Below.refl _ _)) _ _⟩)
  have HLF := Aside0.mk (left_f B hl q hq)
  have HSZ := Aside0.mk (And.intro hT.2.lt hBl.size)
  have KSK := Aside0.mk (show ∀ n : Int, 0 ≤ n ∧ n ≤ 16 → n ≤ ((8 * B.length - q : Nat) : Int) → ∃ k, bitr_Reader_Skip.f k (zs B) (q : Int) n = some (0, (q : Int) + n) from fun n h1 h2 => by
    obtain ⟨k, hk⟩ := ev_get (skip_ev B hl q hq n)
    refine ⟨k, hk.trans ?_⟩
    unfold rskip
    rw [if_pos (show inW n = true from decide_eq_true (by omega)), if_pos (by omega)]
    have e : ((q + n.toNat : Nat) : Int) = (q : Int) + n := by omega
    rw [e])
  obtain ⟨Bs, hBs⟩ : ∃ Bs, zs B = Bs := ⟨_, rfl⟩
  rw [hBs] at KP J0 HLF KSK
  rw [hBs]
  obtain ⟨p, hp⟩ : ∃ p : Int, (q : Int) = p := ⟨_, rfl⟩
  rw [hp] at KP J0 HLF KSK
  have q1 : (0 ≤ (x : Int)) = True := eq_true (by omega)
  have q2 : ((x : Int) < (M : Int)) = True := eq_true (by omega)
  have q3 : (x < M) = True := eq_true hxM
  obtain ⟨lf, hlf⟩ : ∃ lf, 8 * B.length - q = lf := ⟨_, rfl⟩
  rw [hlf] at HLF KSK
  rw [hlf]
  have HLF2 := Aside0.mk (And.intro hlf (show lf ≤ 8796093022208 by omega))
  have HBs := Aside0.mk hBs
  have HQ := Aside0.mk hp
  clear hT hI hBl hM hm hf hB hl hq hin hxM hx hfp hfx hkp hBs hp hlf
  go_enter Try.func12, Try.ntmps12
  go_wp2
  refine start_ (n := 14) (S := fun w' => w'.cell? ⟨g, 1, none⟩ = some (.slice (some ⟨b, 0, none⟩) M M) ∧ w'.cell? ⟨g, 0, none⟩ = some (.int .i64 m) ∧ w'.rangeAt b (x * 2) [.int .i64 (sy : Int), .int .i64 (nn : Int)]) (ds := [13]) #[false, false, false, false, false, false, false, false, false, false, false, false, false, false] (by kernel_rfl) rfl rfl ⟨J0.out.c1, J0.out.c0, (J0.out.rg HX.out HF.out)⟩ (fun hHeld => ?_)
  refine pure_ (i := 0) (N := some 13) (v := ?_) (a' := ?_) #[true, false, false, false, false, false, false, false, false, false, false, false, false, false] rfl rfl (by kernel_rfl) (fun _ _ _ h => h) (Or.inl ⟨by rfl, ?_⟩) ?_ ?_
  rotate_left
  · intro w'
    go_simp
    with_reducible rfl
  rotate_left
  · simp only [Act.put, List.setIfInBounds_toArray, List.set_cons_zero, List.set_cons_succ, i64_w, i32_w]
    rfl
  refine pure_ (i := 1) (N := some 14) (v := ?_) (a' := ?_) #[true, true, false, false, false, false, false, false, false, false, false, false, false, false] rfl rfl (by kernel_rfl) (fun _ _ _ h => h) (Or.inl ⟨by rfl, ?_⟩) ?_ ?_
  rotate_left
  · intro w'
    go_simp
    with_reducible rfl
  rotate_left
  · simp only [Act.put, List.setIfInBounds_toArray, List.set_cons_zero, List.set_cons_succ, i64_w, i32_w]
    rfl
  refine pure_ (i := 2) (N := some 15) (v := ?_) (a' := ?_) #[true, true, true, false, false, false, false, false, false, false, false, false, false, false] rfl rfl (by kernel_rfl) (fun _ _ _ h => h) (Or.inl ⟨by rfl, ?_⟩) ?_ ?_
  rotate_left
  · intro w'
    go_simp
    with_reducible rfl
  rotate_left
  · simp only [Act.put, List.setIfInBounds_toArray, List.set_cons_zero, List.set_cons_succ, i64_w, i32_w]
    rfl
  refine pure_ (i := 4) (N := some 17) (v := ?_) (a' := ?_) #[true, true, true, false, true, false, false, false, false, false, false, false, false, false] rfl rfl (by kernel_rfl) (fun _ _ _ h => h) (Or.inl ⟨by rfl, ?_⟩) ?_ ?_
  rotate_left
  · intro w'
    go_simp
    with_reducible rfl
  rotate_left
  · simp only [Act.put, List.setIfInBounds_toArray, List.set_cons_zero, List.set_cons_succ, i64_w, i32_w]
    rfl
  refine pure_ (i := 5) (N := some 18) (v := ?_) (a' := ?_) #[true, true, true, false, true, true, false, false, false, false, false, false, false, false] rfl rfl (by kernel_rfl) (fun _ _ _ h => h) (Or.inl ⟨by rfl, ?_⟩) ?_ ?_
  rotate_left
  · intro w'
    go_simp
    with_reducible rfl
  rotate_left
  · simp only [Act.put, List.setIfInBounds_toArray, List.set_cons_zero, List.set_cons_succ, i64_w, i32_w]
    rfl
  refine pure_ (i := 6) (N := some 19) (v := ?_) (a' := ?_) #[true, true, true, false, true, true, true, false, false, false, false, false, false, false] rfl rfl (by kernel_rfl) (fun _ _ _ h => h) (Or.inl ⟨by rfl, ?_⟩) ?_ ?_
  rotate_left
  · intro w'
    go_simp
    with_reducible rfl
  rotate_left
  · simp only [Act.put, List.setIfInBounds_toArray, List.set_cons_zero, List.set_cons_succ, i64_w, i32_w]
    rfl
  refine pure_ (i := 7) (N := some 20) (v := ?_) (a' := ?_) #[true, true, true, false, true, true, true, true, false, false, false, false, false, false] rfl rfl (by kernel_rfl) (fun _ _ _ h => h) (Or.inl ⟨by rfl, ?_⟩) ?_ ?_
  rotate_left
  · intro w'
    go_simp
    with_reducible rfl
  rotate_left
  · simp only [Act.put, List.setIfInBounds_toArray, List.set_cons_zero, List.set_cons_succ, i64_w, i32_w]
    rfl
  refine take_ (i := 3) (N := some 16) (v := ?_) (a' := ?_) #[true, true, true, true, true, true, true, true, false, false, false, false, false, false] rfl rfl (by kernel_rfl) (fun _ _ _ h => h) (Or.inl ⟨by rfl, ?_⟩) hHeld ?_ ?_
  rotate_left
  · rintro w' ⟨s0, s1, s2⟩
    go_simp
    with_reducible rfl
  rotate_left
  · simp only [Act.put, List.setIfInBounds_toArray, List.set_cons_zero, List.set_cons_succ, i64_w, i32_w]
    rfl
  refine take_ (i := 8) (N := some 21) (v := ?_) (a' := ?_) #[true, true, true, true, true, true, true, true, true, false, false, false, false, false] rfl rfl (by kernel_rfl) (fun _ _ _ h => h) (Or.inl ⟨by rfl, ?_⟩) hHeld ?_ ?_
  rotate_left
  · rintro w' ⟨s0, s1, s2⟩
    go_simp
    with_reducible rfl
  rotate_left
  · simp only [Act.put, List.setIfInBounds_toArray, List.set_cons_zero, List.set_cons_succ, i64_w, i32_w]
    rfl
  refine join_ (σ := Nat) 1 #[true, true, true, true, true, true, true, true, true, true, true, true, true, false] (fun s => [(22, .int .u64 (x : Int)), (6, .pointer (some ⟨s, 0, none⟩)), (23, .pointer (some ⟨b, x * 2, none⟩)), (24, .agg #[.int .i64 (sy : Int), .int .i64 (nn : Int)])]) (fun s w' => NXT w0 w g b M m f gr Bs p w' ∧ w'.heap[s]? = some (.cells #[.int .i64 0, .int .i64 0] 51 (0, 0)) ∧ w.heap.size ≤ s) ?_ ?_
  rotate_left
  · intro hCont
    refine two_ (i := 9) (j := 12) (Ni := some 22) (Nj := some 6) #[true, true, true, true, true, true, true, true, true, true, false, false, false, false] #[true, true, true, true, true, true, true, true, true, false, false, false, true, false] rfl rfl rfl rfl (by kernel_rfl) (by decide) (by decide) (fun K hK => ?_) (fun K hK => ?_)
    · skip
      refine goes_ Try.func22 (by kernel_rfl) rfl #[.pointer (some ⟨gr, 0, none⟩), .int .i64 m] (by rfl) rfl rfl (by simp only [List.map_toArray, List.map_cons, List.map_nil]; rfl) ?_
      with_reducible refine (bitr_Reader_Peek.calls kp gr _ _ m _ _ w0 w.drew J0.out.i J0.out.bl KP.out).mono ?_
      rintro e w3 ⟨rfl, hI, hB, hKe⟩
      refine ⟨_, rfl, ?_⟩
      have J3 := J0.out.call hI hB hKe
      refine hK.out _ _ ⟨J3.c1, J3.c0, (J3.rg HX.out HF.out)⟩ (fun hHeld => ?_)
      clear hK K
      refine norm_ (a' := ?_) ?_ ?_
      rotate_left
      · show Act.put _ (some 22) _ = _
        simp only [Act.put, List.setIfInBounds_toArray, List.set_cons_zero, List.set_cons_succ, i64_w, i32_w]
        rfl
      refine pure_ (i := 10) (N := some 23) (v := ?_) (a' := ?_) #[true, true, true, true, true, true, true, true, true, true, true, false, false, false] rfl rfl (by kernel_rfl) (fun _ _ _ h => h) (Or.inl ⟨by rfl, ?_⟩) ?_ ?_
      rotate_left
      · intro w'
        go_simp
        with_reducible rfl
      rotate_left
      · simp only [Act.put, List.setIfInBounds_toArray, List.set_cons_zero, List.set_cons_succ, i64_w, i32_w]
        rfl
      refine take_ (i := 11) (N := some 24) (v := ?_) (a' := ?_) #[true, true, true, true, true, true, true, true, true, true, true, true, false, false] rfl rfl (by kernel_rfl) (fun _ _ _ h => h) (Or.inl ⟨by rfl, ?_⟩) hHeld ?_ ?_
      rotate_left
      · rintro w' ⟨s0, s1, s2⟩
        refine (load_run rfl (show _ = Value.pointer (some ⟨b, x * 2, none⟩) from by first | rfl | (simp [go_sem]; done)) s2 Try.underlying51 rfl sizeE).trans ?_
        with_reducible rfl
      rotate_left
      · simp only [Act.put, List.setIfInBounds_toArray, List.set_cons_zero, List.set_cons_succ, i64_w, i32_w]
        rfl
      refine one_ (i := 12) (N := some 6) #[true, true, true, true, true, true, true, true, true, true, true, true, true, false] rfl rfl (by kernel_rfl) (by decide) (fun K hK => ?_)
      refine alloc_step (cs := #[.int .i64 0, .int .i64 0]) (e := 51) (by rfl) rfl ?_ ?_
      · first | (go_simp; done) | (go_simp; rfl)
      intro kA wA ekA hA hbA
      have hge : w.heap.size ≤ kA := by rw [ekA]; exact J3.kp.1
      have JA := J3.below hbA
      refine hK.out _ _ ⟨JA.c1, JA.c0, (JA.rg HX.out HF.out)⟩ (fun hHeld => ?_)
      clear hK K
      refine norm_ (a' := ?_) ?_ ?_
      rotate_left
      · show Act.put _ (some 6) _ = _
        simp only [Act.put, List.setIfInBounds_toArray, List.set_cons_zero, List.set_cons_succ, i64_w, i32_w]
        rfl
      exact norm_ (by simp only [putAll, Act.put, List.setIfInBounds_toArray, List.set_cons_zero, List.set_cons_succ]) (hCont kA _ ⟨JA, hA, hge⟩)
    · skip
      refine alloc_step (cs := #[.int .i64 0, .int .i64 0]) (e := 51) (by rfl) rfl ?_ ?_
      · first | (go_simp; done) | (go_simp; rfl)
      intro kA wA ekA hA hbA
      have hge : w.heap.size ≤ kA := by rw [ekA]; exact J0.out.kp.1
      have JA := J0.out.below hbA
      refine hK.out _ _ ⟨JA.c1, JA.c0, (JA.rg HX.out HF.out)⟩ (fun hHeld => ?_)
      clear hK K
      refine norm_ (a' := ?_) ?_ ?_
      rotate_left
      · show Act.put _ (some 6) _ = _
        simp only [Act.put, List.setIfInBounds_toArray, List.set_cons_zero, List.set_cons_succ, i64_w, i32_w]
        rfl
      refine one_ (i := 9) (N := some 22) #[true, true, true, true, true, true, true, true, true, true, false, false, true, false] rfl rfl (by kernel_rfl) (by decide) (fun K hK => ?_)
      refine goes_ Try.func22 (by kernel_rfl) rfl #[.pointer (some ⟨gr, 0, none⟩), .int .i64 m] (by rfl) rfl rfl (by simp only [List.map_toArray, List.map_cons, List.map_nil]; rfl) ?_
      with_reducible refine (bitr_Reader_Peek.calls kp gr _ _ m _ _ w0 wA JA.i JA.bl KP.out).mono ?_
      rintro e w3 ⟨rfl, hI, hB, hKe⟩
      refine ⟨_, rfl, ?_⟩
      have hA := KeepBut.blk hKe hA (fun e => JA.i.ne_blk hA (by decide) e.symm) (by simp)
      have J3 := JA.call hI hB hKe
      refine hK.out _ _ ⟨J3.c1, J3.c0, (J3.rg HX.out HF.out)⟩ (fun hHeld => ?_)
      clear hK K
      refine norm_ (a' := ?_) ?_ ?_
      rotate_left
      · show Act.put _ (some 22) _ = _
        simp only [Act.put, List.setIfInBounds_toArray, List.set_cons_zero, List.set_cons_succ, i64_w, i32_w]
        rfl
      refine pure_ (i := 10) (N := some 23) (v := ?_) (a' := ?_) #[true, true, true, true, true, true, true, true, true, true, true, false, true, false] rfl rfl (by kernel_rfl) (fun _ _ _ h => h) (Or.inl ⟨by rfl, ?_⟩) ?_ ?_
      rotate_left
      · intro w'
        go_simp
        with_reducible rfl
      rotate_left
      · simp only [Act.put, List.setIfInBounds_toArray, List.set_cons_zero, List.set_cons_succ, i64_w, i32_w]
        rfl
      refine take_ (i := 11) (N := some 24) (v := ?_) (a' := ?_) #[true, true, true, true, true, true, true, true, true, true, true, true, true, false] rfl rfl (by kernel_rfl) (fun _ _ _ h => h) (Or.inl ⟨by rfl, ?_⟩) hHeld ?_ ?_
      rotate_left
      · rintro w' ⟨s0, s1, s2⟩
        refine (load_run rfl (show _ = Value.pointer (some ⟨b, x * 2, none⟩) from by first | rfl | (simp [go_sem]; done)) s2 Try.underlying51 rfl sizeE).trans ?_
        with_reducible rfl
      rotate_left
      · simp only [Act.put, List.setIfInBounds_toArray, List.set_cons_zero, List.set_cons_succ, i64_w, i32_w]
        rfl
      exact norm_ (by simp only [putAll, Act.put, List.setIfInBounds_toArray, List.set_cons_zero, List.set_cons_succ]) (hCont kA _ ⟨J3, hA, hge⟩)
  rintro kA wJ ⟨J9, hA9, hG9⟩
  have hHeld : wJ.cell? ⟨g, 1, none⟩ = some (.slice (some ⟨b, 0, none⟩) M M) ∧ wJ.cell? ⟨g, 0, none⟩ = some (.int .i64 m) ∧ wJ.rangeAt b (x * 2) [.int .i64 (sy : Int), .int .i64 (nn : Int)] := ⟨J9.c1, J9.c0, J9.rg HX.out HF.out⟩
  refine norm_ (a' := ?_) ?_ ?_
  rotate_left
  · simp only [putAll, Act.put, List.setIfInBounds_toArray, List.set_cons_zero, List.set_cons_succ]
    rfl
  refine last_ (i := 13) (N := none) #[true, true, true, true, true, true, true, true, true, true, true, true, true, true] rfl rfl (by kernel_rfl) (by decide) (fun K hK => ?_)
  refine skip_ (w1 := wJ.setCells kA 0 [.int .i64 (sy : Int), .int .i64 (nn : Int)]) (by rfl) rfl (store_run (ty := 51) (x := .tmp 6) (y := .tmp 24) (cells := #[.int .i64 (sy : Int), .int .i64 (nn : Int)]) rfl rfl rfl (there2 hA9) sizeE (by simp [Value.oneCell'])) ?_
  refine hK.out _ _ ?_
  clear hK K
  refine done_ (by kernel_rfl) ?_
  have J13 := Aside0.mk (J9.setC HSZ.out.1 HSZ.out.2 hA9 hG9 [.int .i64 (sy : Int), .int .i64 (nn : Int)])
  have X13 := Aside0.mk (show (wJ.setCells kA 0 [.int .i64 (sy : Int), .int .i64 (nn : Int)]).heap[kA]? = some (.cells #[.int .i64 (sy : Int), .int .i64 (nn : Int)] 51 (0, 0)) from setC_at [.int .i64 (sy : Int), .int .i64 (nn : Int)] 0 hA9)
  obtain ⟨w13, hw13⟩ : ∃ w13, wJ.setCells kA 0 [.int .i64 (sy : Int), .int .i64 (nn : Int)] = w13 := ⟨_, rfl⟩
  rw [hw13] at J13 X13
  rw [hw13]
  clear hw13 J9 hA9
  by_cases hn : nn = 0
  · have hs := HP.out.2 hn
    subst hs
    subst hn
    by_cases h0 : lf = 0
    · have t1 : (lf == 0) = true := by simpa using h0
      have t2 : ((lf : Int) == 0) = true := by rw [h0]; rfl
      have L0 := Aside0.mk (show lookE (0, 0) lf = (0, 0, 3) by unfold lookE; rw [if_pos rfl, if_pos h0])
      clear h0
      go_wp2_with (first
        | ((with_reducible refine gate_dst (N := 26) rfl ?_); refine wpList_load_row rfl 51 (.tmp 6) rfl kA rfl 51 #[.int .i64 0, .int .i64 0] (0, 0) _ X13.out Try.underlying51 rfl sizeE ?_)
        | (go_at_call 23; (with_reducible refine (bitr_Reader_Left.calls gr Bs p _ _ w0 _ J13.out.i J13.out.bl HLF.out).mono ?_); rintro e w14 ⟨rfl, hI, hB, hKe⟩; have J14 := Aside0.mk (J13.out.call hI hB hKe); clear hI hB hKe))
      rw [L0.out]
      go_ret2
      exact ⟨rfl, by rw [HQ.out, Int.add_zero]; exact J14.out.i, J14.out.bl, J14.out.kp⟩
    · have t1 : (lf == 0) = false := by simpa using h0
      have t2 : ((lf : Int) == 0) = false := by rw [beq_eq_false_iff_ne]; omega
      have L0 := Aside0.mk (show lookE (0, 0) lf = (0, 0, 4) by unfold lookE; rw [if_pos rfl, if_neg h0])
      clear h0
      go_wp2_with (first
        | ((with_reducible refine gate_dst (N := 26) rfl ?_); refine wpList_load_row rfl 51 (.tmp 6) rfl kA rfl 51 #[.int .i64 0, .int .i64 0] (0, 0) _ X13.out Try.underlying51 rfl sizeE ?_)
        | (go_at_call 23; (with_reducible refine (bitr_Reader_Left.calls gr Bs p _ _ w0 _ J13.out.i J13.out.bl HLF.out).mono ?_); rintro e w14 ⟨rfl, hI, hB, hKe⟩; have J14 := Aside0.mk (J13.out.call hI hB hKe); clear hI hB hKe))
      rw [L0.out]
      go_ret2
      exact ⟨rfl, by rw [HQ.out, Int.add_zero]; exact J14.out.i, J14.out.bl, J14.out.kp⟩
  · have t1 : (nn == 0) = false := by simpa using hn
    have t2 : ((nn : Int) == 0) = false := by rw [beq_eq_false_iff_ne]; omega
    by_cases h0 : lf < nn
    · have u1 : decide (lf < nn) = true := decide_eq_true h0
      have u2 : decide ((lf : Int) < (nn : Int)) = true := decide_eq_true (by omega)
      have L0 := Aside0.mk (show lookE (sy, nn) lf = (0, 0, 3) by unfold lookE; rw [if_neg hn, if_pos h0])
      clear h0 hn
      go_wp2_with (first
        | ((with_reducible refine gate_dst (N := 26) rfl ?_); refine wpList_load_row rfl 51 (.tmp 6) rfl kA rfl 51 #[.int .i64 (sy : Int), .int .i64 (nn : Int)] (0, 0) _ X13.out Try.underlying51 rfl sizeE ?_))
      refine start_ (n := 6) (S := fun w' => w'.cell? ⟨kA, 1, none⟩ = some (.int .i64 (nn : Int))) (ds := []) #[false, false, false, false, false, false] (by kernel_rfl) rfl rfl (((blk_cell X13.out 1).trans rfl)) (fun hHeld => ?_)
      refine pure_ (i := 0) (N := some 33) (v := ?_) (a' := ?_) #[true, false, false, false, false, false] rfl rfl (by kernel_rfl) (fun _ _ _ h => h) (Or.inl ⟨by rfl, ?_⟩) ?_ ?_
      rotate_left
      · intro w'
        go_simp
        with_reducible rfl
      rotate_left
      · simp only [Act.put, List.setIfInBounds_toArray, List.set_cons_zero, List.set_cons_succ, i64_w, i32_w]
        rfl
      refine pure_ (i := 2) (N := some 35) (v := ?_) (a' := ?_) #[true, false, true, false, false, false] rfl rfl (by kernel_rfl) (fun _ _ _ h => h) (Or.inl ⟨by rfl, ?_⟩) ?_ ?_
      rotate_left
      · intro w'
        go_simp
        with_reducible rfl
      rotate_left
      · simp only [Act.put, List.setIfInBounds_toArray, List.set_cons_zero, List.set_cons_succ, i64_w, i32_w]
        rfl
      refine take_ (i := 1) (N := some 34) (v := ?_) (a' := ?_) #[true, true, true, false, false, false] rfl rfl (by kernel_rfl) (fun _ _ _ h => h) (Or.inl ⟨by rfl, ?_⟩) hHeld ?_ ?_
      rotate_left
      · intro w' s0
        go_simp
        with_reducible rfl
      rotate_left
      · simp only [Act.put, List.setIfInBounds_toArray, List.set_cons_zero, List.set_cons_succ, i64_w, i32_w]
        rfl
      refine one_ (i := 3) (N := some 36) #[true, true, true, true, false, false] rfl rfl (by kernel_rfl) (by decide) (fun K hK => ?_)
      refine goes_ Try.func23 (by kernel_rfl) rfl #[.pointer (some ⟨gr, 0, none⟩)] (by rfl) rfl rfl (by simp only [List.map_toArray, List.map_cons, List.map_nil]; rfl) ?_
      with_reducible refine (bitr_Reader_Left.calls gr Bs p _ _ w0 w13.drew (J13.out.below (below_drew (Below.refl _ _))).i (J13.out.below (below_drew (Below.refl _ _))).bl HLF.out).mono ?_
      rintro e w14 ⟨rfl, hI, hB, hKe⟩
      refine ⟨_, rfl, ?_⟩
      have J14 := Aside0.mk ((J13.out.below (below_drew (Below.refl _ _))).call hI hB hKe)
      have X14 := Aside0.mk (KeepBut.blk hKe (show w13.drew.heap[kA]? = _ from X13.out) (fun e => J13.out.i.ne_blk X13.out (by decide) e.symm) (by simp))
      clear hI hB hKe
      refine hK.out _ _ (((blk_cell X14.out 1).trans rfl)) (fun hHeld => ?_)
      clear hK K
      refine norm_ (a' := ?_) ?_ ?_
      rotate_left
      · show Act.put _ (some 36) _ = _
        simp only [Act.put, List.setIfInBounds_toArray, List.set_cons_zero, List.set_cons_succ, i64_w, i32_w]
        rfl
      refine pure_ (i := 4) (N := some 37) (v := ?_) (a' := ?_) #[true, true, true, true, true, false] rfl rfl (by kernel_rfl) (fun _ _ _ h => h) (Or.inl ⟨by rfl, ?_⟩) ?_ ?_
      rotate_left
      · intro w'
        go_simp
        with_reducible rfl
      rotate_left
      · simp only [Act.put, List.setIfInBounds_toArray, List.set_cons_zero, List.set_cons_succ, i64_w, i32_w]
        rfl
      refine pure_ (i := 5) (N := some 32) (v := ?_) (a' := ?_) #[true, true, true, true, true, true] rfl rfl (by kernel_rfl) (fun _ _ _ h => h) (Or.inl ⟨by rfl, ?_⟩) ?_ ?_
      rotate_left
      · intro w'
        go_simp
        with_reducible rfl
      rotate_left
      · simp only [Act.put, List.setIfInBounds_toArray, List.set_cons_zero, List.set_cons_succ, i64_w, i32_w]
        rfl
      refine done_ (by kernel_rfl) ?_
      clear hHeld
      go_wp2
      rw [L0.out]
      go_ret2
      exact ⟨rfl, by rw [HQ.out, Int.add_zero]; exact J14.out.i, J14.out.bl, J14.out.kp⟩
    · have u1 : decide (lf < nn) = false := decide_eq_false h0
      have u2 : decide ((lf : Int) < (nn : Int)) = false := decide_eq_false (by omega)
      have L0 := Aside0.mk (show lookE (sy, nn) lf = ((sy : Int), (nn : Int), 0) by unfold lookE; rw [if_neg hn, if_neg h0])
      have KS := KSK.out (nn : Int) (by have := HP.out.1; omega) (by omega)
      obtain ⟨ks, hks⟩ := KS
      have KS := Aside0.mk hks
      clear h0 hn hks
      go_wp2_with (first
        | ((with_reducible refine gate_dst (N := 26) rfl ?_); refine wpList_load_row rfl 51 (.tmp 6) rfl kA rfl 51 #[.int .i64 (sy : Int), .int .i64 (nn : Int)] (0, 0) _ X13.out Try.underlying51 rfl sizeE ?_))
      refine start_ (n := 6) (S := fun w' => w'.cell? ⟨kA, 1, none⟩ = some (.int .i64 (nn : Int))) (ds := []) #[false, false, false, false, false, false] (by kernel_rfl) rfl rfl (((blk_cell X13.out 1).trans rfl)) (fun hHeld => ?_)
      refine pure_ (i := 0) (N := some 33) (v := ?_) (a' := ?_) #[true, false, false, false, false, false] rfl rfl (by kernel_rfl) (fun _ _ _ h => h) (Or.inl ⟨by rfl, ?_⟩) ?_ ?_
      rotate_left
      · intro w'
        go_simp
        with_reducible rfl
      rotate_left
      · simp only [Act.put, List.setIfInBounds_toArray, List.set_cons_zero, List.set_cons_succ, i64_w, i32_w]
        rfl
      refine pure_ (i := 2) (N := some 35) (v := ?_) (a' := ?_) #[true, false, true, false, false, false] rfl rfl (by kernel_rfl) (fun _ _ _ h => h) (Or.inl ⟨by rfl, ?_⟩) ?_ ?_
      rotate_left
      · intro w'
        go_simp
        with_reducible rfl
      rotate_left
      · simp only [Act.put, List.setIfInBounds_toArray, List.set_cons_zero, List.set_cons_succ, i64_w, i32_w]
        rfl
      refine take_ (i := 1) (N := some 34) (v := ?_) (a' := ?_) #[true, true, true, false, false, false] rfl rfl (by kernel_rfl) (fun _ _ _ h => h) (Or.inl ⟨by rfl, ?_⟩) hHeld ?_ ?_
      rotate_left
      · intro w' s0
        go_simp
        with_reducible rfl
      rotate_left
      · simp only [Act.put, List.setIfInBounds_toArray, List.set_cons_zero, List.set_cons_succ, i64_w, i32_w]
        rfl
      refine one_ (i := 3) (N := some 36) #[true, true, true, true, false, false] rfl rfl (by kernel_rfl) (by decide) (fun K hK => ?_)
      refine goes_ Try.func23 (by kernel_rfl) rfl #[.pointer (some ⟨gr, 0, none⟩)] (by rfl) rfl rfl (by simp only [List.map_toArray, List.map_cons, List.map_nil]; rfl) ?_
      with_reducible refine (bitr_Reader_Left.calls gr Bs p _ _ w0 w13.drew (J13.out.below (below_drew (Below.refl _ _))).i (J13.out.below (below_drew (Below.refl _ _))).bl HLF.out).mono ?_
      rintro e w14 ⟨rfl, hI, hB, hKe⟩
      refine ⟨_, rfl, ?_⟩
      have J14 := Aside0.mk ((J13.out.below (below_drew (Below.refl _ _))).call hI hB hKe)
      have X14 := Aside0.mk (KeepBut.blk hKe (show w13.drew.heap[kA]? = _ from X13.out) (fun e => J13.out.i.ne_blk X13.out (by decide) e.symm) (by simp))
      clear hI hB hKe
      refine hK.out _ _ (((blk_cell X14.out 1).trans rfl)) (fun hHeld => ?_)
      clear hK K
      refine norm_ (a' := ?_) ?_ ?_
      rotate_left
      · show Act.put _ (some 36) _ = _
        simp only [Act.put, List.setIfInBounds_toArray, List.set_cons_zero, List.set_cons_succ, i64_w, i32_w]
        rfl
      refine pure_ (i := 4) (N := some 37) (v := ?_) (a' := ?_) #[true, true, true, true, true, false] rfl rfl (by kernel_rfl) (fun _ _ _ h => h) (Or.inl ⟨by rfl, ?_⟩) ?_ ?_
      rotate_left
      · intro w'
        go_simp
        with_reducible rfl
      rotate_left
      · simp only [Act.put, List.setIfInBounds_toArray, List.set_cons_zero, List.set_cons_succ, i64_w, i32_w]
        rfl
      refine pure_ (i := 5) (N := some 32) (v := ?_) (a' := ?_) #[true, true, true, true, true, true] rfl rfl (by kernel_rfl) (fun _ _ _ h => h) (Or.inl ⟨by rfl, ?_⟩) ?_ ?_
      rotate_left
      · intro w'
        go_simp
        with_reducible rfl
      rotate_left
      · simp only [Act.put, List.setIfInBounds_toArray, List.set_cons_zero, List.set_cons_succ, i64_w, i32_w]
        rfl
      refine done_ (by kernel_rfl) ?_
      clear hHeld
      have d1 := (blk_cell X14.out 1).trans (rfl : _ = some (Value.int .i64 (nn : Int)))
      go_wp2_with (first
        | (go_at_call 24; (with_reducible refine (bitr_Reader_Skip.calls ks gr Bs p _ _ _ w0 _ J14.out.i J14.out.bl KS.out).mono ?_); rintro e w15 ⟨rfl, hI, hB, hKe⟩; have J15 := Aside0.mk (J14.out.call hI hB hKe); have X15 := Aside0.mk (KeepBut.blk hKe X14.out (fun e => J14.out.i.ne_blk X14.out (by decide) e.symm) (by simp)); have d2 := (blk_cell X15.out 0).trans (rfl : _ = some (Value.int .i64 (sy : Int))); clear hI hB hKe))
      rw [L0.out]
      go_ret2
      exact ⟨rfl, by rw [HQ.out]; exact J15.out.i, J15.out.bl, J15.out.kp⟩
end Go.Proofs.Ytpmllmllabjopaa.Hd
