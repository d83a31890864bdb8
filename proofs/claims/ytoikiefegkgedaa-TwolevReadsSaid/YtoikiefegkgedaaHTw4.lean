/- twolev's Next, walked by hand. -/
import Derived.Test.YtoikiefegkgedaaHTw
import Derived.Test.YtoikiefegkgedaaRdW
set_option linter.unusedVariables false
set_option linter.unusedSimpArgs false
set_option linter.unusedSectionVars false
namespace Go.Proofs.Ytoikiefegkgedaa.Hd
open Go Go.RowKit Go.Deep Go.Proofs.YtoikiefegkgedaaW.PrintWords Go.Proofs.YtoikiefegkgedaaW.PrintLast Go.Proofs.YtoikiefegkgedaaW.PrintMore Go.Proofs.Ytoikiefegkgedaa.Hw Go.Proofs.Ytoikiefegkgedaa.Com Go.Proofs.Ytoikiefegkgedaa.Cn Go.Proofs.Ytoikiefegkgedaa.P Go.Proofs.Ytoikiefegkgedaa.Pure
attribute [local go_sem] max2_int min2_int max_two min_two max_three min_three max_four min_four
attribute [local irreducible] ord pos code tv mb sv lv al Hl
theorem there3 {W : World} {k : Nat} {u v x : Value} {t : TypeId} (h : W.heap[k]? = some (.cells #[u, v, x] t (0, 0))) : W.there k 0 3 := fun j hj => by
  refine ⟨?_, blk_frozen h _⟩
  rw [blk_cell h]
  match j, hj with
  | 0, _ => rfl
  | 1, _ => rfl
  | 2, _ => rfl
theorem w_sum {a b z : Nat} (h : a + b = z) (ha : a < 100000000) (hb : b < 65536) : wrap64 ((a : Int) + (b : Int)) = (z : Int) := by rw [w64 (by omega) (by omega)]; omega
/-- Between the steps. -/
structure NXT (w0 w : World) (g b cap n : Nat) (root rest : Int) (f : Nat → Ent) (gr : Nat) (Bs : List Int) (p : Int) (W : World) : Prop where
  t : TwS W g b cap n root rest f
  i : IsS57 w0 W gr Bs p
  bl : Below w0.heap.size w0 W
  kp : KeepBut w W gr none
theorem tw_keep {w0 W W1 : World} {g b cap n gr : Nat} {root rest : Int} {f : Nat → Ent} {Bs : List Int} {p : Int} (h : TwS W g b cap n root rest f) (hI : IsS57 w0 W gr Bs p) (hK : KeepBut W W1 gr none) : TwS W1 g b cap n root rest f := by
  obtain ⟨C, hC⟩ := h.2.ty
  exact ⟨KeepBut.blk hK h.1 (fun e => hI.ne_blk h.1 (by decide) e.symm) (by simp), h.2.same (hK.2 b h.2.lt (fun e => hI.ne_blk hC (by decide) e.symm) (by simp))⟩
section
variable {w0 w W W1 : World} {g b cap n gr x sy nn : Nat} {root rest p p' : Int} {f : Nat → Ent} {Bs : List Int} {mo : Bool}
theorem NXT.below (h : NXT w0 w g b cap n root rest f gr Bs p W) (hb : Below W.heap.size W W1) : NXT w0 w g b cap n root rest f gr Bs p W1 := ⟨h.t.below hb, h.i.below hb, below_step h.bl hb, keep_below h.kp hb⟩
theorem NXT.call (h : NXT w0 w g b cap n root rest f gr Bs p W) (hI : IsS57 w0 W1 gr Bs p') (hB : Below w0.heap.size w0 W1) (hK : KeepBut W W1 gr none) : NXT w0 w g b cap n root rest f gr Bs p' W1 :=
  ⟨tw_keep h.t h.i hK, hI, hB, keep_keep h.kp hK⟩
theorem NXT.rg (h : NXT w0 w g b cap n root rest f gr Bs p W) (hx : x < n) (hf : f x = (sy, nn, mo)) : W.rangeAt b (x * 3) [.int .i64 (sy : Int), .int .i64 (nn : Int), .bool mo] := by
  have := h.t.rg hx
  simp only [en3, hf] at this
  exact this
theorem NXT.setC {k : Nat} {C : Array Value} (h : NXT w0 w g b cap n root rest f gr Bs p W) (hb : b < w.heap.size) (h0 : w0.heap.size ≤ w.heap.size) (hA : W.heap[k]? = some (.cells C 68 (0, 0))) (hk : w.heap.size ≤ k) (vs : List Value) : NXT w0 w g b cap n root rest f gr Bs p (W.setCells k 0 vs) := by
  have n1 : g ≠ k := blk_ne h.t.1 hA (by decide)
  have n2 : b ≠ k := by omega
  have n3 : gr ≠ k := h.i.ne_blk hA (by decide)
  obtain ⟨A, c, i1, i2, i3⟩ := h.i
  exact ⟨⟨(setC_far vs 0 g n1).trans h.t.1, h.t.2.same (setC_far vs 0 b n2)⟩, ⟨A, c, (setC_far vs 0 gr n3).trans i1, i2, i3⟩, below_setC vs 0 h.bl (by omega),
    ⟨by rw [setC_size]; exact h.kp.1, fun i hi hne hr => (setC_far vs 0 i (by omega)).trans (h.kp.2 i hi hne hr)⟩⟩
end
set_option maxHeartbeats 8000000 in
set_option maxRecDepth 100000 in
theorem tw_Next.calls (g b cap nl gr r rs R P : Nat) (f : Nat → Ent) (B : List Nat) (q s1 n1 sy nn : Nat) (mo mo2 : Bool) (w0 w : World) (hT : TwS w g b cap nl (r : Int) (rs : Int) f) (hI : IsS57 w0 w gr (zs B) (q : Int)) (hBl : Below w0.heap.size w0 w)
    (hR : 2 ^ r = R) (hP : 2 ^ rs = P) (hm : 1 ≤ r ∧ r + rs ≤ 15) (hRn : R ≤ nl) (hB : ∀ x ∈ B, x < 256) (hl : B.length ≤ 1099511627776) (hq : q ≤ 8 * B.length)
    (hf1 : f (pkv B q (r + rs) % R) = (s1, n1, mo)) (hf2 : if mo then (s1 + pkv B q (r + rs) / R < nl ∧ f (s1 + pkv B q (r + rs) / R) = (sy, nn, mo2)) else (sy = s1 ∧ nn = n1)) (hs1 : mo = true → s1 < 100000000) (hnn : nn ≤ 16) :
    Calls Try.prog 13 #[.pointer (some ⟨g, 0, none⟩), .pointer (some ⟨gr, 0, none⟩)] w fun e w' => e = .returned (.tuple #[.int .i64 (lookE (sy, nn) (8 * B.length - q)).1, .int .i64 (lookE (sy, nn) (8 * B.length - q)).2.2]) ∧
      IsS57 w0 w' gr (zs B) ((q : Int) + (lookE (sy, nn) (8 * B.length - q)).2.1) ∧ Below w0.heap.size w0 w' ∧ KeepBut w w' gr none := by
  obtain ⟨m, hmm⟩ : ∃ m : Int, (r : Int) + (rs : Int) = m := ⟨_, rfl⟩
  have hmn : m.toNat = r + rs := by omega
  obtain ⟨kp, hkp⟩ := ev_get (peek_ev B hB hl q hq m)
  have hin : inW m = true := by unfold inW; exact decide_eq_true (by omega)
  rw [show rpeek B q m = (pkv B q m.toNat : Int) from if_pos hin, hmn] at hkp
  have hRp : 0 < R := by rw [← hR]; exact Nat.two_pow_pos _
  have hxM : pkv B q (r + rs) < 2 ^ (r + rs) := Nat.mod_lt _ (Nat.two_pow_pos _)
  have h15 : 2 ^ (r + rs) ≤ 32768 := Nat.pow_le_pow_right (n := 2) (by decide) hm.2
  obtain ⟨x, hx⟩ : ∃ x, pkv B q (r + rs) = x := ⟨_, rfl⟩
  rw [hx] at hkp hxM hf1 hf2
  have hxb : x < 65536 := by omega
  have hmod := Nat.mod_lt x hRp
  have hdivle := Nat.div_le_self x R
  have ha := and_low x R r hR (by omega) hxb
  have hs4 := hshr_of (T := x) (show r ≤ 16 by omega) hR
  have hs1' := hsh_of (show (r : Int) = (r : Int) from rfl) (show r ≤ 16 by omega) hR
  have ha2 : IntKind.i64.wrap ((R : Int) - 1) = wrap64 ((R : Int) - 1) := i64_w _
  have cw1 : IntKind.i64.wrap (x : Int) = (x : Int) := by rw [IntKind.wrap_i64]; omega
  have cw2 : wrap64 (x : Int) = (x : Int) := w64 (by omega) (by omega)
  have cw3 : wrap64 ((r : Int) + (rs : Int)) = m := by rw [hmm]; exact w64 (by omega) (by omega)
  obtain ⟨h0, hh0⟩ : ∃ h0, x % R = h0 := ⟨_, rfl⟩
  obtain ⟨x2, hx2⟩ : ∃ x2, x / R = x2 := ⟨_, rfl⟩
  rw [hh0] at ha hf1 hmod
  rw [hx2] at hs4 hf2 hdivle
  have KP := Aside0.mk hkp
  have H0 := Aside0.mk (Nat.lt_of_lt_of_le hmod hRn)
  have F1 := Aside0.mk hf1
  have F2' := Aside0.mk hf2
  have HP := Aside0.mk (And.intro hnn (And.intro hs1 (Nat.lt_of_le_of_lt hdivle hxb)))
  have HSZ := Aside0.mk (And.intro hT.2.lt hBl.size)
  have J0 := Aside0.mk (show NXT w0 w g b cap nl (r : Int) (rs : Int) f gr (zs B) (q : Int) w.drew from ⟨hT.below (below_drew (Below.refl _ _)), hI.drew, below_drew hBl, KeepBut.of_below (below_drew (Below.refl _ _)) _ _⟩)
  have HLF := Aside0.mk (left_f B hl q hq)
  have KSK := Aside0.mk (show ∀ n : Int, 0 ≤ n ∧ n ≤ 16 → n ≤ ((8 * B.length - q : Nat) : Int) → ∃ k, bitr_Reader_Skip.f k (zs B) (q : Int) n = some (0, (q : Int) + n) from fun n h1 h2 => by
    obtain ⟨k, hk⟩ := ev_get (skip_ev B hl q hq n)
    refine ⟨k, hk.trans ?_⟩
    unfold rskip
    rw [if_pos (show inW n = true from decide_eq_true (by omega)), if_pos (by omega)]
    have e : ((q + n.toNat : Nat) : Int) = (q : Int) + n := by omega
    rw [e])
  obtain ⟨Bs, hBs⟩ : ∃ Bs, zs B = Bs := ⟨_, rfl⟩
  rw [hBs] at KP J0 HLF KSK
  rw [hBs]
  obtain ⟨p, hp⟩ : ∃ p : Int, (q : Int) = p := ⟨_, rfl⟩
  rw [hp] at KP J0 HLF KSK
  have q1 : (0 ≤ (h0 : Int)) = True := eq_true (Int.natCast_nonneg _)
  have q2 : ((h0 : Int) < (nl : Int)) = True := eq_true (Int.ofNat_lt.2 H0.out)
  have q3 : (h0 < nl) = True := eq_true H0.out
  obtain ⟨lf, hlf⟩ : ∃ lf, 8 * B.length - q = lf := ⟨_, rfl⟩
  rw [hlf] at HLF KSK
  rw [hlf]
  have HLF2 := Aside0.mk hlf
  have HQ := Aside0.mk hp
  clear hT hI hBl hR hP hm hRn hB hl hq hf1 hf2 hs1 hnn hmm hmn hkp hin hRp hxM h15 hx hxb hmod hdivle hh0 hx2 hBs hp hlf
  go_enter Try.func13, Try.ntmps13
  go_wp2
  refine start_ (n := 16) (S := fun w' => w'.cell? ⟨g, 0, none⟩ = some (.int .i64 (r : Int)) ∧ w'.cell? ⟨g, 2, none⟩ = some (.int .i64 (rs : Int))) (ds := []) #[false, false, false, false, false, false, false, false, false, false, false, false, false, false, false, false] (by kernel_rfl) rfl rfl ⟨J0.out.t.c0, J0.out.t.c2⟩ (fun hHeld => ?_)
  refine pure_ (i := 0) (N := some 14) (v := ?_) (a' := ?_) #[true, false, false, false, false, false, false, false, false, false, false, false, false, false, false, false] rfl rfl (by kernel_rfl) (fun _ _ _ h => h) (Or.inl ⟨by rfl, ?_⟩) ?_ ?_
  rotate_left
  · intro w'
    go_simp
    with_reducible rfl
  rotate_left
  · simp only [Act.put, List.setIfInBounds_toArray, List.set_cons_zero, List.set_cons_succ, i64_w, i32_w]
    rfl
  refine pure_ (i := 1) (N := some 15) (v := ?_) (a' := ?_) #[true, true, false, false, false, false, false, false, false, false, false, false, false, false, false, false] rfl rfl (by kernel_rfl) (fun _ _ _ h => h) (Or.inl ⟨by rfl, ?_⟩) ?_ ?_
  rotate_left
  · intro w'
    go_simp
    with_reducible rfl
  rotate_left
  · simp only [Act.put, List.setIfInBounds_toArray, List.set_cons_zero, List.set_cons_succ, i64_w, i32_w]
    rfl
  refine pure_ (i := 2) (N := some 16) (v := ?_) (a' := ?_) #[true, true, true, false, false, false, false, false, false, false, false, false, false, false, false, false] rfl rfl (by kernel_rfl) (fun _ _ _ h => h) (Or.inl ⟨by rfl, ?_⟩) ?_ ?_
  rotate_left
  · intro w'
    go_simp
    with_reducible rfl
  rotate_left
  · simp only [Act.put, List.setIfInBounds_toArray, List.set_cons_zero, List.set_cons_succ, i64_w, i32_w]
    rfl
  refine pure_ (i := 3) (N := some 17) (v := ?_) (a' := ?_) #[true, true, true, true, false, false, false, false, false, false, false, false, false, false, false, false] rfl rfl (by kernel_rfl) (fun _ _ _ h => h) (Or.inl ⟨by rfl, ?_⟩) ?_ ?_
  rotate_left
  · intro w'
    go_simp
    with_reducible rfl
  rotate_left
  · simp only [Act.put, List.setIfInBounds_toArray, List.set_cons_zero, List.set_cons_succ, i64_w, i32_w]
    rfl
  refine pure_ (i := 4) (N := some 18) (v := ?_) (a' := ?_) #[true, true, true, true, true, false, false, false, false, false, false, false, false, false, false, false] rfl rfl (by kernel_rfl) (fun _ _ _ h => h) (Or.inl ⟨by rfl, ?_⟩) ?_ ?_
  rotate_left
  · intro w'
    go_simp
    with_reducible rfl
  rotate_left
  · simp only [Act.put, List.setIfInBounds_toArray, List.set_cons_zero, List.set_cons_succ, i64_w, i32_w]
    rfl
  refine pure_ (i := 5) (N := some 19) (v := ?_) (a' := ?_) #[true, true, true, true, true, true, false, false, false, false, false, false, false, false, false, false] rfl rfl (by kernel_rfl) (fun _ _ _ h => h) (Or.inl ⟨by rfl, ?_⟩) ?_ ?_
  rotate_left
  · intro w'
    go_simp
    with_reducible rfl
  rotate_left
  · simp only [Act.put, List.setIfInBounds_toArray, List.set_cons_zero, List.set_cons_succ, i64_w, i32_w]
    rfl
  refine pure_ (i := 7) (N := some 21) (v := ?_) (a' := ?_) #[true, true, true, true, true, true, false, true, false, false, false, false, false, false, false, false] rfl rfl (by kernel_rfl) (fun _ _ _ h => h) (Or.inl ⟨by rfl, ?_⟩) ?_ ?_
  rotate_left
  · intro w'
    go_simp
    with_reducible rfl
  rotate_left
  · simp only [Act.put, List.setIfInBounds_toArray, List.set_cons_zero, List.set_cons_succ, i64_w, i32_w]
    rfl
  refine pure_ (i := 8) (N := some 22) (v := ?_) (a' := ?_) #[true, true, true, true, true, true, false, true, true, false, false, false, false, false, false, false] rfl rfl (by kernel_rfl) (fun _ _ _ h => h) (Or.inl ⟨by rfl, ?_⟩) ?_ ?_
  rotate_left
  · intro w'
    go_simp
    with_reducible rfl
  rotate_left
  · simp only [Act.put, List.setIfInBounds_toArray, List.set_cons_zero, List.set_cons_succ, i64_w, i32_w]
    rfl
  refine pure_ (i := 9) (N := some 23) (v := ?_) (a' := ?_) #[true, true, true, true, true, true, false, true, true, true, false, false, false, false, false, false] rfl rfl (by kernel_rfl) (fun _ _ _ h => h) (Or.inl ⟨by rfl, ?_⟩) ?_ ?_
  rotate_left
  · intro w'
    go_simp
    with_reducible rfl
  rotate_left
  · simp only [Act.put, List.setIfInBounds_toArray, List.set_cons_zero, List.set_cons_succ, i64_w, i32_w]
    rfl
  refine pure_ (i := 10) (N := some 24) (v := ?_) (a' := ?_) #[true, true, true, true, true, true, false, true, true, true, true, false, false, false, false, false] rfl rfl (by kernel_rfl) (fun _ _ _ h => h) (Or.inl ⟨by rfl, ?_⟩) ?_ ?_
  rotate_left
  · intro w'
    go_simp
    with_reducible rfl
  rotate_left
  · simp only [Act.put, List.setIfInBounds_toArray, List.set_cons_zero, List.set_cons_succ, i64_w, i32_w]
    rfl
  refine take_ (i := 6) (N := some 20) (v := ?_) (a' := ?_) #[true, true, true, true, true, true, true, true, true, true, true, false, false, false, false, false] rfl rfl (by kernel_rfl) (fun _ _ _ h => h) (Or.inl ⟨by rfl, ?_⟩) hHeld ?_ ?_
  rotate_left
  · rintro w' ⟨s0, s1⟩
    go_simp
    with_reducible rfl
  rotate_left
  · simp only [Act.put, List.setIfInBounds_toArray, List.set_cons_zero, List.set_cons_succ, i64_w, i32_w]
    rfl
  refine take_ (i := 11) (N := some 25) (v := ?_) (a' := ?_) #[true, true, true, true, true, true, true, true, true, true, true, true, false, false, false, false] rfl rfl (by kernel_rfl) (fun _ _ _ h => h) (Or.inl ⟨by rfl, ?_⟩) hHeld ?_ ?_
  rotate_left
  · rintro w' ⟨s0, s1⟩
    go_simp
    with_reducible rfl
  rotate_left
  · simp only [Act.put, List.setIfInBounds_toArray, List.set_cons_zero, List.set_cons_succ, i64_w, i32_w]
    rfl
  refine pure_ (i := 12) (N := some 26) (v := ?_) (a' := ?_) #[true, true, true, true, true, true, true, true, true, true, true, true, true, false, false, false] rfl rfl (by kernel_rfl) (fun _ _ _ h => h) (Or.inl ⟨by rfl, ?_⟩) ?_ ?_
  rotate_left
  · intro w'
    go_simp
    with_reducible rfl
  rotate_left
  · simp only [Act.put, List.setIfInBounds_toArray, List.set_cons_zero, List.set_cons_succ, i64_w, i32_w]
    rfl
  refine one_ (i := 13) (N := some 27) #[true, true, true, true, true, true, true, true, true, true, true, true, true, true, false, false] rfl rfl (by kernel_rfl) (by decide) (fun K hK => ?_)
  refine goes_ Try.func25 (by kernel_rfl) rfl #[.pointer (some ⟨gr, 0, none⟩), .int .i64 (wrap64 ((r : Int) + (rs : Int)))] (by rfl) rfl rfl (by simp only [List.map_toArray, List.map_cons, List.map_nil]; rfl) ?_
  with_reducible refine (bitr_Reader_Peek.calls kp gr _ _ (wrap64 ((r : Int) + (rs : Int))) _ _ w0 w.drew J0.out.i J0.out.bl (by rw [cw3]; exact KP.out)).mono ?_
  rintro e w3 ⟨rfl, hI, hB, hKe⟩
  refine ⟨_, rfl, ?_⟩
  have J3 := Aside0.mk (J0.out.call hI hB hKe)
  clear hI hB hKe
  refine hK.out _ _ ⟨J3.out.t.c0, J3.out.t.c2⟩ (fun hHeld => ?_)
  clear hK K
  refine norm_ (a' := ?_) ?_ ?_
  rotate_left
  · show Act.put _ (some 27) _ = _
    simp only [Act.put, List.setIfInBounds_toArray, List.set_cons_zero, List.set_cons_succ, i64_w, i32_w]
    rfl
  refine pure_ (i := 14) (N := some 28) (v := ?_) (a' := ?_) #[true, true, true, true, true, true, true, true, true, true, true, true, true, true, true, false] rfl rfl (by kernel_rfl) (fun _ _ _ h => h) (Or.inl ⟨by rfl, ?_⟩) ?_ ?_
  rotate_left
  · intro w'
    go_simp
    with_reducible rfl
  rotate_left
  · simp only [Act.put, List.setIfInBounds_toArray, List.set_cons_zero, List.set_cons_succ, i64_w, i32_w]
    rfl
  refine pure_ (i := 15) (N := some 6) (v := ?_) (a' := ?_) #[true, true, true, true, true, true, true, true, true, true, true, true, true, true, true, true] rfl rfl (by kernel_rfl) (fun _ _ _ h => h) (Or.inl ⟨by rfl, ?_⟩) ?_ ?_
  rotate_left
  · intro w'
    go_simp
    with_reducible rfl
  rotate_left
  · simp only [Act.put, List.setIfInBounds_toArray, List.set_cons_zero, List.set_cons_succ, i64_w, i32_w]
    rfl
  refine done_ (by kernel_rfl) ?_
  clear hHeld
  go_wp2
  have J4 := Aside0.mk (J3.out.below (below_drew (Below.refl w3.heap.size w3)))
  refine start_ (n := 20) (S := fun w' => w'.cell? ⟨g, 1, none⟩ = some (.slice (some ⟨b, 0, none⟩) nl cap) ∧ w'.cell? ⟨g, 0, none⟩ = some (.int .i64 (r : Int)) ∧ w'.rangeAt b (h0 * 3) [.int .i64 (s1 : Int), .int .i64 (n1 : Int), .bool mo]) (ds := [19]) #[false, false, false, false, false, false, false, false, false, false, false, false, false, false, false, false, false, false, false, false] (by kernel_rfl) rfl rfl ⟨J4.out.t.c1, J4.out.t.c0, (J4.out.rg H0.out F1.out)⟩ (fun hHeld => ?_)
  refine pure_ (i := 0) (N := some 29) (v := ?_) (a' := ?_) #[true, false, false, false, false, false, false, false, false, false, false, false, false, false, false, false, false, false, false, false] rfl rfl (by kernel_rfl) (fun _ _ _ h => h) (Or.inl ⟨by rfl, ?_⟩) ?_ ?_
  rotate_left
  · intro w'
    go_simp
    with_reducible rfl
  rotate_left
  · simp only [Act.put, List.setIfInBounds_toArray, List.set_cons_zero, List.set_cons_succ, i64_w, i32_w]
    rfl
  refine pure_ (i := 1) (N := some 30) (v := ?_) (a' := ?_) #[true, true, false, false, false, false, false, false, false, false, false, false, false, false, false, false, false, false, false, false] rfl rfl (by kernel_rfl) (fun _ _ _ h => h) (Or.inl ⟨by rfl, ?_⟩) ?_ ?_
  rotate_left
  · intro w'
    go_simp
    with_reducible rfl
  rotate_left
  · simp only [Act.put, List.setIfInBounds_toArray, List.set_cons_zero, List.set_cons_succ, i64_w, i32_w]
    rfl
  refine pure_ (i := 2) (N := some 31) (v := ?_) (a' := ?_) #[true, true, true, false, false, false, false, false, false, false, false, false, false, false, false, false, false, false, false, false] rfl rfl (by kernel_rfl) (fun _ _ _ h => h) (Or.inl ⟨by rfl, ?_⟩) ?_ ?_
  rotate_left
  · intro w'
    go_simp
    with_reducible rfl
  rotate_left
  · simp only [Act.put, List.setIfInBounds_toArray, List.set_cons_zero, List.set_cons_succ, i64_w, i32_w]
    rfl
  refine pure_ (i := 3) (N := some 32) (v := ?_) (a' := ?_) #[true, true, true, true, false, false, false, false, false, false, false, false, false, false, false, false, false, false, false, false] rfl rfl (by kernel_rfl) (fun _ _ _ h => h) (Or.inl ⟨by rfl, ?_⟩) ?_ ?_
  rotate_left
  · intro w'
    go_simp
    with_reducible rfl
  rotate_left
  · simp only [Act.put, List.setIfInBounds_toArray, List.set_cons_zero, List.set_cons_succ, i64_w, i32_w]
    rfl
  refine pure_ (i := 4) (N := some 33) (v := ?_) (a' := ?_) #[true, true, true, true, true, false, false, false, false, false, false, false, false, false, false, false, false, false, false, false] rfl rfl (by kernel_rfl) (fun _ _ _ h => h) (Or.inl ⟨by rfl, ?_⟩) ?_ ?_
  rotate_left
  · intro w'
    go_simp
    with_reducible rfl
  rotate_left
  · simp only [Act.put, List.setIfInBounds_toArray, List.set_cons_zero, List.set_cons_succ, i64_w, i32_w]
    rfl
  refine pure_ (i := 6) (N := some 35) (v := ?_) (a' := ?_) #[true, true, true, true, true, false, true, false, false, false, false, false, false, false, false, false, false, false, false, false] rfl rfl (by kernel_rfl) (fun _ _ _ h => h) (Or.inl ⟨by rfl, ?_⟩) ?_ ?_
  rotate_left
  · intro w'
    go_simp
    with_reducible rfl
  rotate_left
  · simp only [Act.put, List.setIfInBounds_toArray, List.set_cons_zero, List.set_cons_succ, i64_w, i32_w]
    rfl
  refine pure_ (i := 7) (N := some 36) (v := ?_) (a' := ?_) #[true, true, true, true, true, false, true, true, false, false, false, false, false, false, false, false, false, false, false, false] rfl rfl (by kernel_rfl) (fun _ _ _ h => h) (Or.inl ⟨by rfl, ?_⟩) ?_ ?_
  rotate_left
  · intro w'
    go_simp
    with_reducible rfl
  rotate_left
  · simp only [Act.put, List.setIfInBounds_toArray, List.set_cons_zero, List.set_cons_succ, i64_w, i32_w]
    rfl
  refine pure_ (i := 8) (N := some 37) (v := ?_) (a' := ?_) #[true, true, true, true, true, false, true, true, true, false, false, false, false, false, false, false, false, false, false, false] rfl rfl (by kernel_rfl) (fun _ _ _ h => h) (Or.inl ⟨by rfl, ?_⟩) ?_ ?_
  rotate_left
  · intro w'
    go_simp
    with_reducible rfl
  rotate_left
  · simp only [Act.put, List.setIfInBounds_toArray, List.set_cons_zero, List.set_cons_succ, i64_w, i32_w]
    rfl
  refine pure_ (i := 9) (N := some 38) (v := ?_) (a' := ?_) #[true, true, true, true, true, false, true, true, true, true, false, false, false, false, false, false, false, false, false, false] rfl rfl (by kernel_rfl) (fun _ _ _ h => h) (Or.inl ⟨by rfl, ?_⟩) ?_ ?_
  rotate_left
  · intro w'
    go_simp
    with_reducible rfl
  rotate_left
  · simp only [Act.put, List.setIfInBounds_toArray, List.set_cons_zero, List.set_cons_succ, i64_w, i32_w]
    rfl
  refine pure_ (i := 10) (N := some 39) (v := ?_) (a' := ?_) #[true, true, true, true, true, false, true, true, true, true, true, false, false, false, false, false, false, false, false, false] rfl rfl (by kernel_rfl) (fun _ _ _ h => h) (Or.inl ⟨by rfl, ?_⟩) ?_ ?_
  rotate_left
  · intro w'
    go_simp
    with_reducible rfl
  rotate_left
  · simp only [Act.put, List.setIfInBounds_toArray, List.set_cons_zero, List.set_cons_succ, i64_w, i32_w]
    rfl
  refine pure_ (i := 11) (N := some 40) (v := ?_) (a' := ?_) #[true, true, true, true, true, false, true, true, true, true, true, true, false, false, false, false, false, false, false, false] rfl rfl (by kernel_rfl) (fun _ _ _ h => h) (Or.inl ⟨by rfl, ?_⟩) ?_ ?_
  rotate_left
  · intro w'
    go_simp
    with_reducible rfl
  rotate_left
  · simp only [Act.put, List.setIfInBounds_toArray, List.set_cons_zero, List.set_cons_succ, i64_w, i32_w]
    rfl
  refine take_ (i := 5) (N := some 34) (v := ?_) (a' := ?_) #[true, true, true, true, true, true, true, true, true, true, true, true, false, false, false, false, false, false, false, false] rfl rfl (by kernel_rfl) (fun _ _ _ h => h) (Or.inl ⟨by rfl, ?_⟩) hHeld ?_ ?_
  rotate_left
  · rintro w' ⟨s0, s1, s2⟩
    go_simp
    with_reducible rfl
  rotate_left
  · simp only [Act.put, List.setIfInBounds_toArray, List.set_cons_zero, List.set_cons_succ, i64_w, i32_w]
    rfl
  refine take_ (i := 12) (N := some 41) (v := ?_) (a' := ?_) #[true, true, true, true, true, true, true, true, true, true, true, true, true, false, false, false, false, false, false, false] rfl rfl (by kernel_rfl) (fun _ _ _ h => h) (Or.inl ⟨by rfl, ?_⟩) hHeld ?_ ?_
  rotate_left
  · rintro w' ⟨s0, s1, s2⟩
    go_simp
    with_reducible rfl
  rotate_left
  · simp only [Act.put, List.setIfInBounds_toArray, List.set_cons_zero, List.set_cons_succ, i64_w, i32_w]
    rfl
  refine pure_ (i := 13) (N := some 42) (v := ?_) (a' := ?_) #[true, true, true, true, true, true, true, true, true, true, true, true, true, true, false, false, false, false, false, false] rfl rfl (by kernel_rfl) (fun _ _ _ h => h) (Or.inl ⟨by rfl, ?_⟩) ?_ ?_
  rotate_left
  · intro w'
    go_simp
    with_reducible rfl
  rotate_left
  · simp only [Act.put, List.setIfInBounds_toArray, List.set_cons_zero, List.set_cons_succ, i64_w, i32_w]
    rfl
  refine pure_ (i := 14) (N := some 43) (v := ?_) (a' := ?_) #[true, true, true, true, true, true, true, true, true, true, true, true, true, true, true, false, false, false, false, false] rfl rfl (by kernel_rfl) (fun _ _ _ h => h) (Or.inl ⟨by rfl, ?_⟩) ?_ ?_
  rotate_left
  · intro w'
    go_simp
    with_reducible rfl
  rotate_left
  · simp only [Act.put, List.setIfInBounds_toArray, List.set_cons_zero, List.set_cons_succ, i64_w, i32_w]
    rfl
  refine pure_ (i := 15) (N := some 44) (v := ?_) (a' := ?_) #[true, true, true, true, true, true, true, true, true, true, true, true, true, true, true, true, false, false, false, false] rfl rfl (by kernel_rfl) (fun _ _ _ h => h) (Or.inl ⟨by rfl, ?_⟩) ?_ ?_
  rotate_left
  · intro w'
    go_simp
    with_reducible rfl
  rotate_left
  · simp only [Act.put, List.setIfInBounds_toArray, List.set_cons_zero, List.set_cons_succ, i64_w, i32_w]
    rfl
  refine pure_ (i := 16) (N := some 45) (v := ?_) (a' := ?_) #[true, true, true, true, true, true, true, true, true, true, true, true, true, true, true, true, true, false, false, false] rfl rfl (by kernel_rfl) (fun _ _ _ h => h) (Or.inl ⟨by rfl, ?_⟩) ?_ ?_
  rotate_left
  · intro w'
    go_simp
    with_reducible rfl
  rotate_left
  · simp only [Act.put, List.setIfInBounds_toArray, List.set_cons_zero, List.set_cons_succ, i64_w, i32_w]
    rfl
  refine take_ (i := 17) (N := some 46) (v := ?_) (a' := ?_) #[true, true, true, true, true, true, true, true, true, true, true, true, true, true, true, true, true, true, false, false] rfl rfl (by kernel_rfl) (fun _ _ _ h => h) (Or.inl ⟨by rfl, ?_⟩) hHeld ?_ ?_
  rotate_left
  · rintro w' ⟨s0, s1, s2⟩
    refine (load_run rfl (show _ = Value.pointer (some ⟨b, h0 * 3, none⟩) from by first | rfl | (simp [go_sem]; done)) s2 Try.underlying68 rfl sizeE).trans ?_
    with_reducible rfl
  rotate_left
  · simp only [Act.put, List.setIfInBounds_toArray, List.set_cons_zero, List.set_cons_succ, i64_w, i32_w]
    rfl
  refine one_ (i := 18) (N := some 7) #[true, true, true, true, true, true, true, true, true, true, true, true, true, true, true, true, true, true, true, false] rfl rfl (by kernel_rfl) (by decide) (fun K hK => ?_)
  refine alloc_step (cs := #[.int .i64 0, .int .i64 0, .bool false]) (e := 68) (by rfl) rfl ?_ ?_
  · first | (go_simp; done) | (go_simp; rfl)
  intro kA wA ekA hA hbA
  have hge : w.heap.size ≤ kA := by rw [ekA]; exact J4.out.kp.1
  have JA := J4.out.below hbA
  refine hK.out _ _ ⟨JA.t.c1, JA.t.c0, (JA.rg H0.out F1.out)⟩ (fun hHeld => ?_)
  clear hK K
  refine norm_ (a' := ?_) ?_ ?_
  rotate_left
  · show Act.put _ (some 7) _ = _
    simp only [Act.put, List.setIfInBounds_toArray, List.set_cons_zero, List.set_cons_succ, i64_w, i32_w]
    rfl
  refine last_ (i := 19) (N := none) #[true, true, true, true, true, true, true, true, true, true, true, true, true, true, true, true, true, true, true, true] rfl rfl (by kernel_rfl) (by decide) (fun K hK => ?_)
  refine skip_ (w1 := wA.setCells kA 0 [.int .i64 (s1 : Int), .int .i64 (n1 : Int), .bool mo]) (by rfl) rfl (store_run (ty := 68) (x := .tmp 7) (y := .tmp 46) (cells := #[.int .i64 (s1 : Int), .int .i64 (n1 : Int), .bool mo]) rfl rfl rfl (there3 hA) sizeE (by simp [Value.oneCell'])) ?_
  refine hK.out _ _ ?_
  clear hK K
  refine done_ (by kernel_rfl) ?_
  clear hHeld
  have J5 := Aside0.mk (JA.setC HSZ.out.1 HSZ.out.2 hA hge [.int .i64 (s1 : Int), .int .i64 (n1 : Int), .bool mo])
  have X5 := Aside0.mk (show (wA.setCells kA 0 [.int .i64 (s1 : Int), .int .i64 (n1 : Int), .bool mo]).heap[kA]? = some (.cells #[.int .i64 (s1 : Int), .int .i64 (n1 : Int), .bool mo] 68 (0, 0)) from setC_at [.int .i64 (s1 : Int), .int .i64 (n1 : Int), .bool mo] 0 hA)
  obtain ⟨w6, hw6⟩ : ∃ w6, wA.setCells kA 0 [.int .i64 (s1 : Int), .int .i64 (n1 : Int), .bool mo] = w6 := ⟨_, rfl⟩
  rw [hw6] at J5 X5
  rw [hw6]
  have HGE := Aside0.mk hge
  clear hw6 JA hA hge ekA hbA J4 J3
  by_cases hmo : mo = true
  · subst hmo
    have F2a := F2'.out
    rw [if_pos rfl] at F2a
    have HS1 := HP.out.2.1 rfl
    obtain ⟨z0, hz0⟩ : ∃ z0, s1 + x2 = z0 := ⟨_, rfl⟩
    rw [hz0] at F2a
    have HZ := Aside0.mk F2a.1
    have F2 := Aside0.mk F2a.2
    have hwz : wrap64 ((s1 : Int) + (x2 : Int)) = (z0 : Int) := w_sum hz0 HS1 HP.out.2.2
    have z1 : (0 ≤ (z0 : Int)) = True := eq_true (Int.natCast_nonneg _)
    have z2 : ((z0 : Int) < (nl : Int)) = True := eq_true (Int.ofNat_lt.2 HZ.out)
    have z3 : (z0 < nl) = True := eq_true HZ.out
    have d0 := (blk_cell X5.out 2).trans (rfl : _ = some (Value.bool true))
    clear F2' F2a HS1 hz0
    go_wp2
    have J6 := Aside0.mk (J5.out.below (below_drew (Below.refl w6.heap.size w6)))
    have X6 := X5
    refine start_ (n := 20) (S := fun w' => w'.cell? ⟨g, 1, none⟩ = some (.slice (some ⟨b, 0, none⟩) nl cap) ∧ w'.cell? ⟨g, 0, none⟩ = some (.int .i64 (r : Int)) ∧ w'.cell? ⟨kA, 0, none⟩ = some (.int .i64 (s1 : Int)) ∧ w'.rangeAt b (z0 * 3) [.int .i64 (sy : Int), .int .i64 (nn : Int), .bool mo2]) (ds := [19]) #[false, false, false, false, false, false, false, false, false, false, false, false, false, false, false, false, false, false, false, false] (by kernel_rfl) rfl rfl ⟨J6.out.t.c1, J6.out.t.c0, ((blk_cell X6.out 0).trans rfl), (J6.out.rg HZ.out F2.out)⟩ (fun hHeld => ?_)
    refine pure_ (i := 0) (N := some 49) (v := ?_) (a' := ?_) #[true, false, false, false, false, false, false, false, false, false, false, false, false, false, false, false, false, false, false, false] rfl rfl (by kernel_rfl) (fun _ _ _ h => h) (Or.inl ⟨by rfl, ?_⟩) ?_ ?_
    rotate_left
    · intro w'
      go_simp
      with_reducible rfl
    rotate_left
    · simp only [Act.put, List.setIfInBounds_toArray, List.set_cons_zero, List.set_cons_succ, i64_w, i32_w]
      rfl
    refine pure_ (i := 1) (N := some 50) (v := ?_) (a' := ?_) #[true, true, false, false, false, false, false, false, false, false, false, false, false, false, false, false, false, false, false, false] rfl rfl (by kernel_rfl) (fun _ _ _ h => h) (Or.inl ⟨by rfl, ?_⟩) ?_ ?_
    rotate_left
    · intro w'
      go_simp
      with_reducible rfl
    rotate_left
    · simp only [Act.put, List.setIfInBounds_toArray, List.set_cons_zero, List.set_cons_succ, i64_w, i32_w]
      rfl
    refine pure_ (i := 2) (N := some 51) (v := ?_) (a' := ?_) #[true, true, true, false, false, false, false, false, false, false, false, false, false, false, false, false, false, false, false, false] rfl rfl (by kernel_rfl) (fun _ _ _ h => h) (Or.inl ⟨by rfl, ?_⟩) ?_ ?_
    rotate_left
    · intro w'
      go_simp
      with_reducible rfl
    rotate_left
    · simp only [Act.put, List.setIfInBounds_toArray, List.set_cons_zero, List.set_cons_succ, i64_w, i32_w]
      rfl
    refine pure_ (i := 3) (N := some 52) (v := ?_) (a' := ?_) #[true, true, true, true, false, false, false, false, false, false, false, false, false, false, false, false, false, false, false, false] rfl rfl (by kernel_rfl) (fun _ _ _ h => h) (Or.inl ⟨by rfl, ?_⟩) ?_ ?_
    rotate_left
    · intro w'
      go_simp
      with_reducible rfl
    rotate_left
    · simp only [Act.put, List.setIfInBounds_toArray, List.set_cons_zero, List.set_cons_succ, i64_w, i32_w]
      rfl
    refine pure_ (i := 4) (N := some 53) (v := ?_) (a' := ?_) #[true, true, true, true, true, false, false, false, false, false, false, false, false, false, false, false, false, false, false, false] rfl rfl (by kernel_rfl) (fun _ _ _ h => h) (Or.inl ⟨by rfl, ?_⟩) ?_ ?_
    rotate_left
    · intro w'
      go_simp
      with_reducible rfl
    rotate_left
    · simp only [Act.put, List.setIfInBounds_toArray, List.set_cons_zero, List.set_cons_succ, i64_w, i32_w]
      rfl
    refine pure_ (i := 6) (N := some 55) (v := ?_) (a' := ?_) #[true, true, true, true, true, false, true, false, false, false, false, false, false, false, false, false, false, false, false, false] rfl rfl (by kernel_rfl) (fun _ _ _ h => h) (Or.inl ⟨by rfl, ?_⟩) ?_ ?_
    rotate_left
    · intro w'
      go_simp
      with_reducible rfl
    rotate_left
    · simp only [Act.put, List.setIfInBounds_toArray, List.set_cons_zero, List.set_cons_succ, i64_w, i32_w]
      rfl
    refine pure_ (i := 8) (N := some 57) (v := ?_) (a' := ?_) #[true, true, true, true, true, false, true, false, true, false, false, false, false, false, false, false, false, false, false, false] rfl rfl (by kernel_rfl) (fun _ _ _ h => h) (Or.inl ⟨by rfl, ?_⟩) ?_ ?_
    rotate_left
    · intro w'
      go_simp
      with_reducible rfl
    rotate_left
    · simp only [Act.put, List.setIfInBounds_toArray, List.set_cons_zero, List.set_cons_succ, i64_w, i32_w]
      rfl
    refine pure_ (i := 9) (N := some 58) (v := ?_) (a' := ?_) #[true, true, true, true, true, false, true, false, true, true, false, false, false, false, false, false, false, false, false, false] rfl rfl (by kernel_rfl) (fun _ _ _ h => h) (Or.inl ⟨by rfl, ?_⟩) ?_ ?_
    rotate_left
    · intro w'
      go_simp
      with_reducible rfl
    rotate_left
    · simp only [Act.put, List.setIfInBounds_toArray, List.set_cons_zero, List.set_cons_succ, i64_w, i32_w]
      rfl
    refine pure_ (i := 10) (N := some 59) (v := ?_) (a' := ?_) #[true, true, true, true, true, false, true, false, true, true, true, false, false, false, false, false, false, false, false, false] rfl rfl (by kernel_rfl) (fun _ _ _ h => h) (Or.inl ⟨by rfl, ?_⟩) ?_ ?_
    rotate_left
    · intro w'
      go_simp
      with_reducible rfl
    rotate_left
    · simp only [Act.put, List.setIfInBounds_toArray, List.set_cons_zero, List.set_cons_succ, i64_w, i32_w]
      rfl
    refine pure_ (i := 11) (N := some 60) (v := ?_) (a' := ?_) #[true, true, true, true, true, false, true, false, true, true, true, true, false, false, false, false, false, false, false, false] rfl rfl (by kernel_rfl) (fun _ _ _ h => h) (Or.inl ⟨by rfl, ?_⟩) ?_ ?_
    rotate_left
    · intro w'
      go_simp
      with_reducible rfl
    rotate_left
    · simp only [Act.put, List.setIfInBounds_toArray, List.set_cons_zero, List.set_cons_succ, i64_w, i32_w]
      rfl
    refine pure_ (i := 12) (N := some 61) (v := ?_) (a' := ?_) #[true, true, true, true, true, false, true, false, true, true, true, true, true, false, false, false, false, false, false, false] rfl rfl (by kernel_rfl) (fun _ _ _ h => h) (Or.inl ⟨by rfl, ?_⟩) ?_ ?_
    rotate_left
    · intro w'
      go_simp
      with_reducible rfl
    rotate_left
    · simp only [Act.put, List.setIfInBounds_toArray, List.set_cons_zero, List.set_cons_succ, i64_w, i32_w]
      rfl
    refine pure_ (i := 13) (N := some 62) (v := ?_) (a' := ?_) #[true, true, true, true, true, false, true, false, true, true, true, true, true, true, false, false, false, false, false, false] rfl rfl (by kernel_rfl) (fun _ _ _ h => h) (Or.inl ⟨by rfl, ?_⟩) ?_ ?_
    rotate_left
    · intro w'
      go_simp
      with_reducible rfl
    rotate_left
    · simp only [Act.put, List.setIfInBounds_toArray, List.set_cons_zero, List.set_cons_succ, i64_w, i32_w]
      rfl
    refine take_ (i := 5) (N := some 54) (v := ?_) (a' := ?_) #[true, true, true, true, true, true, true, false, true, true, true, true, true, true, false, false, false, false, false, false] rfl rfl (by kernel_rfl) (fun _ _ _ h => h) (Or.inl ⟨by rfl, ?_⟩) hHeld ?_ ?_
    rotate_left
    · rintro w' ⟨s0, s1, s2, s3⟩
      go_simp
      with_reducible rfl
    rotate_left
    · simp only [Act.put, List.setIfInBounds_toArray, List.set_cons_zero, List.set_cons_succ, i64_w, i32_w]
      rfl
    refine take_ (i := 7) (N := some 56) (v := ?_) (a' := ?_) #[true, true, true, true, true, true, true, true, true, true, true, true, true, true, false, false, false, false, false, false] rfl rfl (by kernel_rfl) (fun _ _ _ h => h) (Or.inl ⟨by rfl, ?_⟩) hHeld ?_ ?_
    rotate_left
    · rintro w' ⟨s0, s1, s2, s3⟩
      go_simp
      with_reducible rfl
    rotate_left
    · simp only [Act.put, List.setIfInBounds_toArray, List.set_cons_zero, List.set_cons_succ, i64_w, i32_w]
      rfl
    refine take_ (i := 14) (N := some 63) (v := ?_) (a' := ?_) #[true, true, true, true, true, true, true, true, true, true, true, true, true, true, true, false, false, false, false, false] rfl rfl (by kernel_rfl) (fun _ _ _ h => h) (Or.inl ⟨by rfl, ?_⟩) hHeld ?_ ?_
    rotate_left
    · rintro w' ⟨s0, s1, s2, s3⟩
      go_simp
      with_reducible rfl
    rotate_left
    · simp only [Act.put, List.setIfInBounds_toArray, List.set_cons_zero, List.set_cons_succ, i64_w, i32_w]
      rfl
    refine pure_ (i := 15) (N := some 64) (v := ?_) (a' := ?_) #[true, true, true, true, true, true, true, true, true, true, true, true, true, true, true, true, false, false, false, false] rfl rfl (by kernel_rfl) (fun _ _ _ h => h) (Or.inl ⟨by rfl, ?_⟩) ?_ ?_
    rotate_left
    · intro w'
      go_simp
      with_reducible rfl
    rotate_left
    · simp only [Act.put, List.setIfInBounds_toArray, List.set_cons_zero, List.set_cons_succ, i64_w, i32_w]
      rfl
    refine pure_ (i := 16) (N := some 65) (v := ?_) (a' := ?_) #[true, true, true, true, true, true, true, true, true, true, true, true, true, true, true, true, true, false, false, false] rfl rfl (by kernel_rfl) (fun _ _ _ h => h) (Or.inl ⟨by rfl, ?_⟩) ?_ ?_
    rotate_left
    · intro w'
      go_simp
      with_reducible rfl
    rotate_left
    · simp only [Act.put, List.setIfInBounds_toArray, List.set_cons_zero, List.set_cons_succ, i64_w, i32_w]
      rfl
    refine pure_ (i := 17) (N := some 66) (v := ?_) (a' := ?_) #[true, true, true, true, true, true, true, true, true, true, true, true, true, true, true, true, true, true, false, false] rfl rfl (by kernel_rfl) (fun _ _ _ h => h) (Or.inl ⟨by rfl, ?_⟩) ?_ ?_
    rotate_left
    · intro w'
      go_simp
      with_reducible rfl
    rotate_left
    · simp only [Act.put, List.setIfInBounds_toArray, List.set_cons_zero, List.set_cons_succ, i64_w, i32_w]
      rfl
    refine take_ (i := 18) (N := some 67) (v := ?_) (a' := ?_) #[true, true, true, true, true, true, true, true, true, true, true, true, true, true, true, true, true, true, true, false] rfl rfl (by kernel_rfl) (fun _ _ _ h => h) (Or.inl ⟨by rfl, ?_⟩) hHeld ?_ ?_
    rotate_left
    · rintro w' ⟨s0, s1, s2, s3⟩
      refine (load_run rfl (show _ = Value.pointer (some ⟨b, z0 * 3, none⟩) from by first | rfl | (simp [go_sem]; done)) s3 Try.underlying68 rfl sizeE).trans ?_
      with_reducible rfl
    rotate_left
    · simp only [Act.put, List.setIfInBounds_toArray, List.set_cons_zero, List.set_cons_succ, i64_w, i32_w]
      rfl
    refine last_ (i := 19) (N := none) #[true, true, true, true, true, true, true, true, true, true, true, true, true, true, true, true, true, true, true, true] rfl rfl (by kernel_rfl) (by decide) (fun K hK => ?_)
    refine skip_ (w1 := w6.drew.setCells kA 0 [.int .i64 (sy : Int), .int .i64 (nn : Int), .bool mo2]) (by rfl) rfl (store_run (ty := 68) (x := .tmp 7) (y := .tmp 67) (cells := #[.int .i64 (sy : Int), .int .i64 (nn : Int), .bool mo2]) rfl rfl rfl (there3 (show w6.drew.heap[kA]? = _ from X6.out)) sizeE (by simp [Value.oneCell'])) ?_
    refine hK.out _ _ ?_
    clear hK K
    refine done_ (by kernel_rfl) ?_
    clear hHeld d0 hwz
    have J7 := Aside0.mk (J6.out.setC HSZ.out.1 HSZ.out.2 (show w6.drew.heap[kA]? = _ from X5.out) HGE.out [.int .i64 (sy : Int), .int .i64 (nn : Int), .bool mo2])
    have X7 := Aside0.mk (show (w6.drew.setCells kA 0 [.int .i64 (sy : Int), .int .i64 (nn : Int), .bool mo2]).heap[kA]? = some (.cells #[.int .i64 (sy : Int), .int .i64 (nn : Int), .bool mo2] 68 (0, 0)) from setC_at [.int .i64 (sy : Int), .int .i64 (nn : Int), .bool mo2] 0 (show w6.drew.heap[kA]? = _ from X5.out))
    obtain ⟨w7, hw7⟩ : ∃ w7, w6.drew.setCells kA 0 [.int .i64 (sy : Int), .int .i64 (nn : Int), .bool mo2] = w7 := ⟨_, rfl⟩
    rw [hw7] at J7 X7
    rw [hw7]
    clear hw7 J5 X5 J6 X6
    have d1 := (blk_cell X7.out 1).trans (rfl : _ = some (Value.int .i64 (nn : Int)))
    by_cases hn : nn = 0
    · have v1 : (nn == 0) = true := by simpa using hn
      have v2 : ((nn : Int) == 0) = true := by rw [hn]; rfl
      by_cases h00 : lf = 0
      · have v3 : (lf == 0) = true := by simpa using h00
        have v4 : ((lf : Int) == 0) = true := by rw [h00]; rfl
        have L0 := Aside0.mk (show lookE (sy, nn) lf = (0, 0, 3) by unfold lookE; rw [if_pos hn, if_pos h00])
        clear h00 hn
        go_wp2_with (first
          | (go_at_call 26; (with_reducible refine (bitr_Reader_Left.calls gr Bs p _ _ w0 _ J7.out.i J7.out.bl HLF.out).mono ?_); rintro e w10 ⟨rfl, hI, hB, hKe⟩; have J10 := Aside0.mk (J7.out.call hI hB hKe); have X10 := Aside0.mk (KeepBut.blk hKe X7.out (fun e => J7.out.i.ne_blk X7.out (by decide) e.symm) (by simp)); clear hI hB hKe))
        rw [L0.out]
        go_ret2
        exact ⟨rfl, by rw [HQ.out, Int.add_zero]; exact J10.out.i, J10.out.bl, J10.out.kp⟩
      · have v3 : (lf == 0) = false := by simpa using h00
        have v4 : ((lf : Int) == 0) = false := by rw [beq_eq_false_iff_ne]; exact fun h => h00 (Int.natCast_eq_zero.1 h)
        have v5 : decide (lf < nn) = false := decide_eq_false (by rw [hn]; exact Nat.not_lt_zero _)
        have v6 : decide ((lf : Int) < (nn : Int)) = false := decide_eq_false (fun h => by rw [hn] at h; exact Nat.not_lt_zero lf (Int.ofNat_lt.1 h))
        have L0 := Aside0.mk (show lookE (sy, nn) lf = (0, 0, 4) by unfold lookE; rw [if_pos hn, if_neg h00])
        clear h00 hn
        go_wp2_with (first
          | (go_at_call 26; (with_reducible refine (bitr_Reader_Left.calls gr Bs p _ _ w0 _ J7.out.i J7.out.bl HLF.out).mono ?_); rintro e w10 ⟨rfl, hI, hB, hKe⟩; have J10 := Aside0.mk (J7.out.call hI hB hKe); have X10 := Aside0.mk (KeepBut.blk hKe X7.out (fun e => J7.out.i.ne_blk X7.out (by decide) e.symm) (by simp)); clear hI hB hKe))
        refine start_ (n := 6) (S := fun w' => w'.cell? ⟨kA, 1, none⟩ = some (.int .i64 (nn : Int))) (ds := []) #[false, false, false, false, false, false] (by kernel_rfl) rfl rfl (((blk_cell X10.out 1).trans rfl)) (fun hHeld => ?_)
        refine pure_ (i := 0) (N := some 77) (v := ?_) (a' := ?_) #[true, false, false, false, false, false] rfl rfl (by kernel_rfl) (fun _ _ _ h => h) (Or.inl ⟨by rfl, ?_⟩) ?_ ?_
        rotate_left
        · intro w'
          go_simp
          with_reducible rfl
        rotate_left
        · simp only [Act.put, List.setIfInBounds_toArray, List.set_cons_zero, List.set_cons_succ, i64_w, i32_w]
          rfl
        refine pure_ (i := 2) (N := some 79) (v := ?_) (a' := ?_) #[true, false, true, false, false, false] rfl rfl (by kernel_rfl) (fun _ _ _ h => h) (Or.inl ⟨by rfl, ?_⟩) ?_ ?_
        rotate_left
        · intro w'
          go_simp
          with_reducible rfl
        rotate_left
        · simp only [Act.put, List.setIfInBounds_toArray, List.set_cons_zero, List.set_cons_succ, i64_w, i32_w]
          rfl
        refine take_ (i := 1) (N := some 78) (v := ?_) (a' := ?_) #[true, true, true, false, false, false] rfl rfl (by kernel_rfl) (fun _ _ _ h => h) (Or.inl ⟨by rfl, ?_⟩) hHeld ?_ ?_
        rotate_left
        · intro w' s0
          go_simp
          with_reducible rfl
        rotate_left
        · simp only [Act.put, List.setIfInBounds_toArray, List.set_cons_zero, List.set_cons_succ, i64_w, i32_w]
          rfl
        refine one_ (i := 3) (N := some 80) #[true, true, true, true, false, false] rfl rfl (by kernel_rfl) (by decide) (fun K hK => ?_)
        refine goes_ Try.func26 (by kernel_rfl) rfl #[.pointer (some ⟨gr, 0, none⟩)] (by rfl) rfl rfl (by simp only [List.map_toArray, List.map_cons, List.map_nil]; rfl) ?_
        with_reducible refine (bitr_Reader_Left.calls gr Bs p _ _ w0 w10.drew (J10.out.below (below_drew (Below.refl _ _))).i (J10.out.below (below_drew (Below.refl _ _))).bl HLF.out).mono ?_
        rintro e w14 ⟨rfl, hI, hB, hKe⟩
        refine ⟨_, rfl, ?_⟩
        have J14 := Aside0.mk ((J10.out.below (below_drew (Below.refl _ _))).call hI hB hKe)
        have X14 := Aside0.mk (KeepBut.blk hKe (show w10.drew.heap[kA]? = _ from X10.out) (fun e => J10.out.i.ne_blk X10.out (by decide) e.symm) (by simp))
        clear hI hB hKe
        refine hK.out _ _ (((blk_cell X14.out 1).trans rfl)) (fun hHeld => ?_)
        clear hK K
        refine norm_ (a' := ?_) ?_ ?_
        rotate_left
        · show Act.put _ (some 80) _ = _
          simp only [Act.put, List.setIfInBounds_toArray, List.set_cons_zero, List.set_cons_succ, i64_w, i32_w]
          rfl
        refine pure_ (i := 4) (N := some 81) (v := ?_) (a' := ?_) #[true, true, true, true, true, false] rfl rfl (by kernel_rfl) (fun _ _ _ h => h) (Or.inl ⟨by rfl, ?_⟩) ?_ ?_
        rotate_left
        · intro w'
          go_simp
          with_reducible rfl
        rotate_left
        · simp only [Act.put, List.setIfInBounds_toArray, List.set_cons_zero, List.set_cons_succ, i64_w, i32_w]
          rfl
        refine pure_ (i := 5) (N := some 68) (v := ?_) (a' := ?_) #[true, true, true, true, true, true] rfl rfl (by kernel_rfl) (fun _ _ _ h => h) (Or.inl ⟨by rfl, ?_⟩) ?_ ?_
        rotate_left
        · intro w'
          go_simp
          with_reducible rfl
        rotate_left
        · simp only [Act.put, List.setIfInBounds_toArray, List.set_cons_zero, List.set_cons_succ, i64_w, i32_w]
          rfl
        refine done_ (by kernel_rfl) ?_
        clear hHeld
        have d2 := (blk_cell X14.out 1).trans (rfl : _ = some (Value.int .i64 (nn : Int)))
        go_wp2
        rw [L0.out]
        go_ret2
        exact ⟨rfl, by rw [HQ.out, Int.add_zero]; exact J14.out.i, J14.out.bl, J14.out.kp⟩
    · have v1 : (nn == 0) = false := by simpa using hn
      have v2 : ((nn : Int) == 0) = false := by rw [beq_eq_false_iff_ne]; exact fun h => hn (Int.natCast_eq_zero.1 h)
      by_cases h00 : lf < nn
      · have v5 : decide (lf < nn) = true := decide_eq_true h00
        have v6 : decide ((lf : Int) < (nn : Int)) = true := decide_eq_true (Int.ofNat_lt.2 h00)
        have L0 := Aside0.mk (show lookE (sy, nn) lf = (0, 0, 3) by unfold lookE; rw [if_neg hn, if_pos h00])
        clear h00 hn
        go_wp2
        refine start_ (n := 6) (S := fun w' => w'.cell? ⟨kA, 1, none⟩ = some (.int .i64 (nn : Int))) (ds := []) #[false, false, false, false, false, false] (by kernel_rfl) rfl rfl (((blk_cell X7.out 1).trans rfl)) (fun hHeld => ?_)
        refine pure_ (i := 0) (N := some 77) (v := ?_) (a' := ?_) #[true, false, false, false, false, false] rfl rfl (by kernel_rfl) (fun _ _ _ h => h) (Or.inl ⟨by rfl, ?_⟩) ?_ ?_
        rotate_left
        · intro w'
          go_simp
          with_reducible rfl
        rotate_left
        · simp only [Act.put, List.setIfInBounds_toArray, List.set_cons_zero, List.set_cons_succ, i64_w, i32_w]
          rfl
        refine pure_ (i := 2) (N := some 79) (v := ?_) (a' := ?_) #[true, false, true, false, false, false] rfl rfl (by kernel_rfl) (fun _ _ _ h => h) (Or.inl ⟨by rfl, ?_⟩) ?_ ?_
        rotate_left
        · intro w'
          go_simp
          with_reducible rfl
        rotate_left
        · simp only [Act.put, List.setIfInBounds_toArray, List.set_cons_zero, List.set_cons_succ, i64_w, i32_w]
          rfl
        refine take_ (i := 1) (N := some 78) (v := ?_) (a' := ?_) #[true, true, true, false, false, false] rfl rfl (by kernel_rfl) (fun _ _ _ h => h) (Or.inl ⟨by rfl, ?_⟩) hHeld ?_ ?_
        rotate_left
        · intro w' s0
          go_simp
          with_reducible rfl
        rotate_left
        · simp only [Act.put, List.setIfInBounds_toArray, List.set_cons_zero, List.set_cons_succ, i64_w, i32_w]
          rfl
        refine one_ (i := 3) (N := some 80) #[true, true, true, true, false, false] rfl rfl (by kernel_rfl) (by decide) (fun K hK => ?_)
        refine goes_ Try.func26 (by kernel_rfl) rfl #[.pointer (some ⟨gr, 0, none⟩)] (by rfl) rfl rfl (by simp only [List.map_toArray, List.map_cons, List.map_nil]; rfl) ?_
        with_reducible refine (bitr_Reader_Left.calls gr Bs p _ _ w0 w7.drew (J7.out.below (below_drew (Below.refl _ _))).i (J7.out.below (below_drew (Below.refl _ _))).bl HLF.out).mono ?_
        rintro e w14 ⟨rfl, hI, hB, hKe⟩
        refine ⟨_, rfl, ?_⟩
        have J14 := Aside0.mk ((J7.out.below (below_drew (Below.refl _ _))).call hI hB hKe)
        have X14 := Aside0.mk (KeepBut.blk hKe (show w7.drew.heap[kA]? = _ from X7.out) (fun e => J7.out.i.ne_blk X7.out (by decide) e.symm) (by simp))
        clear hI hB hKe
        refine hK.out _ _ (((blk_cell X14.out 1).trans rfl)) (fun hHeld => ?_)
        clear hK K
        refine norm_ (a' := ?_) ?_ ?_
        rotate_left
        · show Act.put _ (some 80) _ = _
          simp only [Act.put, List.setIfInBounds_toArray, List.set_cons_zero, List.set_cons_succ, i64_w, i32_w]
          rfl
        refine pure_ (i := 4) (N := some 81) (v := ?_) (a' := ?_) #[true, true, true, true, true, false] rfl rfl (by kernel_rfl) (fun _ _ _ h => h) (Or.inl ⟨by rfl, ?_⟩) ?_ ?_
        rotate_left
        · intro w'
          go_simp
          with_reducible rfl
        rotate_left
        · simp only [Act.put, List.setIfInBounds_toArray, List.set_cons_zero, List.set_cons_succ, i64_w, i32_w]
          rfl
        refine pure_ (i := 5) (N := some 68) (v := ?_) (a' := ?_) #[true, true, true, true, true, true] rfl rfl (by kernel_rfl) (fun _ _ _ h => h) (Or.inl ⟨by rfl, ?_⟩) ?_ ?_
        rotate_left
        · intro w'
          go_simp
          with_reducible rfl
        rotate_left
        · simp only [Act.put, List.setIfInBounds_toArray, List.set_cons_zero, List.set_cons_succ, i64_w, i32_w]
          rfl
        refine done_ (by kernel_rfl) ?_
        clear hHeld
        go_wp2
        rw [L0.out]
        go_ret2
        exact ⟨rfl, by rw [HQ.out, Int.add_zero]; exact J14.out.i, J14.out.bl, J14.out.kp⟩
      · have v5 : decide (lf < nn) = false := decide_eq_false h00
        have v6 : decide ((lf : Int) < (nn : Int)) = false := decide_eq_false (fun h => h00 (Int.ofNat_lt.1 h))
        have L0 := Aside0.mk (show lookE (sy, nn) lf = ((sy : Int), (nn : Int), 0) by unfold lookE; rw [if_neg hn, if_neg h00])
        obtain ⟨ks, hks⟩ := KSK.out (nn : Int) ⟨Int.natCast_nonneg _, Int.ofNat_le.2 HP.out.1⟩ (Int.ofNat_le.2 (Nat.le_of_not_lt h00))
        have KS := Aside0.mk hks
        clear h00 hn hks
        go_wp2
        refine start_ (n := 6) (S := fun w' => w'.cell? ⟨kA, 1, none⟩ = some (.int .i64 (nn : Int))) (ds := []) #[false, false, false, false, false, false] (by kernel_rfl) rfl rfl (((blk_cell X7.out 1).trans rfl)) (fun hHeld => ?_)
        refine pure_ (i := 0) (N := some 77) (v := ?_) (a' := ?_) #[true, false, false, false, false, false] rfl rfl (by kernel_rfl) (fun _ _ _ h => h) (Or.inl ⟨by rfl, ?_⟩) ?_ ?_
        rotate_left
        · intro w'
          go_simp
          with_reducible rfl
        rotate_left
        · simp only [Act.put, List.setIfInBounds_toArray, List.set_cons_zero, List.set_cons_succ, i64_w, i32_w]
          rfl
        refine pure_ (i := 2) (N := some 79) (v := ?_) (a' := ?_) #[true, false, true, false, false, false] rfl rfl (by kernel_rfl) (fun _ _ _ h => h) (Or.inl ⟨by rfl, ?_⟩) ?_ ?_
        rotate_left
        · intro w'
          go_simp
          with_reducible rfl
        rotate_left
        · simp only [Act.put, List.setIfInBounds_toArray, List.set_cons_zero, List.set_cons_succ, i64_w, i32_w]
          rfl
        refine take_ (i := 1) (N := some 78) (v := ?_) (a' := ?_) #[true, true, true, false, false, false] rfl rfl (by kernel_rfl) (fun _ _ _ h => h) (Or.inl ⟨by rfl, ?_⟩) hHeld ?_ ?_
        rotate_left
        · intro w' s0
          go_simp
          with_reducible rfl
        rotate_left
        · simp only [Act.put, List.setIfInBounds_toArray, List.set_cons_zero, List.set_cons_succ, i64_w, i32_w]
          rfl
        refine one_ (i := 3) (N := some 80) #[true, true, true, true, false, false] rfl rfl (by kernel_rfl) (by decide) (fun K hK => ?_)
        refine goes_ Try.func26 (by kernel_rfl) rfl #[.pointer (some ⟨gr, 0, none⟩)] (by rfl) rfl rfl (by simp only [List.map_toArray, List.map_cons, List.map_nil]; rfl) ?_
        with_reducible refine (bitr_Reader_Left.calls gr Bs p _ _ w0 w7.drew (J7.out.below (below_drew (Below.refl _ _))).i (J7.out.below (below_drew (Below.refl _ _))).bl HLF.out).mono ?_
        rintro e w14 ⟨rfl, hI, hB, hKe⟩
        refine ⟨_, rfl, ?_⟩
        have J14 := Aside0.mk ((J7.out.below (below_drew (Below.refl _ _))).call hI hB hKe)
        have X14 := Aside0.mk (KeepBut.blk hKe (show w7.drew.heap[kA]? = _ from X7.out) (fun e => J7.out.i.ne_blk X7.out (by decide) e.symm) (by simp))
        clear hI hB hKe
        refine hK.out _ _ (((blk_cell X14.out 1).trans rfl)) (fun hHeld => ?_)
        clear hK K
        refine norm_ (a' := ?_) ?_ ?_
        rotate_left
        · show Act.put _ (some 80) _ = _
          simp only [Act.put, List.setIfInBounds_toArray, List.set_cons_zero, List.set_cons_succ, i64_w, i32_w]
          rfl
        refine pure_ (i := 4) (N := some 81) (v := ?_) (a' := ?_) #[true, true, true, true, true, false] rfl rfl (by kernel_rfl) (fun _ _ _ h => h) (Or.inl ⟨by rfl, ?_⟩) ?_ ?_
        rotate_left
        · intro w'
          go_simp
          with_reducible rfl
        rotate_left
        · simp only [Act.put, List.setIfInBounds_toArray, List.set_cons_zero, List.set_cons_succ, i64_w, i32_w]
          rfl
        refine pure_ (i := 5) (N := some 68) (v := ?_) (a' := ?_) #[true, true, true, true, true, true] rfl rfl (by kernel_rfl) (fun _ _ _ h => h) (Or.inl ⟨by rfl, ?_⟩) ?_ ?_
        rotate_left
        · intro w'
          go_simp
          with_reducible rfl
        rotate_left
        · simp only [Act.put, List.setIfInBounds_toArray, List.set_cons_zero, List.set_cons_succ, i64_w, i32_w]
          rfl
        refine done_ (by kernel_rfl) ?_
        clear hHeld
        have d2 := (blk_cell X14.out 1).trans (rfl : _ = some (Value.int .i64 (nn : Int)))
        go_wp2_with (first
          | (go_at_call 27; (with_reducible refine (bitr_Reader_Skip.calls ks gr Bs p _ _ _ w0 _ J14.out.i J14.out.bl KS.out).mono ?_); rintro e w15 ⟨rfl, hI, hB, hKe⟩; have J15 := Aside0.mk (J14.out.call hI hB hKe); have X15 := Aside0.mk (KeepBut.blk hKe X14.out (fun e => J14.out.i.ne_blk X14.out (by decide) e.symm) (by simp)); have d3 := (blk_cell X15.out 0).trans (rfl : _ = some (Value.int .i64 (sy : Int))); clear hI hB hKe))
        rw [L0.out]
        go_ret2
        exact ⟨rfl, by rw [HQ.out]; exact J15.out.i, J15.out.bl, J15.out.kp⟩
  · have hm2 : mo = false := by simpa using hmo
    subst hm2
    have F2a := F2'.out
    rw [if_neg (by decide)] at F2a
    obtain ⟨rfl, rfl⟩ := F2a
    have d0 := (blk_cell X5.out 2).trans (rfl : _ = some (Value.bool false))
    clear F2' hmo
    have d1 := (blk_cell X5.out 1).trans (rfl : _ = some (Value.int .i64 (nn : Int)))
    by_cases hn : nn = 0
    · have v1 : (nn == 0) = true := by simpa using hn
      have v2 : ((nn : Int) == 0) = true := by rw [hn]; rfl
      by_cases h00 : lf = 0
      · have v3 : (lf == 0) = true := by simpa using h00
        have v4 : ((lf : Int) == 0) = true := by rw [h00]; rfl
        have L0 := Aside0.mk (show lookE (sy, nn) lf = (0, 0, 3) by unfold lookE; rw [if_pos hn, if_pos h00])
        clear h00 hn
        go_wp2_with (first
          | (go_at_call 26; (with_reducible refine (bitr_Reader_Left.calls gr Bs p _ _ w0 _ J5.out.i J5.out.bl HLF.out).mono ?_); rintro e w10 ⟨rfl, hI, hB, hKe⟩; have J10 := Aside0.mk (J5.out.call hI hB hKe); have X10 := Aside0.mk (KeepBut.blk hKe X5.out (fun e => J5.out.i.ne_blk X5.out (by decide) e.symm) (by simp)); clear hI hB hKe))
        rw [L0.out]
        go_ret2
        exact ⟨rfl, by rw [HQ.out, Int.add_zero]; exact J10.out.i, J10.out.bl, J10.out.kp⟩
      · have v3 : (lf == 0) = false := by simpa using h00
        have v4 : ((lf : Int) == 0) = false := by rw [beq_eq_false_iff_ne]; exact fun h => h00 (Int.natCast_eq_zero.1 h)
        have v5 : decide (lf < nn) = false := decide_eq_false (by rw [hn]; exact Nat.not_lt_zero _)
        have v6 : decide ((lf : Int) < (nn : Int)) = false := decide_eq_false (fun h => by rw [hn] at h; exact Nat.not_lt_zero lf (Int.ofNat_lt.1 h))
        have L0 := Aside0.mk (show lookE (sy, nn) lf = (0, 0, 4) by unfold lookE; rw [if_pos hn, if_neg h00])
        clear h00 hn
        go_wp2_with (first
          | (go_at_call 26; (with_reducible refine (bitr_Reader_Left.calls gr Bs p _ _ w0 _ J5.out.i J5.out.bl HLF.out).mono ?_); rintro e w10 ⟨rfl, hI, hB, hKe⟩; have J10 := Aside0.mk (J5.out.call hI hB hKe); have X10 := Aside0.mk (KeepBut.blk hKe X5.out (fun e => J5.out.i.ne_blk X5.out (by decide) e.symm) (by simp)); clear hI hB hKe))
        refine start_ (n := 6) (S := fun w' => w'.cell? ⟨kA, 1, none⟩ = some (.int .i64 (nn : Int))) (ds := []) #[false, false, false, false, false, false] (by kernel_rfl) rfl rfl (((blk_cell X10.out 1).trans rfl)) (fun hHeld => ?_)
        refine pure_ (i := 0) (N := some 77) (v := ?_) (a' := ?_) #[true, false, false, false, false, false] rfl rfl (by kernel_rfl) (fun _ _ _ h => h) (Or.inl ⟨by rfl, ?_⟩) ?_ ?_
        rotate_left
        · intro w'
          go_simp
          with_reducible rfl
        rotate_left
        · simp only [Act.put, List.setIfInBounds_toArray, List.set_cons_zero, List.set_cons_succ, i64_w, i32_w]
          rfl
        refine pure_ (i := 2) (N := some 79) (v := ?_) (a' := ?_) #[true, false, true, false, false, false] rfl rfl (by kernel_rfl) (fun _ _ _ h => h) (Or.inl ⟨by rfl, ?_⟩) ?_ ?_
        rotate_left
        · intro w'
          go_simp
          with_reducible rfl
        rotate_left
        · simp only [Act.put, List.setIfInBounds_toArray, List.set_cons_zero, List.set_cons_succ, i64_w, i32_w]
          rfl
        refine take_ (i := 1) (N := some 78) (v := ?_) (a' := ?_) #[true, true, true, false, false, false] rfl rfl (by kernel_rfl) (fun _ _ _ h => h) (Or.inl ⟨by rfl, ?_⟩) hHeld ?_ ?_
        rotate_left
        · intro w' s0
          go_simp
          with_reducible rfl
        rotate_left
        · simp only [Act.put, List.setIfInBounds_toArray, List.set_cons_zero, List.set_cons_succ, i64_w, i32_w]
          rfl
        refine one_ (i := 3) (N := some 80) #[true, true, true, true, false, false] rfl rfl (by kernel_rfl) (by decide) (fun K hK => ?_)
        refine goes_ Try.func26 (by kernel_rfl) rfl #[.pointer (some ⟨gr, 0, none⟩)] (by rfl) rfl rfl (by simp only [List.map_toArray, List.map_cons, List.map_nil]; rfl) ?_
        with_reducible refine (bitr_Reader_Left.calls gr Bs p _ _ w0 w10.drew (J10.out.below (below_drew (Below.refl _ _))).i (J10.out.below (below_drew (Below.refl _ _))).bl HLF.out).mono ?_
        rintro e w14 ⟨rfl, hI, hB, hKe⟩
        refine ⟨_, rfl, ?_⟩
        have J14 := Aside0.mk ((J10.out.below (below_drew (Below.refl _ _))).call hI hB hKe)
        have X14 := Aside0.mk (KeepBut.blk hKe (show w10.drew.heap[kA]? = _ from X10.out) (fun e => J10.out.i.ne_blk X10.out (by decide) e.symm) (by simp))
        clear hI hB hKe
        refine hK.out _ _ (((blk_cell X14.out 1).trans rfl)) (fun hHeld => ?_)
        clear hK K
        refine norm_ (a' := ?_) ?_ ?_
        rotate_left
        · show Act.put _ (some 80) _ = _
          simp only [Act.put, List.setIfInBounds_toArray, List.set_cons_zero, List.set_cons_succ, i64_w, i32_w]
          rfl
        refine pure_ (i := 4) (N := some 81) (v := ?_) (a' := ?_) #[true, true, true, true, true, false] rfl rfl (by kernel_rfl) (fun _ _ _ h => h) (Or.inl ⟨by rfl, ?_⟩) ?_ ?_
        rotate_left
        · intro w'
          go_simp
          with_reducible rfl
        rotate_left
        · simp only [Act.put, List.setIfInBounds_toArray, List.set_cons_zero, List.set_cons_succ, i64_w, i32_w]
          rfl
        refine pure_ (i := 5) (N := some 68) (v := ?_) (a' := ?_) #[true, true, true, true, true, true] rfl rfl (by kernel_rfl) (fun _ _ _ h => h) (Or.inl ⟨by rfl, ?_⟩) ?_ ?_
        rotate_left
        · intro w'
          go_simp
          with_reducible rfl
        rotate_left
        · simp only [Act.put, List.setIfInBounds_toArray, List.set_cons_zero, List.set_cons_succ, i64_w, i32_w]
          rfl
        refine done_ (by kernel_rfl) ?_
        clear hHeld
        have d2 := (blk_cell X14.out 1).trans (rfl : _ = some (Value.int .i64 (nn : Int)))
        go_wp2
        rw [L0.out]
        go_ret2
        exact ⟨rfl, by rw [HQ.out, Int.add_zero]; exact J14.out.i, J14.out.bl, J14.out.kp⟩
    · have v1 : (nn == 0) = false := by simpa using hn
      have v2 : ((nn : Int) == 0) = false := by rw [beq_eq_false_iff_ne]; exact fun h => hn (Int.natCast_eq_zero.1 h)
      by_cases h00 : lf < nn
      · have v5 : decide (lf < nn) = true := decide_eq_true h00
        have v6 : decide ((lf : Int) < (nn : Int)) = true := decide_eq_true (Int.ofNat_lt.2 h00)
        have L0 := Aside0.mk (show lookE (sy, nn) lf = (0, 0, 3) by unfold lookE; rw [if_neg hn, if_pos h00])
        clear h00 hn
        go_wp2
        refine start_ (n := 6) (S := fun w' => w'.cell? ⟨kA, 1, none⟩ = some (.int .i64 (nn : Int))) (ds := []) #[false, false, false, false, false, false] (by kernel_rfl) rfl rfl (((blk_cell X5.out 1).trans rfl)) (fun hHeld => ?_)
        refine pure_ (i := 0) (N := some 77) (v := ?_) (a' := ?_) #[true, false, false, false, false, false] rfl rfl (by kernel_rfl) (fun _ _ _ h => h) (Or.inl ⟨by rfl, ?_⟩) ?_ ?_
        rotate_left
        · intro w'
          go_simp
          with_reducible rfl
        rotate_left
        · simp only [Act.put, List.setIfInBounds_toArray, List.set_cons_zero, List.set_cons_succ, i64_w, i32_w]
          rfl
        refine pure_ (i := 2) (N := some 79) (v := ?_) (a' := ?_) #[true, false, true, false, false, false] rfl rfl (by kernel_rfl) (fun _ _ _ h => h) (Or.inl ⟨by rfl, ?_⟩) ?_ ?_
        rotate_left
        · intro w'
          go_simp
          with_reducible rfl
        rotate_left
        · simp only [Act.put, List.setIfInBounds_toArray, List.set_cons_zero, List.set_cons_succ, i64_w, i32_w]
          rfl
        refine take_ (i := 1) (N := some 78) (v := ?_) (a' := ?_) #[true, true, true, false, false, false] rfl rfl (by kernel_rfl) (fun _ _ _ h => h) (Or.inl ⟨by rfl, ?_⟩) hHeld ?_ ?_
        rotate_left
        · intro w' s0
          go_simp
          with_reducible rfl
        rotate_left
        · simp only [Act.put, List.setIfInBounds_toArray, List.set_cons_zero, List.set_cons_succ, i64_w, i32_w]
          rfl
        refine one_ (i := 3) (N := some 80) #[true, true, true, true, false, false] rfl rfl (by kernel_rfl) (by decide) (fun K hK => ?_)
        refine goes_ Try.func26 (by kernel_rfl) rfl #[.pointer (some ⟨gr, 0, none⟩)] (by rfl) rfl rfl (by simp only [List.map_toArray, List.map_cons, List.map_nil]; rfl) ?_
        with_reducible refine (bitr_Reader_Left.calls gr Bs p _ _ w0 w6.drew (J5.out.below (below_drew (Below.refl _ _))).i (J5.out.below (below_drew (Below.refl _ _))).bl HLF.out).mono ?_
        rintro e w14 ⟨rfl, hI, hB, hKe⟩
        refine ⟨_, rfl, ?_⟩
        have J14 := Aside0.mk ((J5.out.below (below_drew (Below.refl _ _))).call hI hB hKe)
        have X14 := Aside0.mk (KeepBut.blk hKe (show w6.drew.heap[kA]? = _ from X5.out) (fun e => J5.out.i.ne_blk X5.out (by decide) e.symm) (by simp))
        clear hI hB hKe
        refine hK.out _ _ (((blk_cell X14.out 1).trans rfl)) (fun hHeld => ?_)
        clear hK K
        refine norm_ (a' := ?_) ?_ ?_
        rotate_left
        · show Act.put _ (some 80) _ = _
          simp only [Act.put, List.setIfInBounds_toArray, List.set_cons_zero, List.set_cons_succ, i64_w, i32_w]
          rfl
        refine pure_ (i := 4) (N := some 81) (v := ?_) (a' := ?_) #[true, true, true, true, true, false] rfl rfl (by kernel_rfl) (fun _ _ _ h => h) (Or.inl ⟨by rfl, ?_⟩) ?_ ?_
        rotate_left
        · intro w'
          go_simp
          with_reducible rfl
        rotate_left
        · simp only [Act.put, List.setIfInBounds_toArray, List.set_cons_zero, List.set_cons_succ, i64_w, i32_w]
          rfl
        refine pure_ (i := 5) (N := some 68) (v := ?_) (a' := ?_) #[true, true, true, true, true, true] rfl rfl (by kernel_rfl) (fun _ _ _ h => h) (Or.inl ⟨by rfl, ?_⟩) ?_ ?_
        rotate_left
        · intro w'
          go_simp
          with_reducible rfl
        rotate_left
        · simp only [Act.put, List.setIfInBounds_toArray, List.set_cons_zero, List.set_cons_succ, i64_w, i32_w]
          rfl
        refine done_ (by kernel_rfl) ?_
        clear hHeld
        go_wp2
        rw [L0.out]
        go_ret2
        exact ⟨rfl, by rw [HQ.out, Int.add_zero]; exact J14.out.i, J14.out.bl, J14.out.kp⟩
      · have v5 : decide (lf < nn) = false := decide_eq_false h00
        have v6 : decide ((lf : Int) < (nn : Int)) = false := decide_eq_false (fun h => h00 (Int.ofNat_lt.1 h))
        have L0 := Aside0.mk (show lookE (sy, nn) lf = ((sy : Int), (nn : Int), 0) by unfold lookE; rw [if_neg hn, if_neg h00])
        obtain ⟨ks, hks⟩ := KSK.out (nn : Int) ⟨Int.natCast_nonneg _, Int.ofNat_le.2 HP.out.1⟩ (Int.ofNat_le.2 (Nat.le_of_not_lt h00))
        have KS := Aside0.mk hks
        clear h00 hn hks
        go_wp2
        refine start_ (n := 6) (S := fun w' => w'.cell? ⟨kA, 1, none⟩ = some (.int .i64 (nn : Int))) (ds := []) #[false, false, false, false, false, false] (by kernel_rfl) rfl rfl (((blk_cell X5.out 1).trans rfl)) (fun hHeld => ?_)
        refine pure_ (i := 0) (N := some 77) (v := ?_) (a' := ?_) #[true, false, false, false, false, false] rfl rfl (by kernel_rfl) (fun _ _ _ h => h) (Or.inl ⟨by rfl, ?_⟩) ?_ ?_
        rotate_left
        · intro w'
          go_simp
          with_reducible rfl
        rotate_left
        · simp only [Act.put, List.setIfInBounds_toArray, List.set_cons_zero, List.set_cons_succ, i64_w, i32_w]
          rfl
        refine pure_ (i := 2) (N := some 79) (v := ?_) (a' := ?_) #[true, false, true, false, false, false] rfl rfl (by kernel_rfl) (fun _ _ _ h => h) (Or.inl ⟨by rfl, ?_⟩) ?_ ?_
        rotate_left
        · intro w'
          go_simp
          with_reducible rfl
        rotate_left
        · simp only [Act.put, List.setIfInBounds_toArray, List.set_cons_zero, List.set_cons_succ, i64_w, i32_w]
          rfl
        refine take_ (i := 1) (N := some 78) (v := ?_) (a' := ?_) #[true, true, true, false, false, false] rfl rfl (by kernel_rfl) (fun _ _ _ h => h) (Or.inl ⟨by rfl, ?_⟩) hHeld ?_ ?_
        rotate_left
        · intro w' s0
          go_simp
          with_reducible rfl
        rotate_left
        · simp only [Act.put, List.setIfInBounds_toArray, List.set_cons_zero, List.set_cons_succ, i64_w, i32_w]
          rfl
        refine one_ (i := 3) (N := some 80) #[true, true, true, true, false, false] rfl rfl (by kernel_rfl) (by decide) (fun K hK => ?_)
        refine goes_ Try.func26 (by kernel_rfl) rfl #[.pointer (some ⟨gr, 0, none⟩)] (by rfl) rfl rfl (by simp only [List.map_toArray, List.map_cons, List.map_nil]; rfl) ?_
        with_reducible refine (bitr_Reader_Left.calls gr Bs p _ _ w0 w6.drew (J5.out.below (below_drew (Below.refl _ _))).i (J5.out.below (below_drew (Below.refl _ _))).bl HLF.out).mono ?_
        rintro e w14 ⟨rfl, hI, hB, hKe⟩
        refine ⟨_, rfl, ?_⟩
        have J14 := Aside0.mk ((J5.out.below (below_drew (Below.refl _ _))).call hI hB hKe)
        have X14 := Aside0.mk (KeepBut.blk hKe (show w6.drew.heap[kA]? = _ from X5.out) (fun e => J5.out.i.ne_blk X5.out (by decide) e.symm) (by simp))
        clear hI hB hKe
        refine hK.out _ _ (((blk_cell X14.out 1).trans rfl)) (fun hHeld => ?_)
        clear hK K
        refine norm_ (a' := ?_) ?_ ?_
        rotate_left
        · show Act.put _ (some 80) _ = _
          simp only [Act.put, List.setIfInBounds_toArray, List.set_cons_zero, List.set_cons_succ, i64_w, i32_w]
          rfl
        refine pure_ (i := 4) (N := some 81) (v := ?_) (a' := ?_) #[true, true, true, true, true, false] rfl rfl (by kernel_rfl) (fun _ _ _ h => h) (Or.inl ⟨by rfl, ?_⟩) ?_ ?_
        rotate_left
        · intro w'
          go_simp
          with_reducible rfl
        rotate_left
        · simp only [Act.put, List.setIfInBounds_toArray, List.set_cons_zero, List.set_cons_succ, i64_w, i32_w]
          rfl
        refine pure_ (i := 5) (N := some 68) (v := ?_) (a' := ?_) #[true, true, true, true, true, true] rfl rfl (by kernel_rfl) (fun _ _ _ h => h) (Or.inl ⟨by rfl, ?_⟩) ?_ ?_
        rotate_left
        · intro w'
          go_simp
          with_reducible rfl
        rotate_left
        · simp only [Act.put, List.setIfInBounds_toArray, List.set_cons_zero, List.set_cons_succ, i64_w, i32_w]
          rfl
        refine done_ (by kernel_rfl) ?_
        clear hHeld
        have d2 := (blk_cell X14.out 1).trans (rfl : _ = some (Value.int .i64 (nn : Int)))
        go_wp2_with (first
          | (go_at_call 27; (with_reducible refine (bitr_Reader_Skip.calls ks gr Bs p _ _ _ w0 _ J14.out.i J14.out.bl KS.out).mono ?_); rintro e w15 ⟨rfl, hI, hB, hKe⟩; have J15 := Aside0.mk (J14.out.call hI hB hKe); have X15 := Aside0.mk (KeepBut.blk hKe X14.out (fun e => J14.out.i.ne_blk X14.out (by decide) e.symm) (by simp)); have d3 := (blk_cell X15.out 0).trans (rfl : _ = some (Value.int .i64 (sy : Int))); clear hI hB hKe))
        rw [L0.out]
        go_ret2
        exact ⟨rfl, by rw [HQ.out]; exact J15.out.i, J15.out.bl, J15.out.kp⟩
end Go.Proofs.Ytoikiefegkgedaa.Hd
/- twolev's functions where there is no table or no reader; the example of chapter 11; the law TwolevNone. -/
namespace Go.Proofs.Ytoikiefegkgedaa.Hd
open Go Go.RowKit Go.Deep Go.Proofs.YtoikiefegkgedaaW.PrintWords Go.Proofs.YtoikiefegkgedaaW.PrintLast Go.Proofs.YtoikiefegkgedaaW.PrintMore Go.Proofs.Ytoikiefegkgedaa.Hw Go.Proofs.Ytoikiefegkgedaa.Com Go.Proofs.Ytoikiefegkgedaa.Cn Go.Proofs.Ytoikiefegkgedaa.P Go.Proofs.Ytoikiefegkgedaa.Pure
attribute [local go_sem] max2_int min2_int max_two min_two max_three min_three max_four min_four
set_option maxHeartbeats 2000000 in
set_option maxRecDepth 100000 in
theorem Size_nil (w : World) : Calls Try.prog 10 #[.pointer none] w fun e w' => e = .returned (.int .i64 0) ∧ Drawn0 w w' := by
  go_enter Try.func10, Try.ntmps10
  go_wp2
  go_ret
  exact ⟨rfl, by repeat (first | exact Drawn0.refl _ | apply Drawn0.step)⟩
set_option maxHeartbeats 2000000 in
set_option maxRecDepth 100000 in
theorem Size_at (w : World) {g b cap n : Nat} {root rest : Int} {f : Nat → Ent} (hT : TwS w g b cap n root rest f) : Calls Try.prog 10 #[.pointer (some ⟨g, 0, none⟩)] w fun e w' => e = .returned (.int .i64 (n : Int)) ∧ Drawn0 w w' := by
  have hc := hT.c1
  clear hT
  go_enter Try.func10, Try.ntmps10
  go_wp2
  go_ret
  exact ⟨rfl, by repeat (first | exact Drawn0.refl _ | apply Drawn0.step)⟩
set_option maxHeartbeats 2000000 in
set_option maxRecDepth 100000 in
theorem Next_none (x : Option Addr) (w : World) : Calls Try.prog 13 #[.pointer none, .pointer x] w fun e w' => e = .returned (.tuple #[.int .i64 0, .int .i64 1]) ∧ Drawn0 w w' := by
  go_enter Try.func13, Try.ntmps13
  go_wp2
  go_ret2
  exact ⟨rfl, by repeat (first | exact Drawn0.refl _ | apply Drawn0.step)⟩
set_option maxHeartbeats 2000000 in
set_option maxRecDepth 100000 in
theorem Next_noreader (g : Nat) (w : World) : Calls Try.prog 13 #[.pointer (some ⟨g, 0, none⟩), .pointer none] w fun e w' => e = .returned (.tuple #[.int .i64 0, .int .i64 1]) ∧ Drawn0 w w' := by
  go_enter Try.func13, Try.ntmps13
  go_wp2
  go_ret2
  exact ⟨rfl, by repeat (first | exact Drawn0.refl _ | apply Drawn0.step)⟩
theorem TwNew_ok (A0 : Option Addr) (n0 c0 : Nat) (l : List Int) (root m : Int) (r rs R P N : Nat) (w : World) (e0 : l.length = n0) (hr0 : Kd.C (Kd.int .i64) w A0 n0 l) (hc0 : n0 ≤ c0) (hl : l.length ≤ 17592186044416) (he : errT l root m = 0)
    (h1 : root.toNat = r) (h2 : (m - root).toNat = rs) (h3 : m - root = (rs : Int)) (h4 : root = (r : Int)) (hR : 2 ^ r = R) (hP : 2 ^ rs = P) (hN : R + (Hl l r l.length).length * P = N) :
    Calls Try.prog 6 #[.slice A0 n0 c0, .int .i64 root, .int .i64 m] w fun e w' => ∃ g b cap, e = .returned (.tuple #[.pointer (some ⟨g, 0, none⟩), .int .i64 0]) ∧ TwS w' g b cap N (r : Int) (rs : Int) (al l r R P l.length) ∧ Below w.heap.size w w' := by
  subst e0
  refine (twolev_New.calls A0 c0 l root m w hr0 hc0 hl).mono ?_
  rintro e w' ⟨hB, ⟨h, _⟩ | ⟨_, g, b, cap, rfl, hT⟩⟩
  · exact absurd he h
  · rw [h1, h2, hR, hP, hN, h3, h4] at hT
    exact ⟨g, b, cap, rfl, hT, hB⟩
theorem TwNew_err (A0 : Option Addr) (n0 c0 : Nat) (l : List Int) (root m t : Int) (w : World) (e0 : l.length = n0) (hr0 : Kd.C (Kd.int .i64) w A0 n0 l) (hc0 : n0 ≤ c0) (hl : l.length ≤ 17592186044416) (he : errT l root m = t) (ht : t ≠ 0) :
    Calls Try.prog 6 #[.slice A0 n0 c0, .int .i64 root, .int .i64 m] w fun e w' => e = .returned (.tuple #[.pointer none, .int .i64 t]) ∧ Below w.heap.size w w' := by
  subst e0; subst he
  refine (twolev_New.calls A0 c0 l root m w hr0 hc0 hl).mono ?_
  rintro e w' ⟨hB, ⟨_, rfl⟩ | ⟨h1, _⟩⟩
  · exact ⟨rfl, hB⟩
  · exact absurd h1 ht
/-- The next symbol is what bit by bit is found. -/
theorem TwNext_dec (g b cap gr : Nat) (l : List Int) (m : Int) (r rs R P N : Nat) (B : List Nat) (q n : Nat) (r1 r3 : Int) (w0 w : World) (hT : TwS w g b cap N (r : Int) (rs : Int) (al l r R P l.length)) (hI : IsS57 w0 w gr (zs B) (q : Int)) (hBl : Below w0.heap.size w0 w)
    (hR : 2 ^ r = R) (hP : 2 ^ rs = P) (hN : R + (Hl l r l.length).length * P = N) (hr : 1 ≤ r ∧ r + rs ≤ 15) (hm : m = ((r + rs : Nat) : Int)) (hc : chk l m = 0) (hB : ∀ x ∈ B, x < 256) (hl : B.length ≤ 1099511627776) (hq : q ≤ 8 * B.length) (hD : decP l ((bb B).drop q) = (r1, (n : Int), r3)) :
    Calls Try.prog 13 #[.pointer (some ⟨g, 0, none⟩), .pointer (some ⟨gr, 0, none⟩)] w fun e w' => e = .returned (.tuple #[.int .i64 r1, .int .i64 r3]) ∧
      IsS57 w0 w' gr (zs B) ((q + n : Nat) : Int) ∧ Below w0.heap.size w0 w' ∧ KeepBut w w' gr none := by
  obtain ⟨_, _, c16, clim⟩ := chk_lim hc
  have hn := (chk_len c16).1
  have hmt : m.toNat = r + rs := by rw [hm, Int.toNat_natCast]
  have hd := dec_look hc hB q
  rw [hD, hmt] at hd
  have hPp : 0 < P := by rw [← hP]; exact Nat.two_pow_pos _
  have hX : pkv B q (r + rs) < R * P := by rw [← hR, ← hP, ← Nat.pow_add]; exact Nat.mod_lt _ (Nat.two_pow_pos _)
  obtain ⟨t1, t2⟩ := two_one (l := l) (root := r) c16 hR.symm hPp hX
  obtain ⟨X, hXe⟩ : ∃ X, pkv B q (r + rs) = X := ⟨_, rfl⟩
  obtain ⟨e, he⟩ : ∃ e, al l r R P l.length (X % R) = e := ⟨_, rfl⟩
  obtain ⟨e2, he2⟩ : ∃ e2, al l r R P l.length (e.1 + X / R) = e2 := ⟨_, rfl⟩
  simp only [hXe, he, he2, hN] at t1 t2
  have hNb : N ≤ 33587200 := by
    rw [← hN]
    have h1 : R ≤ 32768 := by rw [← hR]; exact Nat.pow_le_pow_right (n := 2) (by decide) (show r ≤ 15 by omega)
    have h2 : P ≤ 32768 := by rw [← hP]; exact Nat.pow_le_pow_right (n := 2) (by decide) (show rs ≤ 15 by omega)
    have h3 := Nat.mul_le_mul (Nat.le_trans (Hl_len (l := l) (root := r) l.length) hn) h2
    omega
  have hok := tv_ok c16 X l.length (Nat.le_refl _)
  refine (tw_Next.calls g b cap N gr r rs R P (al l r R P l.length) B q e.1 e.2.1 (tv l l.length X).1 (tv l l.length X).2 e.2.2 e2.2.2 w0 w hT hI hBl hR hP hr (by rw [← hN]; exact Nat.le_add_right _ _) hB hl hq (by rw [hXe, he]) ?_ (fun h => ?_) hok.1).mono ?_
  · rw [hXe]
    by_cases hmo : e.2.2 = true
    · rw [if_pos hmo]
      rw [if_pos hmo] at t1
      refine ⟨t2 hmo, ?_⟩
      rw [he2, ← t1]
    · rw [if_neg hmo]
      rw [if_neg hmo] at t1
      rw [← t1]
      exact ⟨rfl, rfl⟩
  · have := t2 h
    exact Nat.lt_of_le_of_lt (Nat.le_add_right _ _) (Nat.lt_of_lt_of_le this (Nat.le_trans hNb (by decide)))
  · have hd2 : lookE ((tv l l.length X).1, (tv l l.length X).2) (8 * B.length - q) = (r1, (n : Int), r3) := by rw [← hXe]; exact hd
    rw [hd2]
    rintro e w' ⟨h1, h2, h3, h4⟩
    refine ⟨h1, ?_, h3, h4⟩
    rw [Int.natCast_add]
    exact h2
set_option maxHeartbeats 8000000 in
set_option maxRecDepth 100000 in
theorem awake11_calls (w : World) : Calls Try.prog 5 #[] w fun e w' => e = .returned (.bool true) ∧ Below w.heap.size w w' := by
  have E1 := Aside0.mk (show errT [1, 2, 3, 3] 1 3 = 0 by decide +kernel)
  have E2 := Aside0.mk (show errT [1, 2, 3, 3] 0 3 = 1 by decide +kernel)
  have E3 := Aside0.mk (show errT [1, 2, 3, 3] 4 3 = 1 by decide +kernel)
  have HN := Aside0.mk (show 2 + (Hl [1, 2, 3, 3] 1 ([1, 2, 3, 3] : List Int).length).length * 4 = 6 by decide +kernel)
  have HC := Aside0.mk (show chk [1, 2, 3, 3] 3 = 0 by decide +kernel)
  have D1 := Aside0.mk (show decP [1, 2, 3, 3] ((bb [55]).drop 0) = (3, ((3 : Nat) : Int), 0) by decide +kernel)
  have D2 := Aside0.mk (show decP [1, 2, 3, 3] ((bb [55]).drop (0 + 3)) = (0, ((1 : Nat) : Int), 0) by decide +kernel)
  have N1 := Aside0.mk (show nb ⟨#[55]⟩ = [55] by decide)
  go_enter Try.func5, Try.ntmps5
  go_wp2_with (first
    | ((with_reducible refine gate_dst (N := 13) rfl ?_); refine lit_event rfl (cs := #[.int .i64 1, .int .i64 2, .int .i64 3, .int .i64 3]) (t := 3) (n := 4) ?hr ?_; (case hr => first | (go_simp; done) | (go_simp; rfl)); intro g13 w1 K_ B_; have C13 := Aside0.mk (show Kd.C (Kd.int .i64) w1 (some ⟨g13, 0, none⟩) 4 ([1, 2, 3, 3] : List Int) from iC K_.out); have B1 := Aside0.mk (below_step (Below.refl w.heap.size w) B_.out); clear K_ B_)
    | (go_at_call 6; (with_reducible refine (TwNew_ok _ 4 _ [1, 2, 3, 3] 1 3 1 2 2 4 6 w1 rfl C13.out (by decide) (by decide) E1.out (by decide) (by decide) (by decide) (by decide) (by decide) (by decide) HN.out).mono ?_); rintro e w2 ⟨g, b, cap, rfl, hT, hB⟩; have T2 := Aside0.mk hT; have B2 := Aside0.mk (below_step B1.out hB); clear hT hB)
    | ((with_reducible refine gate_dst (N := 18) rfl ?_); refine lit_event rfl (cs := #[.int .i64 1, .int .i64 2, .int .i64 3, .int .i64 3]) (t := 3) (n := 4) ?hr ?_; (case hr => first | (go_simp; done) | (go_simp; rfl)); intro g18 w3 K_ B_; have C18 := Aside0.mk (show Kd.C (Kd.int .i64) w3 (some ⟨g18, 0, none⟩) 4 ([1, 2, 3, 3] : List Int) from iC K_.out); have T3 := Aside0.mk (T2.out.below B_.out); have B3 := Aside0.mk (below_step B2.out B_.out); clear K_ B_)
    | (go_at_call 6; (with_reducible refine (TwNew_err _ 4 _ [1, 2, 3, 3] 0 3 1 w3 rfl C18.out (by decide) (by decide) E2.out (by decide)).mono ?_); rintro e w4 ⟨rfl, hB⟩; have T4 := Aside0.mk (T3.out.below hB); have B4 := Aside0.mk (below_step B3.out hB); clear hB)
    | ((with_reducible refine gate_dst (N := 23) rfl ?_); refine lit_event rfl (cs := #[.int .i64 1, .int .i64 2, .int .i64 3, .int .i64 3]) (t := 3) (n := 4) ?hr ?_; (case hr => first | (go_simp; done) | (go_simp; rfl)); intro g23 w5 K_ B_; have C23 := Aside0.mk (show Kd.C (Kd.int .i64) w5 (some ⟨g23, 0, none⟩) 4 ([1, 2, 3, 3] : List Int) from iC K_.out); have T5 := Aside0.mk (T4.out.below B_.out); have B5 := Aside0.mk (below_step B4.out B_.out); clear K_ B_)
    | (go_at_call 6; (with_reducible refine (TwNew_err _ 4 _ [1, 2, 3, 3] 4 3 1 w5 rfl C23.out (by decide) (by decide) E3.out (by decide)).mono ?_); rintro e w6 ⟨rfl, hB⟩; have T6 := Aside0.mk (T5.out.below hB); have B6 := Aside0.mk (below_step B5.out hB); clear hB)
    | (go_at_call 8; (with_reducible refine (Reader_new _ [55] w6 N1.out (by decide)).mono ?_); rintro e w7 ⟨gr, wb, rfl, hI, hL, hB, hW⟩; have T7 := Aside0.mk (T6.out.below hB); have I7 := Aside0.mk hI; have L7 := Aside0.mk hL; have BW := Aside0.mk (below_step B6.out hW); clear hI hL hB hW)
    | (go_at_call 13; (with_reducible refine (TwNext_dec g b cap gr [1, 2, 3, 3] 3 1 2 2 4 6 [55] 0 3 3 0 wb w7 T7.out I7.out L7.out (by decide) (by decide) HN.out (by decide) (by decide) HC.out (by decide) (by decide) (by decide) D1.out).mono ?_); rintro e w8 ⟨rfl, hI, hL, hK⟩; have T8 := Aside0.mk (tw_keep T7.out I7.out hK); have I8 := Aside0.mk hI; have L8 := Aside0.mk hL; clear hI hL hK)
    | (go_at_call 13; (with_reducible refine (TwNext_dec g b cap gr [1, 2, 3, 3] 3 1 2 2 4 6 [55] (0 + 3) 1 0 0 wb w8 T8.out I8.out L8.out (by decide) (by decide) HN.out (by decide) (by decide) HC.out (by decide) (by decide) (by decide) D2.out).mono ?_); rintro e w9 ⟨rfl, hI, hL, hK⟩; have T9 := Aside0.mk (tw_keep T8.out I8.out hK); have I9 := Aside0.mk hI; have L9 := Aside0.mk hL; clear hI hL hK)
    | (go_at_call 10; (with_reducible refine (Size_at w9 T9.out).mono ?_); rintro e w10 ⟨rfl, hd⟩; have I10 := Aside0.mk (I9.out.below hd.below); have L10 := Aside0.mk (below_step L9.out hd.below); clear hd)
    | (go_at_call 14; (with_reducible refine (bitr_Reader_At.calls gr (zs [55]) _ _ _ wb w10 I10.out L10.out rfl).mono ?_); rintro e w11 ⟨rfl, hI, hL, hK⟩; have B11 := Aside0.mk (rebase_join BW.out hL); clear hI hL hK))
  go_ret
  exact ⟨rfl, B11.out⟩
end Go.Proofs.Ytoikiefegkgedaa.Hd
namespace Go.Proofs.Ytoikiefegkgedaa.P
open Go Go.RowKit Go.Deep Go.Proofs.YtoikiefegkgedaaW.PrintWords Go.Proofs.YtoikiefegkgedaaW.PrintLast Go.Proofs.YtoikiefegkgedaaW.PrintMore Go.Proofs.Ytoikiefegkgedaa.Hw Go.Proofs.Ytoikiefegkgedaa.Com Go.Proofs.Ytoikiefegkgedaa.Cn Go.Proofs.Ytoikiefegkgedaa.Pure Go.Proofs.Ytoikiefegkgedaa.Hd
attribute [local go_sem] max2_int min2_int max_two min_two max_three min_three max_four min_four
def gladstonelaw11_TwolevNone.f (_ : Nat) (_ : ByteArray) : Option Bool := some true
set_option maxHeartbeats 8000000 in
set_option maxRecDepth 100000 in
theorem TwolevNone_walk (a0 : ByteArray) (w : World) : Calls Try.prog 4 #[.string a0] w fun e w' => e = .returned (.bool true) ∧ Below w.heap.size w w' := by
  by_cases h1 : 100 < a0.size
  · have t1 : decide (100 < a0.size) = true := decide_eq_true h1
    have t2 : decide (100 < (a0.size : Int)) = true := decide_eq_true (by omega)
    clear h1
    go_enter Try.func4, Try.ntmps4
    go_wp2_with (first
      | (go_at_call 5; refine (awake11_calls _).mono ?_; rintro e w1 ⟨rfl, hB⟩; have B1 := Aside0.mk hB; clear hB))
    go_ret
    exact ⟨rfl, B1.out⟩
  · have t1 : decide (100 < a0.size) = false := decide_eq_false h1
    have t2 : decide (100 < (a0.size : Int)) = false := decide_eq_false (by omega)
    have HS := Aside0.mk (show a0.size ≤ 17592186044416 by omega)
    have E4 := Aside0.mk (show errT [1, 1] 1 2 = 0 by decide +kernel)
    have HN := Aside0.mk (show 2 + (Hl [1, 1] 1 ([1, 1] : List Int).length).length * 2 = 2 by decide +kernel)
    clear h1
    go_enter Try.func4, Try.ntmps4
    go_wp2_with (first
      | (go_at_call 8; (with_reducible refine (Reader_new a0 _ _ rfl HS.out).mono ?_); rintro e w1 ⟨gr, wb, rfl, -, -, hB, -⟩; have B1 := Aside0.mk hB; clear hB)
      | (go_at_call 13; (with_reducible refine (Next_none _ w1).mono ?_); rintro e w2 ⟨rfl, hd⟩; have B2 := Aside0.mk (below_step B1.out hd.below); clear hd)
      | ((with_reducible refine gate_dst (N := 22) rfl ?_); refine lit_event rfl (cs := #[.int .i64 1, .int .i64 1]) (t := 3) (n := 2) ?hr ?_; (case hr => first | (go_simp; done) | (go_simp; rfl)); intro g22 w3 K_ B_; have C22 := Aside0.mk (show Kd.C (Kd.int .i64) w3 (some ⟨g22, 0, none⟩) 2 ([1, 1] : List Int) from iC K_.out); have B3 := Aside0.mk (below_step B2.out B_.out); clear K_ B_)
      | (go_at_call 6; (with_reducible refine (TwNew_ok _ 2 _ [1, 1] 1 2 1 1 2 2 2 w3 rfl C22.out (by decide) (by decide) E4.out (by decide) (by decide) (by decide) (by decide) (by decide) (by decide) HN.out).mono ?_); rintro e w4 ⟨g, b, cap, rfl, -, hB⟩; have B4 := Aside0.mk (below_step B3.out hB); clear hB)
      | (go_at_call 13; (with_reducible refine (Next_noreader g w4).mono ?_); rintro e w5 ⟨rfl, hd⟩; have B5 := Aside0.mk (below_step B4.out hd.below); clear hd)
      | (go_at_call 10; (with_reducible refine (Size_nil w5).mono ?_); rintro e w6 ⟨rfl, hd⟩; have B6 := Aside0.mk (below_step B5.out hd.below); clear hd)
      | (go_at_call 5; (with_reducible refine (awake11_calls w6).mono ?_); rintro e w7 ⟨rfl, hB⟩; have B7 := Aside0.mk (below_step B6.out hB); clear hB))
    go_ret
    exact ⟨rfl, B7.out⟩
theorem gladstonelaw11_TwolevNone.calls (k : Nat) (a0 : ByteArray) (r : Bool) (w : World) (h : gladstonelaw11_TwolevNone.f k a0 = some r) :
    Calls Try.prog 4 #[.string a0] w fun e w' => e = .returned (.bool r) ∧ Below w.heap.size w w' := by
  obtain rfl : true = r := Option.some.inj h
  exact TwolevNone_walk a0 w
end Go.Proofs.Ytoikiefegkgedaa.P
namespace Go.Proofs.Ytoikiefegkgedaa.Pure
open Go.Proofs.Ytoikiefegkgedaa.P
theorem TwolevNone (a0 : ByteArray) {p0 : Prop} (_ : p0) : ∃ k, gladstonelaw11_TwolevNone.f k a0 = some true := ⟨0, rfl⟩
end Go.Proofs.Ytoikiefegkgedaa.Pure
