/- sorted: what Put gives, and what is read of it, plainly. -/
import Derived.Test.YtdifgiceallpiaaDoorXPureZerosS
import Derived.Test.YtdifgiceallpiaaDoorXPax0
import Derived.Test.YtdifgiceallpiaaDoorXPureMtfS
import Derived.Test.YtdifgiceallpiaaDoorXPureRgBack
import Derived.Test.YtdifgiceallpiaaDoorXHBw
import Derived.Test.YtdifgiceallpiaaDoorXSaSrt
import Derived.Test.YtdifgiceallpiaaDoorXPx3
import Derived.Test.YtdifgiceallpiaaDoorXPx5
import Derived.StillTailTactics
set_option linter.unusedVariables false
set_option linter.unusedSimpArgs false
set_option linter.unusedSectionVars false
section
namespace Go.Proofs.YtdifgiceallpiaaDoor.Pure
open Go Go.RowKit YtdifgiceallpiaaDoorW.PrintWords YtdifgiceallpiaaDoorW.PrintMore YtdifgiceallpiaaDoor.P YtdifgiceallpiaaDoor.Com YtdifgiceallpiaaDoor.Rn YtdifgiceallpiaaDoor.Hd
def mvT (s : ByteArray) : List Int := zbu.go (upto 256) (bytesOf (tS s))
def sgT (s : ByteArray) : List Int := (pack (mvT s)).1
def enB (s : ByteArray) : ByteArray := (btEnc (sgT s) 9).1
def putT (s : ByteArray) : ByteArray := ((bs s.size ++ bs (tA s)) ++ bs (sgT s).length) ++ enB s
theorem zcp (s : ByteArray) : (mvT s).length = s.size := by
 unfold mvT
 rw [go_length, ← tS_size s]
 unfold bytesOf
 simp
theorem bk_mv (s : ByteArray) : bk (upto 256) (mvT s) = some (bytesOf (tS s)) := bk_go _ _ Row.start (bytes_byte _)
theorem bk_in : ∀ (l : List Int) (r t : List Int), bk r l = some t → ∀ x ∈ l, 0 ≤ x ∧ x < 256
 | [], _, _, _, _, h => by cases h
 | i :: l, r, t, h, x, hx => by
  unfold bk at h
  by_cases hi : 0 ≤ i ∧ i < 256
  ·rw [if_pos hi] at h
   rcases List.mem_cons.1 hx with e | hx
   ·rw [e]; exact hi
   ·obtain ⟨q, hq, _⟩ := Option.map_eq_some_iff.1 h
    exact bk_in l _ q hq x hx
  ·rw [if_neg hi] at h; cases h
theorem mv_in (s : ByteArray) : ∀ x ∈ mvT s, 0 ≤ x ∧ x < 256 := bk_in _ _ _ (bk_mv s)
theorem mv_ok (s : ByteArray) : (mvT s).all okN = true := List.all_eq_true.2 fun x hx => by
 have := mv_in s x hx
 unfold okN
 rw [decide_eq_true_eq]; omega
theorem rn_in (n : Nat) : ∀ x ∈ rn n, 0 ≤ x ∧ x ≤ 256 := by
 induction n using Nat.strongRecOn with
 | _ n ih =>
  by_cases h : n = 0
  ·subst h; rw [rn_zero]; simp
  ·rw [rn_pos n (by omega)]
   intro x hx
   rcases List.mem_cons.1 hx with e | hx
   ·rw [e]; omega
   ·exact ih ((n - 1) / 2) (by omega) x hx
theorem sg_in (l : List Int) : ∀ n, (∀ x ∈ l, 0 ≤ x ∧ x < 256) → ∀ x ∈ sg n l, 0 ≤ x ∧ x ≤ 256 := by
 induction l with
 | nil => intro n _; rw [sg]; exact rn_in n
 | cons a t ih =>
  intro n h x hx
  have ht : ∀ x ∈ t, 0 ≤ x ∧ x < 256 := fun y hy => h y (List.mem_cons_of_mem _ hy)
  have ha := h a List.mem_cons_self
  rw [sg] at hx
  by_cases h0 : a = 0
  ·rw [if_pos h0] at hx; exact ih _ ht x hx
  ·rw [if_neg h0] at hx
   rcases List.mem_append.1 hx with hx | hx
   ·exact rn_in n x hx
   ·rcases List.mem_cons.1 hx with e | hx
    ·rw [e]; omega
    ·exact ih 0 ht x hx
theorem sgT_eq (s : ByteArray) : pack (mvT s) = (sgT s, 0) := by
 unfold sgT pack
 rw [if_pos (mv_ok s)]
theorem sgT_in (s : ByteArray) : ∀ x ∈ sgT s, 0 ≤ x ∧ x < (2 ^ 9 : Nat) := by
 have e : sgT s = sg 0 (mvT s) := by unfold sgT pack; rw [if_pos (mv_ok s)]
 rw [e]
 intro x hx
 have := sg_in _ 0 (mv_in s) x hx
 omega
theorem zci (s : ByteArray) : (sgT s).length ≤ s.size := by
 rw [← zcp s]
 exact pack_length _
theorem sgT_un {s : ByteArray} (hs : s.size ≤ 65536) : unpack (sgT s) = (mvT s, 0) := (pack_unpack _ (mv_ok s) (by rw [zcp]; omega)).2
theorem mv_told (s : ByteArray) : told (bk (upto 256) (mvT s)) = (tS s, 0) := by
 rw [bk_mv]
 show (strOfNums (bytesOf (tS s)), (0 : Int)) = _
 rw [str_bytes]
theorem enB_eq {s : ByteArray} (hs : s.size ≤ 65536) : btEnc (sgT s) 9 = (enB s, 0) := by
 have := (bt_back 9 (sgT s) (by decide) (sgT_in s) (by have := zci s; omega)).1
 exact Prod.ext rfl this
theorem bt_backT (n : Nat) (t : List Int) (T : ByteArray) (hn : 1 ≤ n ∧ n ≤ 9) (ht : ∀ x ∈ t, 0 ≤ x ∧ x < (2 ^ n : Nat)) (hl : t.length ≤ 1048576) : btDec ((btEnc t n).1 ++ T) t.length n = (t, 0) := by
 obtain ⟨bs, ps, h1, h2, h3, h4⟩ := encT_tr n t ht (List.replicate (2 ^ n) 1024) (by simp) (fineC_new n)
 have e : btEnc t n = encP bs ps := by
  unfold btEnc
  rw [if_neg (by omega), Int.toNat_natCast, h3]
  simp
 have hb := back bs ps T h1 (fun p hp => by have := h2 p hp; omega)
 rw [e]
 unfold btDec
 rw [if_neg (by omega), Int.toNat_natCast, Int.toNat_natCast, h4 _ hb.1]
theorem enB_dec {s : ByteArray} (hs : s.size ≤ 65536) (T : ByteArray) : btDec (enB s ++ T) ((sgT s).length : Int) 9 = (sgT s, 0) := bt_backT 9 (sgT s) T (by decide) (sgT_in s) (by have := zci s; omega)
theorem encT_len (n : Nat) : ∀ (t : List Int) (st : List Bool × List Int) (ch : List Int) (r : List Bool × List Int), encT n t st ch = some r → r.1.length = st.1.length + n * t.length
 | [], st, ch, r, h => by
  rw [encT] at h
  obtain rfl := Option.some.inj h
  simp
 | x :: t, st, ch, r, h => by
  rw [encT] at h
  by_cases hx : x < 0 ∨ (2 ^ n : Nat) ≤ x
  ·rw [if_pos hx] at h; cases h
  ·rw [if_neg hx] at h
   rw [encT_len n t _ _ r h, (wk_len x.toNat n st 1 ch).1, List.length_cons, Nat.mul_succ]
   omega
theorem sos_size (l : List Int) : (strOfNums l).size = l.length := by rw [← zas]; simp [nb, strOfNums]
theorem encP_size (l : List Bool) (ps : List Int) : (encP l ps).1.size ≤ 4 * l.length + 4 := by
 unfold encP
 split
 ·exact Nat.zero_le _
 ·split
  ·exact Nat.zero_le _
  ·split
   ·exact Nat.zero_le _
   ·show (strOfNums _).size ≤ _
    rw [sos_size]
    exact enc_len _ _ _ _
theorem btEnc_size (t : List Int) : (btEnc t 9).1.size ≤ 36 * t.length + 4 := by
 unfold btEnc
 rw [if_neg (by decide)]
 split
 ·exact Nat.zero_le _
 ·rename_i r h
  have := encT_len _ _ _ _ _ h
  have h2 := encP_size r.1 r.2
  have e9 : (9 : Int).toNat = 9 := rfl
  rw [e9] at this
  simp only [List.length_nil] at this
  omega
theorem enB_size {s : ByteArray} (hs : s.size ≤ 65536) : (enB s).size ≤ 3000000 := by
 have := btEnc_size (sgT s)
 have h := zci s
 unfold enB
 omega
theorem bs_small {n : Nat} (hn : n ≤ 65536) : (bs n).size ≤ 5 := by rw [bs_size]; exact en_len5 (by omega)
def Nums (s : ByteArray) (n0 n1 n2 : Int) (rest : ByteArray) : Prop := ∃ s1 s2, rdS s 5 = (n0, s1, 0) ∧ rdS s1 5 = (n1, s2, 0) ∧ rdS s2 5 = (n2, rest, 0)
theorem rd_front (n : Nat) (hn : n ≤ 4294967295) (t : ByteArray) : rdS (bs n ++ t) 5 = ((n : Int), t, 0) :=
 rdS_back n hn (bs n ++ t) t (by rw [nb_append, nb_bs]) 5 (Nat.le_refl _) (by have := en_pos n; omega)
theorem nums_put {s : ByteArray} (hs : s.size ≤ 65536) (T : ByteArray) : Nums (putT s ++ T) (s.size : Int) (tA s : Int) ((sgT s).length : Int) (enB s ++ T) := by
 have hl := zci s
 have ha := tA_le s
 refine ⟨bs (tA s) ++ (bs (sgT s).length ++ (enB s ++ T)), bs (sgT s).length ++ (enB s ++ T), ?_, rd_front _ (by omega) _, rd_front _ (by omega) _⟩
 have e : putT s ++ T = bs s.size ++ (bs (tA s) ++ (bs (sgT s).length ++ (enB s ++ T))) := by
  unfold putT
  rw [ByteArray.append_assoc, ByteArray.append_assoc, ByteArray.append_assoc]
 rw [e]
 exact rd_front _ (by omega) _
end Go.Proofs.YtdifgiceallpiaaDoor.Pure
end
section
namespace Go.Proofs.YtdifgiceallpiaaDoor.Hd
open Go Go.RowKit YtdifgiceallpiaaDoorW.PrintWords YtdifgiceallpiaaDoorW.PrintLast YtdifgiceallpiaaDoorW.PrintMore YtdifgiceallpiaaDoor.Hw YtdifgiceallpiaaDoor.Com YtdifgiceallpiaaDoor.Cn YtdifgiceallpiaaDoor.P YtdifgiceallpiaaDoor.Bw YtdifgiceallpiaaDoor.Sais YtdifgiceallpiaaDoor.Pure
attribute [local go_sem] za9 za8 zbi zbj za0 za1 zba zbb
theorem emp_f {s : ByteArray} (h : s.size ≠ 0) : s.toList.isEmpty = false := by
 rw [ByteArray.toList_eq, List.isEmpty_eq_false_iff]
 intro e
 have := congrArg List.length e
 simp at this
 exact h (by rw [this]; rfl)
theorem emp_t {s : ByteArray} (h : s.size = 0) : s.toList.isEmpty = true := by
 rw [ByteArray.toList_eq, List.isEmpty_iff]
 exact List.eq_nil_of_length_eq_zero (by simpa using h)
set_option maxHeartbeats 4000000 in
set_option maxRecDepth 100000 in
theorem back_bad (t : ByteArray) (a : Int) (w : World) (h : a < 0 ∨ (t.size : Int) < a ∨ (a = 0 ∧ t.size ≠ 0)) :
  Calls Tryd.prog 42 #[.string t, .int .i64 a] w fun e w' => e = .returned (.tuple #[.string ⟨#[]⟩, .int .i64 2]) ∧ Below w.heap.size w w' := by
 go_enter Tryd.func42, Tryd.ntmps42
 by_cases h1 : a < 0
 ·have t1 : decide (a < 0) = true := decide_eq_true h1
  clear h h1
  go_wp2
  go_ret2
  exact ⟨rfl, Below.refl _ _⟩
 ·have t1 : decide (a < 0) = false := decide_eq_false h1
  by_cases h2 : (t.size : Int) < a
  ·have t2 : decide ((t.size : Int) < a) = true := decide_eq_true h2
   clear h h1 h2
   go_wp2
   go_ret2
   exact ⟨rfl, Below.refl _ _⟩
  ·have t2 : decide ((t.size : Int) < a) = false := decide_eq_false h2
   have h3 : a = 0 ∧ t.size ≠ 0 := by omega
   have t3 : (a == 0) = true := beq_iff_eq.mpr h3.1
   have t4 := emp_f h3.2
   clear h h1 h2 h3
   go_wp2
   go_ret2
   exact ⟨rfl, Below.refl _ _⟩
theorem store_var {P : Program} {ops : Array Oper} {rest : List Oper} {o : Oper} {a : Act} {Q : Exit → Act → World → Prop} {W : World} (hgd : o.guard = none) (ty : TypeId) (x y : Operand) (ho : o.op = .store ty x y) (g : Nat) (cells old : Array Value) (hx : a.eval x = .pointer (some ⟨g, 0, none⟩)) (hy : a.eval y = .agg cells) (hg : W.heap[g]? = some (.cells old ty (0, 0)))
  (hi : (P.info? ty).map (·.size) = some cells.size) (hl : old.size = cells.size) (h1 : cells.all (·.oneCell') = true)
  (h : ∀ w1, zaa (w1.heap[g]? = some (.cells cells ty (0, 0))) → zaa (W.grownBy w1 (some g)) → wpList P ops Q rest (a.put o.dst undef) w1) : wpList P ops Q (o :: rest) a W :=
 wpList_store_row hgd ty x y ho g cells hx hy ty old hg hi hl h1 (h _ ⟨setRow_heap W g _ _ ty _ hg⟩ ⟨grown_row W g _⟩)
theorem load_run {P : Program} {o : Oper} {a : Act} {W : World} {ty : TypeId} {x : Operand} {b o' : Nat} {cs : List Value} {d : TypeDesc} (ho : o.op = .load ty x) (hx : a.eval x = .pointer (some ⟨b, o', none⟩)) (hc : W.rangeAt b o' cs)
  (hu : P.underlying ty = some d) (hd : d.isRow = true) (hi : (P.info? ty).map (·.size) = some cs.length) : (execOp a.eval o).run P W = .ok (.value (.agg cs.toArray)) W := by
 have := run_loadAt_mid (P := P) W b o' ty cs d hc hu hd hi
 simp [execOp, ho, hx, this]
theorem rangeC {W : World} {b : Nat} {x y : Value} {t : TypeId} (h : W.heap[b]? = some (.cells #[x, y] t (0, 0))) : W.rangeAt b 0 [x, y] := by
 intro j v hj
 rcases j with _ | _ | j
 ·cases hj; exact (zah h 0).trans rfl
 ·cases hj; exact (zah h 1).trans rfl
 ·cases hj
theorem bkR_succ {t : List Nat} {a k i : Nat} {s : List Nat} (h : i ≠ a) : bkR t a (k + 1) i s = bkR t a k (bef t a i) (sgn t a i :: s) := by
 unfold bkR
 rw [if_neg h]
 cases k <;> rfl
theorem infoC : (Tryd.prog.info? 108).map (fun i => (i.zero, i.size, i.bytes)) = some (some (.agg #[.string ⟨#[]⟩, .int .i64 0]), 2, 24) := by kernel_rfl
theorem info5 : (Tryd.prog.info? 5).map (fun i => (i.zero, i.size, i.bytes)) = some (some (.int .u8 0), 1, 1) := by kernel_rfl
theorem str_run {W : World} {o n : Nat} {l : List Int} (h : Blk W o .u8 5 l) (hn : l.length = n) (hm : n ≤ maxLen) : (convert 48 9 (.slice (some ⟨o, 0, none⟩) n n)).run Tryd.prog W = .ok (.string (strOfNums l)) W := by
 subst hn
 have := (Kd.R_reads' (h.R (base := 0) (Nat.zero_le _) hm (fun _ => True) trivial)).2.2
 exact Kd.C_string Tryd.underlying48 Tryd.underlying5 Tryd.underlying9 this
set_option maxHeartbeats 4000000 in
set_option maxRecDepth 100000 in
theorem back_in (t : ByteArray) (a : Nat) (r1 : ByteArray) (r2 : Int) (w : World) (ha : a ≤ t.size) (h0 : a = 0 → t.size = 0) (hs : t.size ≤ 1073741824) (h : bkO t (a : Int) = (r1, r2)) :
  Calls Tryd.prog 42 #[.string t, .int .i64 (a : Int)] w fun e w' => e = .returned (.tuple #[.string r1, .int .i64 r2]) ∧ Below w.heap.size w w' := by
 have HA := zaa.mk ha
 have HS := zaa.mk hs
 have H := zaa.mk h
 have t1 : decide ((a : Int) < 0) = false := decide_eq_false (by omega)
 have t2 : decide ((t.size : Int) < (a : Int)) = false := decide_eq_false (by omega)
 have t2b : decide (t.size < a) = false := decide_eq_false (by omega)
 have hc : (a == 0) = false ∨ ((a == 0) = true ∧ t.toList.isEmpty = true) := by
  by_cases e : a = 0
  ·exact .inr ⟨beq_iff_eq.mpr e, emp_t (h0 e)⟩
  ·exact .inl (beq_eq_false_iff_ne.mpr e)
 have HZ := zaa.mk h0
 clear ha h0 hs h
 go_enter Tryd.func42, Tryd.ntmps42
 go_upto_region 1 with (fail)
 go_cut [30] (fun v30 wc => v30 = .bool false ∧ zaa (wc = w))
 case first =>
  rcases hc with e | ⟨e, t4⟩
  ·have t3 : ((a : Int) == 0) = false := beq_eq_false_iff_ne.mpr (by have := beq_eq_false_iff_ne.mp e; omega)
   go_wp2
   go_meet
   case rel => exact ⟨rfl, ⟨rfl⟩⟩
  ·have t3 : ((a : Int) == 0) = true := beq_iff_eq.mpr (by have := beq_iff_eq.mp e; omega)
   go_wp2
   go_meet
   case rel => exact ⟨by simp [t4], ⟨rfl⟩⟩
 case rest =>
  obtain ⟨rfl, hw⟩ := hcut
  obtain rfl := hw.out
  clear t1 t2 t2b hc hw
  go_wp2_with (first
   | ((with_reducible refine zay (N := 6) rfl ?_); refine alloc_var rfl rfl infoC (cs := #[.string ⟨#[]⟩, .int .i64 0]) rfl ?_; intro gc w1 G1 X1 B1)
   | ((with_reducible refine zbx (t := 108) (p := 6) rfl ?_); refine store_var rfl 108 (.tmp 6) (.tmp 33) rfl gc #[.string t, .int .i64 (a : Int)] #[.string ⟨#[]⟩, .int .i64 0] rfl rfl X1.out sizeC rfl (by simp [Value.oneCell']) ?_; intro w2 C2 E2))
  have B2 := zaa.mk (show Below wc.heap.size wc w2 from below_grown B1.out E2.out (Nat.le_of_eq G1.out.symm) B1.out.size)
  clear X1 B1 G1 E2
  refine zcr (n := 6) (S := fun w' => w'.heap[gc]? = some (.cells #[.string t, .int .i64 (a : Int)] 108 (0, 0))) (ds := []) #[false, false, false, false, false, false] (by kernel_rfl) rfl rfl (C2.out) (fun hHeld => ?_)
  refine take_ (i := 0) (N := some 34) (v := ?_) (a' := ?_) #[true, false, false, false, false, false] rfl rfl (by kernel_rfl) (fun _ _ _ h => h) (Or.inl ⟨by rfl, ?_⟩) hHeld ?_ ?_
  rotate_left
  ·intro w' s0
   refine (load_run rfl (show _ = Value.pointer (some ⟨gc, 0, none⟩) from rfl) (rangeC s0) Tryd.underlying108 rfl sizeC).trans ?_
   with_reducible rfl
  rotate_left
  ·simp only [Act.put, sAt, sZr, sSc, i64_w, i32_w]
   rfl
  refine pure_ (i := 1) (N := some 35) (v := ?_) (a' := ?_) #[true, true, false, false, false, false] rfl rfl (by kernel_rfl) (fun _ _ _ h => h) (Or.inl ⟨by rfl, ?_⟩) ?_ ?_
  rotate_left
  ·intro w'
   go_simp
   with_reducible rfl
  rotate_left
  ·simp only [Act.put, sAt, sZr, sSc, i64_w, i32_w]
   rfl
  refine take_ (i := 2) (N := some 36) (v := ?_) (a' := ?_) #[true, true, true, false, false, false] rfl rfl (by kernel_rfl) (fun _ _ _ h => h) (Or.inl ⟨by rfl, ?_⟩) hHeld ?_ ?_
  rotate_left
  ·intro w' s0
   refine (load_run rfl (show _ = Value.pointer (some ⟨gc, 0, none⟩) from rfl) (rangeC s0) Tryd.underlying108 rfl sizeC).trans ?_
   with_reducible rfl
  rotate_left
  ·simp only [Act.put, sAt, sZr, sSc, i64_w, i32_w]
   rfl
  refine one_ (i := 3) (N := some 37) #[true, true, true, true, false, false] rfl rfl (by kernel_rfl) (by decide) (fun K hK => ?_)
  refine goes_ Tryd.func63 (by kernel_rfl) rfl #[.agg #[.string t, .int .i64 (a : Int)]] (by rfl) rfl rfl (by simp only [List.map_toArray, List.map_cons, List.map_nil]; rfl) ?_
  with_reducible refine (ahead_ok t a w2.drew HA.out HS.out).mono ?_
  rintro e w3 ⟨gn, rfl, hg, hn, hb⟩
  refine ⟨_, rfl, ?_⟩
  have GN := zaa.mk hg
  have N3 := zaa.mk hn
  have C3 := zaa.mk (show Col w3 gc t a from za6 (show w2.drew.heap[gc]? = _ from C2.out) hb)
  have B3 := zaa.mk (zaf (zbl (Below.refl w2.heap.size w2)) hb)
  clear hg hn hb
  refine hK.out _ _ (C3.out) (fun hHeld => ?_)
  clear hK K
  refine norm_ (a' := ?_) ?_ ?_
  rotate_left
  ·show Act.put _ (some 37) _ = _
   simp only [Act.put, sAt, sZr, sSc, i64_w, i32_w]
   rfl
  refine pure_ (i := 4) (N := some 7) (v := ?_) (a' := ?_) #[true, true, true, true, true, false] rfl rfl (by kernel_rfl) (fun _ _ _ h => h) (Or.inl ⟨by rfl, ?_⟩) ?_ ?_
  rotate_left
  ·intro w'
   go_simp
   with_reducible rfl
  rotate_left
  ·simp only [Act.put, sAt, sZr, sSc, i64_w, i32_w]
   rfl
  refine pure_ (i := 5) (N := some 8) (v := ?_) (a' := ?_) #[true, true, true, true, true, true] rfl rfl (by kernel_rfl) (fun _ _ _ h => h) (Or.inl ⟨by rfl, ?_⟩) ?_ ?_
  rotate_left
  ·intro w'
   go_simp
   with_reducible rfl
  rotate_left
  ·simp only [Act.put, sAt, sZr, sSc, i64_w, i32_w]
   rfl
  refine done_ (by kernel_rfl) ?_
  have B5 := zaa.mk (zaf B2.out B3.out)
  have GN' := zaa.mk (Nat.le_trans B2.out.size GN.out)
  clear B2 B3 GN C2 C3 hHeld
  go_wp2_with (first
   | ((with_reducible refine zay (N := 40) rfl ?_); refine zce rfl rfl t.size rfl rfl Tryd.underlying48 .u8 info5 (by decide) (by have := HS.out; omega) ?_; intro gb w6 G6 K6 B6))
  have NE := zaa.mk (show gn ≠ gb from Nat.ne_of_lt (Nat.lt_of_lt_of_le N3.out.lt G6.out))
  have N6 := zaa.mk (N3.out.below B6.out)
  have B7 := zaa.mk (zaf B5.out B6.out)
  have GB := zaa.mk (Nat.le_trans B5.out.size G6.out)
  clear N3 B5 B6 G6
  go_loopg [10, 11] t.size (fun q v10 v11 w' => ∃ (I K : Int) (i : Nat) (s : List Nat), v10 = .int .i64 I ∧ v11 = .int .i64 K ∧ zaa (I = (i : Int) ∧ K = (q : Int) - 1 ∧ s.length + q = t.size ∧ i ≤ t.size ∧ (∀ x ∈ s, x < 256) ∧ bkR (nb t) a q i s = bkR (nb t) a t.size 0 []) ∧ zaa (Blk w' gn .i64 3 (tabn (t.size + 1) (fun k => (bef (nb t) a k : Int)))) ∧ zaa (Blk w' gb .u8 5 (List.replicate q 0 ++ iN s)) ∧ zaa (Below wc.heap.size wc w'))
  case atStart => exact ⟨0, _, 0, [], rfl, rfl, ⟨rfl, w64 (by omega) (by have := HS.out; omega), by rw [List.length_nil]; omega, Nat.zero_le _, (fun _ h => nomatch h), rfl⟩, N6, ⟨by have h := K6.out; unfold iN; rw [List.map_nil, List.append_nil]; exact h⟩, B7⟩
  case round =>
   clear N6 K6 B7
   obtain ⟨I, K, i, s, rfl, rfl, HI, N, O, B⟩ := hrel
   cases gk with
   | zero =>
    have t1 : decide (0 ≤ K) = false := decide_eq_false (by have := HI.out; omega)
    have hsl : s.length = t.size := by have := HI.out; omega
    have hO := O.out
    rw [List.replicate_zero, List.nil_append] at hO
    have hcv := str_run (n := t.size) hO (by rw [zb1]; exact hsl) (by have := HS.out; unfold maxLen; omega)
    have hny : nb (strOfNums (iN s)) = s := nb_str s HI.out.2.2.2.2.1
    have hys : (strOfNums (iN s)).size = t.size := by rw [← zas, hny, hsl]
    have hH := H.out
    unfold bkO at hH
    rw [if_neg (by have := HA.out; rintro (h | h | ⟨h1, h2⟩); (omega); (omega); exact h2 (HZ.out (by omega))), Int.toNat_natCast, ← HI.out.2.2.2.2.2] at hH
    simp only [bkR] at hH
    generalize strOfNums (iN s) = y at hcv hny hys hH
    obtain ⟨kk, hk⟩ := (turn_ev (s := y) (by rw [hys]; exact HS.out)).rounds
    have HK := zaa.mk hk
    clear hk hny hO hsl
    by_cases c1 : tS y = t
    ·have f1 : ((tS y).toList != t.toList) = false := bne_eq_false_iff_eq.mpr (by rw [c1])
     have f0 : ((tS y).toList == t.toList) = true := beq_iff_eq.mpr (by rw [c1])
     by_cases c2 : (tA y : Int) = (a : Int)
     ·have f2 : ((tA y : Int) != (a : Int)) = false := bne_eq_false_iff_eq.mpr c2
      have f3 : (tA y == a) = true := beq_iff_eq.mpr (by omega)
      have f4 : (tA y != a) = false := bne_eq_false_iff_eq.mpr (by omega)
      have f5 : ((tA y : Int) == (a : Int)) = true := beq_iff_eq.mpr c2
      rw [if_pos ⟨c1, c2⟩] at hH
      have HH := zaa.mk hH
      clear hH c1 c2 hys
      go_wp2_with (first
       | (go_at_call 9; (with_reducible refine (zbv.calls kk y (tS y) (tA y : Int) _ HK.out).mono ?_); rintro e w7 ⟨rfl, hB⟩; have B7 := zaa.mk (zaf B.out hB); clear hB))
      go_ret2
      obtain ⟨rfl, rfl⟩ := Prod.mk.inj HH.out
      exact ⟨rfl, B7.out⟩
     ·have f2 : ((tA y : Int) != (a : Int)) = true := bne_iff_ne.mpr c2
      have f3 : (tA y == a) = false := beq_eq_false_iff_ne.mpr (by omega)
      have f4 : (tA y != a) = true := bne_iff_ne.mpr (by omega)
      have f5 : ((tA y : Int) == (a : Int)) = false := beq_eq_false_iff_ne.mpr c2
      rw [if_neg (fun z => c2 z.2)] at hH
      have HH := zaa.mk hH
      clear hH c1 c2 hys
      go_wp2_with (first
       | (go_at_call 9; (with_reducible refine (zbv.calls kk y (tS y) (tA y : Int) _ HK.out).mono ?_); rintro e w7 ⟨rfl, hB⟩; have B7 := zaa.mk (zaf B.out hB); clear hB))
      go_ret2
      obtain ⟨rfl, rfl⟩ := Prod.mk.inj HH.out
      exact ⟨rfl, B7.out⟩
    ·have f1 : ((tS y).toList != t.toList) = true := bne_iff_ne.mpr (fun z => c1 (nb_inj (by rw [ByteArray.toList_eq, ByteArray.toList_eq] at z; unfold nb; rw [z])))
     have f0 : ((tS y).toList == t.toList) = false := beq_eq_false_iff_ne.mpr (bne_iff_ne.mp f1)
     rw [if_neg (fun z => c1 z.1)] at hH
     have HH := zaa.mk hH
     clear hH c1 hys
     go_wp2_with (first
      | (go_at_call 9; (with_reducible refine (zbv.calls kk y (tS y) (tA y : Int) _ HK.out).mono ?_); rintro e w7 ⟨rfl, hB⟩; have B7 := zaa.mk (zaf B.out hB); clear hB))
     go_ret2
     obtain ⟨rfl, rfl⟩ := Prod.mk.inj HH.out
     exact ⟨rfl, B7.out⟩
   | succ q =>
    have t1 : decide (0 ≤ K) = true := decide_eq_true (by have := HI.out; omega)
    by_cases hia : i = a
    ·have t2 : (I == (a : Int)) = true := beq_iff_eq.mpr (by have := HI.out; omega)
     have hH := H.out
     unfold bkO at hH
     rw [if_neg (by have := HA.out; rintro (h | h | ⟨h1, h2⟩); (omega); (omega); exact h2 (HZ.out (by omega))), Int.toNat_natCast, ← HI.out.2.2.2.2.2] at hH
     unfold bkR at hH
     rw [if_pos hia] at hH
     have HH := zaa.mk hH
     clear hH hia
     go_wp2
     go_ret2
     obtain ⟨rfl, rfl⟩ := Prod.mk.inj HH.out
     exact ⟨rfl, B.out⟩
    ·have t2 : (I == (a : Int)) = false := beq_eq_false_iff_ne.mpr (by have := HI.out; omega)
     have hR := (bkR_succ hia).symm.trans HI.out.2.2.2.2.2
     obtain ⟨x, hx⟩ : ∃ x, sgn (nb t) a i = x := ⟨_, rfl⟩
     have SG := zaa.mk (show zbz.f t (a : Int) I = some (x : Int) by rw [HI.out.1, sign_at HA.out HI.out.2.2.2.1 hia HS.out, hx])
     have hxl : x < 256 := by rw [← hx]; exact sgn_lt (nb_lt t) a i
     rw [hx] at hR
     have hbl := bef_le (nb t) (a := a) (i := i) (by rw [zas]; exact HA.out) (by rw [zas]; exact HI.out.2.2.2.1)
     rw [zas] at hbl
     have hkn := N.out.cell i (by rw [za2]; have := HI.out; omega)
     rw [zbr (by have := HI.out; omega)] at hkn
     obtain ⟨j, hj⟩ : ∃ j, bef (nb t) a i = j := ⟨_, rfl⟩
     rw [hj] at hR hbl hkn
     have eI : I.toNat = i := by have := HI.out; omega
     have eK : K.toNat = q := by have := HI.out; omega
     rw [← eI] at hkn
     have p1 : (0 ≤ K) = True := eq_true (by have := HI.out; omega)
     have q1 : (K < (t.size : Int)) = True := eq_true (by have := HI.out; omega)
     have p2 : (0 ≤ I) = True := eq_true (by have := HI.out; omega)
     have q2 : (I < (t.size : Int) + 1) = True := eq_true (by have := HI.out; omega)
     have HL := zaa.mk (show K.toNat < (List.replicate (q + 1) (0 : Int) ++ iN s).length by rw [List.length_append, List.length_replicate]; omega)
     have NEb := NE.out
     have HX := zaa.mk (And.intro hR (And.intro hbl (And.intro hxl eK)))
     clear hR hbl hxl eK eI hx hia hj
     go_wp2_with (first
      | ((with_reducible refine zay (N := 55) rfl ?_); refine goesV_ (some 55) rfl rfl Tryd.func62 (by kernel_rfl) rfl rfl rfl #[.agg #[.string t, .int .i64 (a : Int)], .int .i64 I] (by simp [go_sem]) ?_; (with_reducible refine (zbz.calls t (a : Int) I (x : Int) _ SG.out).mono ?_); rintro e w7 ⟨rfl, hB⟩; refine ⟨_, rfl, ?_⟩; have N7 := zaa.mk (N.out.below hB); have O7 := zaa.mk (O.out.below hB); have B7 := zaa.mk (zaf B.out hB); have k7 := (hB.cell (World.block_lt_of_cell? wr _ hkn)).trans hkn; have c7 := O7.out.cell K.toNat HL.out; have f7 := O7.out.free K.toNat; clear hB hkn))
     go_roundg q
     case measure => omega
     case rel =>
      refine ⟨_, _, j, x :: s, rfl, rfl, ⟨?_, ?_, ?_, HX.out.2.1, ?_, HX.out.1⟩, ⟨N7.out.far NE.out _⟩, ⟨?_⟩, ⟨zat B7.out GB.out⟩⟩
      ·rfl
      ·have := HI.out; have := HS.out; rw [w64 (by omega) (by omega)]; omega
      ·have := HI.out; rw [List.length_cons]; omega
      ·intro y hy
       rcases List.mem_cons.1 hy with e | e
       ·rw [e]; exact HX.out.2.2.1
       ·exact HI.out.2.2.2.2.1 y e
      ·have h := O7.out.put K.toNat (x : Int)
       have e : (List.replicate (q + 1) (0 : Int) ++ iN s).set K.toNat (x : Int) = List.replicate q 0 ++ iN (x :: s) := by
        rw [HX.out.2.2.2, List.set_append, if_pos (by rw [List.length_replicate]; omega), List.replicate_succ', List.set_append, if_neg (by rw [List.length_replicate]; omega), List.length_replicate, Nat.sub_self]
        simp [iN]
       rw [e] at h
       exact h
theorem back_ok (t : ByteArray) (a : Int) (r1 : ByteArray) (r2 : Int) (w : World) (hs : t.size ≤ 1073741824) (h : bkO t a = (r1, r2)) :
  Calls Tryd.prog 42 #[.string t, .int .i64 a] w fun e w' => e = .returned (.tuple #[.string r1, .int .i64 r2]) ∧ Below w.heap.size w w' := by
 by_cases hb : a < 0 ∨ (t.size : Int) < a ∨ (a = 0 ∧ t.size ≠ 0)
 ·unfold bkO at h
  rw [if_pos hb] at h
  obtain ⟨rfl, rfl⟩ := Prod.mk.inj h
  exact back_bad t a w hb
 ·obtain ⟨n, rfl⟩ : ∃ n : Nat, a = (n : Int) := ⟨a.toNat, by omega⟩
  exact back_in t n r1 r2 w (by omega) (fun e => by omega) hs h
def bwt_Back.f (t : ByteArray) (a : Int) : Option (ByteArray × Int) := if t.size ≤ 1073741824 then some (bkO t a) else none
theorem bwt_Back.calls (t : ByteArray) (a : Int) (r1 : ByteArray) (r2 : Int) (w : World) (h : bwt_Back.f t a = some (r1, r2)) :
  Calls Tryd.prog 42 #[.string t, .int .i64 a] w fun e w' => e = .returned (.tuple #[.string r1, .int .i64 r2]) ∧ Below w.heap.size w w' := by
 unfold bwt_Back.f at h
 split at h
 ·rename_i hs
  exact back_ok t a r1 r2 w hs (Option.some.inj h)
 ·cases h
end Go.Proofs.YtdifgiceallpiaaDoor.Hd
end
section
namespace Go.Proofs.YtdifgiceallpiaaDoor.Hd
open Go Go.RowKit YtdifgiceallpiaaDoorW.PrintWords YtdifgiceallpiaaDoorW.PrintLast YtdifgiceallpiaaDoorW.PrintMore YtdifgiceallpiaaDoor.Hw YtdifgiceallpiaaDoor.Com YtdifgiceallpiaaDoor.P YtdifgiceallpiaaDoor.Pure
attribute [local go_sem] za9 za8 zbi zbj za0 za1 zba zbb
theorem so_get {α : Type} {g : Nat → Option α} {r : α} (h : Ev g r) : ∃ k, g k = some r := by
 obtain ⟨k, h⟩ := h
 exact ⟨k, h k (Nat.le_refl _)⟩
theorem turn_at (s : ByteArray) (w : World) (hs : s.size ≤ 65536) : Calls Tryd.prog 9 #[.string s] w fun e w' => e = .returned (.tuple #[.string (tS s), .int .i64 (tA s : Int)]) ∧ Below w.heap.size w w' := by
 obtain ⟨k, hk⟩ := so_get (turn_ev (s := s) (by omega))
 exact zbv.calls k s _ _ w hk
theorem move_at (s : ByteArray) (w : World) (hs : s.size ≤ 65536) : Calls Tryd.prog 11 #[.string (tS s)] w fun e w' => ∃ A c, e = .returned (.slice A s.size c) ∧ s.size ≤ c ∧ Kd.C (Kd.int .i64) w' A s.size (mvT s) ∧ Below w.heap.size w w' := by
 have hf : zbu.f (tS s) = some (mvT s) := by unfold zbu.f; rw [if_pos (by rw [tS_size]; omega)]; rfl
 refine (zbu.calls (tS s) _ w hf).mono ?_
 rintro e w' ⟨v, rfl, hR, hB⟩
 obtain ⟨A, c, rfl, hl, hC⟩ := Kd.R_reads hR
 rw [zcp] at hl hC ⊢
 exact ⟨A, c, rfl, hl, hC, hB⟩
theorem pack_at (s : ByteArray) (A : Option Addr) (c : Nat) (w : World) (hs : s.size ≤ 65536) (hC : Kd.C (Kd.int .i64) w A s.size (mvT s)) (hc : s.size ≤ c) : Calls Tryd.prog 10 #[.slice A s.size c] w fun e w' => ∃ A c, e = .returned (.tuple #[.slice A (sgT s).length c, .int .i64 0]) ∧ (sgT s).length ≤ c ∧ Kd.C (Kd.int .i64) w' A (sgT s).length (sgT s) ∧ Below w.heap.size w w' := by
 obtain ⟨k, hk⟩ := so_get (pack_ev (mvT s) (by rw [zcp]; omega))
 rw [sgT_eq] at hk
 rw [← zcp s] at hC hc ⊢
 refine (zbh.calls k A c (mvT s) _ _ w hC hc hk).mono ?_
 rintro e w' ⟨v, rfl, hR, hB⟩
 obtain ⟨A, c, rfl, hl, hC⟩ := Kd.R_reads hR
 exact ⟨A, c, rfl, hl, hC, hB⟩
theorem vput_at (n : Nat) (w : World) (hn : n ≤ 65536) : Calls Tryd.prog 12 #[.int .i64 (n : Int)] w fun e w' => e = .returned (.tuple #[.string (bs n), .int .i64 0]) ∧ Below w.heap.size w w' := by
 obtain ⟨k, hk⟩ := so_get (put_ev (n : Int))
 have e : put (n : Int) = (bs n, 0) := by
  unfold put inR
  rw [decide_eq_true (by omega), if_pos rfl, Int.toNat_natCast]
 rw [e] at hk
 exact zbs.calls k _ _ _ w hk
theorem benc_at (s : ByteArray) (A : Option Addr) (c : Nat) (w : World) (hs : s.size ≤ 65536) (hC : Kd.C (Kd.int .i64) w A (sgT s).length (sgT s)) (hc : (sgT s).length ≤ c) : Calls Tryd.prog 13 #[.slice A (sgT s).length c, .int .i64 9] w fun e w' => e = .returned (.tuple #[.string (enB s), .int .i64 0]) ∧ Below w.heap.size w w' := by
 have hf : zcb.f (sgT s) 9 = some (enB s, 0) := by
  unfold zcb.f
  rw [if_pos (by have := zci s; omega), enB_eq hs]
 exact zcb.calls A c (sgT s) 9 _ _ w hC hc hf
theorem putT_eq (s : ByteArray) : ((((⟨#[]⟩ : ByteArray) ++ bs s.size) ++ bs (tA s)) ++ bs (sgT s).length) ++ enB s = putT s := by
 have e : (⟨#[]⟩ : ByteArray) ++ bs s.size = bs s.size := ByteArray.empty_append
 rw [e]
 rfl
theorem ix0 (x y z : Value) (W : World) : (Instr.index 33 (.agg #[x, y, z]) (.int .i64 0)).run Tryd.prog W = .ok x W := by kernel_rfl
theorem ix1 (x y z : Value) (W : World) : (Instr.index 33 (.agg #[x, y, z]) (.int .i64 1)).run Tryd.prog W = .ok y W := by kernel_rfl
theorem ix2 (x y z : Value) (W : World) : (Instr.index 33 (.agg #[x, y, z]) (.int .i64 2)).run Tryd.prog W = .ok z W := by kernel_rfl
attribute [local go_sem] ix0 ix1 ix2
theorem put_ok (s : ByteArray) (w : World) (hs : s.size ≤ 65536) : Calls Tryd.prog 6 #[.string s] w fun e w' => e = .returned (.tuple #[.string (putT s), .int .i64 0]) ∧ Below w.heap.size w w' := by
 have t1 : decide (65536 < (s.size : Int)) = false := decide_eq_false (by omega)
 have t1b : decide (65536 < s.size) = false := decide_eq_false (by omega)
 have HS := zaa.mk hs
 have HA := zaa.mk (show tA s ≤ 65536 by have := tA_le s; omega)
 have HL := zaa.mk (show (sgT s).length ≤ 65536 by have := zci s; omega)
 have HE := zaa.mk (putT_eq s)
 have z0 : (⟨#[]⟩ : ByteArray).size = 0 := rfl
 have b1 := bs_small hs
 have b2 := bs_small HA.out
 have b3 := bs_small HL.out
 have b4 := enB_size hs
 have s0 : (9223372036854775807 < (⟨#[]⟩ : ByteArray).size + (bs s.size).size) = False := eq_false (by omega)
 have s1 : (9223372036854775807 < (bs s.size).size) = False := eq_false (by omega)
 have s2 : (9223372036854775807 < (⟨#[]⟩ : ByteArray).size + (bs s.size).size + (bs (tA s)).size) = False := eq_false (by omega)
 have s3 : (9223372036854775807 < (bs s.size).size + (bs (tA s)).size) = False := eq_false (by omega)
 have s4 : (9223372036854775807 < (⟨#[]⟩ : ByteArray).size + (bs s.size).size + (bs (tA s)).size + (bs (sgT s).length).size) = False := eq_false (by omega)
 have s5 : (9223372036854775807 < (bs s.size).size + (bs (tA s)).size + (bs (sgT s).length).size) = False := eq_false (by omega)
 have s6 : (9223372036854775807 < (⟨#[]⟩ : ByteArray).size + (bs s.size).size + (bs (tA s)).size + (bs (sgT s).length).size + (enB s).size) = False := eq_false (by omega)
 have s7 : (9223372036854775807 < (bs s.size).size + (bs (tA s)).size + (bs (sgT s).length).size + (enB s).size) = False := eq_false (by omega)
 clear hs z0 b1 b2 b3 b4
 go_enter Tryd.func6, Tryd.ntmps6
 go_wp2_with (first
  | (go_at_call 9; (with_reducible refine (turn_at s _ HS.out).mono ?_); rintro e w1 ⟨rfl, hB⟩; have B1 := zaa.mk hB; clear hB)
  | (go_at_call 11; (with_reducible refine (move_at s _ HS.out).mono ?_); rintro e w2 ⟨A, c, rfl, hc, hC, hB⟩; have B2 := zaa.mk (zaf B1.out hB); have C2 := zaa.mk hC; have D2 := zaa.mk hc; clear hB hC hc)
  | (go_at_call 10; (with_reducible refine (pack_at s A c _ HS.out C2.out D2.out).mono ?_); rintro e w3 ⟨A3, c3, rfl, hc, hC, hB⟩; have B3 := zaa.mk (zaf B2.out hB); have C3 := zaa.mk hC; have D3 := zaa.mk hc; clear hB hC hc))
 refine wp_loop_rounds 4 ?_
 rw [rounds_succ]
 go_wp2_with (first
  | (go_at_call 12; (with_reducible refine (vput_at s.size _ HS.out).mono ?_); rintro e w4 ⟨rfl, hB⟩; have C4 := zaa.mk (Kd.C_below C3.out hB); have B4 := zaa.mk (zaf B3.out hB); clear hB))
 rw [rounds_succ]
 go_wp2_with (first
  | (go_at_call 12; (with_reducible refine (vput_at (tA s) _ HA.out).mono ?_); rintro e w5 ⟨rfl, hB⟩; have C5 := zaa.mk (Kd.C_below C4.out hB); have B5 := zaa.mk (zaf B4.out hB); clear hB))
 rw [rounds_succ]
 go_wp2_with (first
  | (go_at_call 12; (with_reducible refine (vput_at (sgT s).length _ HL.out).mono ?_); rintro e w6 ⟨rfl, hB⟩; have C6 := zaa.mk (Kd.C_below C5.out hB); have B6 := zaa.mk (zaf B5.out hB); clear hB))
 rw [rounds_succ]
 go_wp2_with (first
  | (go_at_call 13; (with_reducible refine (benc_at s A3 c3 _ HS.out C6.out D3.out).mono ?_); rintro e w7 ⟨rfl, hB⟩; have B7 := zaa.mk (zaf B6.out hB); clear hB))
 go_ret2
 exact ⟨by rw [← HE.out]; rfl, B7.out⟩
end Go.Proofs.YtdifgiceallpiaaDoor.Hd
end
section
namespace Go.Proofs.YtdifgiceallpiaaDoor.Hd
open Go Go.RowKit YtdifgiceallpiaaDoorW.PrintWords YtdifgiceallpiaaDoorW.PrintLast YtdifgiceallpiaaDoorW.PrintMore YtdifgiceallpiaaDoor.Hw YtdifgiceallpiaaDoor.Com YtdifgiceallpiaaDoor.P YtdifgiceallpiaaDoor.Pure
attribute [local go_sem] za9 za8 zbi zbj za0 za1 zba zbb
theorem results_cell2 {P : Program} {fn : Func} {p t u : Tmp} {ty : TypeId} (h : fn.results = #[.cell p ty, .tmp t, .tmp u]) (tmps : Array Value) (w : World) (g : Nat) (k : IntKind) (r : List Int) (d : TypeDesc)
 (hp : tmps.getD p undef = .pointer (some ⟨g, 0, none⟩)) (hg : Blk w g k ty r) (hu : P.underlying ty = some d) (hd : (match d with | .struct _ | .array _ _ => true | _ => false) = true) (hi : (P.info? ty).map (·.size) = some r.length) :
 (results fn tmps).run P w = .ok (.tuple #[.agg (ints k r), tmps.getD t undef, tmps.getD u undef]) w := by
 have hp' : tmps[p]?.getD undef = .pointer (some ⟨g, 0, none⟩) := by simpa using hp
 simp [results, h, hp', asAddr, run_loadVar_row w g ty ty (ints k r) (0, 0) d hg hu hd (by rw [ints_size]; exact hi)]
theorem infoA3 : (Tryd.prog.info? 33).map (fun i => (i.zero, i.size, i.bytes)) = some (some (.agg #[.int .i64 0, .int .i64 0, .int .i64 0]), 3, 24) := by kernel_rfl
theorem sizeA3 : (Tryd.prog.info? 33).map (·.size) = some 3 := by kernel_rfl
theorem zeroA3 : (Value.agg #[.int .i64 0, .int .i64 0, .int .i64 0]).cells = ints .i64 [0, 0, 0] := rfl
theorem vread_at (s t : ByteArray) (n e0 : Int) (w : World) (h : rdS s 5 = (n, t, e0)) : Calls Tryd.prog 57 #[.string s] w fun e w' => e = .returned (.tuple #[.int .i64 n, .string t, .int .i64 e0]) ∧ Below w.heap.size w w' := by
 obtain ⟨k, hk⟩ := so_get (read_ev s)
 rw [h] at hk
 refine (zbm.calls k s _ _ _ w hk).mono ?_
 rintro e w' ⟨rfl, hd⟩
 exact ⟨rfl, hd.below⟩
theorem numbers_ok (s rest : ByteArray) (n0 n1 n2 : Int) (w : World) (hN : Nums s n0 n1 n2 rest) (h0 : n0 ≤ 65536) (h2 : n2 ≤ 1048576) :
 Calls Tryd.prog 37 #[.string s] w fun e w' => e = .returned (.tuple #[.agg #[.int .i64 n0, .int .i64 n1, .int .i64 n2], .string rest, .nilIface]) ∧ Below w.heap.size w w' := by
 obtain ⟨s1, s2, r0, r1, r2⟩ := hN
 have R0 := zaa.mk r0
 have R1 := zaa.mk r1
 have R2 := zaa.mk r2
 have t1 : decide (65536 < n0) = false := decide_eq_false (by omega)
 have t2 : decide (1048576 < n2) = false := decide_eq_false (by omega)
 clear r0 r1 r2 h0 h2
 have B0 := zaa.mk (Below.refl w.heap.size w)
 go_enter Tryd.func37, Tryd.ntmps37
 go_wp2_with (first
 | ((with_reducible refine zay (N := 2) rfl ?_); refine zcs rfl rfl infoA3 .i64 _ zeroA3 ?_; intro g2 w1 G2 K2 B1)
 | ((with_reducible refine zay (N := 5) rfl ?_); refine zcs rfl rfl infoA3 .i64 _ zeroA3 ?_; intro g5 w2 G5 K5 B2; have NE := zaa.mk (show g2 ≠ g5 by have := K2.out.lt; have := G5.out; omega); have GE := zaa.mk (show w.heap.size ≤ g5 by have := B1.out.size; have := G5.out; omega); have K2 := zaa.mk (K2.out.below B2.out); have BA := zaa.mk (zaf B1.out B2.out)))
 clear B1 B2 G5
 refine wp_loop_rounds 4 ?_
 rw [rounds_succ]
 go_wp2_with (first
 | (go_at_call 57; (with_reducible refine (vread_at s s1 n0 0 _ R0.out).mono ?_); rintro e w3 ⟨rfl, hB⟩; have K2 := zaa.mk (K2.out.below hB); have K5 := zaa.mk (K5.out.below hB); have B3 := zaa.mk (zaf BA.out hB); have c5 := K5.out.cell 0 (show 0 < 3 by decide); have f5 := K5.out.free 0; clear hB BA))
 have K5 := zaa.mk (show Blk _ g5 .i64 33 [n0, 0, 0] from K5.out.put 0 n0)
 have K2 := zaa.mk (K2.out.far (p := ⟨g5, 0, none⟩) NE.out (.int .i64 n0))
 have BA := zaa.mk (zat (j := 0) (v := .int .i64 n0) B3.out GE.out)
 clear B3 c5 f5
 rw [rounds_succ]
 go_wp2_with (first
 | (go_at_call 57; (with_reducible refine (vread_at s1 s2 n1 0 _ R1.out).mono ?_); rintro e w3 ⟨rfl, hB⟩; have K2 := zaa.mk (K2.out.below hB); have K5 := zaa.mk (K5.out.below hB); have B3 := zaa.mk (zaf BA.out hB); have c5 := K5.out.cell 1 (show 1 < 3 by decide); have f5 := K5.out.free 1; clear hB BA))
 have K5 := zaa.mk (show Blk _ g5 .i64 33 [n0, n1, 0] from K5.out.put 1 n1)
 have K2 := zaa.mk (K2.out.far (p := ⟨g5, 1, none⟩) NE.out (.int .i64 n1))
 have BA := zaa.mk (zat (j := 1) (v := .int .i64 n1) B3.out GE.out)
 clear B3 c5 f5
 rw [rounds_succ]
 go_wp2_with (first
 | (go_at_call 57; (with_reducible refine (vread_at s2 rest n2 0 _ R2.out).mono ?_); rintro e w3 ⟨rfl, hB⟩; have K2 := zaa.mk (K2.out.below hB); have K5 := zaa.mk (K5.out.below hB); have B3 := zaa.mk (zaf BA.out hB); have c5 := K5.out.cell 2 (show 2 < 3 by decide); have f5 := K5.out.free 2; clear hB BA))
 have K5 := zaa.mk (show Blk _ g5 .i64 33 [n0, n1, n2] from K5.out.put 2 n2)
 have K2 := zaa.mk (K2.out.far (p := ⟨g5, 2, none⟩) NE.out (.int .i64 n2))
 have BA := zaa.mk (zat (j := 2) (v := .int .i64 n2) B3.out GE.out)
 clear B3 c5 f5
 have d0 := K5.out.cell 0 (show 0 < 3 by decide)
 have d2 := K5.out.cell 2 (show 2 < 3 by decide)
 rw [rounds_succ]
 go_wp2_with (first
 | ((with_reducible refine zay (N := 41) rfl ?_); refine load_blk rfl 33 (.tmp 5) rfl g5 rfl .i64 _ K5.out _ Tryd.underlying33 rfl sizeA3 ?_)
 | ((with_reducible refine zbx (t := 33) (p := 2) rfl ?_); refine store_blk rfl 33 (.tmp 2) (.tmp 41) rfl g2 .i64 _ [n0, n1, n2] rfl rfl K2.out sizeA3 rfl ?_; intro w4 K4 E4))
 refine bodyPost_ret (results_cell2 rfl _ _ g2 .i64 [n0, n1, n2] _ rfl K4.out Tryd.underlying33 rfl sizeA3) rfl ?_
 exact ⟨rfl, below_grown BA.out E4.out G2.out BA.out.size⟩
theorem numbers_short (s s1 s2 rest : ByteArray) (n0 n1 n2 : Int) (w : World) (r0 : rdS s 5 = (n0, s1, 0)) (r1 : rdS s1 5 = (n1, s2, 0)) (r2 : rdS s2 5 = (n2, rest, 3)) :
 Calls Tryd.prog 37 #[.string s] w fun e w' => e = .returned (.tuple #[.agg #[.int .i64 n0, .int .i64 n1, .int .i64 0], .string ⟨#[]⟩, .iface 45 (.agg #[.int .i64 3])]) ∧ Below w.heap.size w w' := by
 have R0 := zaa.mk r0
 have R1 := zaa.mk r1
 have R2 := zaa.mk r2
 clear r0 r1 r2
 have B0 := zaa.mk (Below.refl w.heap.size w)
 go_enter Tryd.func37, Tryd.ntmps37
 go_wp2_with (first
 | ((with_reducible refine zay (N := 2) rfl ?_); refine zcs rfl rfl infoA3 .i64 _ zeroA3 ?_; intro g2 w1 G2 K2 B1)
 | ((with_reducible refine zay (N := 5) rfl ?_); refine zcs rfl rfl infoA3 .i64 _ zeroA3 ?_; intro g5 w2 G5 K5 B2; have NE := zaa.mk (show g2 ≠ g5 by have := K2.out.lt; have := G5.out; omega); have GE := zaa.mk (show w.heap.size ≤ g5 by have := B1.out.size; have := G5.out; omega); have K2 := zaa.mk (K2.out.below B2.out); have BA := zaa.mk (zaf B1.out B2.out)))
 clear B1 B2 G5
 refine wp_loop_rounds 4 ?_
 rw [rounds_succ]
 go_wp2_with (first
 | (go_at_call 57; (with_reducible refine (vread_at s s1 n0 0 _ R0.out).mono ?_); rintro e w3 ⟨rfl, hB⟩; have K2 := zaa.mk (K2.out.below hB); have K5 := zaa.mk (K5.out.below hB); have B3 := zaa.mk (zaf BA.out hB); have c5 := K5.out.cell 0 (show 0 < 3 by decide); have f5 := K5.out.free 0; clear hB BA))
 have K5 := zaa.mk (show Blk _ g5 .i64 33 [n0, 0, 0] from K5.out.put 0 n0)
 have K2 := zaa.mk (K2.out.far (p := ⟨g5, 0, none⟩) NE.out (.int .i64 n0))
 have BA := zaa.mk (zat (j := 0) (v := .int .i64 n0) B3.out GE.out)
 clear B3 c5 f5
 rw [rounds_succ]
 go_wp2_with (first
 | (go_at_call 57; (with_reducible refine (vread_at s1 s2 n1 0 _ R1.out).mono ?_); rintro e w3 ⟨rfl, hB⟩; have K2 := zaa.mk (K2.out.below hB); have K5 := zaa.mk (K5.out.below hB); have B3 := zaa.mk (zaf BA.out hB); have c5 := K5.out.cell 1 (show 1 < 3 by decide); have f5 := K5.out.free 1; clear hB BA))
 have K5 := zaa.mk (show Blk _ g5 .i64 33 [n0, n1, 0] from K5.out.put 1 n1)
 have K2 := zaa.mk (K2.out.far (p := ⟨g5, 1, none⟩) NE.out (.int .i64 n1))
 have BA := zaa.mk (zat (j := 1) (v := .int .i64 n1) B3.out GE.out)
 clear B3 c5 f5
 rw [rounds_succ]
 go_wp2_with (first
 | (go_at_call 57; (with_reducible refine (vread_at s2 rest n2 3 _ R2.out).mono ?_); rintro e w3 ⟨rfl, hB⟩; have K2 := zaa.mk (K2.out.below hB); have K5 := zaa.mk (K5.out.below hB); have B3 := zaa.mk (zaf BA.out hB); clear hB BA)
 | ((with_reducible refine zay (N := 21) rfl ?_); refine load_blk rfl 33 (.tmp 5) rfl g5 rfl .i64 _ K5.out _ Tryd.underlying33 rfl sizeA3 ?_)
 | ((with_reducible refine zbx (t := 33) (p := 2) rfl ?_); refine store_blk rfl 33 (.tmp 2) (.tmp 21) rfl g2 .i64 _ [n0, n1, 0] rfl rfl K2.out sizeA3 rfl ?_; intro w4 K4 E4))
 refine bodyPost_ret (results_cell2 rfl _ _ g2 .i64 [n0, n1, 0] _ rfl K4.out Tryd.underlying33 rfl sizeA3) rfl ?_
 exact ⟨rfl, below_grown B3.out E4.out G2.out B3.out.size⟩
end Go.Proofs.YtdifgiceallpiaaDoor.Hd
end
section
namespace Go.Proofs.YtdifgiceallpiaaDoor.Hd
open Go Go.RowKit Go.Proofs.YtdifgiceallpiaaDoorW.PrintWords Go.Proofs.YtdifgiceallpiaaDoorW.PrintLast Go.Proofs.YtdifgiceallpiaaDoorW.PrintMore Go.Proofs.YtdifgiceallpiaaDoor.Hw Go.Proofs.YtdifgiceallpiaaDoor.Com Go.Proofs.YtdifgiceallpiaaDoor.P Go.Proofs.YtdifgiceallpiaaDoor.Pure
attribute [local go_sem] za9 za8 zbi zbj za0 za1 zba zbb
theorem check_ok (w : World) : Calls Tryd.prog 40 #[.int .i64 0] w fun e w' => e = .returned .nilIface ∧ Below w.heap.size w w' := by
  go_enter Tryd.func40, Tryd.ntmps40
  go_wp2
  go_ret
  exact ⟨rfl, Below.refl _ _⟩
theorem bdec_at (s T : ByteArray) (w : World) (hs : s.size ≤ 65536) : Calls Tryd.prog 38 #[.string (enB s ++ T), .int .i64 ((sgT s).length : Int), .int .i64 9] w fun e w' => ∃ A c, e = .returned (.tuple #[.slice A (sgT s).length c, .int .i64 0]) ∧ (sgT s).length ≤ c ∧ Kd.C (Kd.int .i64) w' A (sgT s).length (sgT s) ∧ Below w.heap.size w w' := by
  have hf : zcc.f (enB s ++ T) ((sgT s).length : Int) 9 = some (sgT s, 0) := by unfold zcc.f; rw [enB_dec hs T]
  refine (zcc.calls _ _ _ _ _ w hf).mono ?_
  rintro e w' ⟨v, rfl, hR, hB⟩
  obtain ⟨A, c, rfl, hl, hC⟩ := Kd.R_reads hR
  exact ⟨A, c, rfl, hl, hC, hB⟩
theorem unp_at (s : ByteArray) (A : Option Addr) (c : Nat) (w : World) (hs : s.size ≤ 65536) (hC : Kd.C (Kd.int .i64) w A (sgT s).length (sgT s)) (hc : (sgT s).length ≤ c) : Calls Tryd.prog 39 #[.slice A (sgT s).length c] w fun e w' => ∃ A c, e = .returned (.tuple #[.slice A s.size c, .int .i64 0]) ∧ s.size ≤ c ∧ Kd.C (Kd.int .i64) w' A s.size (mvT s) ∧ Below w.heap.size w w' := by
  obtain ⟨k, hk⟩ := so_get (unpack_ev (sgT s) (by have := zci s; omega))
  rw [sgT_un hs] at hk
  refine (zau.calls k A c (sgT s) _ _ w hC hc hk).mono ?_
  rintro e w' ⟨v, rfl, hR, hB⟩
  obtain ⟨A, c, rfl, hl, hC⟩ := Kd.R_reads hR
  rw [zcp] at hl hC ⊢
  exact ⟨A, c, rfl, hl, hC, hB⟩
theorem mback_at (s : ByteArray) (A : Option Addr) (c : Nat) (w : World) (hs : s.size ≤ 65536) (hC : Kd.C (Kd.int .i64) w A s.size (mvT s)) (hc : s.size ≤ c) : Calls Tryd.prog 41 #[.slice A s.size c] w fun e w' => e = .returned (.tuple #[.string (tS s), .int .i64 0]) ∧ Below w.heap.size w w' := by
  have hf : mtf_Back.f (mvT s) = some (tS s, 0) := by
    unfold mtf_Back.f
    rw [if_pos (by rw [zcp]; omega), mv_told]
  rw [← zcp s] at hC hc ⊢
  exact mtf_Back.calls A c (mvT s) _ _ w hC hc hf
theorem bback_at (s : ByteArray) (w : World) (hs : s.size ≤ 65536) : Calls Tryd.prog 42 #[.string (tS s), .int .i64 (tA s : Int)] w fun e w' => e = .returned (.tuple #[.string s, .int .i64 0]) ∧ Below w.heap.size w w' := by
  have hf : bwt_Back.f (tS s) (tA s : Int) = some (s, 0) := by unfold bwt_Back.f; rw [if_pos (by rw [tS_size]; omega), bkO_tn]
  exact bwt_Back.calls _ _ _ _ w hf
theorem nums_at (s y T : ByteArray) (w : World) (hy : y.size ≤ 65536) (hN : Nums s (y.size : Int) (tA y : Int) ((sgT y).length : Int) (enB y ++ T)) :
    Calls Tryd.prog 37 #[.string s] w fun e w' => e = .returned (.tuple #[.agg #[.int .i64 (y.size : Int), .int .i64 (tA y : Int), .int .i64 ((sgT y).length : Int)], .string (enB y ++ T), .nilIface]) ∧ Below w.heap.size w w' :=
  numbers_ok s _ _ _ _ w hN (by omega) (by have := zci y; omega)
set_option maxHeartbeats 8000000 in
set_option maxRecDepth 100000 in
theorem read_at (s y T : ByteArray) (b : Bool) (w : World) (hy : y.size ≤ 65536) (hN : Nums s (y.size : Int) (tA y : Int) ((sgT y).length : Int) (enB y ++ T)) (hb : ((putT y).toList == s.toList) = b) :
    Calls Tryd.prog 19 #[.string s] w fun e w' => e = .returned (if b then .tuple #[.string y, .nilIface] else .tuple #[.string ⟨#[]⟩, .iface 45 (.agg #[.int .i64 4])]) ∧ Below w.heap.size w w' := by
  have HY := zaa.mk hy
  have HN := zaa.mk hN
  clear hy hN
  cases b
  all_goals
   go_enter Tryd.func19, Tryd.ntmps19
   go_wp2_with (first
     | (go_at_call 37; (with_reducible refine (nums_at s y T _ HY.out HN.out).mono ?_); rintro e w1 ⟨rfl, hB⟩; have B1 := zaa.mk hB; clear hB)
     | ((with_reducible refine zay (N := 4) rfl ?_); refine zcs rfl rfl infoA3 .i64 _ zeroA3 ?_; intro g4 w2 G4 K4 B2; have GE := zaa.mk (Nat.le_trans B1.out.size G4.out); have B3 := zaa.mk (zaf B1.out B2.out); clear B1 B2 G4)
     | ((with_reducible refine zbx (t := 33) (p := 4) rfl ?_); refine store_blk rfl 33 (.tmp 4) (.tmp 21) rfl g4 .i64 _ [(y.size : Int), (tA y : Int), ((sgT y).length : Int)] rfl rfl K4.out sizeA3 rfl ?_; intro w5 K5 E5; have B5 := zaa.mk (below_grown B3.out E5.out GE.out B3.out.size); have c2 := K5.out.cell 2 (show 2 < 3 by decide); clear K4 E5 B3)
     | (go_at_call 38; (with_reducible refine (bdec_at y T _ HY.out).mono ?_); rintro e w6 ⟨A6, n6, rfl, hl, hC, hB⟩; have B6 := zaa.mk (zaf B5.out hB); have K6 := zaa.mk (K5.out.below hB); have C6 := zaa.mk hC; have L6 := zaa.mk hl; clear hB hC hl c2 B5 K5)
     | (go_at_call 39; (with_reducible refine (unp_at y A6 n6 _ HY.out C6.out L6.out).mono ?_); rintro e w7 ⟨A7, n7, rfl, hl, hC, hB⟩; have B7 := zaa.mk (zaf B6.out hB); have K7 := zaa.mk (K6.out.below hB); have C7 := zaa.mk hC; have L7 := zaa.mk hl; clear hB hC hl B6 K6)
     | (go_at_call 40; (with_reducible refine (check_ok _).mono ?_); rintro e w8 ⟨rfl, hB⟩; have B7 := zaa.mk (zaf B7.out hB); have K7 := zaa.mk (K7.out.below hB); have C7 := zaa.mk (Kd.C_below C7.out hB); have c0 := K7.out.cell 0 (show 0 < 3 by decide); have c1 := K7.out.cell 1 (show 1 < 3 by decide); clear hB)
     | (go_at_call 41; (with_reducible refine (mback_at y A7 n7 _ HY.out C7.out L7.out).mono ?_); rintro e w9 ⟨rfl, hB⟩; have B7 := zaa.mk (zaf B7.out hB); have K7 := zaa.mk (K7.out.below hB); have C7 := zaa.mk (Kd.C_below C7.out hB); clear hB)
     | (go_at_call 42; (with_reducible refine (bback_at y _ HY.out).mono ?_); rintro e w10 ⟨rfl, hB⟩; have B7 := zaa.mk (zaf B7.out hB); have K7 := zaa.mk (K7.out.below hB); have C7 := zaa.mk (Kd.C_below C7.out hB); clear hB)
     | (go_at_call 6; (with_reducible refine (put_ok y _ HY.out).mono ?_); rintro e w11 ⟨rfl, hB⟩; have B7 := zaa.mk (zaf B7.out hB); clear hB))
   go_ret2
   exact ⟨rfl, B7.out⟩
end Go.Proofs.YtdifgiceallpiaaDoor.Hd
end
