/- Words of this seat. -/
import Derived.Test.YtdifgiceallpiaaDoorXPrx0
import Derived.Test.YtdifgiceallpiaaDoorXPrx3
import Derived.Test.YtdifgiceallpiaaDoorXPureRgBack
import Derived.Test.YtdifgiceallpiaaDoorXHBtr
set_option linter.unusedVariables false
set_option linter.unusedSimpArgs false
set_option linter.unusedSectionVars false
section
-- Laid by this session's driver (wip/tools/myprint.py) over the kit's print program.
namespace Go.Proofs.YtdifgiceallpiaaDoor.Pa
end Go.Proofs.YtdifgiceallpiaaDoor.Pa
namespace Go.Proofs.YtdifgiceallpiaaDoor.Hd
end Go.Proofs.YtdifgiceallpiaaDoor.Hd
namespace Go.Proofs.YtdifgiceallpiaaDoor.Pr
open Go.RowKit YtdifgiceallpiaaDoor.Pa YtdifgiceallpiaaDoor.Hd YtdifgiceallpiaaDoorW.PrintWords YtdifgiceallpiaaDoorW.PrintLast YtdifgiceallpiaaDoorW.PrintMore
attribute [local go_sem] za9 za8 zbi zbj za0 za1 zba zbb   -- for this text's walks alone
def zan.l0 : Nat → List Bool → List Int → ByteArray → Int → Int → Int → Int → ByteArray → Option (ByteArray × Int)
 | 0, _, _, _, _, _, _, _, _ => none
 | k + 1, x0, x1, x7, x8, x179000, x179001, x179002, x179003 => if x8 < (x0.length : Int) then (if 0 ≤ x8 then (if x8 < (x1.length : Int) then ((zar.f k x179000 x179001 x179002 x179003 (rd x1 x8) (rdOf false x0 x8)).bind fun bt181 => (if x7.size + bt181.2.2.2.2.size ≤ 9223372036854775807 then (zan.l0 k x0 x1 (x7 ++ bt181.2.2.2.2) (wrap64 (x8 + 1)) bt181.1 bt181.2.1 bt181.2.2.1 bt181.2.2.2.1) else (none))) else (none)) else (none)) else (if (x0.length : Int) = 0 then (some ((⟨#[]⟩ : ByteArray), 0)) else ((some (([(x179000 / 16777216) % 256, (x179000 / 65536) % 256, (x179000 / 256) % 256, (x179000) % 256] : List Int) : List Int)).bind fun y187 => (if x7.size + (strOfNums y187).size ≤ 9223372036854775807 then (some (x7 ++ (strOfNums y187), 0)) else (none))))
def zan.f (k : Nat) (l0 : List Bool) (l1 : List Int) : Option (ByteArray × Int) := if (l0.length : Int) = (l1.length : Int) then ((zaz.f k l1).bind fun t177 => (if t177 = true then (zan.l0 k l0 l1 (⟨#[]⟩ : ByteArray) 0 0 4294967295 0 (⟨#[]⟩ : ByteArray)) else (some ((⟨#[]⟩ : ByteArray), 2)))) else (some ((⟨#[]⟩ : ByteArray), 1))
def zan.T10 : Bool × List (List Nat × List Nat) := (true, [([], []), ([], []), ([], []), ([1, 2], [1, 2]), ([3], [3]), ([], []), ([], []), ([5, 6], [5, 6]), ([7], [7]), ([0, 4, 8], [0, 4, 8]), ([9], [9]), ([10], [10]), ([10], [10]), ([], []), ([13, 11, 9, 0, 1, 2, 3, 4, 5, 6, 7, 8, 9, 10, 11, 13], [11, 13]), ([12, 14, 0, 1, 2, 3, 4, 5, 6, 7, 8, 9, 10, 11, 12, 13, 14], [12])])
def zan.B10 : List Nat := [0, 0, 0, 6, 14, 0, 0, 96, 224, 511, 1023, 2047, 2047, 0, 12287, 32767]
theorem zan.tab10 : rtab .any (opsOf Tryd.f36 10) = zan.T10 := by kernel_rfl
theorem zan.bits10 : waitsOk zan.T10.2 zan.B10 = true := by kernel_rfl
set_option maxHeartbeats 8000000 in
set_option maxRecDepth 100000 in
theorem zan.calls (k : Nat) (A0 : Option Addr) (c0 : Nat) (l0 : List Bool) (A1 : Option Addr) (c1 : Nat) (l1 : List Int) (r1 : ByteArray) (r2 : Int) (w : World) (hr0 : Kd.C Kd.bool w A0 l0.length l0) (hc0 : l0.length ≤ c0) (hr1 : Kd.C (Kd.int .i64) w A1 l1.length l1) (hc1 : l1.length ≤ c1) (h : zan.f k l0 l1 = some (r1, r2)) :
  Calls Tryd.prog 36 #[.slice A0 l0.length c0, .slice A1 l1.length c1] w fun e w' => e = .returned (.tuple #[.string r1, .int .i64 r2]) ∧ Below w.heap.size w w' := by
 have hu97 := Tryd.underlying97
 have HR0 := zaa.mk hr0
 have HC0 := zaa.mk hc0
 clear hr0 hc0
 have HR1 := zaa.mk hr1
 have HC1 := zaa.mk hc1
 clear hr1 hc1
 have HB := zaa.mk (Below.refl w.heap.size w)
 have H : (if (l0.length : Int) = (l1.length : Int) then ((zaz.f k l1).bind fun t177 => (if t177 = true then (zan.l0 k l0 l1 (⟨#[]⟩ : ByteArray) 0 0 4294967295 0 (⟨#[]⟩ : ByteArray)) else (some ((⟨#[]⟩ : ByteArray), 2)))) else (some ((⟨#[]⟩ : ByteArray), 1))) = some (r1, r2) := h
 clear h
 by_cases c3 : (l0.length : Int) = (l1.length : Int)
 ·rw [if_pos c3] at H
  have c3b0 : ((l0.length : Int) == (l1.length : Int)) = true := beq_iff_eq.mpr c3
  clear c3
  replace H := Option.bind_eq_some_iff.mp H
  obtain ⟨t177, A40, H⟩ := H
  have A4 := zaa.mk A40
  clear A40
  by_cases c5 : t177 = true
  ·subst c5
   rw [if_pos rfl] at H; have H1 := H
   clear H
   have H := H1
   clear H1
   have H' := zaa.mk H
   clear H
   go_enter Tryd.func36, Tryd.ntmps36
   go_wp2_with (first | ((with_reducible refine zbc (f := 55) rfl ?_); refine zb6 (some 17) rfl rfl Tryd.func55 (by kernel_rfl) rfl #[.slice A1 l1.length c1] rfl (by (try simp only [List.map_toArray, List.map_cons, List.map_nil]); first | done | rfl | (simp only [List.length_drop, List.length_take]; rfl)) ?_; (with_reducible refine (zaz.calls k _ _ l1 true _ ?side1 ?side2 A4.out).mono ?_); (case side1 => exact HR1.out); (case side2 => exact HC1.out); rintro e w' ⟨rfl, ⟨nd, rfl⟩⟩; refine ⟨_, rfl, ?_⟩) | ((with_reducible refine zay (N := 6) rfl ?_); refine zcq ?hg (N := 6) ?hd (cs := #[.int .u64 0, .int .u64 0, .int .u64 0, .string (⟨#[]⟩ : ByteArray)]) (t := 97) ?hr ?_; (case hd => rfl); (case hg => rfl); (case hr => first | (go_simp; done) | (go_simp; rfl)); intro gb178 hg w6 hbox hb; have n0_ := zaa.mk (zaf (by repeat (first | (with_reducible first | exact HB.out | apply zac | apply zab | apply zad) | exact HB.out)) hb); have n1_ := zaa.mk (hbox); have n2_ := zaa.mk ((by rw [hg]; exact (zam (by repeat (first | (with_reducible first | exact HB.out | apply zac | apply zab | apply zad) | exact HB.out))) : w.heap.size ≤ gb178)); have n3_ := zaa.mk ((by rw [hg]; exact (zam (by repeat (first | (with_reducible first | exact HB.out | apply zac | apply zab | apply zad) | exact HB.out))) : w.heap.size ≤ gb178)); clear HB; have HB := n0_; have BK178 := n1_; have GW178 := n2_; have GE178 := n3_; clear n0_ n1_ n2_ n3_; clear hb hbox hg; have hcz7_0 : w6.cell? ⟨gb178, 0, none⟩ = some (.int .u64 0) := (zah BK178.out 0).trans rfl; have hcz7_1 : w6.cell? ⟨gb178, 1, none⟩ = some (.int .u64 0) := (zah BK178.out 1).trans rfl; have hcz7_2 : w6.cell? ⟨gb178, 2, none⟩ = some (.int .u64 0) := (zah BK178.out 2).trans rfl; have hcz7_3 : w6.cell? ⟨gb178, 3, none⟩ = some (.string (⟨#[]⟩ : ByteArray)) := (zah BK178.out 3).trans rfl; have hfz7_0 := zao BK178.out 0; have hfz7_1 := zao BK178.out 1; have hfz7_2 := zao BK178.out 2; have hfz7_3 := zao BK178.out 3))
   go_loopg [7, 8] k (fun kq v7 v8 w' => ∃ (x7_1 : ByteArray) (x8_1 : Int) (x179000_1 : Int) (x179001_1 : Int) (x179002_1 : Int) (x179003_1 : ByteArray), v7 = .string x7_1 ∧ v8 = .int .i64 x8_1 ∧ zaa (zan.l0 kq l0 l1 x7_1 x8_1 x179000_1 x179001_1 x179002_1 x179003_1 = some (r1, r2)) ∧ zaa (kq ≤ k) ∧ zaa (w'.heap[gb178]? = some (.cells #[.int .u64 x179000_1, .int .u64 x179001_1, .int .u64 x179002_1, .string x179003_1] 97 (0, 0))) ∧ zaa (Below w.heap.size w w'))
   case atStart => exact ⟨((⟨#[]⟩ : ByteArray)), (0), (0), (4294967295), (0), ((⟨#[]⟩ : ByteArray)), rfl, rfl, H', ⟨Nat.le_refl _⟩, ⟨by (with_reducible repeat (first | refine blk_drewN ?_ _ | refine zbk ?_ | refine za7 ?_ _)); refine zb2 (cs := #[.int .u64 0, .int .u64 4294967295, .int .u64 0, .string (⟨#[]⟩ : ByteArray)]) ?_ 3 _ rfl; (with_reducible repeat (first | refine blk_drewN ?_ _ | refine zbk ?_ | refine za7 ?_ _)); refine zb2 (cs := #[.int .u64 0, .int .u64 4294967295, .int .u64 0, .string (⟨#[]⟩ : ByteArray)]) ?_ 2 _ rfl; (with_reducible repeat (first | refine blk_drewN ?_ _ | refine zbk ?_ | refine za7 ?_ _)); refine zb2 (cs := #[.int .u64 0, .int .u64 0, .int .u64 0, .string (⟨#[]⟩ : ByteArray)]) ?_ 1 _ rfl; (with_reducible repeat (first | refine blk_drewN ?_ _ | refine zbk ?_ | refine za7 ?_ _)); refine zb2 (cs := #[.int .u64 0, .int .u64 0, .int .u64 0, .string (⟨#[]⟩ : ByteArray)]) ?_ 0 _ rfl; (with_reducible repeat (first | refine blk_drewN ?_ _ | refine zbk ?_ | refine za7 ?_ _)); exact BK178.out⟩, ⟨by repeat (first | (with_reducible first | exact HB.out | apply zac | apply zab | apply zad | refine zat ?_ GE178.out) | exact HB.out)⟩⟩
   case round =>
    clear H'
    obtain ⟨x7_1, x8_1, x179000_1, x179001_1, x179002_1, x179003_1, rfl, rfl, HA, HK1, BK178, HB⟩ := hrel
    cases gk with
    | zero => exact absurd HA.out (by simp [zan.l0])
    | succ k1 =>
     have H := HA.out
     clear HA
     simp only [zan.l0] at H
     by_cases c8 : x8_1 < (l0.length : Int)
     ·rw [if_pos c8] at H
      have c8b0 : decide (x8_1 < (l0.length : Int)) = true := decide_eq_true c8
      clear c8
      by_cases c9 : 0 ≤ x8_1
      ·rw [if_pos c9] at H
       have c9b0 : decide (0 ≤ x8_1) = true := decide_eq_true c9
       clear c9
       by_cases c10 : x8_1 < (l1.length : Int)
       ·rw [if_pos c10] at H
        have c10b0 : decide (x8_1 < (l1.length : Int)) = true := decide_eq_true c10
        clear c10
        replace H := Option.bind_eq_some_iff.mp H
        obtain ⟨⟨t181, t182, t183, t184, t185⟩, A110, H⟩ := H
        have A11 := zaa.mk A110
        clear A110
        by_cases c12 : x7_1.size + t185.size ≤ 9223372036854775807
        ·rw [if_pos c12] at H
         have c12b0 := eq_true c12
         have c12b1 : decide (x7_1.size + t185.size ≤ 9223372036854775807) = true := decide_eq_true c12
         have H' := zaa.mk H
         clear H
         try go_wp2
         have n0_ := zaa.mk (zbk BK178.out)
         have n1_ := zaa.mk (zad HB.out)
         clear BK178
         clear HB
         have BK178 := n0_
         have HB := n1_
         clear n0_ n1_
         have p179 : 0 ≤ (x8_1 : Int) := of_decide_eq_true (by assumption)
         have q179 : x8_1 < (l1.length : Int) := of_decide_eq_true (by assumption)
         obtain ⟨ad179, e179, hx179_0⟩ := Kd.at_int HR1.out x8_1 p179 q179
         have hw179_0 := hx179_0
         cases e179
         replace hx179_0 := (HB.out.cell (World.block_lt_of_cell? w _ hx179_0)).trans hx179_0
         replace p179 := eq_true p179
         replace q179 := eq_true q179
         have p180 : 0 ≤ (x8_1 : Int) := of_decide_eq_true (by assumption)
         have q180 : x8_1 < (l0.length : Int) := of_decide_eq_true (by assumption)
         obtain ⟨ad180, e180, hx180_0⟩ := Kd.at_bool HR0.out x8_1 p180 q180
         have hw180_0 := hx180_0
         cases e180
         replace hx180_0 := (HB.out.cell (World.block_lt_of_cell? w _ hx180_0)).trans hx180_0
         replace p180 := eq_true p180
         replace q180 := eq_true q180
         refine zcr (n := 16) (S := fun w' => w'.cell? ⟨gb178, 0, none⟩ = some (.int .u64 x179000_1) ∧ w'.cell? ⟨gb178, 1, none⟩ = some (.int .u64 x179001_1) ∧ w'.cell? ⟨gb178, 2, none⟩ = some (.int .u64 x179002_1) ∧ w'.cell? ⟨gb178, 3, none⟩ = some (.string x179003_1) ∧ w'.cell? (ad179.add (x8_1).toNat) = some (.int .i64 (rd l1 x8_1)) ∧ w'.cell? (ad180.add (x8_1).toNat) = some (.bool (rdOf false l0 x8_1))) (ds := []) #[false, false, false, false, false, false, false, false, false, false, false, false, false, false, false, false] (by kernel_rfl) rfl rfl ⟨(zah BK178.out 0).trans rfl, (zah BK178.out 1).trans rfl, (zah BK178.out 2).trans rfl, (zah BK178.out 3).trans rfl, ((HB.out.cell (World.block_lt_of_cell? w _ hw179_0)).trans hw179_0), ((HB.out.cell (World.block_lt_of_cell? w _ hw180_0)).trans hw180_0)⟩ (fun hHeld => ?_); refine with_tabW zan.tab10 zan.bits10 (fun HT_ HW_ => ?_)
         generalize wr.drew = w13 at BK178 HB hx179_0 hx180_0 hHeld ⊢
         refine pure_ (i := 1) (N := some 28) (v := ?_) (a' := ?_) #[false, true, false, false, false, false, false, false, false, false, false, false, false, false, false, false] rfl rfl (any_of HT_.out (by kernel_rfl)) (fun _ _ _ h => h) (Or.inl ⟨by rfl, ?_⟩) ?_ ?_
         rotate_left
         ·intro w'
          go_simp
          with_reducible rfl
         rotate_left
         ·simp only [Act.put, sAt, sZr, sSc, i64_w, i32_w]
          rfl
         refine pure_ (i := 2) (N := some 29) (v := ?_) (a' := ?_) #[false, true, true, false, false, false, false, false, false, false, false, false, false, false, false, false] rfl rfl (any_of HT_.out (by kernel_rfl)) (fun _ _ _ h => h) (Or.inl ⟨by rfl, ?_⟩) ?_ ?_
         rotate_left
         ·intro w'
          go_simp
          with_reducible rfl
         rotate_left
         ·simp only [Act.put, sAt, sZr, sSc, i64_w, i32_w]
          rfl
         refine pure_ (i := 3) (N := some 30) (v := ?_) (a' := ?_) #[false, true, true, true, false, false, false, false, false, false, false, false, false, false, false, false] rfl rfl (any_of HT_.out (by kernel_rfl)) (fun _ _ _ h => h) (Or.inl ⟨by rfl, ?_⟩) ?_ ?_
         rotate_left
         ·intro w'
          go_simp
          with_reducible rfl
         rotate_left
         ·simp only [Act.put, sAt, sZr, sSc, i64_w, i32_w]
          rfl
         refine pure_ (i := 5) (N := some 32) (v := ?_) (a' := ?_) #[false, true, true, true, false, true, false, false, false, false, false, false, false, false, false, false] rfl rfl (any_of HT_.out (by kernel_rfl)) (fun _ _ _ h => h) (Or.inl ⟨by rfl, ?_⟩) ?_ ?_
         rotate_left
         ·intro w'
          go_simp
          with_reducible rfl
         rotate_left
         ·simp only [Act.put, sAt, sZr, sSc, i64_w, i32_w]
          rfl
         refine pure_ (i := 6) (N := some 33) (v := ?_) (a' := ?_) #[false, true, true, true, false, true, true, false, false, false, false, false, false, false, false, false] rfl rfl (any_of HT_.out (by kernel_rfl)) (fun _ _ _ h => h) (Or.inl ⟨by rfl, ?_⟩) ?_ ?_
         rotate_left
         ·intro w'
          go_simp
          with_reducible rfl
         rotate_left
         ·simp only [Act.put, sAt, sZr, sSc, i64_w, i32_w]
          rfl
         refine pure_ (i := 7) (N := some 34) (v := ?_) (a' := ?_) #[false, true, true, true, false, true, true, true, false, false, false, false, false, false, false, false] rfl rfl (any_of HT_.out (by kernel_rfl)) (fun _ _ _ h => h) (Or.inl ⟨by rfl, ?_⟩) ?_ ?_
         rotate_left
         ·intro w'
          go_simp
          with_reducible rfl
         rotate_left
         ·simp only [Act.put, sAt, sZr, sSc, i64_w, i32_w]
          rfl
         refine take_ (i := 0) (N := some 27) (v := ?_) (a' := ?_) #[true, true, true, true, false, true, true, true, false, false, false, false, false, false, false, false] rfl rfl (take_ofW HT_.out HW_.out (by kernel_rfl)) (fun _ _ _ h => h) (Or.inl ⟨by rfl, ?_⟩) hHeld ?_ ?_
         rotate_left
         ·rintro w' ⟨s0, s1, s2, s3, s4, s5⟩
          go_simp
          with_reducible rfl
         rotate_left
         ·simp only [Act.put, sAt, sZr, sSc, i64_w, i32_w]
          rfl
         refine take_ (i := 4) (N := some 31) (v := ?_) (a' := ?_) #[true, true, true, true, true, true, true, true, false, false, false, false, false, false, false, false] rfl rfl (take_ofW HT_.out HW_.out (by kernel_rfl)) (fun _ _ _ h => h) (Or.inl ⟨by rfl, ?_⟩) hHeld ?_ ?_
         rotate_left
         ·rintro w' ⟨s0, s1, s2, s3, s4, s5⟩
          go_simp
          with_reducible rfl
         rotate_left
         ·simp only [Act.put, sAt, sZr, sSc, i64_w, i32_w]
          rfl
         refine take_ (i := 8) (N := some 35) (v := ?_) (a' := ?_) #[true, true, true, true, true, true, true, true, true, false, false, false, false, false, false, false] rfl rfl (take_ofW HT_.out HW_.out (by kernel_rfl)) (fun _ _ _ h => h) (Or.inl ⟨by rfl, ?_⟩) hHeld ?_ ?_
         rotate_left
         ·rintro w' ⟨s0, s1, s2, s3, s4, s5⟩
          go_simp
          with_reducible rfl
         rotate_left
         ·simp only [Act.put, sAt, sZr, sSc, i64_w, i32_w]
          rfl
         refine join_ (σ := Nat) 2 #[true, true, true, true, true, true, true, true, true, true, true, true, true, true, false, false] (fun s_ => [(36, .tuple #[.agg #[.int .u64 t181, .int .u64 t182, .int .u64 t183, .string t184], .string t185]), (9, .pointer (some ⟨s_, 0, none⟩)), (26, .tuple #[.agg #[.int .u64 t181, .int .u64 t182, .int .u64 t183, .string t184], .string t185]), (37, .agg #[.int .u64 t181, .int .u64 t182, .int .u64 t183, .string t184]), (38, .string t185)]) (fun s_ w' => (w'.cell? ⟨gb178, 0, none⟩ = some (.int .u64 x179000_1) ∧ w'.cell? ⟨gb178, 1, none⟩ = some (.int .u64 x179001_1) ∧ w'.cell? ⟨gb178, 2, none⟩ = some (.int .u64 x179002_1) ∧ w'.cell? ⟨gb178, 3, none⟩ = some (.string x179003_1) ∧ w'.cell? (ad179.add (x8_1).toNat) = some (.int .i64 (rd l1 x8_1)) ∧ w'.cell? (ad180.add (x8_1).toNat) = some (.bool (rdOf false l0 x8_1))) ∧ (w'.heap[gb178]? = some (.cells #[.int .u64 x179000_1, .int .u64 x179001_1, .int .u64 x179002_1, .string x179003_1] 97 (0, 0))) ∧ (w'.heap[s_]? = some (.cells #[.int .u64 0, .int .u64 0, .int .u64 0, .string (⟨#[]⟩ : ByteArray)] 97 (0, 0))) ∧ (w.heap.size ≤ s_) ∧ (w.heap.size ≤ s_) ∧ (gb178 ≠ s_) ∧ (s_ ≠ gb178) ∧ (Below w.heap.size w w')) ?_ ?_
         rotate_left
         ·intro hCont
          refine two_ (i := 9) (j := 13) (Ni := some 36) (Nj := some 9) #[true, true, true, true, true, true, true, true, true, true, false, false, false, false, false, false] #[true, true, true, true, true, true, true, true, true, false, false, false, false, true, false, false] rfl rfl rfl rfl (two_of HT_.out (by kernel_rfl)) (by decide) (by decide) (fun K hK => ?_) (fun K hK => ?_)
          ·skip
           refine goes_ Tryd.func56 (by kernel_rfl) rfl #[.agg #[.int .u64 x179000_1, .int .u64 x179001_1, .int .u64 x179002_1, .string x179003_1], .int .i64 (rd l1 x8_1), .bool (rdOf false l0 x8_1)] (by rfl) rfl rfl (by (try simp only [List.map_toArray, List.map_cons, List.map_nil]); first | done | rfl | (simp only [List.length_drop, List.length_take]; rfl)) ?_
           with_reducible refine (zar.calls k1 x179000_1 x179001_1 x179002_1 x179003_1 (rd l1 x8_1) (rdOf false l0 x8_1) t181 t182 t183 t184 t185 _ A11.out).mono ?_
           rintro e w14 ⟨rfl, hb⟩
           refine ⟨_, rfl, ?_⟩
           have n0_ := zaa.mk (za6 (g := gb178) (o := .cells #[.int .u64 x179000_1, .int .u64 x179001_1, .int .u64 x179002_1, .string x179003_1] 97 (0, 0)) BK178.out hb)
           have n1_ := zaa.mk (zaf HB.out hb)
           clear BK178
           clear HB
           have BK178 := n0_
           have HB := n1_
           clear n0_ n1_
           (try clear hb)
           (try clear hb2)
           (try clear hk)
           (try clear hi)
           refine hK.out _ _ ⟨(zah BK178.out 0).trans rfl, (zah BK178.out 1).trans rfl, (zah BK178.out 2).trans rfl, (zah BK178.out 3).trans rfl, ((HB.out.cell (World.block_lt_of_cell? w _ hw179_0)).trans hw179_0), ((HB.out.cell (World.block_lt_of_cell? w _ hw180_0)).trans hw180_0)⟩ (fun hHeld => ?_)
           clear hK K
           refine norm_ (a' := ?_) ?_ ?_
           rotate_left
           ·show Act.put _ (some 36) _ = _
            simp only [Act.put, sAt, sZr, sSc, i64_w, i32_w]
            rfl
           refine pure_ (i := 10) (N := some 26) (v := ?_) (a' := ?_) #[true, true, true, true, true, true, true, true, true, true, true, false, false, false, false, false] rfl rfl (any_of HT_.out (by kernel_rfl)) (fun _ _ _ h => h) (Or.inl ⟨by rfl, ?_⟩) ?_ ?_
           rotate_left
           ·intro w'
            go_simp
            with_reducible rfl
           rotate_left
           ·simp only [Act.put, sAt, sZr, sSc, i64_w, i32_w]
            rfl
           refine pure_ (i := 11) (N := some 37) (v := ?_) (a' := ?_) #[true, true, true, true, true, true, true, true, true, true, true, true, false, false, false, false] rfl rfl (any_of HT_.out (by kernel_rfl)) (fun _ _ _ h => h) (Or.inl ⟨by rfl, ?_⟩) ?_ ?_
           rotate_left
           ·intro w'
            go_simp
            with_reducible rfl
           rotate_left
           ·simp only [Act.put, sAt, sZr, sSc, i64_w, i32_w]
            rfl
           refine pure_ (i := 12) (N := some 38) (v := ?_) (a' := ?_) #[true, true, true, true, true, true, true, true, true, true, true, true, true, false, false, false] rfl rfl (any_of HT_.out (by kernel_rfl)) (fun _ _ _ h => h) (Or.inl ⟨by rfl, ?_⟩) ?_ ?_
           rotate_left
           ·intro w'
            go_simp
            with_reducible rfl
           rotate_left
           ·simp only [Act.put, sAt, sZr, sSc, i64_w, i32_w]
            rfl
           refine one_ (i := 13) (N := some 9) #[true, true, true, true, true, true, true, true, true, true, true, true, true, true, false, false] rfl rfl (one_of HT_.out (by kernel_rfl)) (by decide) (fun K hK => ?_)
           refine box_step ?hg (N := 9) ?hd (cs := #[.int .u64 0, .int .u64 0, .int .u64 0, .string (⟨#[]⟩ : ByteArray)]) (t := 97) ?hr ?_; (case hd => rfl); (case hg => rfl); (case hr => first | (go_simp; done) | (go_simp; rfl))
           intro gb186 hg w15 hbox hb
           have n0_ := zaa.mk (za6 (g := gb178) (o := .cells #[.int .u64 x179000_1, .int .u64 x179001_1, .int .u64 x179002_1, .string x179003_1] 97 (0, 0)) BK178.out hb)
           have n1_ := zaa.mk (zaf HB.out hb)
           have n2_ := zaa.mk (hbox)
           have n3_ := zaa.mk ((by rw [hg]; exact (zam HB.out) : w.heap.size ≤ gb186))
           have n4_ := zaa.mk ((by rw [hg]; exact (zam HB.out) : w.heap.size ≤ gb186))
           have n5_ := zaa.mk ((by rw [hg]; exact Nat.ne_of_lt (zb0 (g := gb178) (o := .cells #[.int .u64 x179000_1, .int .u64 x179001_1, .int .u64 x179002_1, .string x179003_1] 97 (0, 0)) BK178.out) : gb178 ≠ gb186))
           have n6_ := zaa.mk ((by rw [hg]; exact Nat.ne_of_gt (zb0 (g := gb178) (o := .cells #[.int .u64 x179000_1, .int .u64 x179001_1, .int .u64 x179002_1, .string x179003_1] 97 (0, 0)) BK178.out) : gb186 ≠ gb178))
           clear BK178
           clear HB
           have BK178 := n0_
           have HB := n1_
           have BK186 := n2_
           have GW186 := n3_
           have GE186 := n4_
           have NB178_186 := n5_
           have NB186_178 := n6_
           clear n0_ n1_ n2_ n3_ n4_ n5_ n6_
           clear hb hbox hg
           refine hK.out _ _ ⟨(zah BK178.out 0).trans rfl, (zah BK178.out 1).trans rfl, (zah BK178.out 2).trans rfl, (zah BK178.out 3).trans rfl, ((HB.out.cell (World.block_lt_of_cell? w _ hw179_0)).trans hw179_0), ((HB.out.cell (World.block_lt_of_cell? w _ hw180_0)).trans hw180_0)⟩ (fun hHeld => ?_)
           clear hK K
           refine norm_ (a' := ?_) ?_ ?_
           rotate_left
           ·show Act.put _ (some 9) _ = _
            simp only [Act.put, sAt, sZr, sSc, i64_w, i32_w]
            rfl
           exact norm_ (by simp only [putAll, Act.put, sAt, sZr, sSc]) (hCont (gb186) _ ⟨hHeld, BK178.out, BK186.out, GW186.out, GE186.out, NB178_186.out, NB186_178.out, HB.out⟩)
          ·skip
           refine box_step ?hg (N := 9) ?hd (cs := #[.int .u64 0, .int .u64 0, .int .u64 0, .string (⟨#[]⟩ : ByteArray)]) (t := 97) ?hr ?_; (case hd => rfl); (case hg => rfl); (case hr => first | (go_simp; done) | (go_simp; rfl))
           intro gb186 hg w14 hbox hb
           have n0_ := zaa.mk (za6 (g := gb178) (o := .cells #[.int .u64 x179000_1, .int .u64 x179001_1, .int .u64 x179002_1, .string x179003_1] 97 (0, 0)) BK178.out hb)
           have n1_ := zaa.mk (zaf HB.out hb)
           have n2_ := zaa.mk (hbox)
           have n3_ := zaa.mk ((by rw [hg]; exact (zam HB.out) : w.heap.size ≤ gb186))
           have n4_ := zaa.mk ((by rw [hg]; exact (zam HB.out) : w.heap.size ≤ gb186))
           have n5_ := zaa.mk ((by rw [hg]; exact Nat.ne_of_lt (zb0 (g := gb178) (o := .cells #[.int .u64 x179000_1, .int .u64 x179001_1, .int .u64 x179002_1, .string x179003_1] 97 (0, 0)) BK178.out) : gb178 ≠ gb186))
           have n6_ := zaa.mk ((by rw [hg]; exact Nat.ne_of_gt (zb0 (g := gb178) (o := .cells #[.int .u64 x179000_1, .int .u64 x179001_1, .int .u64 x179002_1, .string x179003_1] 97 (0, 0)) BK178.out) : gb186 ≠ gb178))
           clear BK178
           clear HB
           have BK178 := n0_
           have HB := n1_
           have BK186 := n2_
           have GW186 := n3_
           have GE186 := n4_
           have NB178_186 := n5_
           have NB186_178 := n6_
           clear n0_ n1_ n2_ n3_ n4_ n5_ n6_
           clear hb hbox hg
           refine hK.out _ _ ⟨(zah BK178.out 0).trans rfl, (zah BK178.out 1).trans rfl, (zah BK178.out 2).trans rfl, (zah BK178.out 3).trans rfl, ((HB.out.cell (World.block_lt_of_cell? w _ hw179_0)).trans hw179_0), ((HB.out.cell (World.block_lt_of_cell? w _ hw180_0)).trans hw180_0)⟩ (fun hHeld => ?_)
           clear hK K
           refine norm_ (a' := ?_) ?_ ?_
           rotate_left
           ·show Act.put _ (some 9) _ = _
            simp only [Act.put, sAt, sZr, sSc, i64_w, i32_w]
            rfl
           refine one_ (i := 9) (N := some 36) #[true, true, true, true, true, true, true, true, true, true, false, false, false, true, false, false] rfl rfl (one_of HT_.out (by kernel_rfl)) (by decide) (fun K hK => ?_)
           refine goes_ Tryd.func56 (by kernel_rfl) rfl #[.agg #[.int .u64 x179000_1, .int .u64 x179001_1, .int .u64 x179002_1, .string x179003_1], .int .i64 (rd l1 x8_1), .bool (rdOf false l0 x8_1)] (by rfl) rfl rfl (by (try simp only [List.map_toArray, List.map_cons, List.map_nil]); first | done | rfl | (simp only [List.length_drop, List.length_take]; rfl)) ?_
           with_reducible refine (zar.calls k1 x179000_1 x179001_1 x179002_1 x179003_1 (rd l1 x8_1) (rdOf false l0 x8_1) t181 t182 t183 t184 t185 _ A11.out).mono ?_
           rintro e w15 ⟨rfl, hb⟩
           refine ⟨_, rfl, ?_⟩
           have n0_ := zaa.mk (za6 (g := gb178) (o := .cells #[.int .u64 x179000_1, .int .u64 x179001_1, .int .u64 x179002_1, .string x179003_1] 97 (0, 0)) BK178.out hb)
           have n1_ := zaa.mk (za6 (g := gb186) (o := .cells #[.int .u64 0, .int .u64 0, .int .u64 0, .string (⟨#[]⟩ : ByteArray)] 97 (0, 0)) BK186.out hb)
           have n2_ := zaa.mk (zaf HB.out hb)
           clear BK178
           clear BK186
           clear HB
           have BK178 := n0_
           have BK186 := n1_
           have HB := n2_
           clear n0_ n1_ n2_
           (try clear hb)
           (try clear hb2)
           (try clear hk)
           (try clear hi)
           refine hK.out _ _ ⟨(zah BK178.out 0).trans rfl, (zah BK178.out 1).trans rfl, (zah BK178.out 2).trans rfl, (zah BK178.out 3).trans rfl, ((HB.out.cell (World.block_lt_of_cell? w _ hw179_0)).trans hw179_0), ((HB.out.cell (World.block_lt_of_cell? w _ hw180_0)).trans hw180_0)⟩ (fun hHeld => ?_)
           clear hK K
           refine norm_ (a' := ?_) ?_ ?_
           rotate_left
           ·show Act.put _ (some 36) _ = _
            simp only [Act.put, sAt, sZr, sSc, i64_w, i32_w]
            rfl
           refine pure_ (i := 10) (N := some 26) (v := ?_) (a' := ?_) #[true, true, true, true, true, true, true, true, true, true, true, false, false, true, false, false] rfl rfl (any_of HT_.out (by kernel_rfl)) (fun _ _ _ h => h) (Or.inl ⟨by rfl, ?_⟩) ?_ ?_
           rotate_left
           ·intro w'
            go_simp
            with_reducible rfl
           rotate_left
           ·simp only [Act.put, sAt, sZr, sSc, i64_w, i32_w]
            rfl
           refine pure_ (i := 11) (N := some 37) (v := ?_) (a' := ?_) #[true, true, true, true, true, true, true, true, true, true, true, true, false, true, false, false] rfl rfl (any_of HT_.out (by kernel_rfl)) (fun _ _ _ h => h) (Or.inl ⟨by rfl, ?_⟩) ?_ ?_
           rotate_left
           ·intro w'
            go_simp
            with_reducible rfl
           rotate_left
           ·simp only [Act.put, sAt, sZr, sSc, i64_w, i32_w]
            rfl
           refine pure_ (i := 12) (N := some 38) (v := ?_) (a' := ?_) #[true, true, true, true, true, true, true, true, true, true, true, true, true, true, false, false] rfl rfl (any_of HT_.out (by kernel_rfl)) (fun _ _ _ h => h) (Or.inl ⟨by rfl, ?_⟩) ?_ ?_
           rotate_left
           ·intro w'
            go_simp
            with_reducible rfl
           rotate_left
           ·simp only [Act.put, sAt, sZr, sSc, i64_w, i32_w]
            rfl
           exact norm_ (by simp only [putAll, Act.put, sAt, sZr, sSc]) (hCont (gb186) _ ⟨hHeld, BK178.out, BK186.out, GW186.out, GE186.out, NB178_186.out, NB186_178.out, HB.out⟩)
         rintro gb186 w16 ⟨hS_, h0_, h1_, h2_, h3_, h4_, h5_, h6_⟩
         have n0_ : zaa (w16.heap[gb178]? = some (.cells #[.int .u64 x179000_1, .int .u64 x179001_1, .int .u64 x179002_1, .string x179003_1] 97 (0, 0))) := ⟨h0_⟩
         have n1_ : zaa (w16.heap[gb186]? = some (.cells #[.int .u64 0, .int .u64 0, .int .u64 0, .string (⟨#[]⟩ : ByteArray)] 97 (0, 0))) := ⟨h1_⟩
         have n2_ : zaa (w.heap.size ≤ gb186) := ⟨h2_⟩
         have n3_ : zaa (w.heap.size ≤ gb186) := ⟨h3_⟩
         have n4_ : zaa (gb178 ≠ gb186) := ⟨h4_⟩
         have n5_ : zaa (gb186 ≠ gb178) := ⟨h5_⟩
         have n6_ : zaa (Below w.heap.size w w16) := ⟨h6_⟩
         clear BK178
         clear HB
         clear h0_ h1_ h2_ h3_ h4_ h5_ h6_
         have BK178 := n0_
         have BK186 := n1_
         have GW186 := n2_
         have GE186 := n3_
         have NB178_186 := n4_
         have NB186_178 := n5_
         have HB := n6_
         clear n0_ n1_ n2_ n3_ n4_ n5_ n6_
         have hHeld : w16.cell? ⟨gb178, 0, none⟩ = some (.int .u64 x179000_1) ∧ w16.cell? ⟨gb178, 1, none⟩ = some (.int .u64 x179001_1) ∧ w16.cell? ⟨gb178, 2, none⟩ = some (.int .u64 x179002_1) ∧ w16.cell? ⟨gb178, 3, none⟩ = some (.string x179003_1) ∧ w16.cell? (ad179.add (x8_1).toNat) = some (.int .i64 (rd l1 x8_1)) ∧ w16.cell? (ad180.add (x8_1).toNat) = some (.bool (rdOf false l0 x8_1)) := hS_
         refine norm_ (a' := ?_) ?_ ?_
         rotate_left
         ·simp only [putAll, Act.put, sAt, sZr, sSc]
          rfl
         refine one_ (i := 14) (N := none) #[true, true, true, true, true, true, true, true, true, true, true, true, true, true, true, false] rfl rfl (one_of HT_.out (by kernel_rfl)) (by decide) (fun K hK => ?_)
         have hs17 : w16.cell? ⟨gb186, 0, none⟩ = some (.int .u64 0) := (zah BK186.out 0).trans rfl
         have hfs17 := zao BK186.out 0
         have hns17_0 := NB178_186.out
         have hms17_0 := NB186_178.out
         have hs18 : w16.cell? ⟨gb186, 1, none⟩ = some (.int .u64 0) := (zah BK186.out 1).trans rfl
         have hfs18 := zao BK186.out 1
         have hns18_0 := NB178_186.out
         have hms18_0 := NB186_178.out
         have hs19 : w16.cell? ⟨gb186, 2, none⟩ = some (.int .u64 0) := (zah BK186.out 2).trans rfl
         have hfs19 := zao BK186.out 2
         have hns19_0 := NB178_186.out
         have hms19_0 := NB186_178.out
         have hs20 : w16.cell? ⟨gb186, 3, none⟩ = some (.string (⟨#[]⟩ : ByteArray)) := (zah BK186.out 3).trans rfl
         have hfs20 := zao BK186.out 3
         have hns20_0 := NB178_186.out
         have hms20_0 := NB186_178.out
         refine skip_ (w1 := ?_) (by rfl) rfl ?_ ?_
         rotate_left
         ·go_simp
          rfl
         refine hK.out _ _ ⟨((cell_far (p := ⟨gb186, _, none⟩) NB178_186.out _).trans (((cell_far (p := ⟨gb186, _, none⟩) NB178_186.out _).trans (((cell_far (p := ⟨gb186, _, none⟩) NB178_186.out _).trans (((cell_far (p := ⟨gb186, _, none⟩) NB178_186.out _).trans (hHeld.1)))))))), ((cell_far (p := ⟨gb186, _, none⟩) NB178_186.out _).trans (((cell_far (p := ⟨gb186, _, none⟩) NB178_186.out _).trans (((cell_far (p := ⟨gb186, _, none⟩) NB178_186.out _).trans (((cell_far (p := ⟨gb186, _, none⟩) NB178_186.out _).trans (hHeld.2.1)))))))), ((cell_far (p := ⟨gb186, _, none⟩) NB178_186.out _).trans (((cell_far (p := ⟨gb186, _, none⟩) NB178_186.out _).trans (((cell_far (p := ⟨gb186, _, none⟩) NB178_186.out _).trans (((cell_far (p := ⟨gb186, _, none⟩) NB178_186.out _).trans (hHeld.2.2.1)))))))), ((cell_far (p := ⟨gb186, _, none⟩) NB178_186.out _).trans (((cell_far (p := ⟨gb186, _, none⟩) NB178_186.out _).trans (((cell_far (p := ⟨gb186, _, none⟩) NB178_186.out _).trans (((cell_far (p := ⟨gb186, _, none⟩) NB178_186.out _).trans (hHeld.2.2.2.1)))))))), ((cell_far (p := ⟨gb186, _, none⟩) (by first | exact Nat.ne_of_lt (Nat.lt_of_lt_of_le (by have := World.block_lt_of_cell? _ _ hw179_0; first | rwa [add_block] at this | exact this) GW186.out) | (rw [add_block]; exact Nat.ne_of_lt (Nat.lt_of_lt_of_le (by have := World.block_lt_of_cell? _ _ hw179_0; first | rwa [add_block] at this | exact this) GW186.out)) | (show (Addr.add _ _).block ≠ _; rw [add_block]; exact Nat.ne_of_lt (Nat.lt_of_lt_of_le (by have := World.block_lt_of_cell? _ _ hw179_0; first | rwa [add_block] at this | exact this) GW186.out)) | (dsimp only; exact Nat.ne_of_lt (Nat.lt_of_lt_of_le (by have := World.block_lt_of_cell? _ _ hw179_0; first | rwa [add_block] at this | exact this) GW186.out))) _).trans (((cell_far (p := ⟨gb186, _, none⟩) (by first | exact Nat.ne_of_lt (Nat.lt_of_lt_of_le (by have := World.block_lt_of_cell? _ _ hw179_0; first | rwa [add_block] at this | exact this) GW186.out) | (rw [add_block]; exact Nat.ne_of_lt (Nat.lt_of_lt_of_le (by have := World.block_lt_of_cell? _ _ hw179_0; first | rwa [add_block] at this | exact this) GW186.out)) | (show (Addr.add _ _).block ≠ _; rw [add_block]; exact Nat.ne_of_lt (Nat.lt_of_lt_of_le (by have := World.block_lt_of_cell? _ _ hw179_0; first | rwa [add_block] at this | exact this) GW186.out)) | (dsimp only; exact Nat.ne_of_lt (Nat.lt_of_lt_of_le (by have := World.block_lt_of_cell? _ _ hw179_0; first | rwa [add_block] at this | exact this) GW186.out))) _).trans (((cell_far (p := ⟨gb186, _, none⟩) (by first | exact Nat.ne_of_lt (Nat.lt_of_lt_of_le (by have := World.block_lt_of_cell? _ _ hw179_0; first | rwa [add_block] at this | exact this) GW186.out) | (rw [add_block]; exact Nat.ne_of_lt (Nat.lt_of_lt_of_le (by have := World.block_lt_of_cell? _ _ hw179_0; first | rwa [add_block] at this | exact this) GW186.out)) | (show (Addr.add _ _).block ≠ _; rw [add_block]; exact Nat.ne_of_lt (Nat.lt_of_lt_of_le (by have := World.block_lt_of_cell? _ _ hw179_0; first | rwa [add_block] at this | exact this) GW186.out)) | (dsimp only; exact Nat.ne_of_lt (Nat.lt_of_lt_of_le (by have := World.block_lt_of_cell? _ _ hw179_0; first | rwa [add_block] at this | exact this) GW186.out))) _).trans (((cell_far (p := ⟨gb186, _, none⟩) (by first | exact Nat.ne_of_lt (Nat.lt_of_lt_of_le (by have := World.block_lt_of_cell? _ _ hw179_0; first | rwa [add_block] at this | exact this) GW186.out) | (rw [add_block]; exact Nat.ne_of_lt (Nat.lt_of_lt_of_le (by have := World.block_lt_of_cell? _ _ hw179_0; first | rwa [add_block] at this | exact this) GW186.out)) | (show (Addr.add _ _).block ≠ _; rw [add_block]; exact Nat.ne_of_lt (Nat.lt_of_lt_of_le (by have := World.block_lt_of_cell? _ _ hw179_0; first | rwa [add_block] at this | exact this) GW186.out)) | (dsimp only; exact Nat.ne_of_lt (Nat.lt_of_lt_of_le (by have := World.block_lt_of_cell? _ _ hw179_0; first | rwa [add_block] at this | exact this) GW186.out))) _).trans (hHeld.2.2.2.2.1)))))))), ((cell_far (p := ⟨gb186, _, none⟩) (by first | exact Nat.ne_of_lt (Nat.lt_of_lt_of_le (by have := World.block_lt_of_cell? _ _ hw180_0; first | rwa [add_block] at this | exact this) GW186.out) | (rw [add_block]; exact Nat.ne_of_lt (Nat.lt_of_lt_of_le (by have := World.block_lt_of_cell? _ _ hw180_0; first | rwa [add_block] at this | exact this) GW186.out)) | (show (Addr.add _ _).block ≠ _; rw [add_block]; exact Nat.ne_of_lt (Nat.lt_of_lt_of_le (by have := World.block_lt_of_cell? _ _ hw180_0; first | rwa [add_block] at this | exact this) GW186.out)) | (dsimp only; exact Nat.ne_of_lt (Nat.lt_of_lt_of_le (by have := World.block_lt_of_cell? _ _ hw180_0; first | rwa [add_block] at this | exact this) GW186.out))) _).trans (((cell_far (p := ⟨gb186, _, none⟩) (by first | exact Nat.ne_of_lt (Nat.lt_of_lt_of_le (by have := World.block_lt_of_cell? _ _ hw180_0; first | rwa [add_block] at this | exact this) GW186.out) | (rw [add_block]; exact Nat.ne_of_lt (Nat.lt_of_lt_of_le (by have := World.block_lt_of_cell? _ _ hw180_0; first | rwa [add_block] at this | exact this) GW186.out)) | (show (Addr.add _ _).block ≠ _; rw [add_block]; exact Nat.ne_of_lt (Nat.lt_of_lt_of_le (by have := World.block_lt_of_cell? _ _ hw180_0; first | rwa [add_block] at this | exact this) GW186.out)) | (dsimp only; exact Nat.ne_of_lt (Nat.lt_of_lt_of_le (by have := World.block_lt_of_cell? _ _ hw180_0; first | rwa [add_block] at this | exact this) GW186.out))) _).trans (((cell_far (p := ⟨gb186, _, none⟩) (by first | exact Nat.ne_of_lt (Nat.lt_of_lt_of_le (by have := World.block_lt_of_cell? _ _ hw180_0; first | rwa [add_block] at this | exact this) GW186.out) | (rw [add_block]; exact Nat.ne_of_lt (Nat.lt_of_lt_of_le (by have := World.block_lt_of_cell? _ _ hw180_0; first | rwa [add_block] at this | exact this) GW186.out)) | (show (Addr.add _ _).block ≠ _; rw [add_block]; exact Nat.ne_of_lt (Nat.lt_of_lt_of_le (by have := World.block_lt_of_cell? _ _ hw180_0; first | rwa [add_block] at this | exact this) GW186.out)) | (dsimp only; exact Nat.ne_of_lt (Nat.lt_of_lt_of_le (by have := World.block_lt_of_cell? _ _ hw180_0; first | rwa [add_block] at this | exact this) GW186.out))) _).trans (((cell_far (p := ⟨gb186, _, none⟩) (by first | exact Nat.ne_of_lt (Nat.lt_of_lt_of_le (by have := World.block_lt_of_cell? _ _ hw180_0; first | rwa [add_block] at this | exact this) GW186.out) | (rw [add_block]; exact Nat.ne_of_lt (Nat.lt_of_lt_of_le (by have := World.block_lt_of_cell? _ _ hw180_0; first | rwa [add_block] at this | exact this) GW186.out)) | (show (Addr.add _ _).block ≠ _; rw [add_block]; exact Nat.ne_of_lt (Nat.lt_of_lt_of_le (by have := World.block_lt_of_cell? _ _ hw180_0; first | rwa [add_block] at this | exact this) GW186.out)) | (dsimp only; exact Nat.ne_of_lt (Nat.lt_of_lt_of_le (by have := World.block_lt_of_cell? _ _ hw180_0; first | rwa [add_block] at this | exact this) GW186.out))) _).trans (hHeld.2.2.2.2.2))))))))⟩ (fun hHeld => ?_)
         clear hK K
         refine pure_ (i := 15) (N := some 10) (v := ?_) (a' := ?_) #[true, true, true, true, true, true, true, true, true, true, true, true, true, true, true, true] rfl rfl (any_of HT_.out (by kernel_rfl)) (fun _ _ _ h => h) (Or.inl ⟨by rfl, ?_⟩) ?_ ?_
         rotate_left
         ·intro w'
          go_simp
          with_reducible rfl
         rotate_left
         ·simp only [Act.put, sAt, sZr, sSc, i64_w, i32_w]
          rfl
         refine done_ (done_of HT_.out (by kernel_rfl)) ?_
         have hnb21 := NB186_178.out
         have hnc21 := NB178_186.out
         have hcz22_0 : w16.cell? ⟨gb186, 0, none⟩ = some (.int .u64 0) := (zah BK186.out 0).trans rfl
         have hcz22_1 : w16.cell? ⟨gb186, 1, none⟩ = some (.int .u64 0) := (zah BK186.out 1).trans rfl
         have hcz22_2 : w16.cell? ⟨gb186, 2, none⟩ = some (.int .u64 0) := (zah BK186.out 2).trans rfl
         have hcz22_3 : w16.cell? ⟨gb186, 3, none⟩ = some (.string (⟨#[]⟩ : ByteArray)) := (zah BK186.out 3).trans rfl
         have hfz22_0 := zao BK186.out 0
         have hfz22_1 := zao BK186.out 1
         have hfz22_2 := zao BK186.out 2
         have hfz22_3 := zao BK186.out 3
         have hcz23_0 : w16.cell? ⟨gb178, 0, none⟩ = some (.int .u64 x179000_1) := (zah BK178.out 0).trans rfl
         have hcz23_1 : w16.cell? ⟨gb178, 1, none⟩ = some (.int .u64 x179001_1) := (zah BK178.out 1).trans rfl
         have hcz23_2 : w16.cell? ⟨gb178, 2, none⟩ = some (.int .u64 x179002_1) := (zah BK178.out 2).trans rfl
         have hcz23_3 : w16.cell? ⟨gb178, 3, none⟩ = some (.string x179003_1) := (zah BK178.out 3).trans rfl
         have hfz23_0 := zao BK178.out 0
         have hfz23_1 := zao BK178.out 1
         have hfz23_2 := zao BK178.out 2
         have hfz23_3 := zao BK178.out 3
         try go_wp2
         go_roundg k1
         case measure => have := HK1.out; omega
         case rel => exact ⟨(x7_1 ++ t185), (wrap64 (x8_1 + 1)), (t181), (t182), (t183), (t184), rfl, rfl, H', ⟨by have := HK1.out; omega⟩, ⟨by (with_reducible repeat (first | refine blk_drewN ?_ _ | refine zbk ?_ | refine za7 ?_ _)); refine zb2 (cs := #[.int .u64 t181, .int .u64 t182, .int .u64 t183, .string x179003_1]) ?_ 3 _ rfl; (with_reducible repeat (first | refine blk_drewN ?_ _ | refine zbk ?_ | refine za7 ?_ _)); refine zb2 (cs := #[.int .u64 t181, .int .u64 t182, .int .u64 x179002_1, .string x179003_1]) ?_ 2 _ rfl; (with_reducible repeat (first | refine blk_drewN ?_ _ | refine zbk ?_ | refine za7 ?_ _)); refine zb2 (cs := #[.int .u64 t181, .int .u64 x179001_1, .int .u64 x179002_1, .string x179003_1]) ?_ 1 _ rfl; (with_reducible repeat (first | refine blk_drewN ?_ _ | refine zbk ?_ | refine za7 ?_ _)); refine zb2 (cs := #[.int .u64 x179000_1, .int .u64 x179001_1, .int .u64 x179002_1, .string x179003_1]) ?_ 0 _ rfl; (with_reducible repeat (first | refine blk_drewN ?_ _ | refine zbk ?_ | refine za7 ?_ _)); refine zbo ?_ NB178_186.out _; (with_reducible repeat (first | refine blk_drewN ?_ _ | refine zbk ?_ | refine za7 ?_ _)); refine zbo ?_ NB178_186.out _; (with_reducible repeat (first | refine blk_drewN ?_ _ | refine zbk ?_ | refine za7 ?_ _)); refine zbo ?_ NB178_186.out _; (with_reducible repeat (first | refine blk_drewN ?_ _ | refine zbk ?_ | refine za7 ?_ _)); refine zbo ?_ NB178_186.out _; (with_reducible repeat (first | refine blk_drewN ?_ _ | refine zbk ?_ | refine za7 ?_ _)); exact BK178.out⟩, ⟨by repeat (first | (with_reducible first | exact HB.out | apply zac | apply zab | apply zad | refine zat ?_ GE178.out | refine zat ?_ GE186.out) | exact HB.out)⟩⟩
        ·rw [if_neg c12] at H
         exact absurd H (by simp)
       ·rw [if_neg c10] at H
        exact absurd H (by simp)
      ·rw [if_neg c9] at H
       exact absurd H (by simp)
     ·rw [if_neg c8] at H
      have c8b0 : decide (x8_1 < (l0.length : Int)) = false := decide_eq_false c8
      clear c8
      by_cases c24 : (l0.length : Int) = 0
      ·rw [if_pos c24] at H
       have c24b0 : ((l0.length : Int) == 0) = true := beq_iff_eq.mpr c24
       have c24b1 : ((l0.length : Int) != 0) = false := bne_eq_false_iff_eq.mpr c24
       clear c24
       simp only [Option.some.injEq, Prod.mk.injEq] at H
       obtain ⟨rfl, rfl⟩ := H
       go_wp2
       go_ret2
       exact ⟨rfl, by repeat (first | (with_reducible first | exact HB.out | apply zac | apply zab | apply zad | refine zat ?_ GE178.out) | exact HB.out)⟩
      ·rw [if_neg c24] at H
       have c24b0 : ((l0.length : Int) == 0) = false := beq_eq_false_iff_ne.mpr c24
       have c24b1 : ((l0.length : Int) != 0) = true := bne_iff_ne.mpr c24
       obtain ⟨y187, hy187⟩ : ∃ y_ : List Int, y_ = (([(x179000_1 / 16777216) % 256, (x179000_1 / 65536) % 256, (x179000_1 / 256) % 256, (x179000_1) % 256] : List Int)) := ⟨_, rfl⟩
       replace H : (if x7_1.size + (strOfNums y187).size ≤ 9223372036854775807 then (some (x7_1 ++ (strOfNums y187), 0)) else (none)) = some (r1, r2) := by first | (rw [hy187]; with_reducible exact H) | (have H2_ := (Option.bind_some _ _).symm.trans H; rw [hy187]; with_reducible exact H2_) | (have H2_ := (Option.bind_some _ _).symm.trans H; with_reducible exact H2_) | with_reducible exact H | (rw [hy187]; exact H) | exact H
       have Ny187 := zaa.mk hy187
       clear hy187
       by_cases c25 : x7_1.size + (strOfNums y187).size ≤ 9223372036854775807
       ·rw [if_pos c25] at H
        have c25b0 := eq_true c25
        have c25b1 : decide (x7_1.size + (strOfNums y187).size ≤ 9223372036854775807) = true := decide_eq_true c25
        simp only [Option.some.injEq, Prod.mk.injEq] at H
        obtain ⟨rfl, rfl⟩ := H
        have hcz26_0 : wr.cell? ⟨gb178, 0, none⟩ = some (.int .u64 x179000_1) := (zah BK178.out 0).trans rfl
        have hcz26_1 : wr.cell? ⟨gb178, 1, none⟩ = some (.int .u64 x179001_1) := (zah BK178.out 1).trans rfl
        have hcz26_2 : wr.cell? ⟨gb178, 2, none⟩ = some (.int .u64 x179002_1) := (zah BK178.out 2).trans rfl
        have hcz26_3 : wr.cell? ⟨gb178, 3, none⟩ = some (.string x179003_1) := (zah BK178.out 3).trans rfl
        have hfz26_0 := zao BK178.out 0
        have hfz26_1 := zao BK178.out 1
        have hfz26_2 := zao BK178.out 2
        have hfz26_3 := zao BK178.out 3
        go_wp2_with (first | ((with_reducible refine zay (N := 62) rfl ?_); refine Kd.R_lit (Kd.int .u8) _ 5 ?hg (N := 62) ?hd (xs := ([(x179000_1 / 16777216) % 256, (x179000_1 / 65536) % 256, (x179000_1 / 256) % 256, (x179000_1) % 256] : List Int)) (inner := [.int .u8 ((x179000_1 / 16777216) % 256), .int .u8 ((x179000_1 / 65536) % 256), .int .u8 ((x179000_1 / 256) % 256), .int .u8 ((x179000_1) % 256)]) (ok := fun _ => True) (okp := fun _ => True) ?hr ?hp (fun _ hk => hk) trivial (Below.refl _ _) (Nat.le_refl _) (by simp) ?_; (case hd => rfl); (case hg => rfl); (case hr => first | (go_simp; done) | (go_simp; rfl)); (case hp => exact (Reps.one (show Kd.M (Kd.int .u8) _ _ _ ((x179000_1 / 16777216) % 256) [.int .u8 ((x179000_1 / 16777216) % 256)] from rfl) (Reps.one (show Kd.M (Kd.int .u8) _ _ _ ((x179000_1 / 65536) % 256) [.int .u8 ((x179000_1 / 65536) % 256)] from rfl) (Reps.one (show Kd.M (Kd.int .u8) _ _ _ ((x179000_1 / 256) % 256) [.int .u8 ((x179000_1 / 256) % 256)] from rfl) (Reps.one (show Kd.M (Kd.int .u8) _ _ _ ((x179000_1) % 256) [.int .u8 ((x179000_1) % 256)] from rfl) (Reps.none _ _)))))); intro v188 w27 ho28 hb hg_ hnew_; clear hg_ hnew_; (first | rw [← Ny187.out] at ho28 | (simp only [Int.reduceToNat] at ho28; rw [← Ny187.out] at ho28)); have n0_ := zaa.mk (Kd.R_lower ho28 (zam HB.out)); have n1_ := zaa.mk (za6 (g := gb178) (o := .cells #[.int .u64 x179000_1, .int .u64 x179001_1, .int .u64 x179002_1, .string x179003_1] 97 (0, 0)) BK178.out hb); have n2_ := zaa.mk (zaf HB.out hb); clear BK178; clear HB; have HO189 := n0_; have BK178 := n1_; have HB := n2_; clear n0_ n1_ n2_; clear hb ho28; have hcv29 := own_string (P := Tryd.prog) Tryd.underlying48 Tryd.underlying5 Tryd.underlying9 (Kd.own_of_R HO189.out)))
        go_ret2
        exact ⟨rfl, by repeat (first | (with_reducible first | exact HB.out | apply zac | apply zab | apply zad | refine zat ?_ GE178.out) | exact HB.out)⟩
       ·rw [if_neg c25] at H
        exact absurd H (by simp)
  ·replace c5 := Bool.eq_false_iff.mpr c5
   subst c5
   rw [if_neg (show ¬ (false = true) by decide)] at H; have H1 := H
   clear H
   have H := H1
   clear H1
   simp only [Option.some.injEq, Prod.mk.injEq] at H
   obtain ⟨rfl, rfl⟩ := H
   go_enter Tryd.func36, Tryd.ntmps36
   go_wp2_with (first | ((with_reducible refine zbc (f := 55) rfl ?_); refine zb6 (some 17) rfl rfl Tryd.func55 (by kernel_rfl) rfl #[.slice A1 l1.length c1] rfl (by (try simp only [List.map_toArray, List.map_cons, List.map_nil]); first | done | rfl | (simp only [List.length_drop, List.length_take]; rfl)) ?_; (with_reducible refine (zaz.calls k _ _ l1 false _ ?side1 ?side2 A4.out).mono ?_); (case side1 => exact HR1.out); (case side2 => exact HC1.out); rintro e w' ⟨rfl, ⟨nd, rfl⟩⟩; refine ⟨_, rfl, ?_⟩))
   go_ret2
   exact ⟨rfl, by repeat (first | (with_reducible first | exact HB.out | apply zac | apply zab | apply zad) | exact HB.out)⟩
 ·rw [if_neg c3] at H
  simp only [Option.some.injEq, Prod.mk.injEq] at H
  obtain ⟨rfl, rfl⟩ := H
  go_enter Tryd.func36, Tryd.ntmps36
  go_wp2
  go_ret2
  exact ⟨rfl, by repeat (first | (with_reducible first | exact HB.out | apply zac | apply zab | apply zad) | exact HB.out)⟩
end Go.Proofs.YtdifgiceallpiaaDoor.Pr
end
section
namespace Go.Proofs.YtdifgiceallpiaaDoor.Pure
open Go Go.RowKit YtdifgiceallpiaaDoorW.PrintWords YtdifgiceallpiaaDoorW.PrintMore YtdifgiceallpiaaDoor.P YtdifgiceallpiaaDoor.Pr YtdifgiceallpiaaDoor.Com YtdifgiceallpiaaDoor.Rn YtdifgiceallpiaaDoor.Hd
theorem str_app (xs ys : List Int) : strOfNums xs ++ strOfNums ys = strOfNums (xs ++ ys) := by
 refine nb_inj ?_
 rw [nb_append]
 simp [nb, strOfNums]
theorem str_sizer (xs : List Int) : (strOfNums xs).size = xs.length := by rw [← zas]; simp [nb, strOfNums]
theorem fits_f (x : Int) : zbe.f x = some (!badP x) := by
 unfold zbe.f badP
 by_cases h : x ≥ 1
 ·rw [if_pos h]
  by_cases h2 : x ≤ 2047
  ·rw [decide_eq_true h2, decide_eq_false (by omega)]; rfl
  ·rw [decide_eq_false h2, decide_eq_true (by omega)]; rfl
 ·rw [if_neg h, decide_eq_true (by omega)]; rfl
theorem fine_ev (l : List Int) (hl : l.length ≤ 17592186044416) : Ev (fun k => zaz.f k l) (!l.any badP) := by
 have h := Ev.along l (fun k (_ : Unit) i => zaz.l0 k l i) (fun _ t => !t.any badP) (fun _ _ => True) ?_ ?_ 0 () (Nat.zero_le _) trivial
 ·exact h
 ·intro s _
  refine Ev.step (f := fun _ => some true) (fun k => ?_) (Ev.now _)
  simp only [zaz.l0]
  rw [if_neg (by omega)]
 ·intro i s a t hs hd ha hlt ih
  rw [List.any_cons]
  cases hb : badP a with
  | true =>
   refine Ev.step (f := fun _ => some false) (fun k => ?_) (Ev.now _)
   simp only [zaz.l0]
   rw [if_pos (by omega), if_pos (by omega), rd_some ha, fits_f, hb]
   rfl
  | false =>
   refine Ev.step (fun k => ?_) (ih () trivial)
   simp only [zaz.l0]
   rw [if_pos (by omega), if_pos (by omega), rd_some ha, fits_f, hb, w64 (x := (i : Int) + 1) (by omega) (by omega)]
   rfl
theorem part_l0 (f : Nat) : ∀ (xs : List Int) (a b : Nat) (x : Int) (s : ByteArray), Wd f a b → xs.length + f ≤ 1099511627776 →
  Ev (fun k => zar.l0 k (strOfNums xs) (a : Int) (b : Int) x s) (((norm f a b).2.1 : Int), ((norm f a b).2.2 : Int), x, s, strOfNums (xs ++ zi (norm f a b).1)) := by
 induction f with
 | zero =>
  intro xs a b x s h hl
  have h0 := h.zero
  refine Ev.step (f := fun _ => some ((a : Int), (b : Int), x, s, strOfNums xs)) (fun k => ?_) (Ev.some ?_)
  ·simp only [zar.l0]
   rw [if_neg (by omega)]
  ·simp [norm, zi]
 | succ f ih =>
  intro xs a b x s h hl
  have hab := h.1
  have hb := h.2.1
  rw [norm]
  by_cases e : a / 16777216 = b / 16777216
  ·rw [if_pos e]
   have h1 := ih (xs ++ [((a / 16777216 : Nat) : Int)]) (sa a) (sb b) x s (h.step e) (by simp; omega)
   have e1 : xs ++ [((a / 16777216 : Nat) : Int)] ++ zi (norm f (sa a) (sb b)).1 = xs ++ zi (a / 16777216 :: (norm f (sa a) (sb b)).1) := by simp [zi]
   rw [e1] at h1
   refine Ev.step (fun k => ?_) h1
   simp only [zar.l0]
   have eb : ((a : Int) / 16777216) % 256 = ((a / 16777216 : Nat) : Int) := by omega
   have ea : IntKind.u64.wrap (Int.tmod (a : Int) 16777216 * 256) = ((sa a : Nat) : Int) := by
    rw [Int.tmod_eq_emod_of_nonneg (by omega), wu64 (by omega) (by omega)]
    unfold sa; omega
   have ec : IntKind.u64.wrap (IntKind.u64.wrap (Int.tmod (b : Int) 16777216 * 256) + 255) = ((sb b : Nat) : Int) := by
    rw [Int.tmod_eq_emod_of_nonneg (by omega), wu64 (x := (b : Int) % 16777216 * 256) (by omega) (by omega), wu64 (by omega) (by omega)]
    unfold sb; omega
   rw [if_pos (by omega), eb, ea, ec]
   simp only [Option.bind_some]
   rw [if_pos (by rw [str_sizer, str_sizer]; simp; omega), str_app]
  ·rw [if_neg e]
   refine Ev.step (f := fun _ => some ((a : Int), (b : Int), x, s, strOfNums xs)) (fun k => ?_) (Ev.some ?_)
   ·simp only [zar.l0]
    rw [if_neg (by omega)]
   ·simp [zi]
theorem part_ev (a b p : Nat) (x : Int) (s : ByteArray) (bit : Bool) (hab : a < b) (hb : b < 4294967296) (hp : p ≤ 2047) :
  Ev (fun k => zar.f k (a : Int) (b : Int) x s (p : Int) bit) (((norm 4 (tk a b p bit).1 (tk a b p bit).2).2.1 : Int), ((norm 4 (tk a b p bit).1 (tk a b p bit).2).2.2 : Int), x, s, strOfNums (zi (norm 4 (tk a b p bit).1 (tk a b p bit).2).1)) := by
 have hm := mid_f a b p (Nat.le_of_lt hab) hb (by omega)
 unfold zbp.f at hm
 have hm := Option.some.inj hm
 have hlt := mid_lt hab (show p < 2048 by omega)
 have ht := tk_ok (p := p) (bit := bit) hab (by omega)
 have h := part_l0 4 [] (tk a b p bit).1 (tk a b p bit).2 x s (Wd.start ht.2.1 (Nat.lt_of_le_of_lt ht.2.2 hb)) (by decide)
 rw [List.nil_append] at h
 unfold zar.f
 rw [hm]
 cases bit with
 | true =>
  refine Ev.ifp rfl (Ev.step (fun k => ?_) h)
  simp only [zar.j0]
  have e : IntKind.u64.wrap ((mid a b p : Int) + 1) = ((mid a b p + 1 : Nat) : Int) := by rw [wu64 (by omega) (by omega)]; omega
  rw [e]
  rfl
 | false =>
  refine Ev.ifn (by decide) (Ev.step (fun k => ?_) h)
  simp only [zar.j0]
  rfl
theorem encode_l0 (l0 : List Bool) (l1 : List Int) (hl : l0.length = l1.length) (hn : l0.length ≤ 4294967296) (h0 : l0.length ≠ 0) (hp : ∀ p ∈ l1, 1 ≤ p ∧ p ≤ 2047) (d : Nat) :
  ∀ (i : Nat) (xs : List Int) (a b : Nat), i + d = l0.length → xs.length ≤ 4 * i → a < b → b < 4294967296 →
   Ev (fun k => zan.l0 k l0 l1 (strOfNums xs) (i : Int) (a : Int) (b : Int) 0 ⟨#[]⟩) (strOfNums (xs ++ enc (l0.drop i) (l1.drop i) a b), 0) := by
 induction d with
 | zero =>
  intro i xs a b hi hx hab hb
  rw [List.drop_eq_nil_of_le (by omega)]
  have e : enc [] (l1.drop i) a b = lastB a 4 := by cases l1.drop i <;> rfl
  rw [e, last_zi]
  refine Ev.step (f := fun _ => some (strOfNums (xs ++ zi (lastN a)), 0)) (fun k => ?_) (Ev.now _)
  simp only [zan.l0]
  rw [if_neg (by omega), if_neg (by omega)]
  simp only [Option.bind_some]
  have e2 : [(a : Int) / 16777216 % 256, (a : Int) / 65536 % 256, (a : Int) / 256 % 256, (a : Int) % 256] = zi (lastN a) := by simp [zi, lastN]
  rw [e2, if_pos (by rw [str_sizer, str_sizer]; simp [zi, lastN]; omega), str_app]
 | succ d ih =>
  intro i xs a b hi hx hab hb
  have hi0 : l0[i]? = some (l0[i]'(by omega)) := List.getElem?_eq_getElem (by omega)
  have hi1 : l1[i]? = some (l1[i]'(by omega)) := List.getElem?_eq_getElem (by omega)
  have hpp := hp _ (List.getElem_mem (by omega : i < l1.length))
  rw [List.drop_eq_getElem_cons (by omega : i < l0.length), List.drop_eq_getElem_cons (by omega : i < l1.length), enc_cons, ← List.append_assoc]
  generalize l0[i]'(by omega) = bit at *
  generalize l1[i]'(by omega) = p at *
  obtain ⟨q, rfl⟩ : ∃ q : Nat, p = q := ⟨p.toNat, by omega⟩
  rw [Int.toNat_natCast]
  have ht := tk_ok (p := q) (bit := bit) hab (by omega)
  have hne := norm_end (Wd.start ht.2.1 (Nat.lt_of_le_of_lt ht.2.2 hb))
  have hln := norm_len 4 (tk a b q bit).1 (tk a b q bit).2
  have h1 := ih (i + 1) (xs ++ zi (norm 4 (tk a b q bit).1 (tk a b q bit).2).1) _ _ (by omega) (by simp [zi]; omega) hne.2.1 hne.2.2.1
  refine Ev.step (f := fun k => (zar.f k (a : Int) (b : Int) 0 ⟨#[]⟩ (q : Int) bit).bind fun bt => if (strOfNums xs).size + bt.2.2.2.2.size ≤ 9223372036854775807 then zan.l0 k l0 l1 (strOfNums xs ++ bt.2.2.2.2) ((i + 1 : Nat) : Int) bt.1 bt.2.1 bt.2.2.1 bt.2.2.2.1 else none) (fun k => ?_) ?_
  ·simp only [zan.l0]
   rw [if_pos (by omega), if_pos (by omega), if_pos (by omega), rd_some hi1, rdOf_some hi0, w64 (x := (i : Int) + 1) (by omega) (by omega)]
   rfl
  ·refine Ev.bind (part_ev a b q 0 ⟨#[]⟩ bit hab hb (by omega)) ?_
   refine Ev.ifp (by rw [str_sizer, str_sizer]; simp [zi]; omega) ?_
   simp only [str_app]
   exact h1
theorem rencode_ev (l0 : List Bool) (l1 : List Int) (h0 : l0.length ≤ 1000000) (h1 : l1.length ≤ 1000000) : Ev (fun k => zan.f k l0 l1) (encP l0 l1) := by
 unfold zan.f encP
 by_cases e : l0.length = l1.length
 ·refine Ev.ifp (by omega) ?_
  rw [if_neg (fun h => h e)]
  refine Ev.bind (fine_ev l1 (by omega)) ?_
  cases hb : l1.any badP with
  | true => exact Ev.ifn (by decide) (Ev.now _)
  | false =>
   refine Ev.ifp rfl ?_
   rw [if_neg (by decide)]
   by_cases hz : l0.length = 0
   ·rw [if_pos hz]
    refine Ev.step (f := fun _ => some (⟨#[]⟩, 0)) (fun k => ?_) (Ev.now _)
    simp only [zan.l0]
    rw [if_neg (by omega), if_pos (by omega)]
   ·rw [if_neg hz]
    exact encode_l0 l0 l1 e (by omega) hz (not_bad hb) l0.length 0 [] 0 4294967295 (by omega) (by simp) (by decide) (by decide)
 ·rw [if_pos e]
  exact Ev.ifn (by omega) (Ev.now _)
end Go.Proofs.YtdifgiceallpiaaDoor.Pure
end
section
namespace Go.Proofs.YtdifgiceallpiaaDoor.Pure
open Go Go.RowKit Go.Proofs.YtdifgiceallpiaaDoorW.PrintWords Go.Proofs.YtdifgiceallpiaaDoorW.PrintMore Go.Proofs.YtdifgiceallpiaaDoor.P Go.Proofs.YtdifgiceallpiaaDoor.Pr Go.Proofs.YtdifgiceallpiaaDoor.Com Go.Proofs.YtdifgiceallpiaaDoor.Rn Go.Proofs.YtdifgiceallpiaaDoor.Hd
theorem fits_ok {p : Int} (h1 : 1 ≤ p) (h2 : p ≤ 2047) : zbe.f p = some true := by
  rw [fits_f]; unfold badP; rw [decide_eq_false (by omega)]; rfl
theorem update_ok (p : Int) (b : Bool) (h1 : 1 ≤ p) (h2 : p ≤ 2047) : zbf.f p b = some (upd p b, 0) := by
  unfold zbf.f
  rw [fits_ok h1 h2]
  simp only [Option.bind_some]
  rw [if_pos trivial, Int.tdiv_eq_ediv_of_nonneg (by omega)]
  cases b with
  | false =>
    rw [if_neg (by decide), w64 (x := 2048 - p) (by omega) (by omega), Int.tdiv_eq_ediv_of_nonneg (by omega), w64 (x := (2048 - p) / 32) (by omega) (by omega), w64 (by omega) (by omega)]
    rfl
  | true =>
    rw [if_pos rfl, w64 (x := p / 32) (by omega) (by omega), w64 (by omega) (by omega)]
    rfl
end Go.Proofs.YtdifgiceallpiaaDoor.Pure
end
