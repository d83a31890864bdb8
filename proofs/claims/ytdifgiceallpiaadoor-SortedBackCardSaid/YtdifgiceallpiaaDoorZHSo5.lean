/- sorted: the laws' examples (awake), and SortedBack, walked by hand. -/
import Derived.Test.YtdifgiceallpiaaDoorZHSo4
set_option linter.unusedVariables false
set_option linter.unusedSimpArgs false
set_option linter.unusedSectionVars false
namespace Go.Proofs.YtdifgiceallpiaaDoor.Hd
open Go Go.RowKit Go.Proofs.YtdifgiceallpiaaDoorW.PrintWords Go.Proofs.YtdifgiceallpiaaDoorW.PrintLast Go.Proofs.YtdifgiceallpiaaDoorW.PrintMore Go.Proofs.YtdifgiceallpiaaDoor.Hw Go.Proofs.YtdifgiceallpiaaDoor.Com Go.Proofs.YtdifgiceallpiaaDoor.P Go.Proofs.YtdifgiceallpiaaDoor.Pure
attribute [local go_sem] max2_int min2_int max_two min_two max_three min_three max_four min_four
@[reducible] def ban : ByteArray := ⟨#[98, 97, 110, 97, 110, 97, 32, 98, 97, 110, 97, 110, 97, 32, 98, 97, 110, 97, 110, 97, 32, 98, 97, 110, 97, 110, 97, 32, 98, 97, 110, 97, 110, 97, 32, 98, 97, 110, 97, 110, 97]⟩
theorem toList_len (s : ByteArray) : s.toList.length = s.size := by rw [ByteArray.toList_eq]; simp
theorem app_none (s : ByteArray) : s ++ (⟨#[]⟩ : ByteArray) = s := ByteArray.append_empty
theorem read_back (s : ByteArray) (w : World) (hs : s.size ≤ 65536) : Calls Tryd.prog 8 #[.string (putT s)] w fun e w' => e = .returned (.tuple #[.string s, .int .i64 0]) ∧ Below w.heap.size w w' := by
  have hN := nums_put hs ⟨#[]⟩
  rw [app_none (putT s)] at hN
  have := read_at (putT s) s ⟨#[]⟩ true w hs hN (beq_self_eq_true _)
  exact Read_ok _ s w this
theorem read_more (s T : ByteArray) (w : World) (hg : ErrT w) (hs : s.size ≤ 65536) (hT : 0 < T.size) : Calls Tryd.prog 8 #[.string (putT s ++ T)] w fun e w' => e = .returned (.tuple #[.string ⟨#[]⟩, .int .i64 4]) ∧ Below w.heap.size w w' := by
  have hb : ((putT s).toList == (putT s ++ T).toList) = false := by
    rw [beq_eq_false_iff_ne]
    intro h
    have := congrArg List.length h
    rw [toList_len, toList_len, ByteArray.size_append] at this
    omega
  exact Read_bad _ 4 w hg (read_at (putT s ++ T) s T false w hs (nums_put hs T) hb)
theorem put_none (w : World) : Calls Tryd.prog 6 #[.string ⟨#[]⟩] w fun e w' => e = .returned (.tuple #[.string ⟨#[0, 0, 0]⟩, .int .i64 0]) ∧ Below w.heap.size w w' := by
  have h := put_ok ⟨#[]⟩ w (by decide)
  rw [show putT ⟨#[]⟩ = ⟨#[0, 0, 0]⟩ by decide +kernel] at h
  exact h
theorem put_ban (T : ByteArray) (hT : putT ban = T) (w : World) : Calls Tryd.prog 6 #[.string ⟨#[98, 97, 110, 97, 110, 97, 32, 98, 97, 110, 97, 110, 97, 32, 98, 97, 110, 97, 110, 97, 32, 98, 97, 110, 97, 110, 97, 32, 98, 97, 110, 97, 110, 97, 32, 98, 97, 110, 97, 110, 97]⟩] w fun e w' => e = .returned (.tuple #[.string T, .int .i64 0]) ∧ Below w.heap.size w w' := by
  subst hT
  exact put_ok ban w (by decide)
theorem read_ban (T : ByteArray) (hT : putT ban = T) (w : World) : Calls Tryd.prog 8 #[.string T] w fun e w' => e = .returned (.tuple #[.string ⟨#[98, 97, 110, 97, 110, 97, 32, 98, 97, 110, 97, 110, 97, 32, 98, 97, 110, 97, 110, 97, 32, 98, 97, 110, 97, 110, 97, 32, 98, 97, 110, 97, 110, 97, 32, 98, 97, 110, 97, 110, 97]⟩, .int .i64 0]) ∧ Below w.heap.size w w' := by
  subst hT
  exact read_back ban w (by decide)
theorem read_bany (T : ByteArray) (hT : putT ban = T) (w : World) (hg : ErrT w) : Calls Tryd.prog 8 #[.string (T ++ ⟨#[121]⟩)] w fun e w' => e = .returned (.tuple #[.string ⟨#[]⟩, .int .i64 4]) ∧ Below w.heap.size w w' := by
  subst hT
  exact read_more ban ⟨#[121]⟩ w hg (by decide) (by decide)
theorem read_00 (w : World) (hg : ErrT w) : Calls Tryd.prog 8 #[.string ⟨#[0, 0]⟩] w fun e w' => e = .returned (.tuple #[.string ⟨#[]⟩, .int .i64 3]) ∧ Below w.heap.size w w' :=
  Read_bad _ 3 w hg (read_short ⟨#[0, 0]⟩ ⟨#[0]⟩ ⟨#[]⟩ ⟨#[]⟩ 0 0 0 w (by decide +kernel) (by decide +kernel) (by decide +kernel))
theorem ban_size : (putT ban).size < 41 := by decide +kernel
set_option maxHeartbeats 8000000 in
set_option maxRecDepth 100000 in
theorem awake_at (w : World) (hg : ErrT w) : Calls Tryd.prog 5 #[] w fun e w' => e = .returned (.bool true) ∧ Below w.heap.size w w' := by
  have hz := ban_size
  obtain ⟨T, hT⟩ : ∃ T, putT ban = T := ⟨_, rfl⟩
  rw [hT] at hz
  have t1 : decide ((T.size : Int) < 41) = true := decide_eq_true (by omega)
  have t1b : decide (T.size < 41) = true := decide_eq_true hz
  have s1 : (9223372036854775807 < T.size + 1) = False := eq_false (by omega)
  have s2 : (9223372036854775807 < T.size + (⟨#[121]⟩ : ByteArray).size) = False := eq_false (by have : (⟨#[121]⟩ : ByteArray).size = 1 := rfl; omega)
  have HT := Aside0.mk hT
  have HG := Aside0.mk hg
  clear hz hT hg
  go_enter Tryd.func5, Tryd.ntmps5
  go_wp2_with (first
    | (go_at_call 6; (with_reducible refine (put_none _).mono ?_); rintro e w1 ⟨rfl, hB⟩; have B := Aside0.mk hB; have HG := Aside0.mk (HG.out.below hB); clear hB)
    | (go_at_call 6; (with_reducible refine (put_ban T HT.out _).mono ?_); rintro e w2 ⟨rfl, hB⟩; have HG := Aside0.mk (HG.out.below hB); have B := Aside0.mk (below_step B.out hB); clear hB)
    | (go_at_call 8; (with_reducible refine (read_ban T HT.out _).mono ?_); rintro e w3 ⟨rfl, hB⟩; have HG := Aside0.mk (HG.out.below hB); have B := Aside0.mk (below_step B.out hB); clear hB)
    | (go_at_call 8; (with_reducible refine (read_00 _ HG.out).mono ?_); rintro e w4 ⟨rfl, hB⟩; have HG := Aside0.mk (HG.out.below hB); have B := Aside0.mk (below_step B.out hB); clear hB)
    | (go_at_call 8; (with_reducible refine (read_bany T HT.out _ HG.out).mono ?_); rintro e w5 ⟨rfl, hB⟩; have HG := Aside0.mk (HG.out.below hB); have B := Aside0.mk (below_step B.out hB); clear hB))
  go_ret
  exact ⟨rfl, B.out⟩
set_option maxHeartbeats 8000000 in
set_option maxRecDepth 100000 in
theorem SortedBack_walk (s : ByteArray) (w : World) (hg : ErrT w) : Calls Tryd.prog 4 #[.string s] w fun e w' => e = .returned (.bool true) ∧ Below w.heap.size w w' := by
  have HG := Aside0.mk hg
  clear hg
  by_cases h1 : (s.size : Int) > 1500
  · have t1 : decide (1500 < (s.size : Int)) = true := decide_eq_true h1
    have t1b : decide (1500 < s.size) = true := decide_eq_true (by omega)
    clear h1
    go_enter Tryd.func4, Tryd.ntmps4
    go_wp2_with (first
      | (go_at_call 5; (with_reducible refine (awake_at _ HG.out).mono ?_); rintro e w1 ⟨rfl, hB⟩; have B := Aside0.mk hB; clear hB))
    go_ret
    exact ⟨rfl, B.out⟩
  · have t1 : decide (1500 < (s.size : Int)) = false := decide_eq_false h1
    have t1b : decide (1500 < s.size) = false := decide_eq_false (by omega)
    have HS := Aside0.mk (show s.size ≤ 65536 by omega)
    clear h1
    go_enter Tryd.func4, Tryd.ntmps4
    go_wp2_with (first
      | (go_at_call 6; (with_reducible refine (put_ok s _ HS.out).mono ?_); rintro e w2 ⟨rfl, hB⟩; have HG := Aside0.mk (HG.out.below hB); have B := Aside0.mk hB; clear hB)
      | (go_at_call 8; (with_reducible refine (read_back s _ HS.out).mono ?_); rintro e w3 ⟨rfl, hB⟩; have HG := Aside0.mk (HG.out.below hB); have B := Aside0.mk (below_step B.out hB); clear hB)
      | (go_at_call 5; (with_reducible refine (awake_at _ HG.out).mono ?_); rintro e w1 ⟨rfl, hB⟩; have B := Aside0.mk (below_step B.out hB); clear hB))
    go_ret
    exact ⟨rfl, B.out⟩
end Go.Proofs.YtdifgiceallpiaaDoor.Hd
