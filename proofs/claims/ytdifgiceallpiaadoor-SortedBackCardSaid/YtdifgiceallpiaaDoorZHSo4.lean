/- sorted.Read, walked by hand. -/
import Derived.Test.YtdifgiceallpiaaDoorZHSo3
import Derived.Test.YtdifgiceallpiaaDoorZHAs2
import Derived.BigQuiet
set_option linter.unusedVariables false
set_option linter.unusedSimpArgs false
set_option linter.unusedSectionVars false
namespace Go.Proofs.YtdifgiceallpiaaDoor.Hd
open Go Go.RowKit Go.Proofs.YtdifgiceallpiaaDoorW.PrintWords Go.Proofs.YtdifgiceallpiaaDoorW.PrintLast Go.Proofs.YtdifgiceallpiaaDoorW.PrintMore Go.Proofs.YtdifgiceallpiaaDoor.Hw Go.Proofs.YtdifgiceallpiaaDoor.Com Go.Proofs.YtdifgiceallpiaaDoor.P Go.Proofs.YtdifgiceallpiaaDoor.Pure
attribute [local go_sem] max2_int min2_int max_two min_two max_three min_three max_four min_four
/-- What the package-level variable of errors reads as. -/
def ErrT (W : World) : Prop := W.cell? ⟨0, 0, none⟩ = some (.iface 111 (.agg #[.pointer (some ⟨1, 41, none⟩)]))
theorem ErrT.below {W W1 : World} (h : ErrT W) (b : Below W.heap.size W W1) : ErrT W1 := by
  have hlt : 0 < W.heap.size := by
    rcases Nat.eq_zero_or_pos W.heap.size with h0 | h1
    · unfold ErrT at h
      simp [World.cell?, h0] at h
    · exact h1
  have e := b.block 0 hlt
  unfold ErrT at h ⊢
  unfold World.cell? at h ⊢
  simp only [e]
  exact h
theorem infoBad : (Tryd.prog.info? 45).map (fun i => (i.zero, i.size, i.bytes)) = some (some (.agg #[.int .i64 0]), 1, 8) := by kernel_rfl
theorem zeroBad : (Value.agg #[.int .i64 0]).cells = ints .i64 [0] := rfl
theorem as_at (x : Int) (g : Nat) (w0 w : World) (hg : ErrT w) (hb : Blk w g .i64 45 [0]) (h0 : Below w0.heap.size w0 w) (hn : w0.heap.size ≤ g) :
    Calls Tryd.prog 20 #[.iface 45 (.agg #[.int .i64 x]), .iface 47 (.pointer (some ⟨g, 0, none⟩))] w fun e w' => e = .returned (.bool true) ∧ Blk w' g .i64 45 [x] ∧ Below w0.heap.size w0 w' := by
  refine (as_hit x ⟨g, 0, none⟩ _ w hg (hb.cell 0 (by decide)) (hb.free 0)).mono ?_
  rintro e w' ⟨rfl, rfl⟩
  exact ⟨rfl, ((((hb.alloc _).alloc _).alloc _).alloc _).put 0 x, below_set (below_alloc (below_alloc (below_alloc (below_alloc h0 _) _) _) _) hn⟩
set_option maxHeartbeats 8000000 in
set_option maxRecDepth 100000 in
theorem read_short (s s1 s2 rest : ByteArray) (n0 n1 n2 : Int) (w : World) (r0 : rdS s 5 = (n0, s1, 0)) (r1 : rdS s1 5 = (n1, s2, 0)) (r2 : rdS s2 5 = (n2, rest, 3)) :
    Calls Tryd.prog 19 #[.string s] w fun e w' => e = .returned (.tuple #[.string ⟨#[]⟩, .iface 45 (.agg #[.int .i64 3])]) ∧ Below w.heap.size w w' := by
  have R0 := Aside0.mk r0
  have R1 := Aside0.mk r1
  have R2 := Aside0.mk r2
  clear r0 r1 r2
  go_enter Tryd.func19, Tryd.ntmps19
  go_wp2_with (first
    | (go_at_call 37; (with_reducible refine (numbers_short s s1 s2 rest n0 n1 n2 _ R0.out R1.out R2.out).mono ?_); rintro e w1 ⟨rfl, hB⟩; have B1 := Aside0.mk hB; clear hB)
    | ((with_reducible refine gate_dst (N := 4) rfl ?_); refine alloc_blk rfl rfl infoA3 .i64 _ zeroA3 ?_; intro g4 w2 G4 K4 B2; have GE := Aside0.mk (Nat.le_trans B1.out.size G4.out); have B3 := Aside0.mk (below_step B1.out B2.out); clear B1 B2 G4)
    | ((with_reducible refine gate_store (t := 33) (p := 4) rfl ?_); refine store_blk rfl 33 (.tmp 4) (.tmp 21) rfl g4 .i64 _ [n0, n1, 0] rfl rfl K4.out sizeA3 rfl ?_; intro w5 K5 E5; have B5 := Aside0.mk (below_grown B3.out E5.out GE.out B3.out.size); clear K4 E5 B3))
  go_ret2
  exact ⟨rfl, B5.out⟩
set_option maxHeartbeats 8000000 in
set_option maxRecDepth 100000 in
/-- Read, where read gives a text, or the reason. -/
theorem Read_ok (s y : ByteArray) (w : World) (h : Calls Tryd.prog 19 #[.string s] w fun e w' => e = .returned (.tuple #[.string y, .nilIface]) ∧ Below w.heap.size w w') :
    Calls Tryd.prog 8 #[.string s] w fun e w' => e = .returned (.tuple #[.string y, .int .i64 0]) ∧ Below w.heap.size w w' := by
  have H := Aside0.mk h
  clear h
  go_enter Tryd.func8, Tryd.ntmps8
  go_wp2_with (first
    | (go_at_call 19; (with_reducible refine H.out.mono ?_); rintro e w1 ⟨rfl, hB⟩; have B1 := Aside0.mk hB; clear hB H)
    | ((with_reducible refine gate_dst (N := 6) rfl ?_); refine alloc_blk rfl rfl infoBad .i64 _ zeroBad ?_; intro g6 w2 G6 K6 B2; have B3 := Aside0.mk (below_step B1.out B2.out); clear B1 B2 G6)
    | (go_at_call 20; (with_reducible refine (as_nil _ _).mono ?_); rintro e w3 ⟨rfl, rfl⟩))
  go_ret2
  exact ⟨rfl, B3.out⟩
set_option maxHeartbeats 8000000 in
set_option maxRecDepth 100000 in
theorem Read_bad (s : ByteArray) (x : Int) (w : World) (hg : ErrT w) (h : Calls Tryd.prog 19 #[.string s] w fun e w' => e = .returned (.tuple #[.string ⟨#[]⟩, .iface 45 (.agg #[.int .i64 x])]) ∧ Below w.heap.size w w') :
    Calls Tryd.prog 8 #[.string s] w fun e w' => e = .returned (.tuple #[.string ⟨#[]⟩, .int .i64 x]) ∧ Below w.heap.size w w' := by
  have H := Aside0.mk h
  have HG := Aside0.mk hg
  clear h hg
  go_enter Tryd.func8, Tryd.ntmps8
  go_wp2_with (first
    | (go_at_call 19; (with_reducible refine H.out.mono ?_); rintro e w1 ⟨rfl, hB⟩; have B1 := Aside0.mk hB; have HG := Aside0.mk (HG.out.below hB); clear hB H)
    | ((with_reducible refine gate_dst (N := 6) rfl ?_); refine alloc_blk rfl rfl infoBad .i64 _ zeroBad ?_; intro g6 w2 G6 K6 B2; have GE := Aside0.mk (Nat.le_trans B1.out.size G6.out); have B3 := Aside0.mk (below_step B1.out B2.out); have HG := Aside0.mk (HG.out.below B2.out); clear B1 B2 G6)
    | (go_at_call 20; (with_reducible refine (as_at x g6 w _ HG.out K6.out B3.out GE.out).mono ?_); rintro e w3 ⟨rfl, hK, hB⟩; have B4 := Aside0.mk hB; have c6 := hK.cell 0 (show 0 < 1 by decide); clear hK hB))
  repeat (go_quiet (fail); try go_wp2)
  go_ret2
  exact ⟨rfl, pw_below_drewN B4.out _⟩
end Go.Proofs.YtdifgiceallpiaaDoor.Hd
