/- BitwParts, walked by hand: two writers side by side. -/
import Derived.Test.YtbbmnaiofdjacaaHAwake1
set_option linter.unusedVariables false
set_option linter.unusedSimpArgs false
set_option linter.unusedSectionVars false
namespace Go.Proofs.Ytbbmnaiofdjacaa.Hd
open Go.RowKit Go.Proofs.YtbbmnaiofdjacaaW.PrintWords Go.Proofs.YtbbmnaiofdjacaaW.PrintLast Go.Proofs.YtbbmnaiofdjacaaW.PrintMore Go.Proofs.Ytbbmnaiofdjacaa.Hw Go.Proofs.Ytbbmnaiofdjacaa.Com Go.Proofs.Ytbbmnaiofdjacaa.P
theorem R8_move {w w1 : World} {base : Nat} {v : Value} {xs : List Int} (h : Kd.R (Kd.int .u8) 5 w base (fun _ => True) v xs) (hm : ∀ k, v.ownBlock = some k → w1.heap[k]? = w.heap[k]?) : Kd.R (Kd.int .u8) 5 w1 base (fun _ => True) v xs := by
  obtain ⟨h0, inner, ho, hr⟩ := h
  exact ⟨h0, inner, own_move ho hm, hr⟩
/-- Another writer, while one writes. -/
theorem Wb.pair {w w' : World} {base g g' : Nat} {v v' v'' : Value} {l l' : List Bool} (h : Wb w base g v l) (h' : Wb w base g' v' l') (F : Fr w w' g' v') (hg : g ≠ g') (hs : ∀ k, v.ownBlock = some k → v'.ownBlock ≠ some k) (N : Nw w v' v'') :
    Wb w' base g v l ∧ (∀ k, v.ownBlock = some k → v''.ownBlock ≠ some k) := by
  obtain ⟨B, wo, n, h1, h2, h3, h4, h5, h6⟩ := h
  obtain ⟨B', wo', n', h1', h2', h3', h4', h5', h6'⟩ := h'
  obtain ⟨f1, f2, f3, f4, f5⟩ := F
  have hne := Kd.R_ne h6' h5 (by decide)
  have hne2 := Kd.R_ne h6 h5' (by decide)
  have hlt : ∀ k, v.ownBlock = some k → k < w.heap.size := fun k hk => Kd.R_lt h6 k hk
  refine ⟨⟨B, wo, n, h1, h2, h3, h4, (f5 g (blk_lt h5) hg hne).trans h5, R8_move h6 (fun k hk => f5 k (hlt k hk) (fun e => ?_) (fun e => ?_))⟩, fun k hk => ?_⟩
  · subst e; exact hne2 hk.symm
  · exact hs k hk e.symm
  · rcases N with N | ⟨b, N, hb⟩
    · rw [N]; exact hs k hk
    · rw [N]; intro e
      have := hlt k hk
      injection e with e
      omega
theorem Wb.lower {W : World} {base base' g : Nat} {v : Value} {l : List Bool} (h : Wb W base g v l) (hb : base' ≤ base) : Wb W base' g v l := by
  obtain ⟨B, wo, n, h1, h2, h3, h4, h5, h6⟩ := h
  exact ⟨B, wo, n, h1, h2, h3, h4, h5, Kd.R_lower h6 hb⟩
theorem Wb.lt {W : World} {base g : Nat} {v : Value} {l : List Bool} (h : Wb W base g v l) : g < W.heap.size := by
  obtain ⟨B, wo, n, h1, h2, h3, h4, h5, h6⟩ := h
  exact blk_lt h5
theorem drawn_below {w w' : World} (h : Drawn0 w w') : Below w.heap.size w w' := by
  obtain ⟨n, rfl⟩ := h
  exact pw_below_drewN (Below.refl _ _) n
theorem rput_ok (l : List Bool) (x n : Nat) (hn : n ≤ 56) (hx : x < 2 ^ n) : rput l x n = (l ++ nbits n x, 0) := by
  have e : okP x n = true := by
    refine decide_eq_true ⟨by omega, by omega, ?_⟩
    have : ((x : Int) / 2 ^ n) = ((x / 2 ^ n : Nat) : Int) := by simp
    rw [Int.toNat_natCast, this, Nat.div_eq_of_lt hx]; rfl
  unfold rput
  rw [e, if_pos rfl, Int.toNat_natCast, Int.toNat_natCast]
end Go.Proofs.Ytbbmnaiofdjacaa.Hd
