/- BitwPlays: what its walk needs. -/
import Derived.Test.YtbbmnaiofdjacaaHParts1
set_option linter.unusedVariables false
set_option linter.unusedSimpArgs false
set_option linter.unusedSectionVars false
namespace Go.Proofs.Ytbbmnaiofdjacaa.Hd
open Go.RowKit Go.Proofs.YtbbmnaiofdjacaaW.PrintWords Go.Proofs.YtbbmnaiofdjacaaW.PrintLast Go.Proofs.YtbbmnaiofdjacaaW.PrintMore Go.Proofs.Ytbbmnaiofdjacaa.Hw Go.Proofs.Ytbbmnaiofdjacaa.Com Go.Proofs.Ytbbmnaiofdjacaa.P
abbrev Dd := Int × Int × Int
def DK (p : Dd) (cs : List Value) : Prop := cs = [.int .i64 p.1, .int .i64 p.2.1, .int .u64 p.2.2]
theorem at_D {w : World} {A : Option Addr} {n : Nat} {xs : List Dd} (h : ReadsRow DK 3 w A n xs) (i : Int) (h0 : 0 ≤ i) (h1 : i < n) :
    ∃ ad k m x, xs[i.toNat]? = some (k, m, x) ∧ A = some ad ∧ w.cell? (ad.add (i.toNat * 3)) = some (.int .i64 k) ∧ w.cell? ⟨(ad.add (i.toNat * 3)).block, (ad.add (i.toNat * 3)).off + 1, none⟩ = some (.int .i64 m) ∧ w.cell? ⟨(ad.add (i.toNat * 3)).block, (ad.add (i.toNat * 3)).off + 2, none⟩ = some (.int .u64 x) := by
  obtain ⟨ad, e, hc⟩ := h.2.2 (by omega)
  have hl : i.toNat < xs.length := by have := h.1; omega
  obtain ⟨c, hs, hr, hcell⟩ := hc i.toNat _ (List.getElem?_eq_getElem hl)
  unfold DK at hr
  subst hr
  have e0 := hcell 0 _ rfl
  have e1 := hcell 1 _ rfl
  have e2 := hcell 2 _ rfl
  rw [add_field _ _ 1 (by omega)] at e1
  rw [add_field _ _ 2 (by omega)] at e2
  exact ⟨ad, _, _, _, List.getElem?_eq_getElem hl, e, e0, e1, e2⟩
/-- A row of bools is moved by what leaves such rows as they are. -/
theorem RB_move {w w1 : World} {base : Nat} {P : Nat → Prop} {v : Value} {xs : List Bool} (h : Kd.R Kd.bool 4 w base P v xs) (hm : ∀ k, k < w.heap.size → (∃ cells, w.heap[k]? = some (.cells cells 4 (0, 0))) → w1.heap[k]? = w.heap[k]?) : Kd.R Kd.bool 4 w1 base (fun _ => True) v xs := by
  obtain ⟨h0, inner, ho, hr⟩ := h
  exact ⟨fun _ _ => trivial, inner, own_move ho (fun k hk => hm k (own_lt ho k hk) (own_typed ho k hk)), hr⟩
/-- Rows of bools, by type. -/
def T4 (w : World) (k : Nat) : Prop := ∃ cells, w.heap[k]? = some (.cells cells 4 (0, 0))
theorem RB_typed {w : World} {base : Nat} {P : Nat → Prop} {v : Value} {xs : List Bool} (h : Kd.R Kd.bool 4 w base P v xs) : Kd.R Kd.bool 4 w base (T4 w) v xs := by
  obtain ⟨h0, inner, ho, hr⟩ := h
  exact ⟨fun k hk => own_typed ho k hk, inner, ho, hr⟩
theorem Wb.kept {w w' : World} {base g : Nat} {v : Value} {l : List Bool} (h : Wb w base g v l) (hk : Kept w w' (fun k_ => T4 w k_)) : Wb w' base g v l := by
  obtain ⟨B, wo, n, h1, h2, h3, h4, h5, h6⟩ := h
  refine ⟨B, wo, n, h1, h2, h3, h4, (hk.2 g (blk_lt h5) ?_).trans h5, R8_move h6 (fun k hv => hk.2 k (Kd.R_lt h6 k hv) ?_)⟩
  · rintro ⟨cells, hc⟩
    rw [h5] at hc
    injection hc with hc
    injection hc with _ hc
    exact absurd hc (by decide)
  · rintro ⟨cells, hc⟩
    obtain ⟨_, inner, ho, _⟩ := h6
    obtain ⟨cells', hc'⟩ := own_typed ho k hv
    rw [hc'] at hc
    injection hc with hc
    injection hc with _ hc
    exact absurd hc (by decide)
theorem RB_fr {w w1 : World} {base base' g : Nat} {v vb : Value} {l : List Bool} {P : Nat → Prop} {xs : List Bool} (h : Kd.R Kd.bool 4 w base P vb xs) (hW : Wb w base' g v l) (F : Fr w w1 g v) : Kd.R Kd.bool 4 w1 base (fun _ => True) vb xs := by
  obtain ⟨B, wo, n, h1, h2, h3, h4, h5, h6⟩ := hW
  obtain ⟨f1, f2, f3, f4, f5⟩ := F
  refine RB_move h (fun k hk hc => f5 k hk ?_ ?_)
  · rintro rfl
    obtain ⟨cells, hc⟩ := hc
    rw [h5] at hc
    injection hc with hc
    injection hc with _ hc
    exact absurd hc (by decide)
  · intro hv
    obtain ⟨_, inner, ho, _⟩ := h6
    obtain ⟨cells', hc'⟩ := own_typed ho k hv.symm
    obtain ⟨cells, hc⟩ := hc
    rw [hc'] at hc
    injection hc with hc
    injection hc with _ hc
    exact absurd hc (by decide)
theorem RB_below {w w1 : World} {base : Nat} {P : Nat → Prop} {v : Value} {xs : List Bool} (h : Kd.R Kd.bool 4 w base P v xs) (hb : Below w.heap.size w w1) : Kd.R Kd.bool 4 w1 base (fun _ => True) v xs := RB_move h (fun k hk _ => hb.block k hk)
theorem rput_len (l : List Bool) (x n : Int) : (rput l x n).1.length ≤ l.length + 56 := by
  unfold rput
  cases hw : okP x n with
  | false => simp
  | true =>
    simp only [okP, decide_eq_true_eq] at hw
    simp [nbits_length]; omega
theorem upW_lt (p : Nat) : upW p < 8 := by unfold upW; omega
theorem align_l0 (d : Nat) : ∀ (x : List Bool) (n : Nat), x.length + d ≤ 1000010 → n + d ≤ 1000010 → upW x.length = d → Ev (fun k => gladstoneref01_Align.l0 k x (n : Int)) (x ++ nbits d 0, ((n + d : Nat) : Int)) := by
  induction d with
  | zero =>
    intro x n hx hn hd
    unfold upW at hd
    refine Ev.step (f := fun _ => some (x, (n : Int))) (fun k => ?_) (Ev.some ?_)
    · simp only [gladstoneref01_Align.l0]
      rw [if_pos (by omega)]
    · simp [nbits]
  | succ d ih =>
    intro x n hx hn hd
    unfold upW at hd
    have h := ih (x ++ [false]) (n + 1) (by simp; omega) (by omega) (by unfold upW; rw [List.length_append, List.length_singleton]; omega)
    have e1 : x ++ [false] ++ nbits d 0 = x ++ nbits (d + 1) 0 := by simp [nbits]
    have e2 : n + 1 + d = n + (d + 1) := by omega
    rw [e1, e2] at h
    refine Ev.step (fun k => ?_) h
    simp only [gladstoneref01_Align.l0]
    rw [if_neg (by omega), if_pos (by omega)]
    have e3 : wrap64 ((n : Int) + 1) = ((n + 1 : Nat) : Int) := by rw [w64 (by omega) (by omega)]; omega
    rw [e3]
theorem align_ev (x : List Bool) (hx : x.length ≤ 1000000) : Ev (fun k => gladstoneref01_Align.f k x) (x ++ nbits (upW x.length) 0, ((upW x.length : Nat) : Int)) := by
  have h := align_l0 (upW x.length) x 0 (by have := upW_lt x.length; omega) (by have := upW_lt x.length; omega) rfl
  rw [Nat.zero_add] at h
  exact h
theorem Ev.get {α : Type} {f : Nat → Option α} {r : α} (h : Ev f r) : ∃ k, f k = some r := by
  obtain ⟨k, hk⟩ := h
  exact ⟨k, hk k (Nat.le_refl _)⟩
theorem align_get (x : List Bool) (hx : x.length ≤ 1000000) : ∃ k, gladstoneref01_Align.f k x = some (x ++ nbits (upW x.length) 0, ((upW x.length : Nat) : Int)) := Ev.get (align_ev x hx)
theorem rput_get (x : List Bool) (hx : x.length ≤ 1000000) (X N : Int) (h0 : 0 ≤ X) (h1 : X < 18446744073709551616) : ∃ k, gladstoneref01_Put.f k x X N = some ((rput x X N).1, (rput x X N).2) := Ev.get (rput_ev x (Nat.le_trans hx (by decide)) X N h0 h1)
theorem bytes_get (x : List Bool) (hx : x.length ≤ 1000000) : ∃ k, gladstoneref01_Bytes.f k x = some (bstr x) := Ev.get (bytes_ev x (Nat.le_trans hx (by decide)))
end Go.Proofs.Ytbbmnaiofdjacaa.Hd
