/- The plain law BittreeBack. -/
import Derived.Test.YtihpgdbggjhffaaPureBtr
import Derived.Test.YtihpgdbggjhffaaPx8
set_option linter.unusedVariables false
set_option linter.unusedSimpArgs false
set_option linter.unusedSectionVars false
namespace Go.Proofs.Ytihpgdbggjhffaa.Pure
open Go Go.RowKit Go.Proofs.YtihpgdbggjhffaaW.PrintWords Go.Proofs.YtihpgdbggjhffaaW.PrintMore Go.Proofs.Ytihpgdbggjhffaa.P Go.Proofs.Ytihpgdbggjhffaa.Com Go.Proofs.Ytihpgdbggjhffaa.Rn Go.Proofs.Ytihpgdbggjhffaa.Hd
theorem awake_ev : Ev (fun k => gladstonelaw46_awake.f k) true := Ev.of gladstonelaw46_awake.mono (k := 9) (by decide +kernel)
theorem awake_ev' : Ev (fun k => (gladstonelaw46_awake.f k).bind fun t => some t) true := Ev.bind awake_ev (Ev.now _)
theorem ints_l0 (l : List Int) (hl : l.length ≤ 17592186044416) (d : Nat) : ∀ i : Nat, i + d = l.length → Ev (fun k => gladstoneref08_Ints.l0 k l l (i : Int)) true := by
  induction d with
  | zero =>
    intro i hi
    refine Ev.step (f := fun _ => some true) (fun k => ?_) (Ev.now _)
    simp only [gladstoneref08_Ints.l0]
    rw [if_neg (by omega)]
  | succ d ih =>
    intro i hi
    refine Ev.step (fun k => ?_) (ih (i + 1) (by omega))
    simp only [gladstoneref08_Ints.l0]
    rw [if_pos (by omega), if_pos (by omega), if_pos (by omega)]
    simp [w64 (x := (i : Int) + 1) (by omega) (by omega)]
theorem ints_ev (l : List Int) (hl : l.length ≤ 17592186044416) : Ev (fun k => gladstoneref08_Ints.f k l l) true := by
  unfold gladstoneref08_Ints.f
  exact Ev.ifp rfl (ints_l0 l hl l.length 0 (by omega))
theorem low_bits (x n : Nat) (hx : x < 65536) (hn : n ≤ 9) : Go.bits .and .i64 (wrap64 (x : Int)) (wrap64 (shl .i64 1 (IntKind.u64.wrap (n : Int)) - 1)) = ((x % 2 ^ n : Nat) : Int) := by
  have hp : 1 ≤ 2 ^ n ∧ 2 ^ n ≤ 512 := by
    have : ∀ m : Nat, m ≤ 9 → 1 ≤ 2 ^ m ∧ 2 ^ m ≤ 512 := by decide
    exact this n hn
  rw [w64 (x := (x : Int)) (by omega) (by omega), wu64 (by omega) (by omega), shl64 (by omega) (by omega), Int.toNat_natCast]
  have e : ((2 : Int) ^ n) = ((2 ^ n : Nat) : Int) := by simp
  rw [e, w64 (by omega) (by omega)]
  have e2 : (((2 ^ n : Nat) : Int) - 1) = ((2 ^ n - 1 : Nat) : Int) := by omega
  rw [e2, (bits_i64 x (2 ^ n - 1) (by omega) (by omega)).1, Nat.and_two_pow_sub_one_eq_mod]
theorem back_l0 (l : List Int) (n : Nat) (hn : 1 ≤ n ∧ n ≤ 9) (hl : l.length ≤ 400) (hw : ∀ x ∈ l, 0 ≤ x ∧ x < 65536) (d : Nat) : ∀ i : Nat, i + d = l.length →
    Ev (fun k => gladstonelaw46_BittreeBack.l0 k l (n : Int) ((l.take i).map fun x => ((x.toNat % 2 ^ n : Nat) : Int)) (i : Int)) true := by
  induction d with
  | zero =>
    intro i hi
    obtain rfl : i = l.length := by omega
    rw [List.take_length]
    obtain ⟨m, hm⟩ : ∃ m, (l.map fun x => ((x.toNat % 2 ^ n : Nat) : Int)) = m := ⟨_, rfl⟩
    have hml : m.length = l.length := by rw [← hm]; simp
    have hb := bt_back n m hn (by
      intro x hx
      rw [← hm] at hx
      obtain ⟨y, _, rfl⟩ := List.mem_map.1 hx
      have := Nat.mod_lt y.toNat (show 2 ^ n > 0 by exact Nat.two_pow_pos n)
      omega) (by omega)
    rw [hm]
    refine Ev.step (f := fun k => (gladstoneref08_Ints.f k m m).bind fun t => if t = true then ((gladstonelaw46_awake.f k).bind fun t => some t) else some false) (fun k => ?_) ?_
    · simp only [gladstonelaw46_BittreeBack.l0]
      rw [if_neg (by omega)]
      have e1 : bittree_Encode.f m (n : Int) = some (btEnc m n) := if_pos (by omega)
      rw [e1]
      simp only [Option.bind_some, bittree_Decode.f]
      rw [hb.2, if_pos hb.1, if_pos rfl]
    · exact Ev.bind (ints_ev m (by omega)) (Ev.ifp rfl awake_ev')
  | succ d ih =>
    intro i hi
    have hi1 : l[i]? = some (l[i]'(by omega)) := List.getElem?_eq_getElem (by omega)
    have hx := hw _ (List.getElem_mem (by omega : i < l.length))
    have e1 : (l.take (i + 1)).map (fun x => ((x.toNat % 2 ^ n : Nat) : Int)) = (l.take i).map (fun x => ((x.toNat % 2 ^ n : Nat) : Int)) ++ [(((l[i]'(by omega)).toNat % 2 ^ n : Nat) : Int)] := by
      rw [List.take_succ_eq_append_getElem (by omega), List.map_append]; rfl
    have h := ih (i + 1) (by omega)
    rw [e1] at h
    generalize l[i]'(by omega) = x at *
    obtain ⟨y, rfl⟩ : ∃ y : Nat, x = y := ⟨x.toNat, by omega⟩
    refine Ev.step (fun k => ?_) h
    simp only [gladstonelaw46_BittreeBack.l0]
    rw [if_pos (by omega), if_pos (by omega), if_pos (by rw [wu64 (by omega) (by omega)]; omega), if_pos (by simp; omega), rd_some hi1, low_bits y n (by omega) hn.2, Int.toNat_natCast, w64 (x := (i : Int) + 1) (by omega) (by omega)]
    rfl
theorem BittreeBack : gladstonelaw46_BittreeBack.Pure := by
  intro l a _ _ hw ha
  apply Ev.rounds
  unfold gladstonelaw46_BittreeBack.f
  by_cases h : (l.length : Int) > 400
  · exact Ev.ifp h awake_ev'
  · refine Ev.ifn h ?_
    have ha' : 0 ≤ a ∧ a ≤ 255 := by simp [Lit.wf, IntKind.min, IntKind.max, IntKind.bits, IntKind.signed] at ha; omega
    obtain ⟨b, rfl⟩ : ∃ b : Nat, a = b := ⟨a.toNat, by omega⟩
    have e : wrap64 (wrap64 (Int.tmod (b : Int) 9) + 1) = ((b % 9 + 1 : Nat) : Int) := by
      rw [Int.tmod_eq_emod_of_nonneg (by omega), w64 (x := (b : Int) % 9) (by omega) (by omega), w64 (by omega) (by omega)]; omega
    rw [e]
    exact back_l0 l (b % 9 + 1) (by omega) (by omega) (fun x hx => by have := hw x hx; simp [Lit.wf, IntKind.min, IntKind.max, IntKind.bits, IntKind.signed] at this; omega) l.length 0 (by omega)
end Go.Proofs.Ytihpgdbggjhffaa.Pure
