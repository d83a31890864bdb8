/- ranger.Decode, and Bit of what is none, walked by hand. -/
import Derived.Test.YtfijcedckpkpfaaHRg7
import Derived.Test.YtfijcedckpkpfaaHw3
set_option linter.unusedVariables false
set_option linter.unusedSimpArgs false
set_option linter.unusedSectionVars false
namespace Go.Proofs.Ytfijcedckpkpfaa.Hd
open Go.RowKit Go.Proofs.YtfijcedckpkpfaaW.PrintWords Go.Proofs.YtfijcedckpkpfaaW.PrintLast Go.Proofs.YtfijcedckpkpfaaW.PrintMore Go.Proofs.Ytfijcedckpkpfaa.Hw Go.Proofs.Ytfijcedckpkpfaa.Com Go.Proofs.Ytfijcedckpkpfaa.Rn Go.Proofs.Ytfijcedckpkpfaa.P
attribute [local go_sem] max2_int min2_int max_two min_two max_three min_three max_four min_four
set_option maxHeartbeats 4000000 in
set_option maxRecDepth 100000 in
theorem Bit_nil (p : Int) (w : World) :
    Calls Try.prog 15 #[.pointer none, .int .i64 p] w fun e w' => e = .returned (.tuple #[.bool false, .int .i64 1]) ∧ Drawn0 w w' := by
  go_enter Try.func15, Try.ntmps15
  go_wp2
  go_ret2
  exact ⟨rfl, by repeat (first | exact Drawn0.refl _ | apply Drawn0.step)⟩
set_option maxHeartbeats 4000000 in
set_option maxRecDepth 100000 in
theorem Bit_bad (g : Nat) (p : Int) (w : World) (hp : badP p = true) :
    Calls Try.prog 15 #[.pointer (some ⟨g, 0, none⟩), .int .i64 p] w fun e w' => e = .returned (.tuple #[.bool false, .int .i64 2]) ∧ Below w.heap.size w w' := by
  have BF := Aside0.mk (show ranger_bad.f p = some true by rw [bad_f, hp])
  clear hp
  go_enter Try.func15, Try.ntmps15
  go_wp2_with (first
    | (go_at_call 18; (with_reducible refine (ranger_bad.calls p _ _ BF.out).mono ?_); rintro e w1 ⟨rfl, n1, rfl⟩))
  go_ret2
  exact ⟨rfl, pw_below_drewN (Below.refl _ _) _⟩
abbrev Ds := Nat × Nat × Nat × ByteArray
/-- One bit on. -/
def dB (d : Ds) (p : Nat) : Bool := bitB d.1 d.2.1 d.2.2.1 p
def dN (d : Ds) (p : Nat) : Ds := nrm 4 (tk d.1 d.2.1 p (dB d p)).1 (tk d.1 d.2.1 p (dB d p)).2 d.2.2.1 d.2.2.2
def OkD (d : Ds) : Prop := d.1 < d.2.1 ∧ d.2.1 < 4294967296 ∧ d.2.2.1 < 4294967296
theorem nrm_ok {f a b x : Nat} {s : ByteArray} (h : Wd f a b) (hx : x < 4294967296) : OkD (nrm f a b x s) := by
  induction f generalizing a b x s with
  | zero =>
    have h0 := h.zero
    obtain ⟨h1, h2, _, _⟩ := h
    exact ⟨by show a < b; omega, h2, hx⟩
  | succ f ih =>
    rw [nrm]
    by_cases e : a / 16777216 = b / 16777216
    · rw [if_pos e]
      exact ih (h.step e) (nxX_lt x s)
    · rw [if_neg e]
      obtain ⟨h1, h2, _, _⟩ := h
      exact ⟨by show a < b; omega, h2, hx⟩
theorem dN_ok {d : Ds} {p : Nat} (h : OkD d) (hp : p < 2048) : OkD (dN d p) := by
  have ht := tk_ok (p := p) (bit := dB d p) h.1 hp
  exact nrm_ok (Wd.start ht.2.1 (Nat.lt_of_le_of_lt ht.2.2 h.2.1)) h.2.2
def dec : List Int → Ds → List Bool
  | [], _ => []
  | p :: t, d => dB d p.toNat :: dec t (dN d p.toNat)
def dStart (s : ByteArray) : Ds := (0, 4294967295, (nit 4 0 s).1, (nit 4 0 s).2)
theorem dStart_ok (s : ByteArray) : OkD (dStart s) := ⟨by show 0 < 4294967295; omega, by show 4294967295 < 4294967296; omega, nit_lt 4 0 s (by decide)⟩
theorem dec_len (l : List Int) : ∀ d, (dec l d).length = l.length := by
  induction l with
  | nil => intro d; rfl
  | cons p t ih => intro d; simp [dec, ih]
def decP (s : ByteArray) (l : List Int) : List Bool × Int := if l.any badP = true then ([], 2) else (dec l (dStart s), 0)
def ranger_Decode.f (s : ByteArray) (l : List Int) : Option (List Bool × Int) := if l.length ≤ 4294967296 then some (decP s l) else none
theorem info4 : (Try.prog.info? 4).map (fun i => (i.zero, i.size, i.bytes)) = some (some (.bool false), 1, 1) := by kernel_rfl
def DecD (W : World) (g : Nat) (d : Ds) : Prop := DecS W g d.1 d.2.1 d.2.2.1 d.2.2.2
theorem Bit_d (g : Nat) (d : Ds) (p : Nat) (w : World) (hS : DecD w g d) (ho : OkD d) (hp1 : 1 ≤ p) (hp : p ≤ 2047) :
    Calls Try.prog 15 #[.pointer (some ⟨g, 0, none⟩), .int .i64 p] w fun e w' => e = .returned (.tuple #[.bool (dB d p), .int .i64 0]) ∧ DecD w' g (dN d p) ∧ w.grownBy w' (some g) :=
  Bit_calls g d.1 d.2.1 d.2.2.1 p d.2.2.2 w hS ho.1 ho.2.1 ho.2.2 hp1 hp
set_option maxHeartbeats 8000000 in
set_option maxRecDepth 100000 in
theorem ranger_Decode.calls (a0 : ByteArray) (A1 : Option Addr) (c1 : Nat) (l1 : List Int) (r1 : List Bool) (r2 : Int) (w : World) (hr1 : Kd.C (Kd.int .i64) w A1 l1.length l1) (hc1 : l1.length ≤ c1) (h : ranger_Decode.f a0 l1 = some (r1, r2)) :
    Calls Try.prog 10 #[.string a0, .slice A1 l1.length c1] w fun e w' => ∃ v0_ : Value, e = .returned (.tuple #[v0_, .int .i64 r2]) ∧ Kd.R Kd.bool 4 w' w.heap.size (fun _ => True) v0_ r1 ∧ Below w.heap.size w w' := by
  unfold ranger_Decode.f at h
  by_cases hn : l1.length ≤ 4294967296
  · rw [if_pos hn] at h
    replace h := Option.some.inj h
    unfold decP at h
    have HR1 := Aside0.mk hr1
    have HN := Aside0.mk hn
    cases h2 : l1.any badP with
    | true =>
      rw [h2, if_pos rfl] at h
      obtain ⟨rfl, rfl⟩ := Prod.mk.inj h
      clear h hr1 hc1 hn
      go_enter Try.func10, Try.ntmps10
      go_wp2_with (first
        | (go_at_call 17; (with_reducible refine (contains_calls _ _ l1 _ HR1.out (Nat.le_trans HN.out (by decide))).mono ?_); rintro e w1 ⟨rfl, hB⟩; rw [h2]; have B1 := Aside0.mk hB; clear hB))
      go_ret2
      exact ⟨_, rfl, Kd.R_nil _ _ _ _ _, B1.out⟩
    | false =>
      rw [h2, if_neg (by decide)] at h
      obtain ⟨rfl, rfl⟩ := Prod.mk.inj h
      have HP := Aside0.mk (not_bad h2)
      clear h hr1 hc1 hn
      go_enter Try.func10, Try.ntmps10
      go_wp2_with (first
        | (go_at_call 17; (with_reducible refine (contains_calls _ _ l1 _ HR1.out (Nat.le_trans HN.out (by decide))).mono ?_); rintro e w1 ⟨rfl, hB⟩; rw [h2]; have B1 := Aside0.mk hB; clear hB)
        | (go_at_call 13; (with_reducible refine (New_calls a0 _).mono ?_); rintro e w2 ⟨g, rfl, hg, hS, hB⟩; have D2 := Aside0.mk (show DecD w2 g (dStart a0) from hS); have G2 := Aside0.mk (Nat.le_trans B1.out.size hg); have B2 := Aside0.mk (below_step B1.out hB); clear hg hS hB)
        | ((with_reducible refine gate_dst (N := 16) rfl ?_); refine make_bools rfl rfl l1.length rfl rfl Try.underlying22 info4 (by decide) (by have := HN.out; omega) ?_; intro g8 w3 G8 K8 B8; have B3 := Aside0.mk (below_step B2.out B8.out); have D3 := Aside0.mk (show DecD w3 g (dStart a0) from Sp.below D2.out B8.out); have G8' := Aside0.mk (Nat.le_trans B2.out.size G8.out)))
      have NE := Aside0.mk (show g ≠ g8 from Nat.ne_of_lt (Nat.lt_of_lt_of_le (Sp.lt D2.out) G8.out))
      clear B1 B2 D2 G8 B8
      go_loopg [19] l1.length (fun q v19 w' => ∃ (L : Int) (m : Nat) (d : Ds) (pre : List Bool), v19 = .int .i64 L ∧ Aside0 (L = (m : Int) ∧ m + q = l1.length ∧ OkD d ∧ pre.length = m ∧ pre ++ dec (l1.drop m) d = dec l1 (dStart a0)) ∧ Aside0 (DecD w' g d) ∧ Aside0 (BlB w' g8 4 (pre ++ List.replicate q false)) ∧ Aside0 (Below w.heap.size w w'))
      case atStart => exact ⟨0, 0, dStart a0, [], rfl, ⟨rfl, by omega, dStart_ok a0, rfl, rfl⟩, D3, K8, B3⟩
      case round =>
        clear D3 K8 B3
        obtain ⟨L, m, d, pre, rfl, HA, D4, K4, B4⟩ := hrel
        cases gk with
        | zero =>
          have t1 : decide (L < (l1.length : Int)) = false := decide_eq_false (by have := HA.out; omega)
          have E := Aside0.mk (show pre = dec l1 (dStart a0) by
            have := HA.out
            rw [← this.2.2.2.2, List.drop_eq_nil_of_le (by omega)]
            exact (List.append_nil _).symm)
          go_wp2
          go_ret2
          have hl := dec_len l1 (dStart a0)
          have hK := K4.out
          rw [List.replicate_zero, List.append_nil, E.out] at hK
          have hR := hK.R (base := w.heap.size) G8'.out (by rw [hl]; have := HN.out; simp [maxLen]; omega) (fun _ => True) trivial
          rw [hl] at hR
          exact ⟨_, rfl, hR, B4.out⟩
        | succ q =>
          have t1 : decide (L < (l1.length : Int)) = true := decide_eq_true (by have := HA.out; omega)
          have p1 : (0 ≤ L) = True := eq_true (by have := HA.out; omega)
          have q1 : (L < (l1.length : Int)) = True := eq_true (by have := HA.out; omega)
          obtain ⟨ad1, e_, hc1⟩ := Kd.at_int HR1.out L (by have := HA.out; omega) (by have := HA.out; omega)
          subst e_
          have hd1 := (B4.out.cell (World.block_lt_of_cell? w _ hc1)).trans hc1
          clear hc1
          have hm1 : m < l1.length := by have := HA.out; omega
          have e1 : l1.drop m = rd l1 L :: l1.drop (m + 1) := by
            rw [List.drop_eq_getElem_cons hm1, HA.out.1, rd_some (List.getElem?_eq_getElem hm1)]
          have hpr := HP.out (rd l1 L) (by rw [HA.out.1, rd_some (List.getElem?_eq_getElem hm1)]; exact List.getElem_mem hm1)
          obtain ⟨p, hp⟩ : ∃ p : Nat, rd l1 L = p := ⟨(rd l1 L).toNat, by omega⟩
          rw [hp] at hd1 e1 hpr
          have HE := HA.out.2.2.2.2
          rw [e1] at HE
          simp only [dec, Int.toNat_natCast] at HE
          have HE := Aside0.mk HE
          have PP := Aside0.mk (show 1 ≤ p ∧ p ≤ 2047 by omega)
          have eL := Aside0.mk (show L.toNat = m by have := HA.out; omega)
          clear hm1 e1 hpr hp
          go_wp2_with (first
            | (go_at_call 15; (with_reducible refine (Bit_d g d p wr D4.out HA.out.2.2.1 PP.out.1 PP.out.2).mono ?_); rintro e w5 ⟨rfl, hS, hG⟩; have D5 := Aside0.mk hS; have K5 := Aside0.mk (K4.out.grown hG (by have := NE.out; simp; exact fun e => this e.symm)); have B5 := Aside0.mk (below_grown B4.out hG G2.out B4.out.size); have hk5 := K5.out.cell L.toNat (by have := HA.out; simp; omega); have hf5 := K5.out.free L.toNat; clear hS hG))
          go_roundg q
          case measure => omega
          case rel =>
            refine ⟨wrap64 (L + 1), m + 1, dN d p, pre ++ [dB d p], rfl, ⟨?_, by have := HA.out; omega, dN_ok HA.out.2.2.1 (by have := PP.out; omega), ?_, ?_⟩, ⟨?_⟩, ⟨?_⟩, ⟨below_set B5.out G8'.out⟩⟩
            · have := HA.out; have := HN.out; rw [w64 (by omega) (by omega)]; omega
            · have := HA.out; simp; omega
            · rw [List.append_assoc]; exact HE.out
            · exact blk_far (p := ⟨g8, L.toNat, none⟩) D5.out NE.out _
            · have hp := K5.out.put L.toNat (dB d p)
              have e : (pre ++ List.replicate (q + 1) false).set L.toNat (dB d p) = pre ++ [dB d p] ++ List.replicate q false := by
                have hpl := HA.out.2.2.2.1
                rw [eL.out, List.replicate_succ, List.set_append_right _ _ (by omega), hpl, Nat.sub_self]
                simp
              rw [e] at hp
              exact hp
  · rw [if_neg hn] at h
    cases h
end Go.Proofs.Ytfijcedckpkpfaa.Hd
