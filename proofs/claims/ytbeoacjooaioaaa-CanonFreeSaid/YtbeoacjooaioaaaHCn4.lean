/- The document's Codes, walked by hand. -/
import Derived.Test.YtbeoacjooaioaaaCnOrd
import Derived.BigQuiet
set_option linter.unusedVariables false
set_option linter.unusedSimpArgs false
set_option linter.unusedSectionVars false
namespace Go.Proofs.Ytbeoacjooaioaaa.Hd
open Go.RowKit Go.Proofs.YtbeoacjooaioaaaW.PrintWords Go.Proofs.YtbeoacjooaioaaaW.PrintLast Go.Proofs.YtbeoacjooaioaaaW.PrintMore Go.Proofs.Ytbeoacjooaioaaa.Hw Go.Proofs.Ytbeoacjooaioaaa.Cn Go.Proofs.Ytbeoacjooaioaaa.P
attribute [local go_sem] max2_int min2_int max_two min_two max_three min_three max_four min_four
attribute [local irreducible] ord pos code
def gladstoneref08_Codes.f (k : Nat) (l : List Int) : Option (List Int × Int) := (gladstoneref06_Check.f k l 16).bind fun t => if t = 0 then some (codesL l, 0) else some ([], t)
theorem gladstoneref08_Codes.mono : ∀ (l : List Int) (k : Nat), LeO (gladstoneref08_Codes.f k l) (gladstoneref08_Codes.f (k + 1) l) := fun l k => LeO.bind (gladstoneref06_Check.mono l 16 k) (fun _ => LeO.refl _)
/-- A row of the call's own that is younger than a block, while that is written. -/
theorem R_over {α : Type} {d : Kd α} {e : Nat} {w : World} {base : Nat} {ok : Nat → Prop} {v : Value} {xs : List α} (h : d.R e w base ok v xs) {p : Addr} (hp : p.block < base) (u : Value) : d.R e (w.setCell p u) base ok v xs :=
  Kd.R_mono (Kd.R_far (Kd.R_bound h) (fun k hk => by have := hk.2.1; omega) u) (fun k hk => hk.1)
theorem ord_lt {l : List Int} (hn : l.length ≤ 1024) {i : Nat} (h : i < (ord l).length) : i < 17408 := Nat.lt_of_lt_of_le h (by
  rw [ord_length]
  have := S_le (cn l) 1024 (fun j => Nat.le_trans (cn_le l j) hn) 17
  omega)
theorem shl_code {l : List Int} (hn : l.length ≤ 1024) (hl : ∀ x ∈ l, 0 ≤ x ∧ x ≤ 16) {p : Nat} (hp : p + 1 < (ord l).length) :
    IntKind.i64.wrap (IntKind.i64.wrap ((code l (od l p) : Int) + 1) * 2 ^ min (IntKind.u64.wrap (IntKind.i64.wrap (l.getD (od l (p + 1)) 0 - l.getD (od l p) 0))).toNat 64) = (code l (od l (p + 1)) : Int) := by
  obtain ⟨a1, a2, a5⟩ := od_mem (show p < (ord l).length by omega)
  obtain ⟨b1, b2, b5⟩ := od_mem hp
  obtain ⟨h1, h2⟩ := code_next hl hp
  have c1 := code_le hn hl (od l p)
  have c2 := code_le hn hl (od l (p + 1))
  rw [ln_cast a2, ln_cast b2]
  generalize ln l (od l p) = x at *
  generalize ln l (od l (p + 1)) = x' at *
  generalize code l (od l p) = c at *
  generalize code l (od l (p + 1)) = c' at *
  have e1 : IntKind.i64.wrap ((x' : Int) - x) = ((x' - x : Nat) : Int) := by rw [i64_w, Com.w64 (by omega) (by omega)]; omega
  have e2 : min (x' - x) 64 = x' - x := by omega
  have e3 : ((c : Int) + 1) * 2 ^ (x' - x) = ((c + 1) * 2 ^ (x' - x) : Nat) := by simp
  rw [e1, Com.wu64 (by omega) (by omega), Int.toNat_natCast, e2, i64_w, i64_w, Com.w64 (x := (c : Int) + 1) (by omega) (by omega), e3, ← h2, Com.w64 (by omega) (by omega)]
set_option maxHeartbeats 4000000 in
set_option maxRecDepth 100000 in
theorem gladstoneref08_Codes.calls (k : Nat) (A0 : Option Addr) (c0 : Nat) (l0 : List Int) (r1 : List Int) (r2 : Int) (w : World) (hr0 : Kd.C (Kd.int .i64) w A0 l0.length l0) (hc0 : l0.length ≤ c0) (h : gladstoneref08_Codes.f k l0 = some (r1, r2)) :
    Calls Try.prog 8 #[.slice A0 l0.length c0] w fun e w' => ∃ v0_ : Value, e = .returned (.tuple #[v0_, .int .i64 r2]) ∧ Kd.R (Kd.int .i64) 3 w' w.heap.size (fun _ => True) v0_ r1 ∧ Below w.heap.size w w' := by
  unfold gladstoneref08_Codes.f at h
  replace h := Option.bind_eq_some_iff.mp h
  obtain ⟨t, ht, h⟩ := h
  have KC := Aside0.mk ht
  have HR := Aside0.mk hr0
  have HC := Aside0.mk hc0
  by_cases t0 : t = 0
  · subst t0
    rw [if_pos rfl] at h
    obtain ⟨rfl, rfl⟩ := Prod.mk.inj (Option.some.inj h)
    have HK := Aside0.mk (rcheck_ok ht)
    have ho := rorder_ev l0 (by have := HK.out.1; omega)
    rw [if_pos (ev_one (Ev.of (fun k => gladstoneref06_Check.mono l0 16 k) ht) (Pure.rchk_ev l0 (by have := HK.out.1; omega) 16)).symm] at ho
    obtain ⟨ko, hko⟩ := ho
    have KO := Aside0.mk (hko ko (Nat.le_refl _))
    have OLT := Aside0.mk (fun i (hi : i < (ord l0).length) => ord_lt HK.out.1 hi)
    clear h ht hr0 hc0 hko
    go_enter Try.func8, Try.ntmps8
    go_wp2_with (first
      | (go_at_call 16; (with_reducible refine (gladstoneref06_Check.calls k _ _ l0 16 0 _ HR.out HC.out KC.out).mono ?_); rintro e w1 ⟨rfl, hB⟩; have B1 := Aside0.mk (Hd.drawn_b hB); clear hB)
      | ((with_reducible refine gate_dst (N := 16) rfl ?_); refine make_blk rfl rfl l0.length rfl rfl Try.underlying22 .i64 info3 (by decide) (by have := HK.out.1; omega) ?_; intro g8 w9 G8 K9 B9)
      | (go_at_call 11; (with_reducible refine (gladstoneref08_Order.calls ko _ _ l0 _ _ (Kd.C_below HR.out (below_step B1.out B9.out)) HC.out KO.out).mono ?_); rintro e w2 ⟨vo, rfl, hRo, hB⟩; have K3 := Aside0.mk (K9.out.below hB); have B3 := Aside0.mk (below_step (below_step B1.out B9.out) hB); obtain ⟨Ao, co, e_, hco, hCo⟩ := Kd.R_reads hRo; subst e_; rw [OL_length] at hRo; have RO := Aside0.mk hRo; clear hRo hB hco hCo; simp only [OL_length]))
    have G8' := Aside0.mk (Nat.le_trans B1.out.size G8.out)
    have GLT := Aside0.mk K9.out.lt
    rw [RC_start] at K3
    clear K9 B1 B9 G8 KC
    go_loopg [7, 8] (ord l0).length (fun q v7 v8 w' => ∃ (C L : Int) (m : Nat), v7 = .int .i64 C ∧ v8 = .int .i64 L ∧ Aside0 (L = (m : Int) ∧ m + q = (ord l0).length ∧ C = if m = 0 then 0 else (code l0 (od l0 (m - 1)) : Int)) ∧ Aside0 (Blk w' g8 .i64 3 (RC l0 m)) ∧ Aside0 (Kd.R (Kd.int .i64) 3 w' w9.heap.size (fun _ => True) (.slice Ao (ord l0).length co) (OL l0)) ∧ Aside0 (Below w.heap.size w w'))
    case atStart => exact ⟨0, 0, 0, rfl, rfl, ⟨rfl, by omega, rfl⟩, K3, RO, B3⟩
    case round =>
      clear K3 RO B3
      obtain ⟨C, L, m, rfl, rfl, HA, K8, RO, B3⟩ := hrel
      cases gk with
      | zero =>
        have t1 : decide (L < ((ord l0).length : Int)) = false := decide_eq_false (by have := HA.out; omega)
        have em : m = (ord l0).length := by have := HA.out; omega
        subst em
        rw [RC_end HK.out.2] at K8
        go_wp2
        go_ret2
        have hl : (codesL l0).length = l0.length := tabn_length _ _
        have := K8.out.R (base := w.heap.size) G8'.out (by rw [hl]; have := HK.out.1; simp [maxLen]; omega) (fun _ => True) trivial
        rw [hl] at this
        exact ⟨_, rfl, this, B3.out⟩
      | succ q =>
        have t1 : decide (L < ((ord l0).length : Int)) = true := decide_eq_true (by have := HA.out; omega)
        have p1 : (0 ≤ L) = True := eq_true (by have := HA.out; omega)
        have q1 : (L < ((ord l0).length : Int)) = True := eq_true (by have := HA.out; omega)
        have hm : m < (ord l0).length := by have := HA.out; omega
        have HCo : Kd.C (Kd.int .i64) wr Ao (ord l0).length (OL l0) := by
          obtain ⟨A_, c_, e_, l_, h_⟩ := Kd.R_reads RO.out
          rw [OL_length] at e_ h_
          cases e_
          exact h_
        obtain ⟨ad, e_, hc⟩ := Kd.at_int HCo L (by have := HA.out; omega) (by have := HA.out; omega)
        subst e_
        rw [OL_rd HA.out.1 hm] at hc
        obtain ⟨hs1, hs2, hs3⟩ := od_mem hm
        obtain ⟨s, hs⟩ : ∃ s, od l0 m = s := ⟨_, rfl⟩
        rw [hs] at hc hs1 hs2 hs3
        have p3 : (0 ≤ (s : Int)) = True := eq_true (by omega)
        have q3 : ((s : Int) < (l0.length : Int)) = True := eq_true (by omega)
        have q4 : (s < l0.length) = True := eq_true hs1
        have hlr : (RC l0 m).length = l0.length := tabn_length _ _
        have hcc2 := K8.out.cell s (by omega)
        have hff2 := K8.out.free s
        have HM := Aside0.mk (And.intro hm hs)
        by_cases h0 : m = 0
        · have t2 : decide (0 < L) = false := decide_eq_false (by have := HA.out; omega)
          have eC : C = 0 := by have := HA.out.2.2; rw [if_pos h0] at this; exact this
          subst eC
          have EC := Aside0.mk (show (code l0 s : Int) = 0 by
            have := code_first HK.out.2 (show 0 < (ord l0).length by omega)
            rw [← HM.out.2, h0, this]; rfl)
          clear hm hs hs1 hs2 hs3 hlr HCo h0
          go_wp2
          go_roundg q
          case measure => omega
          case rel =>
            refine ⟨0, wrap64 (L + 1), m + 1, rfl, rfl, ⟨?_, by have := HA.out; omega, ?_⟩, ⟨?_⟩, ⟨R_over RO.out GLT.out _⟩, ⟨below_set B3.out G8'.out⟩⟩
            · have := HA.out; have := OLT.out m HM.out.1; rw [Com.w64 (by omega) (by omega)]; omega
            · rw [if_neg (by omega), Nat.add_sub_cancel, HM.out.2, EC.out]
            · rw [← RC_step HK.out.2 HM.out.1, HM.out.2, EC.out]
              exact K8.out.put _ _
        · have t2 : decide (0 < L) = true := decide_eq_true (by have := HA.out; omega)
          obtain ⟨p, rfl⟩ : ∃ p, m = p + 1 := ⟨m - 1, by omega⟩
          have hp : p < (ord l0).length := by omega
          have eC : C = (code l0 (od l0 p) : Int) := by have := HA.out.2.2; rw [if_neg h0] at this; exact this
          subst eC
          have ew : IntKind.i64.wrap (L - 1) = (p : Int) := by rw [i64_w, Com.w64 (by have := HA.out; omega) (by have := HA.out; have := OLT.out _ hm; omega)]; have := HA.out; omega
          have p5 : (0 ≤ IntKind.i64.wrap (L - 1)) = True := eq_true (by omega)
          have q5 : (IntKind.i64.wrap (L - 1) < ((ord l0).length : Int)) = True := eq_true (by omega)
          obtain ⟨ad2, e_, hcp⟩ := Kd.at_int HCo (IntKind.i64.wrap (L - 1)) (by omega) (by omega)
          cases e_
          rw [OL_rd ew hp] at hcp
          obtain ⟨ht1, ht2, ht3⟩ := od_mem hp
          obtain ⟨t, ht⟩ : ∃ t, od l0 p = t := ⟨_, rfl⟩
          rw [ht] at hcp ht1 ht2 ht3
          have p6 : (0 ≤ (t : Int)) = True := eq_true (by omega)
          have q6 : ((t : Int) < (l0.length : Int)) = True := eq_true (by omega)
          have q7 : (t < l0.length) = True := eq_true ht1
          obtain ⟨ad3, e_, hcs⟩ := Kd.at_int HR.out (s : Int) (by omega) (by omega)
          subst e_
          obtain ⟨ad4, e_, hct⟩ := Kd.at_int HR.out (t : Int) (by omega) (by omega)
          cases e_
          have hcs1 := (B3.out.cell (World.block_lt_of_cell? w _ hcs)).trans hcs
          have hct1 := (B3.out.cell (World.block_lt_of_cell? w _ hct)).trans hct
          have es : rd l0 (s : Int) = l0.getD s 0 := by unfold rd; rw [Int.toNat_natCast]
          have et : rd l0 (t : Int) = l0.getD t 0 := by unfold rd; rw [Int.toNat_natCast]
          rw [es] at hcs1
          rw [et] at hct1
          rw [Int.toNat_natCast] at hcs1 hct1
          have EV := shl_code HK.out.1 HK.out.2 (p := p) hm
          rw [hs, ht] at EV
          obtain ⟨ls, hls⟩ : ∃ z, l0.getD s 0 = z := ⟨_, rfl⟩
          obtain ⟨lt, hlt⟩ : ∃ z, l0.getD t 0 = z := ⟨_, rfl⟩
          rw [hls] at hcs1 EV
          rw [hlt] at hct1 EV
          have EV := Aside0.mk EV
          rw [ht]
          have HT := Aside0.mk ht
          clear hm hp hs ht hs1 hs2 hs3 ht1 ht2 ht3 hlr HCo h0 ew es et hcs hct hls hlt
          go_wp2
          go_quiet (fail)
          try rw [EV.out]
          go_wp2
          go_roundg q
          case measure => omega
          case rel =>
            refine ⟨_, wrap64 (L + 1), p + 1 + 1, rfl, rfl, ⟨?_, by have := HA.out; omega, ?_⟩, ⟨?_⟩, ⟨R_over (Kd.R_drewN RO.out _) GLT.out _⟩, ⟨below_set (pw_below_drewN B3.out _) G8'.out⟩⟩
            · have := HA.out; have := OLT.out _ HM.out.1; rw [Com.w64 (by omega) (by omega)]; omega
            · rw [if_neg (by omega), Nat.add_sub_cancel, HM.out.2]
            · rw [← RC_step HK.out.2 HM.out.1, HM.out.2]
              exact (K8.out.drewN _).put _ _
  · rw [if_neg t0] at h
    obtain ⟨rfl, rfl⟩ := Prod.mk.inj (Option.some.inj h)
    clear h ht hr0 hc0
    have t1 : (t != 0) = true := by simpa using t0
    go_enter Try.func8, Try.ntmps8
    go_wp2_with (first
      | (go_at_call 16; (with_reducible refine (gladstoneref06_Check.calls k _ _ l0 16 t _ HR.out HC.out KC.out).mono ?_); rintro e w1 ⟨rfl, hB⟩; have B1 := Aside0.mk (Hd.drawn_b hB); clear hB))
    go_ret2
    exact ⟨_, rfl, Kd.R_nil _ _ _ _ _, B1.out⟩
end Go.Proofs.Ytbeoacjooaioaaa.Hd
