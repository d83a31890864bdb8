/- ranger.encode, walked by hand. -/
import Derived.Test.YtfijcedckpkpfaaHRg3
import Derived.Great.BuildSlice
set_option linter.unusedVariables false
set_option linter.unusedSimpArgs false
set_option linter.unusedSectionVars false
namespace Go.Proofs.Ytfijcedckpkpfaa.Hd
open Go.RowKit Go.Proofs.YtfijcedckpkpfaaW.PrintWords Go.Proofs.YtfijcedckpkpfaaW.PrintLast Go.Proofs.YtfijcedckpkpfaaW.PrintMore Go.Proofs.Ytfijcedckpkpfaa.Hw Go.Proofs.Ytfijcedckpkpfaa.Com Go.Proofs.Ytfijcedckpkpfaa.Rn Go.Proofs.Ytfijcedckpkpfaa.P
attribute [local go_sem] max2_int min2_int max_two min_two max_three min_three max_four min_four
theorem store_one {P : Program} {ops : Array Oper} {rest : List Oper} {o : Oper} {a : Act} {w : World} {Q : Exit → Act → World → Prop} (hgd : o.guard = none) (ty : TypeId) (x y : Operand) (ho : o.op = .store ty x y)
    (g : Nat) (v : Value) (hx : a.eval x = .pointer (some ⟨g, 0, none⟩)) (hy : a.eval y = v) (h1 : v.oneCell' = true)
    (t : TypeId) (old : Value) (hg : w.heap[g]? = some (.cells #[old] t (0, 0))) (hi : (P.info? ty).map (·.size) = some 1)
    (h : ∀ w1, Aside0 (w1.heap[g]? = some (.cells #[v] t (0, 0))) → Aside0 (w.grownBy w1 (some g)) → wpList P ops Q rest (a.put o.dst undef) w1) : wpList P ops Q (o :: rest) a w :=
  wpList_store_one hgd ty x y ho g hx (by rw [hy]; exact h1) t old hg hi (by rw [hy]; exact h _ ⟨setRow_heap w g _ _ t _ hg⟩ ⟨grown_row w g _⟩)
theorem results_cell_slice {P : Program} {fn : Func} {p : Tmp} {ty e : TypeId} (h : fn.results = #[.cell p ty]) (tmps : Array Value) (w : World) (g : Nat) (v : Value)
    (hp : tmps.getD p undef = .pointer (some ⟨g, 0, none⟩)) (hc : w.cell? ⟨g, 0, none⟩ = some v) (hu : P.underlying ty = some (.slice e)) : (results fn tmps).run P w = .ok v w := by
  have hp' : tmps[p]?.getD undef = .pointer (some ⟨g, 0, none⟩) := by simpa using hp
  have hagg : (isAgg ty).run P w = .ok false w := by
    unfold isAgg
    rw [Sem.run_bind, run_underlying hu w]
    rfl
  have hl : (loadVar ty ⟨g, 0, none⟩).run P w = .ok v w := by
    simp [loadVar, Sem.run_bind, hagg, go_sem, hc]
  simp [results, h, hp', asAddr, hl]
theorem one52 : (Try.prog.info? 52).map (·.size) = some 1 := by kernel_rfl
def zi (l : List Nat) : List Int := l.map (fun n : Nat => (n : Int))
theorem zi_append (a b : List Nat) : zi (a ++ b) = zi a ++ zi b := by simp [zi]
/-- All bytes from here on. -/
def enc : List Bool → List Int → Nat → Nat → List Int
  | bit :: t, p :: ps, a, b => zi (norm 4 (tk a b p.toNat bit).1 (tk a b p.toNat bit).2).1 ++ enc t ps (norm 4 (tk a b p.toNat bit).1 (tk a b p.toNat bit).2).2.1 (norm 4 (tk a b p.toNat bit).1 (tk a b p.toNat bit).2).2.2
  | _, _, a, _ => lastB a 4
/-- Between two bytes: what is to come. -/
def Jn (q : Nat) (xs tot : List Int) (c : Nat) (ok : Bool) (a b : Nat) (t : List Bool) (ps : List Int) : Prop :=
  (ok = true ∧ ∃ f, q = f + 1 ∧ c < 256 ∧ Wd f a b ∧ xs ++ (c : Int) :: (zi (norm f a b).1 ++ enc t ps (norm f a b).2.1 (norm f a b).2.2) = tot) ∨
  (ok = false ∧ a < b ∧ b < 4294967296 ∧ xs ++ enc t ps a b = tot)
theorem Jn_shift {f : Nat} {xs tot : List Int} {a b : Nat} {t : List Bool} {ps : List Int} (h : Wd f a b) (e : xs ++ (zi (norm f a b).1 ++ enc t ps (norm f a b).2.1 (norm f a b).2.2) = tot) :
    Jn f xs tot (shr1 a b).1 (shr1 a b).2.1 (shr1 a b).2.2.1 (shr1 a b).2.2.2 t ps := by
  unfold shr1
  by_cases hs : a / 16777216 = b / 16777216
  · rw [if_pos hs]
    cases f with
    | zero => exact absurd hs h.zero
    | succ f =>
      refine .inl ⟨rfl, f, rfl, ?_, h.step hs, ?_⟩
      · have := h.1; have := h.2.1
        show a / 16777216 < 256
        omega
      · rw [norm, if_pos hs] at e
        exact e
  · rw [if_neg hs]
    have hn : norm f a b = ([], a, b) := by
      cases f with
      | zero => rfl
      | succ f => rw [norm, if_neg hs]
    rw [hn] at e
    exact .inr ⟨rfl, by have := h.1; show a < b; omega, h.2.1, e⟩
theorem norm_len (f a b : Nat) : (norm f a b).1.length ≤ f := by
  induction f generalizing a b with
  | zero => simp [norm]
  | succ f ih =>
    rw [norm]
    split
    · have := ih (sa a) (sb b)
      simp; omega
    · simp
theorem enc_len (l : List Bool) : ∀ (ps : List Int) (a b : Nat), (enc l ps a b).length ≤ 4 * l.length + 4 := by
  induction l with
  | nil => intro ps a b; simp [enc, lastB]
  | cons bit t ih =>
    intro ps a b
    cases ps with
    | nil => simp [enc, lastB]
    | cons p ps =>
      rw [enc]
      have h1 := norm_len 4 (tk a b p.toNat bit).1 (tk a b p.toNat bit).2
      have h2 := ih ps (norm 4 (tk a b p.toNat bit).1 (tk a b p.toNat bit).2).2.1 (norm 4 (tk a b p.toNat bit).1 (tk a b p.toNat bit).2).2.2
      rw [List.length_append, List.length_cons]
      simp [zi]
      omega
theorem R8_grown {w w1 : World} {base g t : Nat} {v : Value} {xs : List Int} {cells : Array Value} (h : Kd.R (Kd.int .u8) 5 w base (fun _ => True) v xs) (hb : w.heap[g]? = some (.cells cells t (0, 0))) (ht : 5 ≠ t) (hg : w.grownBy w1 (some g)) : Kd.R (Kd.int .u8) 5 w1 base (fun _ => True) v xs := by
  have hne := Kd.R_ne h hb ht
  have hlt : ∀ k, v.ownBlock = some k → k < w.heap.size := fun k hk => Kd.R_lt h k hk
  obtain ⟨h0, inner, ho, hr⟩ := h
  exact ⟨h0, inner, own_move ho (fun k hk => hg.block k (hlt k hk) (fun e => hne (by rw [hk, ← e]))), hr⟩
theorem enc_cons {bit : Bool} {t : List Bool} {p : Int} {ps : List Int} {a b : Nat} : enc (bit :: t) (p :: ps) a b = zi (norm 4 (tk a b p.toNat bit).1 (tk a b p.toNat bit).2).1 ++ enc t ps (norm 4 (tk a b p.toNat bit).1 (tk a b p.toNat bit).2).2.1 (norm 4 (tk a b p.toNat bit).1 (tk a b p.toNat bit).2).2.2 := rfl
set_option maxHeartbeats 8000000 in
set_option maxRecDepth 100000 in
theorem encode_calls (A0 : Option Addr) (c0 : Nat) (l0 : List Bool) (A1 : Option Addr) (c1 : Nat) (l1 : List Int) (w : World) (hr0 : Kd.C Kd.bool w A0 l0.length l0) (hr1 : Kd.C (Kd.int .i64) w A1 l1.length l1) (hl : l0.length = l1.length) (hn : l0.length ≤ 4294967296) (hp : ∀ x ∈ l1, 1 ≤ x ∧ x ≤ 2047) :
    Calls Try.prog 19 #[.slice A0 l0.length c0, .slice A1 l1.length c1] w fun e w' => ∃ v : Value, e = .returned v ∧ Kd.R (Kd.int .u8) 5 w' w.heap.size (fun _ => True) v (enc l0 l1 0 4294967295) ∧ Below w.heap.size w w' := by
  have HR0 := Aside0.mk hr0
  have HR1 := Aside0.mk hr1
  have HL := Aside0.mk hl
  have HN := Aside0.mk hn
  have HP := Aside0.mk hp
  clear hr0 hr1 hl hn hp
  go_enter_defers Try.func19, Try.ntmps19
  go_wp2_with (first
    | (go_at_call 23; (with_reducible refine (ranger_fresh.calls _ _ _ rfl).mono ?_); rintro e w1 ⟨rfl, hB⟩; have B1 := Aside0.mk hB; clear hB))
  have X1 := Aside0.mk (show Ov (w1.alloc (.cells #[.int .u64 0, .int .u64 4294967295] 59)) w.heap.size (.slice none 0 0) from blk_alloc (blk_below (blk_new w _) B1.out) _)
  have S1 := Aside0.mk (show Sp (w1.alloc (.cells #[.int .u64 0, .int .u64 4294967295] 59)) w1.heap.size 59 [] (0 : Nat) (4294967295 : Nat) from blk_new w1 _)
  have C1 := Aside0.mk (below_alloc (below_step (below_alloc (Below.refl w.heap.size w) (.cells #[.slice none 0 0] 52)) B1.out) (.cells #[.int .u64 0, .int .u64 4294967295] 59))
  have G5 := Aside0.mk (show w.heap.size ≤ w1.heap.size from (below_step (below_alloc (Below.refl w.heap.size w) (.cells #[.slice none 0 0] 52)) B1.out).size)
  have TL := Aside0.mk (enc_len l0 l1 0 4294967295)
  clear B1
  go_loopg [14] l0.length (fun q v14 w' => ∃ (L : Int) (m a b : Nat) (A : Option Addr) (xs : List Int) (cc : Nat), v14 = .int .i64 L ∧ Aside0 (L = (m : Int) ∧ m + q = l0.length ∧ a < b ∧ b < 4294967296 ∧ xs ++ enc (l0.drop m) (l1.drop m) a b = enc l0 l1 0 4294967295) ∧ Aside0 (Ov w' w.heap.size (.slice A xs.length cc)) ∧ Aside0 (Kd.R (Kd.int .u8) 5 w' w.heap.size (fun _ => True) (.slice A xs.length cc) xs) ∧ Aside0 (Sp w' w1.heap.size 59 [] a b) ∧ Aside0 (Below w.heap.size w w'))
  case atStart => exact ⟨0, 0, 0, 4294967295, none, [], 0, rfl, ⟨rfl, by omega, by omega, by omega, rfl⟩, X1, ⟨Kd.R_nil _ _ _ _ _⟩, S1, C1⟩
  case round =>
    clear X1 S1 C1
    obtain ⟨L, m, a, b, A, xs, cc, rfl, HA, X, R, W, B⟩ := hrel
    cases gk with
    | zero =>
      have t1 : decide (L < (l0.length : Int)) = false := decide_eq_false (by have := HA.out; omega)
      have E := Aside0.mk (show xs ++ lastB a 4 = enc l0 l1 0 4294967295 by
        have := HA.out
        have e := this.2.2.2.2
        rw [List.drop_eq_nil_of_le (by omega)] at e
        exact e)
      have hx := (blk_cell X.out 0).trans (rfl : _ = some (Value.slice A xs.length cc))
      have hf := blk_frozen X.out 0
      go_wp2
      refine leaves_cons (f := 31) (args := #[.pointer (some ⟨w.heap.size, 0, none⟩), .pointer (some ⟨w1.heap.size, 0, none⟩)]) (by simp) (by simp [go_sem]) ?_
      have X9 : Ov (wr.setCell ⟨w.heap.size, 0, none⟩ (.slice A xs.length cc)) w.heap.size (.slice A xs.length cc) := blk_set X.out 0 _
      have R9 := Kd.R_set R.out X.out (by decide) 0 (.slice A xs.length cc)
      have W9 : Sp (wr.setCell ⟨w.heap.size, 0, none⟩ (.slice A xs.length cc)) w1.heap.size 59 [] a b := blk_far (p := ⟨w.heap.size, 0, none⟩) W.out (blk_ne X.out W.out (by decide)).symm _
      have B9 := below_set (j := 0) (v := .slice A xs.length cc) B.out (Nat.le_refl _)
      refine (last_calls w.heap.size w1.heap.size _ xs a b w.heap.size _ .returning X9 R9 W9 (Nat.le_refl _) (by have := HA.out; omega) ?_).mono ?_
      · have h1 := TL.out
        have h2 := HN.out
        have h3 := congrArg List.length E.out
        rw [List.length_append] at h3
        omega
      rintro e u' w'' ⟨rfl, rfl, v', hX, hR, hB⟩
      have hc := (blk_cell hX 0).trans (rfl : _ = some v')
      rw [E.out] at hR
      exact ⟨v', results_cell_slice rfl _ _ w.heap.size v' rfl hc Try.underlying52, v', rfl, hR, B9.trans hB⟩
    | succ q =>
      have t1 : decide (L < (l0.length : Int)) = true := decide_eq_true (by have := HA.out; omega)
      have p1 : (0 ≤ L) = True := eq_true (by have := HA.out; omega)
      have q1 : (L < (l0.length : Int)) = True := eq_true (by have := HA.out; omega)
      have q2 : (L < (l1.length : Int)) = True := eq_true (by have := HA.out; have := HL.out; omega)
      obtain ⟨ad0, e_, hc0⟩ := Kd.at_bool HR0.out L (by have := HA.out; omega) (by have := HA.out; omega)
      subst e_
      obtain ⟨ad1, e_, hc1⟩ := Kd.at_int HR1.out L (by have := HA.out; omega) (by have := HA.out; have := HL.out; omega)
      subst e_
      have hd0 := (B.out.cell (World.block_lt_of_cell? w _ hc0)).trans hc0
      have hd1 := (B.out.cell (World.block_lt_of_cell? w _ hc1)).trans hc1
      clear hc0 hc1
      have hm : m < l0.length := by have := HA.out; omega
      have hm1 : m < l1.length := by have := HL.out; omega
      have e0 : l0.drop m = rdOf false l0 L :: l0.drop (m + 1) := by
        rw [List.drop_eq_getElem_cons hm, HA.out.1, rdOf_some (List.getElem?_eq_getElem hm)]
      have e1 : l1.drop m = rd l1 L :: l1.drop (m + 1) := by
        rw [List.drop_eq_getElem_cons hm1, HA.out.1, rd_some (List.getElem?_eq_getElem hm1)]
      have hpr := HP.out (rd l1 L) (by rw [HA.out.1, rd_some (List.getElem?_eq_getElem hm1)]; exact List.getElem_mem hm1)
      obtain ⟨bit, hbit⟩ : ∃ x, rdOf false l0 L = x := ⟨_, rfl⟩
      obtain ⟨p, hp⟩ : ∃ p : Nat, rd l1 L = p := ⟨(rd l1 L).toNat, by omega⟩
      rw [hbit] at hd0 e0
      rw [hp] at hd1 e1 hpr
      have HE := HA.out.2.2.2.2
      rw [e0, e1, enc_cons, Int.toNat_natCast] at HE
      have HT := Aside0.mk (tk_ok (p := p) (bit := bit) HA.out.2.2.1 (by omega))
      have HE := Aside0.mk HE
      have PP := Aside0.mk (show p ≤ 2048 by omega)
      have LT := Aside0.mk (And.intro (Nat.le_of_lt HA.out.2.2.1) HA.out.2.2.2.1)
      clear hm hm1 e0 e1 hpr hbit hp
      obtain ⟨a1, ha1⟩ : ∃ x, (tk a b p bit).1 = x := ⟨_, rfl⟩
      obtain ⟨b1, hb1⟩ : ∃ x, (tk a b p bit).2 = x := ⟨_, rfl⟩
      rw [ha1, hb1] at HT HE
      have HTA := Aside0.mk (And.intro ha1 hb1)
      clear ha1 hb1
      have WD := Aside0.mk (Wd.start HT.out.2.1 (Nat.lt_of_le_of_lt HT.out.2.2 LT.out.2))
      have JN := Aside0.mk (Jn_shift WD.out HE.out)
      have AB := Aside0.mk (show a1 < 4294967296 ∧ b1 < 4294967296 by have := HT.out; have := LT.out; omega)
      go_wp2_with (first
        | (go_at_call 27; (with_reducible refine (take_calls w1.heap.size 59 [] a b p bit wr W.out LT.out.1 LT.out.2 PP.out).mono ?_); rintro e w3 ⟨rfl, hS, hG⟩; rw [HTA.out.1, HTA.out.2] at hS; have W3 := Aside0.mk hS; have X3 := Aside0.mk (blk_grown X.out hG (by have := blk_ne X.out W.out (by decide); simp; exact this)); have R3 := Aside0.mk (R8_grown R.out W.out (by decide) hG); have B3 := Aside0.mk (below_grown B.out hG G5.out B.out.size); clear hS hG)
        | (go_at_call 28; (with_reducible refine (shift_calls w1.heap.size 59 [] a1 b1 w3 W3.out AB.out.1 AB.out.2).mono ?_); rintro e w4 ⟨rfl, hS, hG⟩; have W4 := Aside0.mk hS; have X4 := Aside0.mk (blk_grown X3.out hG (by have := blk_ne X3.out W3.out (by decide); simp; exact this)); have R4 := Aside0.mk (R8_grown R3.out W3.out (by decide) hG); have B4 := Aside0.mk (below_grown B3.out hG G5.out B3.out.size); clear hS hG))
      obtain ⟨ci, hci⟩ : ∃ x, (shr1 a1 b1).1 = x := ⟨_, rfl⟩
      obtain ⟨oki, hoki⟩ : ∃ x, (shr1 a1 b1).2.1 = x := ⟨_, rfl⟩
      obtain ⟨ai, hai⟩ : ∃ x, (shr1 a1 b1).2.2.1 = x := ⟨_, rfl⟩
      obtain ⟨bi, hbi⟩ : ∃ x, (shr1 a1 b1).2.2.2 = x := ⟨_, rfl⟩
      rw [hci, hoki, hai, hbi] at JN
      rw [hai, hbi] at W4
      rw [hci, hoki]
      clear hci hoki hai hbi W X R B W3 X3 R3 B3 WD HT HE LT PP AB HTA hd0 hd1
      go_loopg [8, 9] 4 (fun q8 v8 v9 w' => ∃ (c : Nat) (ok : Bool) (a2 b2 : Nat) (A2 : Option Addr) (xs2 : List Int) (cc2 : Nat), v8 = .int .u8 c ∧ v9 = .bool ok ∧ Aside0 (Jn q8 xs2 (enc l0 l1 0 4294967295) c ok a2 b2 (l0.drop (m + 1)) (l1.drop (m + 1))) ∧ Aside0 (Ov w' w.heap.size (.slice A2 xs2.length cc2)) ∧ Aside0 (Kd.R (Kd.int .u8) 5 w' w.heap.size (fun _ => True) (.slice A2 xs2.length cc2) xs2) ∧ Aside0 (Sp w' w1.heap.size 59 [] a2 b2) ∧ Aside0 (Below w.heap.size w w'))
      case atStart => exact ⟨ci, oki, ai, bi, A, xs, cc, rfl, rfl, JN, X4, R4, W4, B4⟩
      case round =>
        clear JN X4 R4 W4 B4
        obtain ⟨c, ok, a2, b2, A2, xs2, cc2, rfl, rfl, JN, X, R, W, B⟩ := hrel
        rcases JN.out with ⟨hok, f, hq, hc, hw, he⟩ | ⟨hok, hab, hb, he⟩
        · subst hok
          subst hq
          have HW := Aside0.mk (show a2 < 4294967296 ∧ b2 < 4294967296 by have h1 := hw.1; have h2 := hw.2.1; omega)
          have HE := Aside0.mk (Jn_shift (tot := enc l0 l1 0 4294967295) (xs := xs2 ++ [(c : Int)]) hw (by rw [List.append_assoc]; exact he))
          have HX := Aside0.mk (show xs2.length ≤ 4 * 4294967296 + 4 by
            have h1 := TL.out
            have h2 := HN.out
            have h3 := congrArg List.length he
            rw [List.length_append] at h3
            omega)
          have hxc := (blk_cell X.out 0).trans (rfl : _ = some (Value.slice A2 xs2.length cc2))
          clear hw hc he JN
          go_wp2_with (first
            | ((with_reducible refine gate_builtin (b := .append) (xs := #[.tmp 34, .tmp 36]) rfl ?_); at_builtin; refine Kd.R_append (Kd.int .u8) (w0 := w) w.heap.size rfl (.tmp 34) (.tmp 36) 52 5 (.int .u8 0) 1 rfl Try.underlying52 info5 rfl (by decide) (by omega) (.slice A2 xs2.length cc2) xs2 (c : Int) [.int .u8 c] (fun _ => True) (fun _ => False) rfl (by first | (go_simp; done) | (go_simp; rfl)) ?aP (fun _ hk => hk.elim) ?aF ?aO ?aB ?aS ?aL ?_; (case aP => exact rfl); (case aF => exact (fun _ _ => trivial)); (case aO => exact R.out); (case aB => exact B.out); (case aS => exact B.out.size); (case aL => have := HX.out; omega); intro v1 w5 ho5 hb5 hg5 ha5; obtain ⟨A3, c3, e3⟩ := Kd.R_slice ho5; subst e3; have NE := Aside0.mk (And.intro (Kd.R_ne R.out X.out (by decide)) (Kd.R_ne R.out W.out (by decide))); have X5 := Aside0.mk (blk_grown X.out hg5 NE.out.1); have W5 := Aside0.mk (W.out.grown hg5 NE.out.2); have O5 := Aside0.mk ho5; have B5 := Aside0.mk hb5; clear ho5 hb5 hg5 ha5)
            | ((with_reducible refine gate_store (t := 52) (p := 4) rfl ?_); refine store_one rfl 52 (.tmp 4) (.tmp 37) rfl w.heap.size _ rfl rfl rfl 52 _ X5.out one52 ?_; intro w6 X6 G6; have W6 := Aside0.mk (W5.out.grown G6.out (by have := blk_ne X5.out W5.out (by decide); simp; exact this.symm)); have R6 := Aside0.mk (R8_grown O5.out X5.out (by decide) G6.out); have B6 := Aside0.mk (below_grown B5.out G6.out (Nat.le_refl _) B5.out.size))
            | (go_at_call 28; (with_reducible refine (shift_calls w1.heap.size 59 [] a2 b2 w6 W6.out HW.out.1 HW.out.2).mono ?_); rintro e w7 ⟨rfl, hS, hG⟩; have W7 := Aside0.mk hS; have X7 := Aside0.mk (blk_grown X6.out hG (by have := blk_ne X6.out W6.out (by decide); simp; exact this)); have R7 := Aside0.mk (R8_grown R6.out W6.out (by decide) hG); have B7 := Aside0.mk (below_grown B6.out hG G5.out B6.out.size); clear hS hG))
          go_roundg f
          case measure => omega
          case rel => exact ⟨_, _, _, _, A3, xs2 ++ [(c : Int)], c3, rfl, rfl, HE, X7, R7, W7, B7⟩
        · subst hok
          have HX := Aside0.mk (And.intro hab (And.intro hb he))
          clear hab hb he JN
          go_wp2
          go_roundg q
          case measure => omega
          case rel =>
            refine ⟨wrap64 (L + 1), m + 1, a2, b2, A2, xs2, cc2, rfl, ⟨?_, by have := HA.out; omega, HX.out.1, HX.out.2.1, HX.out.2.2⟩, X, R, W, B⟩
            have := HA.out; have := HN.out; rw [w64 (by omega) (by omega)]; omega
end Go.Proofs.Ytfijcedckpkpfaa.Hd
