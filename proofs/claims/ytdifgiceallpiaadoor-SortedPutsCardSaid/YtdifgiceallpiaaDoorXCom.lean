/- Plain lemmas of this session's own: wrap-round, elements of lists, rounds. -/
import Derived.Test.YtdifgiceallpiaaDoorXWWords
import Derived.Laws.BitsLemmas
set_option linter.unusedVariables false
set_option linter.unusedSimpArgs false
set_option linter.unusedSectionVars false
namespace Go.Proofs.YtdifgiceallpiaaDoor.Com
open Go.RowKit Go.Proofs.YtdifgiceallpiaaDoorW.PrintWords Go.Proofs.YtdifgiceallpiaaDoorW.PrintLast Go.Proofs.YtdifgiceallpiaaDoorW.PrintMore

theorem w64 {x : Int} (h1 : -9223372036854775808 ≤ x) (h2 : x ≤ 9223372036854775807) : wrap64 x = x := by
  unfold wrap64; omega

theorem rd_nat (l : List Int) (i : Nat) : rd l (i : Int) = l.getD i 0 := by simp [rd]
theorem _root_.Go.Proofs.YtdifgiceallpiaaDoorW.PrintWords.Ev.some {α : Type} {r r' : α} (h : r' = r) : Ev (fun _ => Option.some r') r := h ▸ Ev.now r'
theorem _root_.Go.Proofs.YtdifgiceallpiaaDoorW.PrintWords.Ev.ifp {α : Type} {c : Prop} [Decidable c] {f g : Nat → Option α} {r : α} (h : c) (k : Ev f r) : Ev (fun n => if c then f n else g n) r := by simpa [h] using k
theorem _root_.Go.Proofs.YtdifgiceallpiaaDoorW.PrintWords.Ev.ifn {α : Type} {c : Prop} [Decidable c] {f g : Nat → Option α} {r : α} (h : ¬ c) (k : Ev g r) : Ev (fun n => if c then f n else g n) r := by simpa [h] using k
theorem rd_some {l : List Int} {i : Nat} {a : Int} (h : l[i]? = some a) : rd l (i : Int) = a := by simp [rd, List.getD_eq_getElem?_getD, h]
theorem rdOf_some {α : Type} {d : α} {l : List α} {i : Nat} {a : α} (h : l[i]? = some a) : rdOf d l (i : Int) = a := by simp [rdOf, List.getD_eq_getElem?_getD, h]

/-- A loop along a list, told by what its state and what is left of the list come to. -/
theorem _root_.Go.Proofs.YtdifgiceallpiaaDoorW.PrintWords.Ev.along {α σ ρ : Type} (l : List α) (g : Nat → σ → Int → Option ρ) (spec : σ → List α → ρ) (Inv : Nat → σ → Prop)
    (nil : ∀ s, Inv l.length s → Ev (fun k => g k s (l.length : Int)) (spec s []))
    (cons : ∀ (i : Nat) s a t, Inv i s → l.drop i = a :: t → l[i]? = some a → i < l.length → (∀ s', Inv (i + 1) s' → Ev (fun k => g k s' ((i + 1 : Nat) : Int)) (spec s' t)) → Ev (fun k => g k s (i : Int)) (spec s (a :: t))) :
    ∀ (i : Nat) s, i ≤ l.length → Inv i s → Ev (fun k => g k s (i : Int)) (spec s (l.drop i)) := by
  have key : ∀ (d i : Nat) s, i + d = l.length → Inv i s → Ev (fun k => g k s (i : Int)) (spec s (l.drop i)) := by
    intro d
    induction d with
    | zero =>
      intro i s hi hs
      obtain rfl : i = l.length := by omega
      rw [List.drop_length]
      exact nil s hs
    | succ d ih =>
      intro i s hi hs
      have hlt : i < l.length := by omega
      have hd : l.drop i = l[i] :: l.drop (i + 1) := List.drop_eq_getElem_cons hlt
      rw [hd]
      exact cons i s _ _ hs hd (List.getElem?_eq_getElem hlt) hlt (fun s' hs' => ih (i + 1) s' (by omega) hs')
  intro i s hi hs
  exact key (l.length - i) i s (by omega) hs

theorem wu64 {x : Int} (h1 : 0 ≤ x) (h2 : x ≤ 18446744073709551615) : IntKind.u64.wrap x = x := by
  unfold IntKind.wrap; simp only [IntKind.bits, IntKind.signed]; simp; omega
theorem shl64 {y : Int} (h0 : 0 ≤ y) (h1 : y ≤ 62) : shl .i64 1 y = 2 ^ y.toNat := by
  have hy : y.toNat ≤ 62 := by omega
  have h3 : min y.toNat IntKind.i64.bits = y.toNat := by simp [IntKind.bits]; omega
  unfold shl
  rw [h3, Int.one_mul]
  have : ∀ n : Nat, n ≤ 62 → IntKind.i64.wrap (2 ^ n) = 2 ^ n := by decide +kernel
  exact this _ hy

theorem bits_i64 (a b : Nat) (ha : a < 2 ^ 63) (hb : b < 2 ^ 63) : Go.bits .and .i64 a b = ((a &&& b : Nat) : Int) ∧ Go.bits .or .i64 a b = ((a ||| b : Nat) : Int) :=
  bits_nat .i64 63 (by decide) (fun n h0 h1 => by rw [IntKind.wrap_i64]; omega) a b ha hb
theorem bits_u64 (a b : Nat) (ha : a < 2 ^ 64) (hb : b < 2 ^ 64) : Go.bits .and .u64 a b = ((a &&& b : Nat) : Int) ∧ Go.bits .or .u64 a b = ((a ||| b : Nat) : Int) :=
  bits_nat .u64 64 (by decide) (fun n h0 h1 => wu64 h0 (by omega)) a b ha hb
theorem bits_u8 (a b : Nat) (ha : a < 2 ^ 8) (hb : b < 2 ^ 8) : Go.bits .and .u8 a b = ((a &&& b : Nat) : Int) ∧ Go.bits .or .u8 a b = ((a ||| b : Nat) : Int) :=
  bits_nat .u8 8 (by decide) (fun n h0 h1 => by rw [IntKind.wrap_u8]; omega) a b ha hb
theorem or_join (x y i : Nat) (hx : x % 2 ^ i = 0) (hy : y < 2 ^ i) : x ||| y = x + y := by
  have hq : x = 2 ^ i * (x / 2 ^ i) := by
    have := Nat.div_add_mod x (2 ^ i)
    omega
  rw [hq, ← Nat.two_pow_add_eq_or_of_lt hy (x / 2 ^ i)]

end Go.Proofs.YtdifgiceallpiaaDoor.Com
