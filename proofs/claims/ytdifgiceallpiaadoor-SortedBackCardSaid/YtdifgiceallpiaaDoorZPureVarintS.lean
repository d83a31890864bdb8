/- The plain laws of chapter 3 (numbers in few bytes). -/
import Derived.Test.YtdifgiceallpiaaDoorZByt
import Derived.Test.YtdifgiceallpiaaDoorZHRead
import Derived.Test.YtdifgiceallpiaaDoorZPx4
set_option linter.unusedVariables false
set_option linter.unusedSimpArgs false
set_option linter.unusedSectionVars false
namespace Go.Proofs.YtdifgiceallpiaaDoor.Pure
open Go.RowKit Go.Proofs.YtdifgiceallpiaaDoorW.PrintWords Go.Proofs.YtdifgiceallpiaaDoorW.PrintMore Go.Proofs.YtdifgiceallpiaaDoor.Pa Go.Proofs.YtdifgiceallpiaaDoor.Hd Go.Proofs.YtdifgiceallpiaaDoor.P Go.Proofs.YtdifgiceallpiaaDoor.Com

/-! ### a number's bytes -/
def en (n : Nat) : List Nat := if h : n < 128 then [n] else (128 + n % 128) :: en (n / 128)
termination_by n
decreasing_by omega
theorem en_small {n : Nat} (h : n < 128) : en n = [n] := by rw [en]; simp [h]
theorem en_big {n : Nat} (h : 128 ≤ n) : en n = (128 + n % 128) :: en (n / 128) := by rw [en]; simp [Nat.not_lt.2 h]
theorem en_pos (n : Nat) : 1 ≤ (en n).length := by
  by_cases h : n < 128
  · rw [en_small h]; simp
  · rw [en_big (by omega)]; simp
theorem en_lt (n : Nat) : ∀ x ∈ en n, x < 256 := by
  induction n using Nat.strongRecOn with
  | _ n ih =>
    by_cases h : n < 128
    · rw [en_small h]; intro x hx; simp at hx; omega
    · rw [en_big (by omega)]
      intro x hx
      rcases List.mem_cons.1 hx with rfl | hx
      · omega
      · exact ih (n / 128) (by omega) x hx
theorem en_len (d : Nat) : ∀ n, n < 128 * 128 ^ d → (en n).length ≤ d + 1 := by
  induction d with
  | zero => intro n h; rw [en_small (by omega)]; simp
  | succ d ih =>
    intro n h
    by_cases hn : n < 128
    · rw [en_small hn]; simp
    · rw [en_big (by omega), List.length_cons]
      rw [Nat.pow_succ] at h
      have := ih (n / 128) (by omega)
      omega
theorem en_len5 {n : Nat} (h : n < 4294967296) : (en n).length ≤ 5 := en_len 4 n (by omega)

/-- A number's bytes, as a string. -/
def bs (n : Nat) : ByteArray := strOfNums ((en n).map (fun x : Nat => (x : Int)))
theorem nb_bs (n : Nat) : nb (bs n) = en n := nb_str _ (en_lt n)
theorem bs_size (n : Nat) : (bs n).size = (en n).length := by rw [← nb_length, nb_bs]

/-! ### how many -/
def inR (n : Int) : Bool := decide (0 ≤ n ∧ n ≤ 4294967295)
def sz (n : Int) : Int := if inR n then ((en n.toNat).length : Int) else 0

theorem size_l0 (n : Nat) : ∀ c : Nat, c + n ≤ 1099511627776 → Ev (fun k => varint_Size.l0 k ((n / 128 : Nat) : Int) (c : Int)) ((c + (en n).length - 1 : Nat) : Int) := by
  induction n using Nat.strongRecOn with
  | _ n ih =>
    intro c hc
    by_cases h : n < 128
    · rw [en_small h]
      refine Ev.step (f := fun _ => some (c : Int)) (fun k => ?_) (Ev.some (by simp))
      simp only [varint_Size.l0]
      rw [if_neg (by omega)]
    · have hp := en_pos (n / 128)
      rw [en_big (by omega)]
      have := ih (n / 128) (by omega) (c + 1) (by omega)
      have e : c + 1 + (en (n / 128)).length - 1 = c + ((128 + n % 128) :: en (n / 128)).length - 1 := by simp only [List.length_cons]; omega
      rw [e] at this
      refine Ev.step (fun k => ?_) this
      simp only [varint_Size.l0]
      rw [if_pos (by omega), w64 (x := (c : Int) + 1) (by omega) (by omega)]
      have e2 : ((n / 128 : Nat) : Int) / 128 = ((n / 128 / 128 : Nat) : Int) := by omega
      rw [e2]
      rfl

theorem size_ev (n : Int) : Ev (fun k => varint_Size.f k n) (sz n) := by
  unfold sz
  by_cases h : 0 ≤ n ∧ n ≤ 4294967295
  · have e : inR n = true := by simp [inR, h]
    rw [e, if_pos rfl]
    have h1 := size_l0 n.toNat 1 (by omega)
    have e1 : 1 + (en n.toNat).length - 1 = (en n.toNat).length := by omega
    rw [e1] at h1
    have e2 : ((n.toNat / 128 : Nat) : Int) = n / 128 := by omega
    rw [e2] at h1
    refine Ev.step (fun k => ?_) h1
    simp only [varint_Size.f]
    rw [if_neg (by omega)]
    simp only [varint_Size.j0]
    rw [if_neg (by simp; omega)]
    rfl
  · have e : inR n = false := by simp [inR]; omega
    rw [e, if_neg (by simp)]
    refine Ev.step (f := fun _ => some 0) (fun k => ?_) (Ev.now _)
    simp only [varint_Size.f]
    by_cases h1 : n < 0
    · rw [if_pos h1]; simp only [varint_Size.j0]; rfl
    · rw [if_neg h1]; simp only [varint_Size.j0]; rw [if_pos (by simp; omega)]

/-! ### putting -/
/-- So many bytes, each with the high bit. -/
def hi : Nat → Nat → List Int
  | 0, _ => []
  | d + 1, n => ((128 + n % 128 : Nat) : Int) :: hi d (n / 128)
theorem hi_length (d : Nat) : ∀ n, (hi d n).length = d := by
  induction d with
  | zero => intro n; rfl
  | succ d ih => intro n; simp [hi, ih]

theorem low7 (n : Nat) (h : n < 2 ^ 62) : Go.bits .and .i64 (n : Int) 127 = ((n % 128 : Nat) : Int) := by
  have := (bits_i64 n 127 (by omega) (by omega)).1
  rw [show n &&& 127 = n % 128 from Nat.and_two_pow_sub_one_eq_mod n 7] at this
  exact this
theorem low7b (n : Nat) (h : n < 256) : Go.bits .and .u8 (n : Int) 127 = ((n % 128 : Nat) : Int) := by
  have := (bits_u8 n 127 (by omega) (by omega)).1
  rw [show n &&& 127 = n % 128 from Nat.and_two_pow_sub_one_eq_mod n 7] at this
  exact this
theorem or128 (n : Nat) (h : n < 128) : Go.bits .or .u8 (n : Int) 128 = ((128 + n : Nat) : Int) := by
  have := (bits_u8 n 128 (by omega) (by omega)).2
  rw [Nat.or_comm, or_join 128 n 7 (by omega) (by omega)] at this
  exact this

/-- The last byte without its high bit. -/
theorem hi_en (d : Nat) : ∀ n : Nat, (en n).length = d + 1 → ∀ pre : List Int, (pre ++ hi (d + 1) n).set (pre.length + d) (Go.bits .and .u8 ((pre ++ hi (d + 1) n).getD (pre.length + d) 0) 127) = pre ++ (en n).map (fun x : Nat => (x : Int)) := by
  induction d with
  | zero =>
    intro n h pre
    have hn : n < 128 := by
      refine Nat.lt_of_not_le fun hle => ?_
      rw [en_big hle, List.length_cons] at h
      have := en_pos (n / 128)
      omega
    rw [en_small hn]
    have e : (pre ++ hi (0 + 1) n).getD (pre.length + 0) 0 = ((128 + n % 128 : Nat) : Int) := by simp [hi, List.getD_eq_getElem?_getD]
    rw [e, low7b _ (by omega)]
    simp [hi]
    omega
  | succ d ih =>
    intro n h pre
    have hn : 128 ≤ n := by
      refine Nat.le_of_not_lt fun hlt => ?_
      rw [en_small hlt] at h
      simp at h
    rw [en_big hn] at h ⊢
    rw [List.length_cons] at h
    have := ih (n / 128) (by omega) (pre ++ [((128 + n % 128 : Nat) : Int)])
    have e1 : pre ++ hi (d + 1 + 1) n = pre ++ [((128 + n % 128 : Nat) : Int)] ++ hi (d + 1) (n / 128) := by simp [hi]
    have e2 : pre.length + (d + 1) = (pre ++ [((128 + n % 128 : Nat) : Int)]).length + d := by simp; omega
    rw [e1, e2, this]
    simp

theorem put_l0 (K : Nat) (n0 : Nat) (hK : (en n0).length = K + 1) (d : Nat) : ∀ (n : Nat) (pre : List Int), n ≤ 4294967295 → pre.length + d = K + 1 → pre ++ hi d n = hi (K + 1) n0 → K ≤ 8 →
    Ev (fun k => varint_Put.l0 k (n : Int) ((K + 1 : Nat) : Int) (pre ++ List.replicate d 0) ((K + 1 : Nat) : Int) (pre.length : Int)) (bs n0, 0) := by
  induction d with
  | zero =>
    intro n pre hn hp he hK8
    refine Ev.step (f := fun _ => some (bs n0, 0)) (fun k => ?_) (Ev.now _)
    have hl : (hi (K + 1) n0).length = K + 1 := hi_length _ _
    have he : pre = hi (K + 1) n0 := by rw [← he]; exact (List.append_nil pre).symm
    simp only [varint_Put.l0, List.replicate_zero, List.append_nil]
    rw [if_neg (by omega), w64 (x := ((K + 1 : Nat) : Int) - 1) (by omega) (by omega), if_pos (by omega), if_pos (by rw [he, hl]; omega), he]
    have e1 : (((K + 1 : Nat) : Int) - 1) = (K : Int) := by omega
    have := hi_en K n0 hK []
    simp only [List.nil_append, List.length_nil, Nat.zero_add] at this
    rw [e1, rd_nat]
    have e2 : ((K : Nat) : Int).toNat = K := by simp
    rw [e2, this]
    rfl
  | succ d ih =>
    intro n pre hn hp he hK8
    have := ih (n / 128) (pre ++ [((128 + n % 128 : Nat) : Int)]) (by omega) (by simp; omega) (by rw [← he]; simp [hi]) hK8
    refine Ev.step (fun k => ?_) this
    simp only [varint_Put.l0]
    rw [if_pos (by omega), if_pos (by omega), if_pos (by simp; omega), low7 n (by omega)]
    have e1 : ((n % 128 : Nat) : Int) % 256 = ((n % 128 : Nat) : Int) := by omega
    rw [e1, or128 _ (by omega), w64 (x := (pre.length : Int) + 1) (by omega) (by omega)]
    have e2 : (n : Int) / 128 = ((n / 128 : Nat) : Int) := by omega
    have e3 : ((pre.length : Nat) : Int).toNat = pre.length := by simp
    have e4 : (pre ++ List.replicate (d + 1) (0 : Int)).set pre.length ((128 + n % 128 : Nat) : Int) = pre ++ [((128 + n % 128 : Nat) : Int)] ++ List.replicate d 0 := by
      simp [List.replicate_succ]
    have e5 : ((pre.length : Int) + 1) = ((pre ++ [((128 + n % 128 : Nat) : Int)]).length : Int) := by simp
    rw [e2, e3, e4, e5]

/-- What putting answers. -/
def put (n : Int) : ByteArray × Int := if inR n then (bs n.toNat, 0) else (⟨#[]⟩, 2)

theorem put_ev (n : Int) : Ev (fun k => varint_Put.f k n) (put n) := by
  unfold put varint_Put.f
  refine Ev.bind (size_ev n) ?_
  unfold sz
  cases e : inR n with
  | false => exact Ev.ifp rfl (Ev.now _)
  | true =>
    simp [inR] at e
    simp only [if_true]
    have hp := en_pos n.toNat
    have h5 := en_len5 (n := n.toNat) (by omega)
    obtain ⟨K, hK⟩ : ∃ K, (en n.toNat).length = K + 1 := ⟨(en n.toNat).length - 1, by omega⟩
    refine Ev.ifn (by omega) (Ev.ifp (by omega) (Ev.ifp (by omega) ?_))
    have h := put_l0 K n.toNat hK (K + 1) n.toNat [] (by omega) (by simp) (by simp) (by omega)
    have en_ : ((n.toNat : Nat) : Int) = n := by omega
    rw [en_] at h
    refine Ev.congr (fun k => ?_) h
    simp only [Option.bind_some]
    rw [hK]
    simp

/-! ### reading -/
/-- The number that bytes tell. -/
def val : List Nat → Nat
  | [] => 0
  | b :: t => b % 128 + 128 * val t
theorem val_snoc (l : List Nat) (b : Nat) : val (l ++ [b]) = val l + b % 128 * 128 ^ l.length := by
  induction l with
  | nil => simp [val]
  | cons a t ih =>
    simp only [List.cons_append, val, List.length_cons, Nat.pow_succ]
    rw [ih, Nat.mul_add]
    have : 128 * (b % 128 * 128 ^ t.length) = b % 128 * (128 ^ t.length * 128) := by ac_rfl
    omega
theorem val_lt (l : List Nat) : val l < 128 ^ l.length := by
  induction l with
  | nil => simp [val]
  | cons a t ih =>
    simp only [val, List.length_cons, Nat.pow_succ]
    omega
theorem val_en (n : Nat) : val (en n) = n := by
  induction n using Nat.strongRecOn with
  | _ n ih =>
    by_cases h : n < 128
    · rw [en_small h]; simp [val]; omega
    · rw [en_big (by omega)]
      simp only [val]
      rw [ih (n / 128) (by omega)]
      omega
/-- Bytes as a number's: all but the last have the high bit. -/
def form : List Nat → Prop
  | [] => False
  | [b] => b < 128
  | b :: c :: t => (128 ≤ b ∧ b < 256) ∧ form (c :: t)
/-- The first number of bytes, so many of which are read, so many at most are left. -/
def rdS (s : ByteArray) : Nat → Int × ByteArray × Int
  | 0 => (0, ⟨#[]⟩, 4)
  | d + 1 =>
    if s.size ≤ 4 - d then (0, ⟨#[]⟩, 3)
    else if 128 ≤ (nb s).getD (4 - d) 0 then rdS s d
    else if (en (val ((nb s).take (4 - d + 1)))).length = 4 - d + 1 ∧ val ((nb s).take (4 - d + 1)) ≤ 4294967295 then ((val ((nb s).take (4 - d + 1)) : Int), s.extract (4 - d + 1) s.size, 0)
    else (0, ⟨#[]⟩, 4)

theorem take_snoc (l : List Nat) (i : Nat) (h : i < l.length) : l.take (i + 1) = l.take i ++ [l.getD i 0] := by
  rw [List.take_add_one, List.getElem?_eq_getElem h]
  simp [List.getD_eq_getElem?_getD, List.getElem?_eq_getElem h]

theorem more_eq (s : ByteArray) (i : Nat) (hi : i < s.size) (h4 : i ≤ 4) : varint_Read.more s ((val ((nb s).take i) : Nat) : Int) (i : Int) = ((val ((nb s).take (i + 1)) : Nat) : Int) := by
  have hl : i < (nb s).length := by rw [nb_length]; exact hi
  have hb : (nb s).getD i 0 < 256 := by
    have : (nb s).getD i 0 = (nb s)[i] := by simp [List.getD_eq_getElem?_getD, List.getElem?_eq_getElem hl]
    rw [this]
    exact nb_lt s _ (List.getElem_mem hl)
  rw [take_snoc _ _ hl, val_snoc, List.length_take_of_le (by omega)]
  unfold varint_Read.more
  rw [bt_nb, low7b _ hb]
  have hv := val_lt ((nb s).take i)
  rw [List.length_take_of_le (by omega)] at hv
  have e7 : (7 * (i : Int)).toNat = 7 * i := by omega
  have hp : 128 ^ i ≤ 268435456 ∧ (2 : Int) ^ (7 * i) = ((128 ^ i : Nat) : Int) ∧ 128 ^ i = 2 ^ (7 * i) := by
    have : ∀ i : Nat, i ≤ 4 → 128 ^ i ≤ 268435456 ∧ (2 : Int) ^ (7 * i) = ((128 ^ i : Nat) : Int) ∧ 128 ^ i = 2 ^ (7 * i) := by decide
    exact this i h4
  have hq : (nb s).getD i 0 % 128 * 128 ^ i ≤ 127 * 268435456 := Nat.mul_le_mul (by omega) hp.1
  rw [w64 (x := (((nb s).getD i 0 % 128 : Nat) : Int)) (by omega) (by omega), e7, hp.2.1]
  have e8 : (((nb s).getD i 0 % 128 : Nat) : Int) * ((128 ^ i : Nat) : Int) = (((nb s).getD i 0 % 128 * 128 ^ i : Nat) : Int) := by simp
  rw [e8, w64 (by omega) (by omega)]
  have := (bits_i64 (val ((nb s).take i)) ((nb s).getD i 0 % 128 * 128 ^ i) (by omega) (by omega)).2
  rw [this, Nat.or_comm, or_join _ _ (7 * i) (by rw [← hp.2.2]; exact Nat.mul_mod_left _ _) (by rw [← hp.2.2]; exact hv), Nat.add_comm]

theorem sz_iff (m L : Nat) (hL : 1 ≤ L) : sz (m : Int) = (L : Int) ↔ ((en m).length = L ∧ m ≤ 4294967295) := by
  unfold sz inR
  by_cases h : m ≤ 4294967295
  · rw [decide_eq_true (by omega), if_pos rfl]
    simp [h]
    omega
  · rw [decide_eq_false (by omega), if_neg (by simp)]
    constructor
    · intro h'; omega
    · intro h'; omega

theorem read_go (s : ByteArray) (d : Nat) : d ≤ 5 → 5 - d ≤ s.size → Ev (fun k => varint_Read.go k s d ((val ((nb s).take (5 - d)) : Nat) : Int)) (rdS s d) := by
  induction d with
  | zero =>
    intro _ _
    simp only [varint_Read.go, rdS]
    exact Ev.now _
  | succ d ih =>
    intro hd hs
    have e5 : 5 - (d + 1) = 4 - d := by omega
    rw [e5] at hs ⊢
    have ei : (4 - (d : Int)) = ((4 - d : Nat) : Int) := by omega
    simp only [varint_Read.go, rdS]
    rw [ei]
    by_cases h1 : s.size ≤ 4 - d
    · rw [if_pos h1]
      exact Ev.ifp (by omega) (Ev.now _)
    · rw [if_neg h1]
      refine Ev.ifn (by omega) (Ev.ifp (by omega) ?_)
      have hm := more_eq s (4 - d) (by omega) (by omega)
      rw [hm, bt_nb]
      by_cases h2 : 128 ≤ (nb s).getD (4 - d) 0
      · rw [if_pos h2]
        refine Ev.ifp (by omega) ?_
        have := ih (by omega) (by omega)
        have e6 : 5 - d = 4 - d + 1 := by omega
        rw [e6] at this
        exact this
      · rw [if_neg h2]
        refine Ev.ifn (by omega) (Ev.bind (size_ev _) ?_)
        have e7 : ((4 - d : Nat) : Int) + 1 = ((4 - d + 1 : Nat) : Int) := by omega
        have e8 : (((4 - d : Nat) : Int) + 1).toNat = 4 - d + 1 := by omega
        by_cases h3 : (en (val ((nb s).take (4 - d + 1)))).length = 4 - d + 1 ∧ val ((nb s).take (4 - d + 1)) ≤ 4294967295
        · rw [if_pos h3]
          refine Ev.ifp (by rw [e7]; exact (sz_iff _ _ (by omega)).2 h3) ?_
          rw [e8]
          exact Ev.now _
        · rw [if_neg h3]
          exact Ev.ifn (by rw [e7]; exact fun h => h3 ((sz_iff _ _ (by omega)).1 h)) (Ev.now _)

theorem read_ev (s : ByteArray) : Ev (fun k => varint_Read.f k s) (rdS s 5) := by
  have := read_go s 5 (by omega) (by omega)
  exact this

/-! ### back -/
theorem getD_app_lt (a b : List Nat) (i : Nat) (h : i < a.length) : (a ++ b).getD i 0 = a.getD i 0 := by
  simp [List.getD_eq_getElem?_getD, List.getElem?_append_left h]

/-- All but the last byte of a number have the high bit; the last one has not. -/
theorem en_at (n : Nat) : ∀ i, i < (en n).length → (i + 1 < (en n).length → 128 ≤ (en n).getD i 0) ∧ (i + 1 = (en n).length → (en n).getD i 0 < 128) := by
  induction n using Nat.strongRecOn with
  | _ n ih =>
    intro i hi
    by_cases h : n < 128
    · rw [en_small h] at hi ⊢
      simp at hi
      subst hi
      simp
      exact h
    · rw [en_big (by omega)] at hi ⊢
      rw [List.length_cons] at hi ⊢
      cases i with
      | zero =>
        have := en_pos (n / 128)
        refine ⟨fun _ => ?_, fun h' => by omega⟩
        show 128 ≤ 128 + n % 128
        omega
      | succ i =>
        have := ih (n / 128) (by omega) i (by omega)
        simp only [List.getD_cons_succ]
        exact ⟨fun h' => this.1 (by omega), fun h' => this.2 (by omega)⟩

theorem rdS_back (n : Nat) (hn : n ≤ 4294967295) (s t : ByteArray) (hs : nb s = en n ++ nb t) : ∀ d : Nat, d ≤ 5 → 5 - d < (en n).length → rdS s d = ((n : Int), t, 0) := by
  have h5 := en_len5 (n := n) (by omega)
  have hsz : s.size = (en n).length + t.size := by rw [← nb_length s, hs, List.length_append, nb_length]
  intro d
  induction d with
  | zero => intro _ h; omega
  | succ d ih =>
    intro hd hlt
    have e5 : 5 - (d + 1) = 4 - d := by omega
    rw [e5] at hlt
    simp only [rdS]
    rw [if_neg (by omega)]
    have hg : (nb s).getD (4 - d) 0 = (en n).getD (4 - d) 0 := by rw [hs]; exact getD_app_lt _ _ _ hlt
    have ha := en_at n (4 - d) hlt
    by_cases h2 : 4 - d + 1 < (en n).length
    · rw [hg, if_pos (ha.1 h2)]
      exact ih (by omega) (by omega)
    · have he : 4 - d + 1 = (en n).length := by omega
      have := ha.2 he
      rw [hg, if_neg (by omega)]
      have ht : (nb s).take (4 - d + 1) = en n := by rw [hs, he, List.take_left]
      rw [ht, val_en, he, if_pos ⟨rfl, hn⟩]
      have hx : s.extract (en n).length s.size = t := by
        refine nb_inj ?_
        rw [nb_extract, hs, List.drop_left, hsz]
        have : (en n).length + t.size - (en n).length = (nb t).length := by rw [nb_length]; omega
        rw [this, List.take_length]
      rw [hx]

end Go.Proofs.YtdifgiceallpiaaDoor.Pure
