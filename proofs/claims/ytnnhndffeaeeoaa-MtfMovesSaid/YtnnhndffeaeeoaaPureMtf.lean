/- The plain laws of chapter 47 (bytes moved to the front). -/
import Derived.Test.YtnnhndffeaeeoaaByt
import Derived.Test.YtnnhndffeaeeoaaHMtf
import Derived.Test.YtnnhndffeaeeoaaPx1
import Derived.Test.YtnnhndffeaeeoaaPx2
set_option linter.unusedVariables false
set_option linter.unusedSimpArgs false
namespace Go.Proofs.Ytnnhndffeaeeoaa.Pure
open Go.RowKit Go.Proofs.YtnnhndffeaeeoaaW.PrintWords Go.Proofs.YtnnhndffeaeeoaaW.PrintMore Go.Proofs.Ytnnhndffeaeeoaa.Hd Go.Proofs.Ytnnhndffeaeeoaa.P Go.Proofs.Ytnnhndffeaeeoaa.Com

theorem ints_l0 (l : List Int) (hl : l.length ≤ 140737488355328) (d : Nat) : ∀ i : Nat, i + d = l.length → Ev (fun k => gladstoneref08_Ints.l0 k l l (i : Int)) true := by
  induction d with
  | zero =>
    intro i hi
    refine Ev.step (f := fun _ => some true) (fun k => ?_) (Ev.now _)
    simp only [gladstoneref08_Ints.l0]
    rw [if_neg (by omega)]
  | succ d ih =>
    intro i hi
    refine Ev.step (f := fun k => gladstoneref08_Ints.l0 k l l ((i + 1 : Nat) : Int)) (fun k => ?_) (ih (i + 1) (by omega))
    simp only [gladstoneref08_Ints.l0]
    rw [if_pos (by omega), if_pos (by omega), if_pos (by omega)]
    simp only [if_true]
    rw [w64 (by omega) (by omega)]
    rfl
theorem ints_ev (l : List Int) (hl : l.length ≤ 140737488355328) : Ev (fun k => gladstoneref08_Ints.f k l l) true := by
  simpa [gladstoneref08_Ints.f] using ints_l0 l hl l.length 0 (by omega)

/-! ### the row of all bytes -/
theorem getD_lt {r : List Int} {i : Nat} (h : i < r.length) : r.getD i 0 = r[i] := by simp [List.getD_eq_getElem?_getD, List.getElem?_eq_getElem h]
theorem upto_eq : upto 256 = (List.range 256).map (fun n : Nat => (n : Int)) := by simp [upto]
theorem nodup_upto : (upto 256).Nodup := by
  rw [upto_eq]
  refine List.Pairwise.map _ (fun a b h => ?_) (List.nodup_range (n := 256))
  omega
theorem moved_perm {r : List Int} {i : Nat} (h : i < r.length) : (moved r i).Perm r := by
  have e : r = r.take i ++ r[i] :: r.drop (i + 1) := by rw [← List.drop_eq_getElem_cons h, List.take_append_drop]
  unfold moved
  rw [getD_lt h]
  conv => rhs; rw [e]
  exact List.perm_middle.symm
/-- A row of all bytes, each once. -/
def Row (r : List Int) : Prop := Full r ∧ r.Perm (upto 256)
theorem Row.start : Row (upto 256) := ⟨full_upto, .refl _⟩
theorem Row.moved {r : List Int} (h : Row r) {i : Nat} (hi : i < 256) : Row (moved r i) :=
  ⟨full_moved h.1 hi, (moved_perm (by rw [h.1.1]; exact hi)).trans h.2⟩
theorem Row.nodup {r : List Int} (h : Row r) : r.Nodup := h.2.nodup_iff.2 nodup_upto
theorem Row.byte {r : List Int} (h : Row r) {i : Nat} (hi : i < 256) : 0 ≤ r.getD i 0 ∧ r.getD i 0 ≤ 255 := by
  have hl : i < r.length := by rw [h.1.1]; exact hi
  have : r[i] ∈ upto 256 := h.2.subset (List.getElem_mem hl)
  rw [upto_eq] at this
  obtain ⟨n, hn, e⟩ := List.mem_map.1 this
  rw [List.mem_range] at hn
  rw [getD_lt hl]
  omega
theorem idx_self {r : List Int} (h : Row r) {i : Nat} (hi : i < 256) : idx r (r.getD i 0) = i := by
  have hl : i < r.length := by rw [h.1.1]; exact hi
  have hb := h.byte hi
  have h1 := idx_lt h.1 hb.1 hb.2
  have h2 := idx_at h.1 hb.1 hb.2
  have h1' : idx r (r.getD i 0) < r.length := by rw [h.1.1]; exact h1
  rw [getD_lt h1'] at h2
  generalize idx r (r.getD i 0) = j at h1 h1' h2 ⊢
  rw [getD_lt hl] at h2
  have hp := List.pairwise_iff_getElem.1 h.nodup
  rcases Nat.lt_trichotomy j i with h3 | h3 | h3
  · exact absurd h2 (hp _ _ h1' hl h3)
  · exact h3
  · exact absurd h2.symm (hp _ _ hl h1' h3)

/-! ### there and back -/
theorem bytes_str (l : List Int) (h : ∀ x ∈ l, 0 ≤ x ∧ x ≤ 255) : bytesOf (strOfNums l) = l := by
  have e : l = (l.map Int.toNat).map (fun n : Nat => (n : Int)) := by
    rw [List.map_map]
    conv => lhs; rw [← List.map_id l]
    refine List.map_congr_left fun x hx => ?_
    have := h x hx
    simp; omega
  have hn := nb_str (l.map Int.toNat) (fun x hx => by obtain ⟨y, hy, rfl⟩ := List.mem_map.1 hx; have := h y hy; omega)
  rw [← e] at hn
  have : bytesOf (strOfNums l) = (nb (strOfNums l)).map (fun n : Nat => (n : Int)) := by simp [bytesOf, nb, List.map_map, Function.comp_def]
  rw [this, hn]
  exact e.symm
theorem bytes_byte (s : ByteArray) : ∀ x ∈ bytesOf s, 0 ≤ x ∧ x ≤ 255 := by
  intro x hx
  obtain ⟨b, _, rfl⟩ := List.mem_map.1 hx
  have := b.toNat_lt
  omega
theorem bytes_inj {s t : ByteArray} (h : bytesOf s = bytesOf t) : s = t := by
  refine nb_inj ?_
  have e : ∀ u : ByteArray, nb u = (bytesOf u).map Int.toNat := fun u => by simp [bytesOf, nb, List.map_map, Function.comp_def]
  rw [e, e, h]
theorem str_bytes (s : ByteArray) : strOfNums (bytesOf s) = s := bytes_inj (bytes_str _ (bytes_byte s))

theorem bk_go (l : List Int) : ∀ r, Row r → (∀ x ∈ l, 0 ≤ x ∧ x ≤ 255) → bk r (mtf_Move.go r l) = some l := by
  induction l with
  | nil => intro r _ _; rfl
  | cons c t ih =>
    intro r hr hl
    have hc := hl c (by simp)
    have h1 := idx_lt hr.1 hc.1 hc.2
    simp only [mtf_Move.go, bk]
    rw [if_pos (by omega)]
    have e : ((idx r c : Nat) : Int).toNat = idx r c := by simp
    rw [e, ih _ (hr.moved h1) (fun x hx => hl x (by simp [hx])), idx_at hr.1 hc.1 hc.2]
    rfl
theorem go_bk (k : List Int) : ∀ r, Row r → (∀ x ∈ k, 0 ≤ x ∧ x ≤ 255) → ∃ l, bk r k = some l ∧ mtf_Move.go r l = k ∧ (∀ x ∈ l, 0 ≤ x ∧ x ≤ 255) ∧ l.length = k.length := by
  induction k with
  | nil => intro r _ _; exact ⟨[], rfl, rfl, by simp, rfl⟩
  | cons i t ih =>
    intro r hr hk
    have hi := hk i (by simp)
    obtain ⟨l, h1, h2, h3, h4⟩ := ih (moved r i.toNat) (hr.moved (by omega)) (fun x hx => hk x (by simp [hx]))
    refine ⟨r.getD i.toNat 0 :: l, ?_, ?_, ?_, by simp [h4]⟩
    · simp only [bk]
      rw [if_pos (by omega), h1]
      rfl
    · simp only [mtf_Move.go]
      rw [idx_self hr (by omega), h2]
      congr 1
      omega
    · intro x hx
      rcases List.mem_cons.1 hx with rfl | hx
      · exact hr.byte (by omega)
      · exact h3 x hx
theorem idx_cons (x : Int) (t : List Int) (b : Int) : ((idx (x :: t) b : Nat) : Int) = 0 ↔ b = x := by
  unfold idx
  rw [List.findIdx_cons]
  by_cases h : x = b
  · subst h; simp
  · have : (x == b) = false := beq_false_of_ne h
    rw [this]
    simp
    constructor
    · intro h'; omega
    · intro h'; exact absurd h'.symm h
theorem again (l : List Int) : ∀ r, Row r → (∀ x ∈ l, 0 ≤ x ∧ x ≤ 255) → ∀ i, i + 1 < l.length → ((mtf_Move.go r l).getD (i + 1) 0 = 0 ↔ l.getD (i + 1) 0 = l.getD i 0) := by
  induction l with
  | nil => intro r _ _ i hi; simp at hi
  | cons a t ih =>
    intro r hr hl i hi
    have ha := hl a (by simp)
    have h1 := idx_lt hr.1 ha.1 ha.2
    cases i with
    | zero =>
      cases t with
      | nil => simp at hi
      | cons b u =>
        simp only [mtf_Move.go]
        show ((idx (moved r (idx r a)) b : Nat) : Int) = 0 ↔ b = a
        have e : moved r (idx r a) = r.getD (idx r a) 0 :: (r.take (idx r a) ++ r.drop (idx r a + 1)) := rfl
        rw [e, idx_at hr.1 ha.1 ha.2]
        exact idx_cons _ _ _
    | succ i =>
      have := ih (moved r (idx r a)) (hr.moved h1) (fun x hx => hl x (by simp [hx])) i (by simpa using hi)
      simpa [mtf_Move.go] using this

/-! ### the document's -/
theorem row_l0 (d : Nat) : ∀ i : Nat, i + d = 256 → Ev (fun k => gladstoneref47_row.l0 k ((List.range i).map (fun n : Nat => (n : Int))) (i : Int)) (upto 256) := by
  induction d with
  | zero =>
    intro i hi
    obtain rfl : i = 256 := by omega
    refine Ev.step (f := fun _ => some (upto 256)) (fun k => ?_) (Ev.now _)
    simp only [gladstoneref47_row.l0]
    rw [if_neg (by omega), upto_eq]
  | succ d ih =>
    intro i hi
    refine Ev.step (fun k => ?_) (ih (i + 1) (by omega))
    simp only [gladstoneref47_row.l0]
    rw [if_pos (by omega), if_pos (by simp; omega), w64 (by omega) (by omega), List.range_succ, List.map_append]
    have e : (i : Int) % 256 = (i : Int) := by omega
    rw [e]
    rfl
theorem row_ev : Ev (fun k => gladstoneref47_row.f k) (upto 256) := by
  have h := row_l0 256 0 (by omega)
  simp only [List.range_zero, List.map_nil, Int.natCast_zero] at h
  unfold gladstoneref47_row.f
  exact h
theorem room1 (r : List Int) (i : Nat) (h1 : (i : Int) < (r.length : Int)) (hr : r.length ≤ 1000) : ([rd r i] : List Int).length + (r.take ((i : Int)).toNat).length < 140737488355328 := by
  rw [List.length_take]; simp only [List.length_cons, List.length_nil]; omega
theorem room2 (r : List Int) (i j : Nat) (h1 : (i : Int) < (r.length : Int)) (hr : r.length ≤ 1000) : ([rd r i] ++ r.take ((i : Int)).toNat).length + (r.drop j).length < 140737488355328 := by
  simp only [List.length_append, List.length_take, List.length_drop, List.length_cons, List.length_nil]; omega
theorem rmoved (r : List Int) (x : Int) (h0 : 0 ≤ x) (h1 : x < (r.length : Int)) (hr : r.length ≤ 1000) : gladstoneref47_moved.f r x = some (moved r x.toNat) := by
  obtain ⟨i, rfl⟩ : ∃ i : Nat, x = i := ⟨x.toNat, by omega⟩
  unfold gladstoneref47_moved.f
  have e : ((i : Int) + 1).toNat = i + 1 := by omega
  have ew : wrap64 ((i : Int) + 1) = (i : Int) + 1 := w64 (by omega) (by omega)
  have c1 : (i : Int) ≤ (r.length : Int) := by omega
  have c2 : 0 ≤ (i : Int) + 1 := by omega
  have c3 : (i : Int) + 1 ≤ (r.length : Int) := by omega
  rw [if_pos h0, if_pos h1, Option.bind_some, if_pos c1, if_pos (room1 r i h1 hr), Option.bind_some, ew, if_pos c2, if_pos c3, e, if_pos (room2 r i (i + 1) h1 hr), rd_nat]
  rfl

theorem rback_l0 (l : List Int) (hl : l.length ≤ 1000) : Ev (fun k => gladstoneref47_Back.l0 k l (upto 256) [] 0) (told (bk (upto 256) l)) := by
  have h := Ev.along l (fun k (s : List Int × List Int) i => gladstoneref47_Back.l0 k l s.1 s.2 i) (fun s t => told ((bk s.1 t).map (fun u => s.2 ++ u))) (fun i s => Row s.1 ∧ s.2.length = i) ?_ ?_ 0 (upto 256, []) (Nat.zero_le _) ⟨Row.start, rfl⟩
  · simpa using h
  · rintro ⟨r, out⟩ ⟨hr, ho⟩
    refine Ev.step (f := fun _ => some (strOfNums out, 0)) (fun k => ?_) (Ev.some ?_)
    · simp only [gladstoneref47_Back.l0]
      rw [if_neg (by omega)]
    · simp [bk, told]
  · rintro i ⟨r, out⟩ a t ⟨hr, ho⟩ hd ha hlt ih
    dsimp only at hr ho ih ⊢
    by_cases hin : 0 ≤ a ∧ a < 256
    · have := ih (moved r a.toNat, out ++ [r.getD a.toNat 0]) ⟨hr.moved (by omega), by simp [ho]⟩
      have e : told ((bk r (a :: t)).map (fun u => out ++ u)) = told ((bk (moved r a.toNat) t).map (fun u => (out ++ [r.getD a.toNat 0]) ++ u)) := by
        simp only [bk]
        rw [if_pos hin, Option.map_map]
        congr 2
        funext u
        simp
      rw [e]
      refine Ev.step (fun k => ?_) this
      simp only [gladstoneref47_Back.l0]
      rw [if_pos (by omega), if_pos (by omega), rd_some ha, if_neg (by omega), if_neg (by omega), if_pos hin.1, if_pos (by rw [hr.1.1]; omega), if_pos (by omega), rmoved r a hin.1 (by rw [hr.1.1]; omega) (by rw [hr.1.1]; omega), w64 (by omega) (by omega)]
      rfl
    · have e : told ((bk r (a :: t)).map (fun u => out ++ u)) = (⟨#[]⟩, 2) := by
        simp only [bk]
        rw [if_neg hin]
        rfl
      rw [e]
      refine Ev.step (f := fun _ => some (⟨#[]⟩, 2)) (fun k => ?_) (Ev.now _)
      simp only [gladstoneref47_Back.l0]
      rw [if_pos (by omega), if_pos (by omega), rd_some ha]
      by_cases hn : a < 0
      · rw [if_pos hn]
      · rw [if_neg hn, if_pos (by omega)]
theorem rback_ev (l : List Int) (hl : l.length ≤ 1000) : Ev (fun k => gladstoneref47_Back.f k l) (told (bk (upto 256) l)) :=
  Ev.bind row_ev (rback_l0 l hl)

theorem bt_getD (s : ByteArray) (i : Nat) : bt s (i : Int) = (bytesOf s).getD i 0 := by
  rw [← rd_bytesOf, rd_nat]
theorem rmove_l1 (s : ByteArray) (hs : s.size ≤ 1000) (r : List Int) (hr : Row r) (out : List Int) (ho : out.length ≤ 1000) (i : Nat) (hi : i < s.size) (res : List Int)
    (h : Ev (fun k => gladstoneref47_Move.l0 k s (moved r (idx r (bt s i))) (out ++ [((idx r (bt s i) : Nat) : Int)]) ((i + 1 : Nat) : Int)) res) (d : Nat) :
    ∀ j : Nat, j + d = idx r (bt s i) → Ev (fun k => gladstoneref47_Move.l1 k s r out (i : Int) (j : Int)) res := by
  have hb := bytes_byte s (bt s i) (by rw [bt_getD, getD_lt (by rw [bytesOf_length]; exact hi)]; exact List.getElem_mem _)
  have hlt := idx_lt hr.1 hb.1 hb.2
  have hat := idx_at hr.1 hb.1 hb.2
  have hlen := hr.1.1
  induction d with
  | zero =>
    intro j hj
    obtain rfl : j = idx r (bt s i) := by omega
    refine Ev.step (fun k => ?_) h
    simp only [gladstoneref47_Move.l1]
    rw [if_pos (by omega), if_pos (by omega), if_pos (by omega), if_pos (by omega), rd_nat, if_pos hat, if_pos (by omega), rmoved r _ (by omega) (by omega) (by omega), w64 (by omega) (by omega)]
    simp
  | succ d ih =>
    intro j hj
    have hne : r.getD j 0 ≠ bt s i := idx_not (by omega) (by omega)
    refine Ev.step (fun k => ?_) (ih (j + 1) (by omega))
    simp only [gladstoneref47_Move.l1]
    rw [if_pos (by omega), if_pos (by omega), if_pos (by omega), if_pos (by omega), rd_nat, if_neg hne, w64 (by omega) (by omega)]
    rfl
theorem rmove_l0 (s : ByteArray) (hs : s.size ≤ 1000) : Ev (fun k => gladstoneref47_Move.l0 k s (upto 256) [] 0) (mtf_Move.go (upto 256) (bytesOf s)) := by
  have h := Ev.along (bytesOf s) (fun k (u : List Int × List Int) i => gladstoneref47_Move.l0 k s u.1 u.2 i) (fun u t => u.2 ++ mtf_Move.go u.1 t) (fun i u => Row u.1 ∧ u.2.length = i) ?_ ?_ 0 (upto 256, []) (Nat.zero_le _) ⟨Row.start, rfl⟩
  · simpa using h
  · rintro ⟨r, out⟩ ⟨hr, ho⟩
    refine Ev.step (f := fun _ => some out) (fun k => ?_) (Ev.some (by simp [mtf_Move.go]))
    simp only [gladstoneref47_Move.l0]
    rw [if_neg (by rw [bytesOf_length]; omega)]
  · rintro i ⟨r, out⟩ a t ⟨hr, ho⟩ hd ha hlt ih
    dsimp only at hr ho ih ⊢
    rw [bytesOf_length] at hlt
    have eb : bt s i = a := by rw [bt_getD, List.getD_eq_getElem?_getD, ha]; rfl
    have hb := bytes_byte s a (List.mem_of_getElem? ha)
    have := ih (moved r (idx r a), out ++ [((idx r a : Nat) : Int)]) ⟨hr.moved (idx_lt hr.1 hb.1 hb.2), by simp [ho]⟩
    have e : out ++ mtf_Move.go r (a :: t) = (out ++ [((idx r a : Nat) : Int)]) ++ mtf_Move.go (moved r (idx r a)) t := by simp [mtf_Move.go]
    rw [e]
    refine Ev.step (fun k => ?_) (rmove_l1 s hs r hr out (by omega) i hlt _ (by rw [eb]; exact this) (idx r (bt s i)) 0 (by omega))
    simp only [gladstoneref47_Move.l0]
    rw [if_pos (by omega)]
    rfl
theorem rmove_ev (s : ByteArray) (hs : s.size ≤ 1000) : Ev (fun k => gladstoneref47_Move.f k s) (mtf_Move.go (upto 256) (bytesOf s)) :=
  Ev.bind row_ev (rmove_l0 s hs)

theorem move_f (s : ByteArray) (hs : s.size ≤ 1000) : mtf_Move.f s = some (mtf_Move.go (upto 256) (bytesOf s)) := by
  unfold mtf_Move.f; rw [if_pos (by omega)]
theorem back_f (l : List Int) (hl : l.length ≤ 1000) : mtf_Back.f l = some (told (bk (upto 256) l)) := by
  unfold mtf_Back.f; rw [if_pos (by omega)]

theorem awake_ev : Ev (fun k => gladstonelaw47_awake.f k) true := Ev.of (fun k => gladstonelaw47_awake.mono k) (k := 12) (by decide +kernel)
theorem awake_ev' : Ev (fun k => (gladstonelaw47_awake.f k).bind fun t => some t) true := Ev.bind (f := fun _ t => some t) awake_ev (Ev.now _)

theorem MtfMoves : gladstonelaw47_MtfMoves.Pure := by
  intro s l _ _ _ _
  apply Ev.rounds
  have he : ∀ k, gladstonelaw47_MtfMoves.f k s l = gladstonelaw47_MtfMoves.j0 k s l (decide (s.size > 500 ∨ l.length > 500)) := by
    intro k
    unfold gladstonelaw47_MtfMoves.f
    by_cases h : (s.size : Int) > 500
    · rw [if_pos h, decide_eq_true (by omega)]
    · rw [if_neg h]
      congr 1
      rw [Bool.eq_iff_iff]; simp; omega
  refine Ev.congr he ?_
  by_cases h : s.size > 500 ∨ l.length > 500
  · rw [decide_eq_true h]
    refine Ev.step (fun k => by simp only [gladstonelaw47_MtfMoves.j0]; rw [if_pos trivial]) awake_ev'
  · rw [decide_eq_false h]
    refine Ev.step (fun k => by simp only [gladstonelaw47_MtfMoves.j0]; rw [if_neg (by simp)]) ?_
    rw [back_f l (by omega), move_f s (by omega)]
    refine Ev.bind (Ev.now _) (Ev.bind (rback_ev l (by omega)) (Ev.bind (Ev.now _) (Ev.bind (rmove_ev s (by omega)) (Ev.bind (ints_ev _ (by rw [go_length, bytesOf_length]; omega)) (Ev.ifp rfl (Ev.ifp rfl (Ev.ifp rfl awake_ev')))))))

theorem back_l1 (s : ByteArray) (m : List Int) (hm : m = mtf_Move.go (upto 256) (bytesOf s)) (hs : s.size ≤ 500) (k t : List Int) (hk : k.length ≤ 500) (ht : mtf_Move.go (upto 256) t = k) (ht2 : ∀ x ∈ t, 0 ≤ x ∧ x ≤ 255) (ht3 : t.length = k.length) (d : Nat) :
    ∀ i : Nat, (i + 1) + d = s.size ∨ (s.size = 0 ∧ i = 0) → Ev (fun n => gladstonelaw47_MtfBack.l1 n s m s 0 k (strOfNums t) 0 ((i + 1 : Nat) : Int)) true := by
  have hml : m.length = s.size := by rw [hm, go_length, bytesOf_length]
  have hend : ∀ i : Nat, s.size ≤ i + 1 → Ev (fun n => gladstonelaw47_MtfBack.l1 n s m s 0 k (strOfNums t) 0 ((i + 1 : Nat) : Int)) true := by
    intro i hi
    have hmv : mtf_Move.f (strOfNums t) = some k := by
      have e : (strOfNums t).size = t.length := by
        have := bytesOf_length (strOfNums t)
        rw [bytes_str t ht2] at this
        exact this.symm
      rw [move_f _ (by omega), bytes_str t ht2, ht]
    refine Ev.step (f := fun n => ((mtf_Move.f (strOfNums t)).bind fun t185 => ((gladstoneref08_Ints.f n t185 k).bind fun t188 => (if t188 = true then ((gladstonelaw47_awake.f n).bind fun t189 => (some t189)) else (some false))))) (fun n => ?_) ?_
    · simp only [gladstonelaw47_MtfBack.l1]
      rw [if_neg (by omega), if_pos trivial, if_pos trivial, if_pos trivial]
    · rw [hmv]
      exact Ev.bind (Ev.now _) (Ev.bind (ints_ev k (by omega)) (Ev.ifp rfl awake_ev'))
  induction d with
  | zero => intro i hi; exact hend i (by omega)
  | succ d ih =>
    intro i hi
    by_cases h0 : s.size = 0
    · exact hend i (by omega)
    · refine Ev.step (fun n => ?_) (ih (i + 1) (by omega))
      simp only [gladstonelaw47_MtfBack.l1]
      have e1 : wrap64 (((i + 1 : Nat) : Int) - 1) = (i : Int) := by rw [w64 (by omega) (by omega)]; omega
      have ha := again (bytesOf s) (upto 256) Row.start (bytes_byte s) i (by rw [bytesOf_length]; omega)
      rw [← hm] at ha
      rw [if_pos (by omega), if_pos (by omega), e1, if_pos (by omega), if_pos (by omega), if_pos (by omega), rd_nat, bt_getD, bt_getD]
      have e2 : (((bytesOf s).getD (i + 1) 0 == (bytesOf s).getD i 0) != (m.getD (i + 1) 0 == 0)) = false := by
        by_cases h : m.getD (i + 1) 0 = 0
        · have h2 := ha.1 h
          rw [h, h2]; simp
        · have h2 : ¬ (bytesOf s).getD (i + 1) 0 = (bytesOf s).getD i 0 := fun h' => h (ha.2 h')
          rw [beq_false_of_ne h, beq_false_of_ne h2]; rfl
      rw [e2, if_neg (by simp), w64 (by omega) (by omega)]
      rfl

theorem MtfBack : gladstonelaw47_MtfBack.Pure := by
  intro s l _ _ _ hw
  apply Ev.rounds
  have hw' : ∀ x ∈ l, 0 ≤ x ∧ x ≤ 255 := by
    intro x hx
    have h := hw x hx
    simp [Lit.wf, IntKind.min, IntKind.max, IntKind.bits, IntKind.signed] at h
    omega
  have he : ∀ k, gladstonelaw47_MtfBack.f k s l = gladstonelaw47_MtfBack.j0 k s l (decide (s.size > 500 ∨ l.length > 500)) := by
    intro k
    unfold gladstonelaw47_MtfBack.f
    by_cases h : (s.size : Int) > 500
    · rw [if_pos h, decide_eq_true (by omega)]
    · rw [if_neg h]
      congr 1
      rw [Bool.eq_iff_iff]; simp; omega
  refine Ev.congr he ?_
  by_cases h : s.size > 500 ∨ l.length > 500
  · rw [decide_eq_true h]
    refine Ev.step (fun k => by simp only [gladstonelaw47_MtfBack.j0]; rw [if_pos trivial]) awake_ev'
  · rw [decide_eq_false h]
    refine Ev.step (fun k => by simp only [gladstonelaw47_MtfBack.j0]; rw [if_neg (by simp)]) ?_
    rw [move_f s (by omega)]
    refine Ev.bind (Ev.now _) ?_
    have hgl : (mtf_Move.go (upto 256) (bytesOf s)).length = s.size := by rw [go_length, bytesOf_length]
    rw [back_f _ (by omega), bk_go _ _ Row.start (bytes_byte s)]
    refine Ev.bind (Ev.now _) ?_
    simp only [told, str_bytes]
    obtain ⟨t, h1, h2, h3, h4⟩ := go_bk l (upto 256) Row.start hw'
    have hl := Ev.along l (fun k (u : List Int) i => gladstonelaw47_MtfBack.l0 k s l (mtf_Move.go (upto 256) (bytesOf s)) s 0 u i) (fun _ _ => true) (fun i u => u = l.take i) ?_ ?_ 0 [] (Nat.zero_le _) (by simp)
    · exact hl
    · intro u hu
      rw [List.take_length] at hu
      subst hu
      refine Ev.step (f := fun k => gladstonelaw47_MtfBack.l1 k s (mtf_Move.go (upto 256) (bytesOf s)) s 0 u (strOfNums t) 0 ((0 + 1 : Nat) : Int)) (fun k => ?_) (back_l1 s _ rfl (by omega) u t (by omega) h2 h3 h4 (s.size - 1) 0 (by omega))
      simp only [gladstonelaw47_MtfBack.l0]
      rw [if_neg (by omega), back_f _ (by omega), h1]
      simp only [Option.bind_some, told]
      rw [if_pos (by omega)]
      rfl
    · intro i u a t' hu hd ha hlt ih
      have hb := hw' a (List.mem_of_getElem? ha)
      refine Ev.step (fun k => ?_) (ih (u ++ [a]) (by rw [hu, List.take_add_one, ha]; rfl))
      simp only [gladstonelaw47_MtfBack.l0]
      rw [if_pos (by omega), if_pos (by omega), if_pos (by rw [hu, List.length_take]; omega), rd_some ha, w64 (x := a) (by omega) (by omega), w64 (by omega) (by omega)]
      rfl
end Go.Proofs.Ytnnhndffeaeeoaa.Pure
