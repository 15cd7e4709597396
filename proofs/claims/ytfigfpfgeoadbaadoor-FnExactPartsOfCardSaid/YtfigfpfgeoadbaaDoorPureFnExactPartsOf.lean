/- Proved: PartsOf of the program and of the reference agree at every text of at most 2^20 bytes (the law asks no more), each hands back a row of its own. Conditions: none. -/
import Derived.Test.YtfigfpfgeoadbaaDoorQFnExactPartsOfx3
import Derived.Test.YtfigfpfgeoadbaaDoorParts
import Derived.Test.YtfigfpfgeoadbaaDoorSplit
import Derived.Test.YtfigfpfgeoadbaaDoorRead
set_option linter.unusedVariables false
set_option linter.unusedSimpArgs false
namespace Go.Proofs.YtfigfpfgeoadbaaDoor.Pure
open Go.RowKit Go.Proofs.YtfigfpfgeoadbaaDoor.PFnExactPartsOf Go.Proofs.YtfigfpfgeoadbaaDoorW.PrintWords Go.Proofs.YtfigfpfgeoadbaaDoorW.PrintLast Go.Proofs.YtfigfpfgeoadbaaDoorW.PrintMore
open Go.Proofs.YtfigfpfgeoadbaaDoor.M

def mkB (l : List UInt8) : ByteArray := ⟨l.toArray⟩
theorem mkB_data (s : ByteArray) : mkB s.data.toList = s := by
  unfold mkB
  rw [Array.toArray_toList]
theorem mkB_inj {l m : List UInt8} (h : mkB l = mkB m) : l = m := by
  have := congrArg (fun s : ByteArray => s.data.toList) h
  simpa [mkB] using this
def bad (l : List UInt8) : Bool := l.any fun b => decide (b.toNat < 32) || decide (126 < b.toNat)
def finP (R : List ByteArray) : List ByteArray × Bool := if R.length > 10 then ([], false) else (R, true)
theorem data_drop (s : ByteArray) (i : Nat) (h : i < s.size) : ∃ b, s.data.toList.drop i = b :: s.data.toList.drop (i + 1) ∧ bt s (i : Int) = (b.toNat : Int) := by
  have hl : i < s.data.toList.length := by rw [Array.length_toList]; exact h
  refine ⟨s.data.toList[i], List.drop_eq_getElem_cons hl, ?_⟩
  unfold bt
  rw [dif_pos (show (i : Int).toNat < s.size by omega)]
  rfl
theorem extract_mk (s : ByteArray) (a b : Nat) : s.extract a b = mkB ((s.data.toList.take b).drop a) := by
  apply ByteArray.ext
  apply Array.ext'
  rw [Lib.extract_data, ← List.drop_take]
  unfold mkB
  simp only []
theorem spec_end (s : ByteArray) (k begin n : Nat) (out : List ByteArray) (hn : n = s.size + 1) : spec_PartsOf.l0 (k + 1) s out (begin : Int) (n : Int) = some (finP out) := by
  rw [spec_PartsOf.l0, if_neg (by omega)]
  unfold finP
  by_cases h : out.length > 10
  · rw [if_pos h, if_pos (by omega)]
  · rw [if_neg h, if_neg (by omega)]
theorem wrap_one (i : Nat) (h : i ≤ 1000000) : wrap64 ((i : Int) + 1) = ((i + 1 : Nat) : Int) := by
  unfold wrap64
  omega
theorem take_succ_drop (L : List UInt8) (i begin : Nat) (b : UInt8) (hb : begin ≤ i) (h : L.drop i = b :: L.drop (i + 1)) (hi : i < L.length) : (L.take (i + 1)).drop begin = (L.take i).drop begin ++ [b] := by
  have e : L[i] = b := by
    have := congrArg List.head? h
    simpa [List.head?_drop, List.getElem?_eq_getElem hi] using this
  rw [List.take_add_one, List.getElem?_eq_getElem hi, e, List.drop_append_of_le_length (by rw [List.length_take]; omega)]
  rfl
theorem cur_nil (L : List UInt8) (i begin : Nat) (hi : i ≤ L.length) : (L.take i).drop begin = [] ↔ i ≤ begin := by
  rw [List.drop_eq_nil_iff, List.length_take]
  omega
theorem spec_walk (s : ByteArray) (hs : s.size ≤ 600) : ∀ (d k i begin : Nat) (out : List ByteArray), 3 * d + 10 ≤ k → i + d = s.size → begin ≤ i → out.length ≤ i →
    spec_PartsOf.l0 k s out (begin : Int) (i : Int) = some (if bad (s.data.toList.drop i) = true then ([], false) else finP (out ++ (parts ((s.data.toList.take i).drop begin) (s.data.toList.drop i)).map mkB)) := by
  have hL : s.data.toList.length = s.size := Array.length_toList
  intro d
  induction d with
  | zero =>
    intro k i begin out hk hi hb ho
    obtain ⟨k, rfl⟩ : ∃ q, k = q + 4 := ⟨k - 4, by omega⟩
    rw [List.drop_eq_nil_of_le (by omega : s.data.toList.length ≤ i)]
    rw [spec_PartsOf.l0, if_pos (by omega), if_neg (by omega), spec_PartsOf.j1, if_neg (by decide), if_neg (by omega), spec_PartsOf.j2, if_neg (by decide), wrap_one i (by omega), if_neg (show ¬ bad [] = true by decide), parts]
    by_cases h : begin < i
    · rw [if_pos (by omega), if_pos (by omega), if_pos (by omega), if_pos (by omega), if_pos (by omega), if_neg (fun q => by have := (cur_nil _ _ _ (by omega)).1 q; omega), Int.toNat_natCast, Int.toNat_natCast, extract_mk]
      exact spec_end s k (i + 1) (i + 1) _ (by omega)
    · rw [if_neg (by omega), if_pos ((cur_nil _ _ _ (by omega)).2 (by omega)), List.map_nil, List.append_nil]
      exact spec_end s k (i + 1) (i + 1) out (by omega)
  | succ d ih =>
    intro k i begin out hk hi hb ho
    obtain ⟨k, rfl⟩ : ∃ q, k = q + 3 := ⟨k - 3, by omega⟩
    obtain ⟨b, hd, hbt⟩ := data_drop s i (by omega)
    have h32 : b = 32 ↔ b.toNat = 32 := by
      constructor
      · rintro rfl; rfl
      · intro q; exact UInt8.toNat_inj.1 q
    have hbad : bad (b :: s.data.toList.drop (i + 1)) = (decide (b.toNat < 32) || decide (126 < b.toNat) || bad (s.data.toList.drop (i + 1))) := by unfold bad; rw [List.any_cons]
    have hts := take_succ_drop s.data.toList i begin b hb hd (by omega)
    rw [spec_PartsOf.l0, if_pos (by omega), if_pos (by omega), if_pos (by omega), hbt, hd, hbad]
    by_cases c1 : b.toNat < 32
    · rw [if_pos (by omega), spec_PartsOf.j1, if_pos rfl, decide_eq_true c1]
      rfl
    rw [if_neg (by omega), spec_PartsOf.j1, decide_eq_false c1]
    by_cases c2 : 126 < b.toNat
    · rw [if_pos (by rw [decide_eq_true_eq]; omega), decide_eq_true c2]
      rfl
    rw [if_neg (by rw [decide_eq_true_eq]; omega), decide_eq_false c2, if_pos (by omega), if_pos (by omega), spec_PartsOf.j2, hbt, wrap_one i (by omega), parts]
    simp only [Bool.false_or]
    by_cases c3 : b = 32
    · have c4 := h32.1 c3
      rw [if_neg (by simp only [bne_iff_ne, ne_eq]; omega), if_pos c3]
      have hz : (s.data.toList.take (i + 1)).drop (i + 1) = [] := (cur_nil _ _ _ (by omega)).2 (Nat.le_refl _)
      by_cases h : begin < i
      · rw [if_pos (by omega), if_pos (by omega), if_pos (by omega), if_pos (by omega), if_pos (by omega), if_neg (c := (s.data.toList.take i).drop begin = []) (fun q => by have := (cur_nil _ _ _ (by omega)).1 q; omega), Int.toNat_natCast, Int.toNat_natCast, extract_mk, ih k (i + 1) (i + 1) _ (by omega) (by omega) (Nat.le_refl _) (by rw [List.length_append, List.length_singleton]; omega), hz]
        simp
      · rw [if_neg (by omega), if_pos ((cur_nil _ _ _ (by omega)).2 (by omega)), ih k (i + 1) (i + 1) out (by omega) (by omega) (Nat.le_refl _) (by omega), hz]
    · have c4 : ¬ b.toNat = 32 := fun q => c3 (h32.2 q)
      rw [if_pos (by simp only [bne_iff_ne, ne_eq]; omega), if_neg c3, ih k (i + 1) begin out (by omega) (by omega) (by omega) (by omega), hts]
def partsOf (s : ByteArray) : List ByteArray × Bool := if s.size > 600 ∨ bad s.data.toList = true then ([], false) else finP ((parts [] s.data.toList).map mkB)
theorem spec_PartsOf_eq (k : Nat) (hk : 2000 ≤ k) (s : ByteArray) : spec_PartsOf.f k s = some (partsOf s) := by
  unfold spec_PartsOf.f partsOf
  rw [Option.bind_some]
  by_cases h : s.size > 600
  · rw [if_pos (by omega), if_pos (Or.inl h)]
  · have hw := spec_walk s (by omega) s.size k 0 0 [] (by omega) (by omega) (Nat.le_refl _) (Nat.le_refl _)
    rw [if_neg (by omega)]
    refine hw.trans ?_
    rw [List.drop_zero, List.take_zero, List.drop_nil, List.nil_append]
    by_cases hb : bad s.data.toList = true
    · rw [if_pos hb, if_pos (Or.inr hb)]
    · rw [if_neg hb, if_neg (fun q => q.elim h hb)]
theorem l1_walk (P : List ByteArray) (hP : P.length ≤ 1000) : ∀ (d k i : Nat) (out : List ByteArray), d + 1 ≤ k → i + d = P.length → out.length ≤ i →
    impl_PartsOf.l1 k out P (P.length : Int) (i : Int) = some (finP (out ++ (P.drop i).filter (fun p => !p.data.toList.isEmpty))) := by
  intro d
  induction d with
  | zero =>
    intro k i out hk hi ho
    obtain ⟨k, rfl⟩ : ∃ q, k = q + 1 := ⟨k - 1, by omega⟩
    rw [impl_PartsOf.l1, if_neg (by omega), List.drop_eq_nil_of_le (by omega), List.filter_nil, List.append_nil]
    unfold finP
    by_cases h : out.length > 10
    · rw [if_pos h, if_pos (by omega)]
    · rw [if_neg h, if_neg (by omega)]
  | succ d ih =>
    intro k i out hk hi ho
    obtain ⟨k, rfl⟩ : ∃ q, k = q + 1 := ⟨k - 1, by omega⟩
    have hlt : i < P.length := by omega
    have hr : rdOf ByteArray.empty P (i : Int) = P[i] := by
      unfold rdOf
      rw [Int.toNat_natCast, List.getD_eq_getElem?_getD, List.getElem?_eq_getElem hlt]
      rfl
    rw [impl_PartsOf.l1, if_pos (by omega), if_pos (by omega), if_pos (by omega), hr, toList_eq, wrap_one i (by omega), List.drop_eq_getElem_cons hlt, List.filter_cons]
    by_cases h : P[i].data.toList = []
    · rw [if_pos h, ih k (i + 1) out (by omega) (by omega) (by omega), if_neg (by simp [h])]
    · rw [if_neg h, if_pos (by omega), ih k (i + 1) _ (by omega) (by omega) (by rw [List.length_append, List.length_singleton]; omega), if_pos (by simpa using h)]
      simp
theorem split_parts (s : ByteArray) : (Lib.splitB (⟨#[32]⟩ : ByteArray) 0 (Lib.countB s (⟨#[32]⟩ : ByteArray)) s).filter (fun p => !p.data.toList.isEmpty) = (parts [] s.data.toList).map mkB := by
  have h1 := Lib.splitB_data (⟨#[32]⟩ : ByteArray) 0 (Lib.countB s (⟨#[32]⟩ : ByteArray)) s
  have h2 := parts_split s.data.toList
  have h3 : Lib.countB s (⟨#[32]⟩ : ByteArray) = Lib.count s.data.toList [32] := rfl
  have h4 : (⟨#[32]⟩ : ByteArray).data.toList = [32] := rfl
  rw [h3, h4] at h1
  rw [h3]
  generalize Lib.splitB (⟨#[32]⟩ : ByteArray) 0 (Lib.count s.data.toList [32]) s = P at h1 ⊢
  rw [h2, ← h1, List.filter_map, List.map_map]
  conv => lhs; rw [← List.map_id (P.filter _)]
  apply List.map_congr_left
  intro p _
  exact (mkB_data p).symm
theorem l0_walk (s : ByteArray) (hs : s.size ≤ 600) : ∀ (d k i : Nat), d + 700 ≤ k → i + d = s.size → impl_PartsOf.l0 k s (i : Int) = some (if bad (s.data.toList.drop i) = true then ([], false) else finP ((parts [] s.data.toList).map mkB)) := by
  have hL : s.data.toList.length = s.size := Array.length_toList
  intro d
  induction d with
  | zero =>
    intro k i hk hi
    obtain ⟨k, rfl⟩ : ∃ q, k = q + 1 := ⟨k - 1, by omega⟩
    have hle := Lib.countB_le (⟨#[32]⟩ : ByteArray) (by decide) s.size s (Nat.le_refl _)
    have hlen := Lib.splitB_all (⟨#[32]⟩ : ByteArray) (by decide) 0 _ s rfl
    have hsp : strings_Split.f s (⟨#[32]⟩ : ByteArray) = some (Lib.splitB (⟨#[32]⟩ : ByteArray) 0 (Lib.countB s (⟨#[32]⟩ : ByteArray)) s) := by
      unfold strings_Split.f
      rw [if_pos ⟨by omega, by decide⟩]
    have hw := split_parts s
    rw [impl_PartsOf.l0, if_neg (by omega), hsp, Option.bind_some]
    generalize Lib.splitB (⟨#[32]⟩ : ByteArray) 0 (Lib.countB s (⟨#[32]⟩ : ByteArray)) s = P at hlen hw ⊢
    have h := l1_walk P (by omega) P.length k 0 [] (by omega) (by omega) (Nat.le_refl _)
    rw [List.drop_zero, List.nil_append, hw] at h
    rw [List.drop_eq_nil_of_le (by omega : s.data.toList.length ≤ i), if_neg (show ¬ bad [] = true by decide)]
    exact h
  | succ d ih =>
    intro k i hk hi
    obtain ⟨k, rfl⟩ : ∃ q, k = q + 1 := ⟨k - 1, by omega⟩
    obtain ⟨b, hd, hbt⟩ := data_drop s i (by omega)
    have hbad : bad (b :: s.data.toList.drop (i + 1)) = (decide (b.toNat < 32) || decide (126 < b.toNat) || bad (s.data.toList.drop (i + 1))) := by unfold bad; rw [List.any_cons]
    rw [impl_PartsOf.l0, if_pos (by omega), if_pos (by omega), hbt, hd, hbad]
    by_cases c1 : b.toNat < 32
    · rw [if_pos (by omega), decide_eq_true c1]
      rfl
    rw [if_neg (by omega), decide_eq_false c1]
    by_cases c2 : 126 < b.toNat
    · rw [if_pos (by omega), decide_eq_true c2]
      rfl
    rw [if_neg (by omega), decide_eq_false c2, wrap_one i (by omega), ih k (i + 1) (by omega) (by omega)]
    simp only [Bool.false_or]
theorem impl_PartsOf_eq (k : Nat) (hk : 2000 ≤ k) (s : ByteArray) : impl_PartsOf.f k s = some (partsOf s) := by
  unfold impl_PartsOf.f partsOf
  by_cases h : s.size > 600
  · rw [if_pos (by omega), if_pos (Or.inl h)]
  · have hw := l0_walk s (by omega) s.size k 0 (by omega) (by omega)
    rw [if_neg (by omega)]
    refine hw.trans ?_
    rw [List.drop_zero]
    by_cases hb : bad s.data.toList = true
    · rw [if_pos hb, if_pos (Or.inr hb)]
    · rw [if_neg hb, if_neg (fun q => q.elim h hb)]
theorem partsOf_len (s : ByteArray) : (partsOf s).1.length ≤ 10 := by
  unfold partsOf finP
  split
  · simp
  · split
    · simp
    · simp only; omega
theorem eqS_l0 (l : List ByteArray) (hl : l.length ≤ 10) : ∀ (d k i : Nat), d + 1 ≤ k → i + d = l.length → laws_eqStringS.l0 k l l (i : Int) = some true := by
  intro d
  induction d with
  | zero =>
    intro k i hk hi
    obtain ⟨k, rfl⟩ : ∃ q, k = q + 1 := ⟨k - 1, by omega⟩
    rw [laws_eqStringS.l0, if_neg (by omega)]
  | succ d ih =>
    intro k i hk hi
    obtain ⟨k, rfl⟩ : ∃ q, k = q + 1 := ⟨k - 1, by omega⟩
    rw [laws_eqStringS.l0, if_pos (by omega), if_pos (by omega), if_pos (by omega), if_pos rfl, wrap_one i (by omega)]
    exact ih k (i + 1) (by omega) (by omega)
theorem eqS_same (k : Nat) (hk : 20 ≤ k) (l : List ByteArray) (hl : l.length ≤ 10) : laws_eqStringS.f k l l = some true := by
  unfold laws_eqStringS.f
  rw [if_pos rfl]
  exact eqS_l0 l hl l.length k 0 (by omega) (by omega)
def tM (m : Nat) : ByteArray := (laws_markText.f 5 (m : Int)).getD ByteArray.empty
theorem mark_all : ((List.range 20).all fun m => (laws_markText.f 5 (m : Int)).isSome) = true := by kernel_rfl
theorem mark_at (m : Nat) (hm : m < 20) : ∀ d, laws_markText.f (5 + d) (m : Int) = some (tM m) := by
  intro d
  induction d with
  | zero =>
    have h := List.all_eq_true.1 mark_all m (List.mem_range.2 hm)
    obtain ⟨r, hr⟩ := Option.isSome_iff_exists.1 h
    unfold tM
    rw [Nat.add_zero, hr]
    rfl
  | succ d ih => exact laws_markText.mono (m : Int) (5 + d) _ ih
theorem mark_k (k m : Nat) (hk : 5 ≤ k) (hm : m < 20) : laws_markText.f k (m : Int) = some (tM m) := by
  have h := mark_at m hm (k - 5)
  rwa [show 5 + (k - 5) = k by omega] at h
def marks (n : Nat) : List ByteArray := (List.range n).map fun j => tM (1 + j)
theorem marks_len (n : Nat) : (marks n).length = n := by unfold marks; rw [List.length_map, List.length_range]
theorem marks_succ (n : Nat) : marks (n + 1) = marks n ++ [tM (1 + n)] := by unfold marks; rw [List.range_succ, List.map_append]; rfl
theorem markS_l0 : ∀ (R : List ByteArray) (k i : Nat), i + R.length ≤ 10 → R.length + 8 ≤ k → laws_markStringS.l0 k (marks i ++ R) ((1 + i : Nat) : Int) (i : Int) = some (((1 + (i + R.length) : Nat) : Int), marks (i + R.length)) := by
  intro R
  induction R with
  | nil =>
    intro k i hi hk
    obtain ⟨k, rfl⟩ : ∃ q, k = q + 1 := ⟨k - 1, by omega⟩
    rw [List.append_nil, laws_markStringS.l0, if_neg (by rw [marks_len]; omega)]
    rfl
  | cons r R ih =>
    intro k i hi hk
    rw [List.length_cons] at hi hk
    obtain ⟨k, rfl⟩ : ∃ q, k = q + 1 := ⟨k - 1, by omega⟩
    have hset : (marks i ++ r :: R).set i (tM (1 + i)) = marks (i + 1) ++ R := by
      rw [List.set_append_right _ _ (by rw [marks_len]; exact Nat.le_refl _), marks_len, Nat.sub_self, List.set_cons_zero, marks_succ, List.append_assoc]
      rfl
    rw [laws_markStringS.l0, if_pos (by rw [List.length_append, marks_len, List.length_cons]; omega), mark_k k (1 + i) (by omega) (by omega), Option.bind_some, if_pos (by omega), Int.toNat_natCast, hset, wrap_one i (by omega), show wrap64 (((1 + i : Nat) : Int) + 1) = ((1 + (i + 1) : Nat) : Int) from wrap_one (1 + i) (by omega), ih k (i + 1) (by omega) (by omega), List.length_cons, show i + 1 + R.length = i + (R.length + 1) by omega]
theorem markS_eq (k : Nat) (hk : 20 ≤ k) (R : List ByteArray) (hR : R.length ≤ 10) : laws_markStringS.f k R 1 = some (((1 + R.length : Nat) : Int), marks R.length) := by
  have h := markS_l0 R k 0 (by omega) (by omega)
  rw [Nat.zero_add] at h
  exact h
theorem heldS_l0 (n : Nat) (hn : n ≤ 10) : ∀ (d k i : Nat), i + d = n → d + 8 ≤ k → laws_heldStringS.l0 k (marks n) ((1 + i : Nat) : Int) (i : Int) = some ((1 + n : Nat) : Int) := by
  intro d
  induction d with
  | zero =>
    intro k i hi hk
    obtain ⟨k, rfl⟩ : ∃ q, k = q + 1 := ⟨k - 1, by omega⟩
    rw [laws_heldStringS.l0, if_neg (by rw [marks_len]; omega), show 1 + i = 1 + n by omega]
  | succ d ih =>
    intro k i hi hk
    obtain ⟨k, rfl⟩ : ∃ q, k = q + 1 := ⟨k - 1, by omega⟩
    have hr : rdOf ByteArray.empty (marks n) (i : Int) = tM (1 + i) := by
      unfold rdOf marks
      rw [Int.toNat_natCast, List.getD_eq_getElem?_getD, List.getElem?_map, List.getElem?_range (by omega)]
      rfl
    rw [laws_heldStringS.l0, if_pos (by rw [marks_len]; omega), if_pos (by omega), mark_k k (1 + i) (by omega) (by omega), Option.bind_some, hr, if_pos rfl, wrap_one i (by omega), show wrap64 (((1 + i : Nat) : Int) + 1) = ((1 + (i + 1) : Nat) : Int) from wrap_one (1 + i) (by omega)]
    exact ih k (i + 1) (by omega) (by omega)
theorem heldS_eq (k : Nat) (hk : 20 ≤ k) (n : Nat) (hn : n ≤ 10) : laws_heldStringS.f k (marks n) 1 = some ((1 + n : Nat) : Int) := heldS_l0 n hn n k 0 (by omega) (by omega)
theorem FnExactPartsOf : laws_FnExactPartsOf.Pure := by
  intro s _
  refine ⟨3002, ?_⟩
  unfold laws_FnExactPartsOf.f
  by_cases h : (s.size : Int) > 1048576
  · rw [if_pos h]
  have hl := partsOf_len s
  rw [if_neg h, spec_PartsOf_eq 3002 (by omega), Option.bind_some, impl_PartsOf_eq 3002 (by omega), Option.bind_some, eqS_same 3002 (by omega) _ hl, Option.bind_some, if_pos rfl, laws_FnExactPartsOf.j0, if_neg (by simp), markS_eq 3001 (by omega) _ hl, Option.bind_some, heldS_eq 3001 (by omega) _ hl, Option.bind_some, if_neg (by omega), if_pos rfl, impl_PartsOf_eq 3001 (by omega), Option.bind_some, eqS_same 3001 (by omega) _ hl, Option.bind_some, if_pos rfl, laws_FnExactPartsOf.j1, if_neg (by simp), heldS_eq 3000 (by omega) _ hl, Option.bind_some, if_neg (by omega), if_pos rfl]

end Go.Proofs.YtfigfpfgeoadbaaDoor.Pure
