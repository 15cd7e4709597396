/- Proved: ReadShort of the program and of the reference agree at every text of at most 2^20 bytes (the law asks no more) and every place. Conditions: none. -/
import Derived.Test.YtaniffkmdiibpaaPFnExactReadShortx2
import Derived.Test.YtaniffkmdiibpaaMod
import Derived.Test.YtaniffkmdiibpaaVar
import Derived.Test.YtaniffkmdiibpaaRead
set_option linter.unusedVariables false
set_option linter.unusedSimpArgs false
namespace Go.Proofs.Ytaniffkmdiibpaa.Pure
open Go.RowKit Go.Proofs.Ytaniffkmdiibpaa.PFnExactReadShort Go.Proofs.YtaniffkmdiibpaaW.PrintWords Go.Proofs.YtaniffkmdiibpaaW.PrintLast Go.Proofs.YtaniffkmdiibpaaW.PrintMore
open Go.Proofs.Ytaniffkmdiibpaa.M

theorem spec_l01Var_l0 : ∀ (d k n : Nat) (l : List Int), d < k → n < 128 ^ (d + 1) → n ≤ 9223372036854775807 → l.length + d ≤ 1000 → spec_l01Var.l0 k n l = some (strOfNums (l ++ varNums n)) := by
  intro d
  induction d with
  | zero =>
    intro k n l hk hn _ hl
    obtain ⟨k, rfl⟩ : ∃ j, k = j + 1 := ⟨k - 1, by omega⟩
    simp only [spec_l01Var.l0]
    rw [if_neg (by omega), if_pos (by omega), varNums_small n (by omega), show (n : Int) % 256 = n by omega]
  | succ d ih =>
    intro k n l hk hn hb hl
    obtain ⟨k, rfl⟩ : ∃ j, k = j + 1 := ⟨k - 1, by omega⟩
    simp only [spec_l01Var.l0]
    by_cases h : n < 128
    · rw [if_neg (by omega), if_pos (by omega), varNums_small n h, show (n : Int) % 256 = n by omega]
    · rw [if_pos (by omega), if_pos (by omega), Int.tdiv_eq_ediv_of_nonneg (by omega), Int.tmod_eq_emod_of_nonneg (by omega), varNums_great n (by omega)]
      rw [show wrap64 ((n : Int) / 128) = ((n / 128 : Nat) : Int) by unfold wrap64; omega, show wrap64 ((n : Int) % 128 + 128) % 256 = ((n % 128 + 128 : Nat) : Int) by unfold wrap64; omega]
      rw [ih k (n / 128) _ (by omega) (by rw [Nat.pow_succ] at hn; omega) (by omega) (by simp; omega)]
      simp
theorem spec_l01Var_eq (k : Nat) (hk : 12 ≤ k) (n : Nat) (hn : n ≤ 9223372036854775807) : spec_l01Var.f k n = some (strOfNums (varNums n)) := by
  unfold spec_l01Var.f
  exact spec_l01Var_l0 10 k n [] (by omega) (by omega) hn (by simp)
theorem spec_ReadVar_l0 (s : ByteArray) (a : Nat) (ha : a ≤ 2000000) (hs : s.size ≤ 2000000) : ∀ (f k : Nat) (P : List Nat), 2 * f + 20 ≤ k → P.length + f = 5 → a + P.length ≤ s.size → ((byteNs s).drop a).take P.length = P → (∀ x ∈ P, 128 ≤ x ∧ x < 256) →
    spec_ReadVar.l0 k s a (valL P : Nat) ((128 ^ P.length : Nat) : Int) ((a + P.length : Nat) : Int) = some (rvFin a (rvGo f ((byteNs s).drop (a + P.length)) (valL P) (128 ^ P.length) P.length)) := by
  intro f
  induction f with
  | zero =>
    intro k P hk hi hle hP hall
    obtain ⟨k, rfl⟩ : ∃ j, k = j + 2 := ⟨k - 2, by omega⟩
    simp only [spec_ReadVar.l0, spec_ReadVar.j1]
    have ew : wrap64 ((a : Int) + 5) = ((a + 5 : Nat) : Int) := by unfold wrap64; omega
    rw [ew]
    by_cases hlt : a + P.length < s.size
    · rw [if_pos (by omega), decide_eq_false (by omega)]
      simp [rvGo, rvFin]
    · rw [if_neg (by omega)]
      simp [rvGo, rvFin]
  | succ f ih =>
    intro k P hk hi hle hP hall
    obtain ⟨k, rfl⟩ : ∃ j, k = j + 2 := ⟨k - 2, by omega⟩
    simp only [spec_ReadVar.l0, spec_ReadVar.j1]
    have ew : wrap64 ((a : Int) + 5) = ((a + 5 : Nat) : Int) := by unfold wrap64; omega
    rw [ew]
    by_cases hlt : a + P.length < s.size
    · rw [if_pos (by omega), decide_eq_true (by omega), if_pos rfl, if_pos (by omega), if_pos (by omega)]
      obtain ⟨hb, hb2⟩ := bt_nat s ((a + P.length : Nat) : Int)
      have hd := byteNs_drop s (a + P.length) hlt
      rw [hd, ← hb]
      generalize (bt s ((a + P.length : Nat) : Int)).toNat = b at hb2 hd ⊢
      have hu2 : 128 ^ P.length ≤ 268435456 := pow128 _ (by omega)
      have hv := valL_lt P
      have hsn := valL_snoc P b
      have hlen : (P ++ [b]).length = P.length + 1 := by simp
      have hpw : 128 ^ (P.length + 1) = 128 ^ P.length * 128 := Nat.pow_succ ..
      have htk : ((byteNs s).drop a).take (P.length + 1) = P ++ [b] := by
        have hl : P.length < ((byteNs s).drop a).length := by rw [List.length_drop, byteNs_length]; omega
        rw [List.take_succ_eq_append_getElem hl, hP]
        congr 2
        have h3 : ((byteNs s).drop a).drop P.length = b :: (byteNs s).drop (a + P.length + 1) := by rw [List.drop_drop, hd]
        rw [List.drop_eq_getElem_cons hl] at h3
        exact (List.cons.inj h3).1
      generalize hU : 128 ^ P.length = u at hu2 hv hsn hpw ih ⊢
      have HPW := Aside0.mk hpw
      clear hpw hU
      obtain ⟨e1, e2, e3, e4, e5, hnn⟩ := rv_arith b u (valL P) hb2 hu2 hv
      rw [e1, e2, e3, e4, e5, wrap_nat' (a + P.length) (by omega)]
      clear e1 e2 e3 e4 e5 ew
      (try simp only [Int.toNat_natCast])
      simp only [rvGo]
      by_cases hge : 128 ≤ b
      · rw [if_neg (by omega), if_pos hge]
        have h := ih k (P ++ [b]) (by omega) (by rw [hlen]; omega) (by rw [hlen]; omega) (by rw [hlen]; exact htk) (fun x hx => by
          rcases List.mem_append.1 hx with hx | hx
          · exact hall x hx
          · simp at hx; omega)
        rw [hlen, HPW.out, hsn] at h
        rw [show a + (P.length + 1) = a + P.length + 1 by omega] at h
        exact h
      · rw [if_pos (by omega), if_neg hge]
        by_cases hbig : 1000000000 < valL P + b % 128 * u
        · rw [if_pos (by omega), if_pos (Or.inr hbig)]
          rfl
        · rw [if_neg (by omega), spec_l01Var_eq k (by omega) _ (by omega)]
          simp only [Option.bind_some]
          rw [if_pos (by omega), if_pos (by omega), if_pos (by omega)]
          have hiff := varL_iff P b hall (by omega)
          rw [hsn] at hiff
          have heq : (strOfNums (varNums (valL P + b % 128 * u))).toList = (s.extract a (a + P.length + 1)).toList ↔ ¬ (b = 0 ∧ 0 < P.length) := by
            rw [toList_iff, byteNs_var, byteNs_extract, show a + P.length + 1 - a = P.length + 1 by omega, htk]
            exact hiff
          by_cases hz : b = 0 ∧ 0 < P.length
          · rw [if_neg (fun q => (heq.1 q) hz), if_pos (Or.inl hz)]
            rfl
          · rw [if_pos (heq.2 hz), if_neg (by rintro (q | q); exact hz q; exact hbig q)]
            simp only [rvFin]
            rw [show a + (P.length + 1) = a + P.length + 1 by omega]
    · rw [if_neg (by omega), if_neg (by simp), List.drop_eq_nil_of_le (by rw [byteNs_length]; omega)]
      simp [rvGo, rvFin]
theorem spec_ReadVar_eq (k : Nat) (hk : 40 ≤ k) (s : ByteArray) (hs : s.size ≤ 2000000) (a : Int) : spec_ReadVar.f k s a = some (readVarOf s a) := by
  unfold spec_ReadVar.f readVarOf spec_l01In.f
  by_cases h0 : a < 0
  · rw [if_neg (by omega), if_pos (Or.inl h0)]
    simp
  · by_cases h1 : (s.size : Int) < a
    · rw [if_pos (by omega), if_pos (Or.inr h1), decide_eq_false (by omega)]
      simp
    · rw [if_pos (by omega), if_neg (by omega), decide_eq_true (by omega)]
      simp only [Option.bind_some, if_true]
      obtain ⟨n, rfl⟩ := Int.eq_ofNat_of_zero_le (show 0 ≤ a by omega)
      have h := spec_ReadVar_l0 s n (by omega) hs 5 k [] (by omega) (by simp) (by simp; omega) (by simp) (by simp)
      rw [Int.toNat_natCast]
      exact h
theorem spec_ReadShort_eq (k : Nat) (hk : 40 ≤ k) (s : ByteArray) (hs : s.size ≤ 2000000) (a : Int) : spec_ReadShort.f k s a = some (readShortOf s a) := by
  unfold spec_ReadShort.f readShortOf
  rw [spec_ReadVar_eq k hk s hs a]
  simp only [Option.bind_some]
  have hb := readVarOf_bounds s a
  generalize readVarOf s a = r at hb ⊢
  obtain ⟨n, next, ok⟩ := r
  cases ok
  · simp
  · simp only at hb ⊢
    have := hb trivial
    rw [if_pos trivial, show wrap64 ((s.size : Int) - next) = (s.size : Int) - next by unfold wrap64; omega, show wrap64 (next + n) = next + n by unfold wrap64; omega]
    by_cases h1 : n > 20000
    · rw [if_pos h1, if_pos (Or.inr (Or.inl h1))]
    by_cases h2 : n > (s.size : Int) - next
    · rw [if_neg h1, if_pos h2, if_pos (Or.inr (Or.inr h2))]
    rw [if_neg h1, if_neg h2, if_pos (by omega), if_pos (by omega), if_pos (by omega), if_neg (by rintro (q | q | q); simp at q; omega; omega)]
theorem impl_ReadVar_l0 (s : ByteArray) (a : Nat) (ha : a ≤ 2000000) (hs : s.size ≤ 2000000) : ∀ (f k i n u : Nat), 2 * f + 2 ≤ k → i + f = 5 → Aside0 (u = 128 ^ i) → n < u →
    impl_ReadVar.l0 k s a n u i = some (rvFin a (rvGo f ((byteNs s).drop (a + i)) n u i)) := by
  intro f
  induction f with
  | zero =>
    intro k i n u hk hi hu hn
    obtain ⟨k, rfl⟩ : ∃ j, k = j + 2 := ⟨k - 2, by omega⟩
    simp only [impl_ReadVar.l0, impl_ReadVar.j2]
    rw [if_neg (by omega)]
    simp [rvGo, rvFin]
  | succ f ih =>
    intro k i n u hk hi hu hn
    obtain ⟨k, rfl⟩ : ∃ j, k = j + 2 := ⟨k - 2, by omega⟩
    simp only [impl_ReadVar.l0, impl_ReadVar.j2]
    have ew : wrap64 ((a : Int) + (i : Int)) = ((a + i : Nat) : Int) := by unfold wrap64; omega
    rw [if_pos (by omega), ew]
    by_cases hlt : a + i < s.size
    · rw [decide_eq_true (by omega), if_pos rfl, if_pos (by omega), if_pos (by omega)]
      obtain ⟨hb, hb2⟩ := bt_nat s ((a + i : Nat) : Int)
      rw [byteNs_drop s (a + i) hlt, ← hb]
      generalize (bt s ((a + i : Nat) : Int)).toNat = b at hb2 ⊢
      have hu2 : u ≤ 268435456 := by
        rw [hu.out]
        exact pow128 i (by omega)
      obtain ⟨e1, e2, e3, e4, e5, hnn⟩ := rv_arith b u n hb2 hu2 hn
      rw [e1, e2, e3, e4, e5, wrap_nat' i (by omega), wrap_nat' (a + i) (by omega)]
      clear e1 e2 e3 e4 e5 ew
      (try simp only [Int.toNat_natCast])
      simp only [rvGo]
      by_cases hge : 128 ≤ b
      · rw [if_pos (by omega), if_pos hge, ih k (i + 1) _ _ (by omega) (by omega) ⟨by rw [hu.out, Nat.pow_succ]⟩ hnn]
        rw [show a + (i + 1) = a + i + 1 by omega]
      · rw [if_neg (by omega), if_neg hge]
        by_cases hz : b = 0
        · rw [if_pos (by omega)]
          by_cases hi0 : 0 < i
          · rw [if_pos (by omega), if_pos (Or.inl ⟨hz, hi0⟩)]
            rfl
          · rw [if_neg (by omega)]
            by_cases hbig : 1000000000 < n + b % 128 * u
            · rw [if_pos (by omega), if_pos (Or.inr hbig)]
              rfl
            · rw [if_neg (by omega), if_neg (by omega)]
              simp only [rvFin]
              rw [show a + (i + 1) = a + i + 1 by omega]
        · rw [if_neg (by omega)]
          by_cases hbig : 1000000000 < n + b % 128 * u
          · rw [if_pos (by omega), if_pos (Or.inr hbig)]
            rfl
          · rw [if_neg (by omega), if_neg (by omega)]
            simp only [rvFin]
            rw [show a + (i + 1) = a + i + 1 by omega]
    · rw [decide_eq_false (by omega), if_neg (by simp), List.drop_eq_nil_of_le (by rw [byteNs_length]; omega)]
      simp [rvGo, rvFin]
theorem impl_ReadVar_eq (k : Nat) (hk : 20 ≤ k) (s : ByteArray) (hs : s.size ≤ 2000000) (a : Int) : impl_ReadVar.f k s a = some (readVarOf s a) := by
  unfold impl_ReadVar.f readVarOf
  obtain ⟨k, rfl⟩ : ∃ j, k = j + 1 := ⟨k - 1, by omega⟩
  simp only [impl_ReadVar.j0]
  by_cases h0 : a < 0
  · rw [if_pos h0, if_pos (Or.inl h0)]
    simp
  · by_cases h1 : (s.size : Int) < a
    · rw [if_neg h0, if_pos (Or.inr h1), decide_eq_true (show a > (s.size : Int) by omega)]
      simp
    · rw [if_neg h0, if_neg (show ¬ (a < 0 ∨ (s.size : Int) < a) by omega), decide_eq_false (show ¬ a > (s.size : Int) by omega)]
      simp only [Bool.false_eq_true, if_false]
      obtain ⟨n, rfl⟩ := Int.eq_ofNat_of_zero_le (show 0 ≤ a by omega)
      have h := impl_ReadVar_l0 s n (by omega) hs 5 k 0 0 1 (by omega) (by omega) ⟨rfl⟩ (by omega)
      rw [Int.toNat_natCast]
      exact h
theorem impl_ReadShort_eq (k : Nat) (hk : 40 ≤ k) (s : ByteArray) (hs : s.size ≤ 2000000) (a : Int) : impl_ReadShort.f k s a = some (readShortOf s a) := by
  unfold impl_ReadShort.f readShortOf
  rw [impl_ReadVar_eq k (by omega) s hs a]
  simp only [Option.bind_some]
  have hb := readVarOf_bounds s a
  generalize readVarOf s a = r at hb ⊢
  obtain ⟨n, next, ok⟩ := r
  cases ok
  · simp
  · simp only at hb ⊢
    have := hb trivial
    rw [if_pos trivial, show wrap64 ((s.size : Int) - next) = (s.size : Int) - next by unfold wrap64; omega, show wrap64 (next + n) = next + n by unfold wrap64; omega]
    by_cases h1 : n > 20000
    · rw [if_pos h1, if_pos (Or.inr (Or.inl h1))]
    by_cases h2 : n > (s.size : Int) - next
    · rw [if_neg h1, if_pos h2, if_pos (Or.inr (Or.inr h2))]
    rw [if_neg h1, if_neg h2, if_pos (by omega), if_pos (by omega), if_pos (by omega), if_neg (by rintro (q | q | q); simp at q; omega; omega)]
theorem FnExactReadShort : laws_FnExactReadShort.Pure := by
  intro s a _ _
  refine ⟨40, ?_⟩
  unfold laws_FnExactReadShort.f
  by_cases h : (s.size : Int) > 1048576
  · rw [if_pos h]
  rw [if_neg h, spec_ReadShort_eq 40 (by omega) s (by omega) a, impl_ReadShort_eq 40 (by omega) s (by omega) a]
  simp

end Go.Proofs.Ytaniffkmdiibpaa.Pure
