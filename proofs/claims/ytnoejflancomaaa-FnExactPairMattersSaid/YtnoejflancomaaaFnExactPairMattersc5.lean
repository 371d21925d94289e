/- FnExactPairMatters: the reference's faces of which the choice matters and the program's agree, for all pairs there are. -/
import Derived.Test.YtnoejflancomaaaFnExactPairMattersc4
section
namespace Go.Proofs.Ytnoejflancomaaa.Pure
set_option linter.unusedVariables false
set_option linter.unusedSimpArgs false
open Go.RowKit Go.Proofs.Ytnoejflancomaaa.P Go.Proofs.YtnoejflancomaaaW.PrintWords Go.Proofs.YtnoejflancomaaaW.PrintLast
def tabOk (ru : Nat) (s f : Nat) : Bool := (List.range (s + 1)).all fun a => (List.range (s + 1)).all fun b =>
  spec_oiMean.f 3000 (s : Int) (f : Int) (a : Int) (b : Int) (ru : Int) == some (mT ru (s : Int) (f : Int) (a : Int) (b : Int))
def tabAll (ru : Nat) : Bool := (List.range 6).all fun s => (List.range 4).all fun f => tabOk ru (s + 1) (f + 1)
theorem tabAll_spec {ru : Nat} (h : tabAll ru = true) {s f a b : Int} (hs : 1 ≤ s ∧ s ≤ 6) (hf : 1 ≤ f ∧ f ≤ 4) (ha : 0 ≤ a ∧ a ≤ s) (hb : 0 ≤ b ∧ b ≤ s) : spec_oiMean.f 3000 s f a b (ru : Int) = some (mT ru s f a b) := by
  unfold tabAll at h
  have h1 := List.all_eq_true.1 h (s.toNat - 1) (List.mem_range.2 (by omega))
  have h2 := List.all_eq_true.1 h1 (f.toNat - 1) (List.mem_range.2 (by omega))
  unfold tabOk at h2
  have h3 := List.all_eq_true.1 h2 a.toNat (List.mem_range.2 (by omega))
  have h4 := List.all_eq_true.1 h3 b.toNat (List.mem_range.2 (by omega))
  have h5 := eq_of_beq h4
  have e1 : ((s.toNat - 1 + 1 : Nat) : Int) = s := by omega
  have e2 : ((f.toNat - 1 + 1 : Nat) : Int) = f := by omega
  have e3 : (a.toNat : Int) = a := by omega
  have e4 : (b.toNat : Int) = b := by omega
  rw [e1, e2, e3, e4] at h5
  exact h5
theorem good_eq' (s f a b : Int) : spec_oiGood.f s f a b = some (prG s f a b) := by
  simp only [spec_oiGood.f, spec_l1In.f, Option.bind_some, prG]
  cases inn s 1 6 <;> cases inn f 1 4 <;> cases inn a 0 s <;> cases inn b 0 s <;> rfl
end Go.Proofs.Ytnoejflancomaaa.Pure
end

section
namespace Go.Proofs.Ytnoejflancomaaa.P
set_option linter.unusedVariables false
set_option linter.unusedSimpArgs false
open Go.RowKit Go.Proofs.YtnoejflancomaaaW.PrintWords Go.Proofs.YtnoejflancomaaaW.PrintLast
theorem wI {x : Int} (h : -9223372036854775808 ≤ x) (h2 : x ≤ 9223372036854775807) : wrap64 x = x := by unfold wrap64; omega
theorem eqIntS_l (l : List Int) (hl : l.length ≤ 4611686018427387904) (d : Nat) : ∀ (k i : Nat), i + d = l.length → d < k → laws_eqIntS.l0 k l l i = some true := by
  induction d with
  | zero =>
    intro k i hi hk
    obtain ⟨k, rfl⟩ : ∃ m, k = m + 1 := ⟨k - 1, by omega⟩
    simp only [laws_eqIntS.l0]
    rw [if_neg (by omega)]
  | succ d ih =>
    intro k i hi hk
    obtain ⟨k, rfl⟩ : ∃ m, k = m + 1 := ⟨k - 1, by omega⟩
    simp only [laws_eqIntS.l0]
    rw [if_pos (by omega), if_pos (by omega), if_pos (by omega)]
    simp only [if_true]
    rw [wI (by omega) (by omega), show ((i : Int) + 1) = ((i + 1 : Nat) : Int) by omega]
    exact ih k (i + 1) (by omega) (by omega)
theorem eqIntS_refl {l : List Int} (hl : l.length ≤ 4611686018427387904) {k : Nat} (hk : l.length < k) : laws_eqIntS.f k l l = some true := by
  unfold laws_eqIntS.f
  rw [if_pos rfl]
  exact eqIntS_l l hl l.length k 0 (by omega) hk
def upFrom : Nat → Int → List Int
  | 0, _ => []
  | n + 1, a => a :: upFrom n (a + 1)
theorem upFrom_len : ∀ (n : Nat) (a : Int), (upFrom n a).length = n
  | 0, _ => rfl
  | n + 1, a => by rw [upFrom, List.length_cons, upFrom_len n]
theorem rd_mid (pre : List Int) (y : Int) (r : List Int) : rd (pre ++ y :: r) (pre.length : Int) = y := by
  unfold rd
  rw [Int.toNat_natCast, List.getD_eq_getElem?_getD, List.getElem?_append_right (Nat.le_refl _)]
  simp
theorem mark_l : ∀ (suf pre : List Int) (k : Nat) (x : Int), suf.length < k → -4611686018427387904 ≤ x → x + suf.length ≤ 4611686018427387904 → pre.length + suf.length ≤ 4611686018427387904 →
    laws_markIntS.l0 k (pre ++ suf) x pre.length = some (x + suf.length, pre ++ upFrom suf.length x)
  | [], pre, k, x, hk, h1, h2, h3 => by
    obtain ⟨k, rfl⟩ : ∃ m, k = m + 1 := ⟨k - 1, by omega⟩
    simp [laws_markIntS.l0, upFrom]
  | y :: suf, pre, k, x, hk, h1, h2, h3 => by
    obtain ⟨k, rfl⟩ : ∃ m, k = m + 1 := ⟨k - 1, by omega⟩
    simp only [List.length_cons] at hk h2 h3
    simp only [laws_markIntS.l0]
    rw [if_pos (by first | (simp; done) | (simp; omega)), if_pos (by omega), wI (by omega) (by omega), wI (by omega) (by omega), Int.toNat_natCast, List.set_append_right _ _ (Nat.le_refl _), Nat.sub_self, List.set_cons_zero]
    have := mark_l suf (pre ++ [x]) k (x + 1) (by omega) (by omega) (by omega) (by simp; omega)
    rw [List.append_assoc, List.singleton_append, show ((pre ++ [x]).length : Int) = (pre.length : Int) + 1 by simp] at this
    rw [this, List.length_cons, upFrom]
    simp
    omega
theorem mark_eq (l : List Int) {k : Nat} (hk : l.length < k) {x : Int} (h1 : -4611686018427387904 ≤ x) (h2 : x + l.length ≤ 4611686018427387904) (h3 : l.length ≤ 4611686018427387904) : laws_markIntS.f k l x = some (x + l.length, upFrom l.length x) := by
  have := mark_l l [] k x hk h1 h2 (by simpa using h3)
  exact this
theorem held_l : ∀ (d : Nat) (pre : List Int) (k : Nat) (x : Int), d < k → -4611686018427387904 ≤ x → x + d ≤ 4611686018427387904 → pre.length + d ≤ 4611686018427387904 →
    laws_heldIntS.l0 k (pre ++ upFrom d x) x pre.length = some (x + d)
  | 0, pre, k, x, hk, h1, h2, h3 => by
    obtain ⟨k, rfl⟩ : ∃ m, k = m + 1 := ⟨k - 1, by omega⟩
    simp [laws_heldIntS.l0, upFrom]
  | d + 1, pre, k, x, hk, h1, h2, h3 => by
    obtain ⟨k, rfl⟩ : ∃ m, k = m + 1 := ⟨k - 1, by omega⟩
    rw [upFrom]
    simp only [laws_heldIntS.l0]
    rw [if_pos (by first | (simp; done) | (simp; omega)), if_pos (by omega), rd_mid, if_pos rfl, wI (by omega) (by omega), wI (by omega) (by omega)]
    have := held_l d (pre ++ [x]) k (x + 1) (by omega) (by omega) (by omega) (by simp; omega)
    rw [List.append_assoc, List.singleton_append, show ((pre ++ [x]).length : Int) = (pre.length : Int) + 1 by simp] at this
    rw [this]
    simp
    omega
theorem held_eq (n : Nat) {k : Nat} (hk : n < k) {x : Int} (h1 : -4611686018427387904 ≤ x) (h2 : x + n ≤ 4611686018427387904) (h3 : n ≤ 4611686018427387904) : laws_heldIntS.f k (upFrom n x) x = some (x + n) :=
  held_l n [] k x hk h1 h2 (by simpa using h3)
end Go.Proofs.Ytnoejflancomaaa.P
end

section
namespace Go.Proofs.Ytnoejflancomaaa.Pure
set_option linter.unusedVariables false
set_option linter.unusedSimpArgs false
open Go.RowKit Go.Proofs.Ytnoejflancomaaa.P Go.Proofs.YtnoejflancomaaaW.PrintWords Go.Proofs.YtnoejflancomaaaW.PrintLast
def maOk (s f : Nat) : Bool := (List.range (s + 1)).all fun a => (List.range (s + 1)).all fun b =>
  let v := spec_PairMatters.f 3000 (s : Int) (f : Int) (a : Int) (b : Int)
  (match v with | some x => decide (x.1.length ≤ 4) | none => false) && v == impl_PairMatters.f (s : Int) (f : Int) (a : Int) (b : Int)
theorem ma_all : ((List.range 6).all fun s => (List.range 4).all fun f => maOk (s + 1) (f + 1)) = true := by decide +kernel
theorem ma_spec (s f a b : Int) : ∃ v, spec_PairMatters.f 3000 s f a b = some v ∧ impl_PairMatters.f s f a b = some v ∧ v.1.length ≤ 4 := by
  cases hg : prG s f a b with
  | true =>
    obtain ⟨hs, hf, ha, hb⟩ := prG_iff.1 hg
    have h1 := List.all_eq_true.1 ma_all (s.toNat - 1) (List.mem_range.2 (by omega))
    have h2 := List.all_eq_true.1 h1 (f.toNat - 1) (List.mem_range.2 (by omega))
    unfold maOk at h2
    have h3 := List.all_eq_true.1 h2 a.toNat (List.mem_range.2 (by omega))
    have h4 := List.all_eq_true.1 h3 b.toNat (List.mem_range.2 (by omega))
    have e1 : ((s.toNat - 1 + 1 : Nat) : Int) = s := by omega
    have e2 : ((f.toNat - 1 + 1 : Nat) : Int) = f := by omega
    have e3 : (a.toNat : Int) = a := by omega
    have e4 : (b.toNat : Int) = b := by omega
    simp only [e1, e2, e3, e4, Bool.and_eq_true] at h4
    cases hv : spec_PairMatters.f 3000 s f a b with
    | none => rw [hv] at h4; simp at h4
    | some v =>
      rw [hv] at h4
      exact ⟨v, rfl, (eq_of_beq h4.2).symm, by simpa using h4.1⟩
  | false => exact ⟨([], false), by simp [spec_PairMatters.f, good_eq', hg], by simp [impl_PairMatters.f, hg], by simp⟩
theorem FnExactPairMatters : laws_FnExactPairMatters.Pure := by
  intro s f a b _ _ _ _
  refine ⟨3000, ?_⟩
  obtain ⟨⟨xs, ok⟩, h1, h2, hl⟩ := ma_spec s f a b
  have hl : xs.length ≤ 4 := hl
  have a5 : laws_FnExactPairMatters.j1 2999 (upFrom xs.length 1) (1 + xs.length) false = some true := by
    show laws_FnExactPairMatters.j1 (2998 + 1) (upFrom xs.length 1) (1 + xs.length) false = some true
    simp only [laws_FnExactPairMatters.j1, Bool.false_eq_true, if_false, held_eq xs.length (k := 2998) (by omega) (x := 1) (by omega) (by omega) (by omega), Option.bind_some]
    rw [if_neg (by omega), if_pos trivial]
  have a6 : laws_FnExactPairMatters.j0 3000 s f a b xs ok xs false = some true := by
    show laws_FnExactPairMatters.j0 (2999 + 1) s f a b xs ok xs false = some true
    simp only [laws_FnExactPairMatters.j0, Bool.false_eq_true, if_false, mark_eq xs (k := 2999) (by omega) (x := 1) (by omega) (by omega) (by omega), Option.bind_some, held_eq xs.length (k := 2999) (by omega) (x := 1) (by omega) (by omega) (by omega)]
    rw [if_neg (by omega), if_pos trivial, h2]
    simp only [Option.bind_some, eqIntS_refl (l := xs) (k := 2999) (by omega) (by omega), if_true, bne_self_eq_false, a5]
  unfold laws_FnExactPairMatters.f
  rw [h1, h2]
  simp only [Option.bind_some, eqIntS_refl (l := xs) (k := 3000) (by omega) (by omega), if_true, bne_self_eq_false, a6]
end Go.Proofs.Ytnoejflancomaaa.Pure
end
