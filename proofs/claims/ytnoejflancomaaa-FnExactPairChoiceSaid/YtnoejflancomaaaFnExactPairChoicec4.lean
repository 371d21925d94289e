/- FnExactPairChoice: the reference's table of choices and the program's choices agree, for all pairs and faces there are. -/
import Derived.Test.YtnoejflancomaaaFnExactPairChoicec3
section
namespace Go.Proofs.Ytnoejflancomaaa.Pure
set_option linter.unusedVariables false
set_option linter.unusedSimpArgs false
open Go.RowKit Go.Proofs.Ytnoejflancomaaa.P Go.Proofs.YtnoejflancomaaaW.PrintWords Go.Proofs.YtnoejflancomaaaW.PrintLast
def tabOk (ru : Nat) (s f : Nat) : Bool := (List.range (s + 1)).all fun a => (List.range (s + 1)).all fun b =>
  spec_oiMean.f 3000 (s : Int) (f : Int) (a : Int) (b : Int) (ru : Int) == some (mT ru (s : Int) (f : Int) (a : Int) (b : Int))
def tabAll (ru : Nat) : Bool := (List.range 6).all fun s => (List.range 4).all fun f => tabOk ru (s + 1) (f + 1)
theorem tabAll_spec {ru : Nat} (h : tabAll ru = true) {s f a b : Int} (hs : 1 ≤ s ∧ s ≤ 6) (hf : 1 ≤ f ∧ f ≤ 4) (ha : 0 ≤ a ∧ a ≤ s) (hb : 0 ≤ b ∧ b ≤ s) : spec_oiMean.f 3000 s f a b (ru : Int) = some (mT ru s f a b) := by
  unfold tabAll at h
  have h1 := List.all_eq_true.1 h (s.toNat - 1) (List.mem_range.2 (by omega))
  have h2 := List.all_eq_true.1 h1 (f.toNat - 1) (List.mem_range.2 (by omega))
  unfold tabOk at h2
  have h3 := List.all_eq_true.1 h2 a.toNat (List.mem_range.2 (by omega))
  have h4 := List.all_eq_true.1 h3 b.toNat (List.mem_range.2 (by omega))
  have h5 := eq_of_beq h4
  have e1 : ((s.toNat - 1 + 1 : Nat) : Int) = s := by omega
  have e2 : ((f.toNat - 1 + 1 : Nat) : Int) = f := by omega
  have e3 : (a.toNat : Int) = a := by omega
  have e4 : (b.toNat : Int) = b := by omega
  rw [e1, e2, e3, e4] at h5
  exact h5
theorem good_eq' (s f a b : Int) : spec_oiGood.f s f a b = some (prG s f a b) := by
  simp only [spec_oiGood.f, spec_l1In.f, Option.bind_some, prG]
  cases inn s 1 6 <;> cases inn f 1 4 <;> cases inn a 0 s <;> cases inn b 0 s <;> rfl
end Go.Proofs.Ytnoejflancomaaa.Pure
end

section
namespace Go.Proofs.Ytnoejflancomaaa.Pure
set_option linter.unusedVariables false
set_option linter.unusedSimpArgs false
open Go.RowKit Go.Proofs.Ytnoejflancomaaa.P Go.Proofs.YtnoejflancomaaaW.PrintWords Go.Proofs.YtnoejflancomaaaW.PrintLast
def chOk (s f : Nat) : Bool := (List.range (s + 1)).all fun a => (List.range (s + 1)).all fun b => (List.range f).all fun x =>
  let v := spec_PairChoice.f 3000 (s : Int) (f : Int) (a : Int) (b : Int) ((x + 1 : Nat) : Int)
  v.isSome && v == impl_PairChoice.f (s : Int) (f : Int) (a : Int) (b : Int) ((x + 1 : Nat) : Int)
theorem ch_all : ((List.range 6).all fun s => (List.range 4).all fun f => chOk (s + 1) (f + 1)) = true := by decide +kernel
theorem ch_spec {s f a b x : Int} (hs : 1 ≤ s ∧ s ≤ 6) (hf : 1 ≤ f ∧ f ≤ 4) (ha : 0 ≤ a ∧ a ≤ s) (hb : 0 ≤ b ∧ b ≤ s) (hx : 1 ≤ x ∧ x ≤ f) :
    ∃ v, spec_PairChoice.f 3000 s f a b x = some v ∧ impl_PairChoice.f s f a b x = some v := by
  have h1 := List.all_eq_true.1 ch_all (s.toNat - 1) (List.mem_range.2 (by omega))
  have h2 := List.all_eq_true.1 h1 (f.toNat - 1) (List.mem_range.2 (by omega))
  unfold chOk at h2
  have h3 := List.all_eq_true.1 h2 a.toNat (List.mem_range.2 (by omega))
  have h4 := List.all_eq_true.1 h3 b.toNat (List.mem_range.2 (by omega))
  have h5 := List.all_eq_true.1 h4 (x.toNat - 1) (List.mem_range.2 (by omega))
  have e1 : ((s.toNat - 1 + 1 : Nat) : Int) = s := by omega
  have e2 : ((f.toNat - 1 + 1 : Nat) : Int) = f := by omega
  have e3 : (a.toNat : Int) = a := by omega
  have e4 : (b.toNat : Int) = b := by omega
  have e5 : ((x.toNat - 1 + 1 : Nat) : Int) = x := by omega
  simp only [e1, e2, e3, e4, e5, Bool.and_eq_true] at h5
  obtain ⟨v, hv⟩ := Option.isSome_iff_exists.1 h5.1
  exact ⟨v, hv, (eq_of_beq h5.2).symm.trans hv⟩
theorem FnExactPairChoice : laws_FnExactPairChoice.Pure := by
  intro s f a b x _ _ _ _ _
  refine ⟨3000, ?_⟩
  unfold laws_FnExactPairChoice.f
  have h : ∃ v, spec_PairChoice.f 3000 s f a b x = some v ∧ impl_PairChoice.f s f a b x = some v := by
    cases hg : prG s f a b with
    | true =>
      obtain ⟨hs, hf, ha, hb⟩ := prG_iff.1 hg
      cases hx : inn x 1 f with
      | true => exact ch_spec hs hf ha hb (inn_iff.1 hx)
      | false => exact ⟨(0, false), by simp [spec_PairChoice.f, spec_PairChoice.j0, good_eq', spec_l1In.f, hg, hx], by simp [impl_PairChoice.f, hg, hx]⟩
    | false => exact ⟨(0, false), by simp [spec_PairChoice.f, spec_PairChoice.j0, good_eq', hg], by simp [impl_PairChoice.f, hg]⟩
  obtain ⟨v, h1, h2⟩ := h
  rw [h1, h2]
  simp
end Go.Proofs.Ytnoejflancomaaa.Pure
end
