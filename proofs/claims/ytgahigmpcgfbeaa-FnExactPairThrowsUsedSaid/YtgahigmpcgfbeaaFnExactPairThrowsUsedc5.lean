/- The program's PairThrowsUsed returns what the reference's returns, for all pairs and lists of throws, and leaves the throws as they were. -/
import Derived.SizedLaws
import Derived.ChangeSlices
import Derived.Test.YtgahigmpcgfbeaaFnExactPairThrowsUsedc4
section
namespace Go.Proofs.Ytgahigmpcgfbeaa.P
set_option linter.unusedVariables false
set_option linter.unusedSimpArgs false
open Go.RowKit Go.Proofs.YtgahigmpcgfbeaaW.PrintWords Go.Proofs.YtgahigmpcgfbeaaW.PrintLast
theorem w64p {x : Int} (h : -9223372036854775808 ≤ x) (h2 : x ≤ 9223372036854775807) : wrap64 x = x := by unfold wrap64; omega
theorem toIntS_l (x0 : List Int) (hl : x0.length ≤ 17592186044416) (d : Nat) : ∀ (k i : Nat) (x3 : List Int), i + d = x0.length → x3.length = x0.length → (∀ j, j < i → x3[j]? = x0[j]?) → d < k → laws_toIntS.l0 k x0 x3 i = some x0 := by
  induction d with
  | zero =>
    intro k i x3 hi h3 he hk
    obtain ⟨k, rfl⟩ : ∃ m, k = m + 1 := ⟨k - 1, by omega⟩
    simp only [laws_toIntS.l0]
    rw [if_neg (by omega)]
    congr 1
    refine List.ext_getElem? (fun j => ?_)
    by_cases hj : j < i
    · exact he j hj
    · rw [List.getElem?_eq_none (by omega), List.getElem?_eq_none (by omega)]
  | succ d ih =>
    intro k i x3 hi h3 he hk
    obtain ⟨k, rfl⟩ : ∃ m, k = m + 1 := ⟨k - 1, by omega⟩
    simp only [laws_toIntS.l0]
    rw [if_pos (by omega), if_pos (by omega), if_pos (by omega), w64p (by omega) (by omega), show (i : Int) + 1 = ((i + 1 : Nat) : Int) by omega]
    refine ih k (i + 1) _ (by omega) (by simpa using h3) (fun j hj => ?_) (by omega)
    rw [Int.toNat_natCast, List.getElem?_set]
    by_cases e : i = j
    · subst e
      rw [if_pos rfl, if_pos (by omega), List.getElem?_eq_getElem (by omega)]
      simp [rd, show i < x0.length by omega]
    · rw [if_neg e]; exact he j (by omega)
theorem toIntS_eq {l : List Int} (hl : l.length ≤ 17592186044416) {k : Nat} (hk : l.length < k) : laws_toIntS.f k l = some l := by
  unfold laws_toIntS.f
  rw [if_pos (by omega), if_pos (by simpa using (by omega : l.length ≤ 35184372088832))]
  exact toIntS_l l hl l.length k 0 _ (by omega) (by simp) (fun j hj => absurd hj (by omega)) hk
def mvOk (s f : Int) (T2 : List (List Int)) : Bool := (List.range (s.toNat + 1)).all fun a => (List.range (s.toNat + 1)).all fun b => (List.range f.toNat).all fun x =>
  match tk 0 s f (a : Int) (b : Int) ((x + 1 : Nat) : Int) with
  | none => false
  | some t => decide (a * (s.toNat + 1) + b < T2.length) && decide (x < (rd_L7 T2 ((a * (s.toNat + 1) + b : Nat) : Int)).length) && (rd (rd_L7 T2 ((a * (s.toNat + 1) + b : Nat) : Int)) (x : Int) == t) &&
      ((t == 0 && decide ((a : Int) + ((x + 1 : Nat) : Int) ≤ s)) || (t == 1 && decide ((b : Int) + ((x + 1 : Nat) : Int) ≤ s)) || t == -1)
def tabOk2 (s f : Int) : Bool := match spec_oiTable.f 3000 s f 0 with | none => false | some T => mvOk s f T.2
theorem tab_all2 : ((List.range 6).all fun s => (List.range 4).all fun f => tabOk2 ((s + 1 : Nat) : Int) ((f + 1 : Nat) : Int)) = true := by decide +kernel
theorem tab_ev {s f : Int} (hs : 1 ≤ s ∧ s ≤ 6) (hf : 1 ≤ f ∧ f ≤ 4) : ∃ T, Ev (fun k => spec_oiTable.f k s f 0) T ∧ mvOk s f T.2 = true := by
  have h1 := List.all_eq_true.1 tab_all2 (s.toNat - 1) (List.mem_range.2 (by omega))
  have h2 := List.all_eq_true.1 h1 (f.toNat - 1) (List.mem_range.2 (by omega))
  rw [show ((s.toNat - 1 + 1 : Nat) : Int) = s by omega, show ((f.toNat - 1 + 1 : Nat) : Int) = f by omega] at h2
  unfold tabOk2 at h2
  cases e : spec_oiTable.f 3000 s f 0 with
  | none => rw [e] at h2; exact absurd h2 (by simp)
  | some T => rw [e] at h2; exact ⟨T, Ev.of (fun k => spec_oiTable.mono _ _ _ _) e, h2⟩
theorem mv_at {s f : Int} {T2 : List (List Int)} (h : mvOk s f T2 = true) {a b x : Int} (ha : 0 ≤ a ∧ a ≤ s) (hb : 0 ≤ b ∧ b ≤ s) (hx : 1 ≤ x ∧ x ≤ f) :
    ∃ t, tk 0 s f a b x = some t ∧ a * (s + 1) + b < (T2.length : Int) ∧ x - 1 < ((rd_L7 T2 (a * (s + 1) + b)).length : Int) ∧ rd (rd_L7 T2 (a * (s + 1) + b)) (x - 1) = t ∧ ((t = 0 ∧ a + x ≤ s) ∨ (t = 1 ∧ b + x ≤ s) ∨ t = -1) := by
  have h1 := List.all_eq_true.1 h a.toNat (List.mem_range.2 (by omega))
  have h2 := List.all_eq_true.1 h1 b.toNat (List.mem_range.2 (by omega))
  have h3 := List.all_eq_true.1 h2 (x.toNat - 1) (List.mem_range.2 (by omega))
  have e1 : ((a.toNat * (s.toNat + 1) + b.toNat : Nat) : Int) = a * (s + 1) + b := by
    rw [Int.natCast_add, Int.natCast_mul, Int.natCast_add, Int.toNat_of_nonneg ha.1, Int.toNat_of_nonneg hb.1, Int.toNat_of_nonneg (by omega)]; rfl
  have e2 : ((x.toNat - 1 + 1 : Nat) : Int) = x := by omega
  have e3 : ((x.toNat - 1 : Nat) : Int) = x - 1 := by omega
  have e4 : (a.toNat : Int) = a := by omega
  have e5 : (b.toNat : Int) = b := by omega
  simp only [e1, e2, e3, e4, e5] at h3
  cases e : tk 0 s f a b x with
  | none => rw [e] at h3; exact absurd h3 (by simp)
  | some t =>
    rw [e] at h3
    simp only [Bool.and_eq_true, Bool.or_eq_true, decide_eq_true_eq, beq_iff_eq] at h3
    obtain ⟨⟨⟨h4, h5⟩, h6⟩, h7⟩ := h3
    refine ⟨t, rfl, ?_, ?_, h6, ?_⟩
    · have : ((a.toNat * (s.toNat + 1) + b.toNat : Nat) : Int) < (T2.length : Int) := by omega
      rwa [e1] at this
    · omega
    · rcases h7 with (h7 | h7) | h7
      · exact Or.inl h7
      · exact Or.inr (Or.inl h7)
      · exact Or.inr (Or.inr h7)
def rowOk (s : Int) (y : List Int) : Prop := ∃ p q, y = [p, q] ∧ (0 ≤ p ∧ p ≤ s) ∧ (0 ≤ q ∧ q ≤ s)
theorem play_l {s f : Int} {T2 : List (List Int)} (hs : 1 ≤ s ∧ s ≤ 6) (hT : mvOk s f T2 = true) (l : List Int) (hl : ∀ x ∈ l, 1 ≤ x ∧ x ≤ f) (hf : f ≤ 4) (hn : l.length ≤ 60) (d : Nat) : ∀ (i : Nat) (a b : Int) (out : List (List Int)), i + d = l.length → (0 ≤ a ∧ a ≤ s) → (0 ≤ b ∧ b ≤ s) → out.length ≤ i + 1 →
    ∃ z, playL s f a b (l.drop i) = some z ∧ (∀ y ∈ z, rowOk s y) ∧ Ev (fun k => spec_oiPlay.l0 k s a b T2 out l l.length i) (out ++ z) := by
  induction d with
  | zero =>
    intro i a b out hi ha hb ho
    refine ⟨[], by rw [List.drop_eq_nil_of_le (by omega)]; rfl, by simp, ?_⟩
    rw [List.append_nil]
    exact Ev.step (f := fun _ => some out) (fun k => by simp only [spec_oiPlay.l0]; rw [if_neg (by omega)]) (Ev.now _)
  | succ d ih =>
    intro i a b out hi ha hb ho
    have hi' : i < l.length := by omega
    have hx := hl l[i] (List.getElem_mem hi')
    have hrd : rd l (i : Int) = l[i] := by simp [rd, hi']
    obtain ⟨t, ht, h1, h2, h3, h4⟩ := mv_at hT ha hb hx
    have hm0 : 0 ≤ a * (s + 1) := Int.mul_nonneg ha.1 (by omega)
    have hm1 : a * (s + 1) ≤ 6 * 7 := Int.mul_le_mul (by omega) (by omega) (by omega) (by omega)
    rw [List.drop_eq_getElem_cons hi', playL, ht]
    simp only [Option.bind_some]
    have hstep : ∀ (a' b' : Int) (f' : Nat → Option (List (List Int))), (∀ k, f' k = if rd (rd_L7 T2 (a * (s + 1) + b)) (l[i] - 1) ≥ 0 then ((spec_oiNext.f a b (rd (rd_L7 T2 (a * (s + 1) + b)) (l[i] - 1)) l[i]).bind fun p => spec_oiPlay.l0 k s p.1 p.2 T2 (out ++ [[p.1, p.2]]) l l.length ((i + 1 : Nat) : Int)) else spec_oiPlay.l0 k s a b T2 (out ++ [[a, b]]) l l.length ((i + 1 : Nat) : Int)) → ∀ r, Ev f' r → Ev (fun k => spec_oiPlay.l0 k s a b T2 out l l.length i) r := by
      intro a' b' f' hf' r hr
      refine Ev.step (f := f') (fun k => ?_) hr
      rw [hf' k]
      simp only [spec_oiPlay.l0]
      rw [if_pos (show (i : Int) < _ by omega), if_pos (show 0 ≤ (i : Int) by omega), if_pos (show (i : Int) < _ by omega), hrd, w64p (x := s + 1) (by omega) (by omega), w64p (x := a * (s + 1)) (by omega) (by omega), w64p (x := a * (s + 1) + b) (by omega) (by omega), w64p (x := l[i] - 1) (by omega) (by omega), w64p (x := (i : Int) + 1) (by omega) (by omega),
        if_pos (show 0 ≤ a * (s + 1) + b by omega), if_pos h1, if_pos (show 0 ≤ l[i] - 1 by omega), if_pos h2]
      simp only [if_pos (show out.length < 5864062014805 by omega)]
      rfl
    rw [h3] at hstep
    rcases h4 with ⟨rfl, hle⟩ | ⟨rfl, hle⟩ | rfl
    · obtain ⟨z, hz, hr, he⟩ := ih (i + 1) (a + l[i]) b (out ++ [[a + l[i], b]]) (by omega) ⟨by omega, by omega⟩ hb (by simp; omega)
      refine ⟨[a + l[i], b] :: z, by rw [if_pos ⟨rfl, hle⟩, hz]; rfl, ?_, ?_⟩
      · intro y hy
        rcases List.mem_cons.1 hy with rfl | hy
        · exact ⟨_, _, rfl, ⟨by omega, by omega⟩, hb⟩
        · exact hr y hy
      · refine hstep 0 0 _ (fun k => rfl) _ (Ev.congr (f := fun k => spec_oiPlay.l0 k s (a + l[i]) b T2 (out ++ [[a + l[i], b]]) l l.length ((i + 1 : Nat) : Int)) (fun k => ?_) (by simpa using he))
        rw [if_pos (by decide), spec_oiNext.f, if_pos rfl, w64p (x := a + l[i]) (by omega) (by omega)]
        rfl
    · obtain ⟨z, hz, hr, he⟩ := ih (i + 1) a (b + l[i]) (out ++ [[a, b + l[i]]]) (by omega) ha ⟨by omega, by omega⟩ (by simp; omega)
      refine ⟨[a, b + l[i]] :: z, by rw [if_neg (by omega), if_pos ⟨rfl, hle⟩, hz]; rfl, ?_, ?_⟩
      · intro y hy
        rcases List.mem_cons.1 hy with rfl | hy
        · exact ⟨_, _, rfl, ha, ⟨by omega, by omega⟩⟩
        · exact hr y hy
      · refine hstep 0 0 _ (fun k => rfl) _ (Ev.congr (f := fun k => spec_oiPlay.l0 k s a (b + l[i]) T2 (out ++ [[a, b + l[i]]]) l l.length ((i + 1 : Nat) : Int)) (fun k => ?_) (by simpa using he))
        rw [if_pos (by decide), spec_oiNext.f, if_neg (by decide), w64p (x := b + l[i]) (by omega) (by omega)]
        rfl
    · obtain ⟨z, hz, hr, he⟩ := ih (i + 1) a b (out ++ [[a, b]]) (by omega) ha hb (by simp; omega)
      refine ⟨[a, b] :: z, by rw [if_neg (by omega), if_neg (by omega), if_pos rfl, hz]; rfl, ?_, ?_⟩
      · intro y hy
        rcases List.mem_cons.1 hy with rfl | hy
        · exact ⟨_, _, rfl, ha, hb⟩
        · exact hr y hy
      · refine hstep 0 0 _ (fun k => rfl) _ (Ev.congr (f := fun k => spec_oiPlay.l0 k s a b T2 (out ++ [[a, b]]) l l.length ((i + 1 : Nat) : Int)) (fun k => ?_) (by simpa using he))
        rw [if_neg (by decide)]
theorem l1All_l (f : Int) (l : List Int) (hn : l.length ≤ 17592186044416) (d : Nat) : ∀ i : Nat, i + d = l.length → Ev (fun k => spec_l1All.l0 k 1 f l l.length i) ((l.drop i).all (inn · 1 f)) := by
  induction d with
  | zero =>
    intro i hi
    rw [List.drop_eq_nil_of_le (by omega)]
    exact Ev.step (f := fun _ => some true) (fun k => by simp only [spec_l1All.l0]; rw [if_neg (by omega)]) (Ev.now _)
  | succ d ih =>
    intro i hi
    have hi' : i < l.length := by omega
    have hrd : rd l (i : Int) = l[i] := by simp [rd, hi']
    rw [List.drop_eq_getElem_cons hi', List.all_cons]
    refine Ev.step (f := fun k => if inn l[i] 1 f = true then spec_l1All.l0 k 1 f l l.length ((i + 1 : Nat) : Int) else some false) (fun k => by
      simp only [spec_l1All.l0]
      rw [if_pos (by omega), if_pos (by omega), if_pos (by omega), hrd, w64p (x := (i : Int) + 1) (by omega) (by omega)]
      rfl) ?_
    cases e : inn l[i] 1 f with
    | true => exact Ev.congr (fun k => if_pos rfl) (by simpa using ih (i + 1) (by omega))
    | false => exact Ev.congr (f := fun _ => some false) (fun k => if_neg (by decide)) (Ev.now _)
theorem good_eqP (s f a b : Int) : spec_oiGood.f s f a b = some (prG s f a b) := by
  simp only [spec_oiGood.f, spec_l1In.f, Option.bind_some, prG]
  cases inn s 1 6 <;> cases inn f 1 4 <;> cases inn a 0 s <;> cases inn b 0 s <;> rfl
theorem throws_ev (s f a b : Int) (l : List Int) (hn : l.length ≤ 17592186044416) : Ev (fun k => spec_oiThrows.f k s f a b l) (plG s f a b l) := by
  unfold spec_oiThrows.f plG
  rw [good_eqP]
  simp only [Option.bind_some]
  cases hg : prG s f a b with
  | false => exact Ev.congr (f := fun _ => some false) (fun k => if_neg (by decide)) (Ev.now _)
  | true =>
    by_cases hl : l.length ≤ 60
    · refine Ev.congr (f := fun k => (spec_l1All.f k l 1 f).bind fun t => some t) (fun k => by rw [if_pos rfl, if_pos (by omega)]) ?_
      have := l1All_l f l hn l.length 0 (by omega)
      refine Ev.bind (a := l.all (inn · 1 f)) (by simpa [spec_l1All.f] using this) ?_
      rw [decide_eq_true hl]
      simpa using Ev.now (l.all (inn · 1 f))
    · refine Ev.congr (f := fun _ => some false) (fun k => by rw [if_pos rfl, if_neg (by omega)]) ?_
      rw [decide_eq_false hl]
      simpa using Ev.now false
theorem play_both {s f a b : Int} {l : List Int} (h : plG s f a b l = true) : ∃ z, playL s f a b l = some z ∧ (∀ y ∈ [a, b] :: z, rowOk s y) ∧ Ev (fun k => spec_oiPlay.f k s f a b l) ([a, b] :: z) := by
  simp only [plG, Bool.and_eq_true, decide_eq_true_eq] at h
  obtain ⟨⟨hg, hn⟩, hl⟩ := h
  obtain ⟨hs, hf, ha, hb⟩ := prG_iff.1 hg
  obtain ⟨T, hT, hm⟩ := tab_ev hs hf
  obtain ⟨z, hz, hr, he⟩ := play_l hs hm l (fun x hx => inn_iff.1 (List.all_eq_true.1 hl x hx)) hf.2 hn l.length 0 a b [[a, b]] (by omega) ha hb (by simp)
  refine ⟨z, by simpa using hz, ?_, Ev.bind hT he⟩
  intro y hy
  rcases List.mem_cons.1 hy with rfl | hy
  · exact ⟨_, _, rfl, ha, hb⟩
  · exact hr y hy
end Go.Proofs.Ytgahigmpcgfbeaa.P
end

section
namespace Go.Proofs.Ytgahigmpcgfbeaa.P
set_option linter.unusedVariables false
set_option linter.unusedSimpArgs false
open Go.RowKit Go.Proofs.YtgahigmpcgfbeaaW.PrintWords Go.Proofs.YtgahigmpcgfbeaaW.PrintLast
theorem wI {x : Int} (h : -9223372036854775808 ≤ x) (h2 : x ≤ 9223372036854775807) : wrap64 x = x := by unfold wrap64; omega
theorem eqIntS_l (l : List Int) (hl : l.length ≤ 4611686018427387904) (d : Nat) : ∀ (k i : Nat), i + d = l.length → d < k → laws_eqIntS.l0 k l l i = some true := by
  induction d with
  | zero =>
    intro k i hi hk
    obtain ⟨k, rfl⟩ : ∃ m, k = m + 1 := ⟨k - 1, by omega⟩
    simp only [laws_eqIntS.l0]
    rw [if_neg (by omega)]
  | succ d ih =>
    intro k i hi hk
    obtain ⟨k, rfl⟩ : ∃ m, k = m + 1 := ⟨k - 1, by omega⟩
    simp only [laws_eqIntS.l0]
    rw [if_pos (by omega), if_pos (by omega), if_pos (by omega)]
    simp only [if_true]
    rw [wI (by omega) (by omega), show ((i : Int) + 1) = ((i + 1 : Nat) : Int) by omega]
    exact ih k (i + 1) (by omega) (by omega)
theorem eqIntS_refl {l : List Int} (hl : l.length ≤ 4611686018427387904) {k : Nat} (hk : l.length < k) : laws_eqIntS.f k l l = some true := by
  unfold laws_eqIntS.f
  rw [if_pos rfl]
  exact eqIntS_l l hl l.length k 0 (by omega) hk
def upFrom : Nat → Int → List Int
  | 0, _ => []
  | n + 1, a => a :: upFrom n (a + 1)
theorem upFrom_len : ∀ (n : Nat) (a : Int), (upFrom n a).length = n
  | 0, _ => rfl
  | n + 1, a => by rw [upFrom, List.length_cons, upFrom_len n]
theorem rd_mid (pre : List Int) (y : Int) (r : List Int) : rd (pre ++ y :: r) (pre.length : Int) = y := by
  unfold rd
  rw [Int.toNat_natCast, List.getD_eq_getElem?_getD, List.getElem?_append_right (Nat.le_refl _)]
  simp
theorem mark_l : ∀ (suf pre : List Int) (k : Nat) (x : Int), suf.length < k → -4611686018427387904 ≤ x → x + suf.length ≤ 4611686018427387904 → pre.length + suf.length ≤ 4611686018427387904 →
    laws_markIntS.l0 k (pre ++ suf) x pre.length = some (x + suf.length, pre ++ upFrom suf.length x)
  | [], pre, k, x, hk, h1, h2, h3 => by
    obtain ⟨k, rfl⟩ : ∃ m, k = m + 1 := ⟨k - 1, by omega⟩
    simp [laws_markIntS.l0, upFrom]
  | y :: suf, pre, k, x, hk, h1, h2, h3 => by
    obtain ⟨k, rfl⟩ : ∃ m, k = m + 1 := ⟨k - 1, by omega⟩
    simp only [List.length_cons] at hk h2 h3
    simp only [laws_markIntS.l0]
    rw [if_pos (by first | (simp; done) | (simp; omega)), if_pos (by omega), wI (by omega) (by omega), wI (by omega) (by omega), Int.toNat_natCast, List.set_append_right _ _ (Nat.le_refl _), Nat.sub_self, List.set_cons_zero]
    have := mark_l suf (pre ++ [x]) k (x + 1) (by omega) (by omega) (by omega) (by simp; omega)
    rw [List.append_assoc, List.singleton_append, show ((pre ++ [x]).length : Int) = (pre.length : Int) + 1 by simp] at this
    rw [this, List.length_cons, upFrom]
    simp
    omega
theorem mark_eq (l : List Int) {k : Nat} (hk : l.length < k) {x : Int} (h1 : -4611686018427387904 ≤ x) (h2 : x + l.length ≤ 4611686018427387904) (h3 : l.length ≤ 4611686018427387904) : laws_markIntS.f k l x = some (x + l.length, upFrom l.length x) := by
  have := mark_l l [] k x hk h1 h2 (by simpa using h3)
  exact this
theorem held_l : ∀ (d : Nat) (pre : List Int) (k : Nat) (x : Int), d < k → -4611686018427387904 ≤ x → x + d ≤ 4611686018427387904 → pre.length + d ≤ 4611686018427387904 →
    laws_heldIntS.l0 k (pre ++ upFrom d x) x pre.length = some (x + d)
  | 0, pre, k, x, hk, h1, h2, h3 => by
    obtain ⟨k, rfl⟩ : ∃ m, k = m + 1 := ⟨k - 1, by omega⟩
    simp [laws_heldIntS.l0, upFrom]
  | d + 1, pre, k, x, hk, h1, h2, h3 => by
    obtain ⟨k, rfl⟩ : ∃ m, k = m + 1 := ⟨k - 1, by omega⟩
    rw [upFrom]
    simp only [laws_heldIntS.l0]
    rw [if_pos (by first | (simp; done) | (simp; omega)), if_pos (by omega), rd_mid, if_pos rfl, wI (by omega) (by omega), wI (by omega) (by omega)]
    have := held_l d (pre ++ [x]) k (x + 1) (by omega) (by omega) (by omega) (by simp; omega)
    rw [List.append_assoc, List.singleton_append, show ((pre ++ [x]).length : Int) = (pre.length : Int) + 1 by simp] at this
    rw [this]
    simp
    omega
theorem held_eq (n : Nat) {k : Nat} (hk : n < k) {x : Int} (h1 : -4611686018427387904 ≤ x) (h2 : x + n ≤ 4611686018427387904) (h3 : n ≤ 4611686018427387904) : laws_heldIntS.f k (upFrom n x) x = some (x + n) :=
  held_l n [] k x hk h1 h2 (by simpa using h3)
end Go.Proofs.Ytgahigmpcgfbeaa.P
end

section
namespace Go.Proofs.Ytgahigmpcgfbeaa.P
set_option linter.unusedVariables false
set_option linter.unusedSimpArgs false
open Go.RowKit Go.Proofs.YtgahigmpcgfbeaaW.PrintWords Go.Proofs.YtgahigmpcgfbeaaW.PrintLast
theorem used_l {s : Int} (hs : 1 ≤ s ∧ s ≤ 6) (l : List (List Int)) (hl : ∀ y ∈ l, rowOk s y) (hn : l.length ≤ 1000) (d : Nat) : ∀ i : Nat, i + d = l.length → ∃ r, usedX s (l.drop i) i = some r ∧ Ev (fun k => spec_PairThrowsUsed.l0 k s l l.length i) r := by
  induction d with
  | zero =>
    intro i hi
    refine ⟨(0, false), by rw [List.drop_eq_nil_of_le (by omega)]; rfl, ?_⟩
    exact Ev.step (f := fun _ => some (0, false)) (fun k => by simp only [spec_PairThrowsUsed.l0]; rw [if_neg (by omega)]) (Ev.now _)
  | succ d ih =>
    intro i hi
    have hi' : i < l.length := by omega
    obtain ⟨p, q, hpq, hp, hq⟩ := hl l[i] (List.getElem_mem hi')
    have hrd : rd_L7 l (i : Int) = [p, q] := by simp [rd_L7, hi', hpq]
    obtain ⟨r, hr, he⟩ := ih (i + 1) (by omega)
    rw [List.drop_eq_getElem_cons hi', hpq, usedX]
    have e0 : rd [p, q] 0 = p := rfl
    have e1 : rd [p, q] 1 = q := rfl
    have hst : ∀ k, spec_PairThrowsUsed.l0 (k + 1) s l l.length i = if p + q = 2 * s then some ((i : Int), true) else spec_PairThrowsUsed.l0 k s l l.length ((i + 1 : Nat) : Int) := fun k => by
      simp only [spec_PairThrowsUsed.l0]
      rw [if_pos (by omega), if_pos (by omega), if_pos (by omega), hrd, if_pos (by simp), if_pos (by simp), e0, e1, w64p (x := p + q) (by omega) (by omega), w64p (x := 2 * s) (by omega) (by omega), w64p (x := (i : Int) + 1) (by omega) (by omega)]
      rfl
    by_cases c : p = s ∧ q = s
    · refine ⟨((i : Int), true), if_pos c, Ev.step (f := fun _ => some ((i : Int), true)) (fun k => ?_) (Ev.now _)⟩
      rw [hst k, if_pos (by omega)]
    · refine ⟨r, by rw [if_neg c]; rw [show ((i + 1 : Nat) : Int) = (i : Int) + 1 by omega] at hr; exact hr, Ev.step (f := fun k => spec_PairThrowsUsed.l0 k s l l.length ((i + 1 : Nat) : Int)) (fun k => ?_) he⟩
      rw [hst k, if_neg (by omega)]
theorem used_both (s f a b : Int) (l : List Int) (hn : l.length ≤ 17592186044416) : ∃ r, Ev (fun k => spec_PairThrowsUsed.f k s f a b l) r ∧ impl_PairThrowsUsed.f s f a b l = some r := by
  have ht := throws_ev s f a b l hn
  cases h : plG s f a b l with
  | true =>
    rw [h] at ht
    obtain ⟨z, hz, hr, he⟩ := play_both h
    have hlen := playL_len s f l a b z hz
    have hl60 : l.length ≤ 60 := by simp only [plG, Bool.and_eq_true, decide_eq_true_eq] at h; exact h.1.2
    have hs : 1 ≤ s ∧ s ≤ 6 := by simp only [plG, Bool.and_eq_true] at h; exact (prG_iff.1 h.1.1).1
    obtain ⟨r, hu, hv⟩ := used_l hs ([a, b] :: z) hr (by simp; omega) ([a, b] :: z).length 0 (by omega)
    refine ⟨r, ?_, ?_⟩
    · unfold spec_PairThrowsUsed.f
      refine Ev.bind ht ?_
      refine Ev.congr (f := fun k => (spec_oiPlay.f k s f a b l).bind fun t => spec_PairThrowsUsed.l0 k s t t.length 0) (fun k => if_pos rfl) ?_
      exact Ev.bind he hv
    · unfold impl_PairThrowsUsed.f impl_PlayPair.f
      rw [if_pos h, hz]
      simpa using hu
  | false =>
    rw [h] at ht
    refine ⟨(0, false), ?_, ?_⟩
    · unfold spec_PairThrowsUsed.f
      exact Ev.bind ht (Ev.congr (f := fun _ => some (0, false)) (fun k => if_neg (by decide)) (Ev.now _))
    · unfold impl_PairThrowsUsed.f impl_PlayPair.f
      rw [if_neg (by rw [h]; decide)]
      rfl
end Go.Proofs.Ytgahigmpcgfbeaa.P
namespace Go.Proofs.Ytgahigmpcgfbeaa.Pure
set_option linter.unusedVariables false
set_option linter.unusedSimpArgs false
open Go.RowKit Go.Proofs.Ytgahigmpcgfbeaa.P Go.Proofs.YtgahigmpcgfbeaaW.PrintWords Go.Proofs.YtgahigmpcgfbeaaW.PrintLast
theorem FnExactPairThrowsUsed : laws_FnExactPairThrowsUsed.Pure := by
  intro s f a b l _ _ _ _ _ _ _
  by_cases hl : (l.length : Int) > 1048576
  · exact ⟨0, by unfold laws_FnExactPairThrowsUsed.f; rw [if_pos hl]⟩
  · obtain ⟨r, ⟨K, e1⟩, e2⟩ := used_both s f a b l (by omega)
    refine ⟨K + l.length + 2, ?_⟩
    have e1 := e1 (K + l.length + 2) (by omega)
    dsimp only at e1
    have ht : laws_toIntS.f (K + l.length + 2) l = some l := toIntS_eq (by omega) (by omega)
    unfold laws_FnExactPairThrowsUsed.f
    rw [if_neg hl, ht]
    simp only [Option.bind_some]
    rw [e1]
    simp only [Option.bind_some]
    rw [e2]
    simp only [Option.bind_some, if_true, bne_self_eq_false]
    simp only [laws_FnExactPairThrowsUsed.j0]
    rw [if_neg (by decide), toIntS_eq (k := K + l.length + 1) (by omega) (by omega)]
    simp only [Option.bind_some]
    rw [eqIntS_refl (by omega) (by omega)]
    rfl
end Go.Proofs.Ytgahigmpcgfbeaa.Pure
end

section
namespace Go.Proofs.YtgahigmpcgfbeaaW.PrintWords
open Go.ChangeShapes Go.WideShapes
theorem sized_ints {H : Type} {enc : TypeId × Value → H} {P : Program} {W : World} {base : Nat} {spare : Nat → Bool} {held : Bool} {t e : TypeId} {k : IntKind} {a : Option Addr} {len cap : Nat} {d : DataW H} {ps : List MemPlace} {ts : List TypeId} {ds : List (DataW H)} {j : Nat}
    (hsz : (DataW.weightsEach P ts ds).all (· ≤ reachBytes) = true) (ht : ts[j]? = some t) (hd : ds[j]? = some d) (hu : P.underlying t = some (.slice e)) (he : P.underlying e = some (.int k)) (hc : P.cellsOf e = 1) {B : Nat} (hB : P.bytesOf e = B)
    (h : DataW.Trod enc P W base spare held t (.slice a len cap) d ps) : len * B ≤ 140737488351232 := by
  obtain ⟨fuel, hf⟩ := h
  rcases open_ints hu he hc hf with ⟨hcs, _⟩ | ⟨x, l, c, zs, hcs, _, hl, _, hz, hx, _, _⟩
  · simp [Value.cells] at hcs
    obtain ⟨rfl, rfl, rfl⟩ := hcs
    simp
  · simp [Value.cells] at hcs
    obtain ⟨rfl, rfl, rfl⟩ := hcs
    obtain ⟨hx, _⟩ := Prod.mk.inj hx
    subst hx
    have z := sized_slice hsz ht hd hu
    rw [hB] at z
    have hl2 : len ≤ zs.length := by
      rw [hz]
      split
      · exact hl
      · exact Nat.le_refl _
    have h1 : (lits (H := H) k (zs.take len)).length + (lits (H := H) k (zs.drop len)).length = zs.length := by
      simp [lits]
      omega
    rw [h1] at z
    exact Nat.le_trans (Nat.mul_le_mul_right _ hl2) z
end Go.Proofs.YtgahigmpcgfbeaaW.PrintWords
end
