/- Parts of lists at a square and parts that meet it, of the program, are those of the reference and lie to each other as told; halves and all are done as told: for all bytes from which boards, squares and throws are drawn. -/
import Derived.OpenShut
import Derived.Lib.EndianBits
import Derived.Laws.BitsLemmas
import Derived.SizedLaws
import Derived.ChangeSlices
import Derived.Test.YtgahigmpcgfbeaaFnPartsMetc5
section
namespace Go.Proofs.Ytgahigmpcgfbeaa.P
set_option linter.unusedVariables false
set_option linter.unusedSimpArgs false
open Go.RowKit Go.Proofs.YtgahigmpcgfbeaaW.PrintWords Go.Proofs.YtgahigmpcgfbeaaW.PrintLast
theorem w64 {x : Int} (h : -9223372036854775808 ≤ x) (h2 : x ≤ 9223372036854775807) : wrap64 x = x := by unfold wrap64; omega
theorem bOK_J {sq fc ov : Int} {l : List S126} (h : bOK sq fc ov l = true) : okJ sq l 0 l = true ∧ 1 ≤ sq ∧ sq ≤ 100 ∧ 1 ≤ fc ∧ fc ≤ 8 ∧ 0 ≤ ov ∧ ov ≤ 2 ∧ l.length ≤ 20 := by
  simp only [bOK, Bool.and_eq_true, inn_iff, decide_eq_true_eq] at h
  obtain ⟨⟨⟨⟨⟨h1, h2⟩, h3, h4⟩, h5, h6⟩, h7⟩, h8⟩ := h
  exact ⟨h8, h1, h2, h3, h4, h5, h6, h7⟩
theorem jmp_ne {sq fc ov : Int} {l : List S126} (h : bOK sq fc ov l = true) {n : Int} (hj : (jmp l n).2 = true) : (jmp l n).1 ≠ n := by
  obtain ⟨j, hj1, h1, h2⟩ := jmp_mem hj
  have h3 := okS_ne sq l 0 (okJ_iff sq l l 0 (fun _ h => h) (bOK_J h).1).1 j hj1
  intro e
  exact h3 (by rw [h1, h2, e])
theorem sqs_eq {sq fc ov : Int} {l : List S126} (h : bOK sq fc ov l = true) (n : Int) : sqs sq l n = sqr sq l n := by
  unfold sqs sqr
  congr 1
  rcases Bool.eq_false_or_eq_true (jmp l n).2 with e | e
  · rw [e]; simpa using jmp_ne h e
  · rw [e]; simpa using jmp_no e
theorem asked_eq (sq fc ov : Int) (l : List S126) (n : Int) : (bOK sq fc ov l && sqs sq l n) = (bOK sq fc ov l && sqr sq l n) := by
  rcases Bool.eq_false_or_eq_true (bOK sq fc ov l) with e | e
  · rw [sqs_eq e]
  · rw [e]; rfl
end Go.Proofs.Ytgahigmpcgfbeaa.P
end

section
namespace Go.Proofs.Ytgahigmpcgfbeaa.P
set_option linter.unusedVariables false
set_option linter.unusedSimpArgs false
open Go Go.RowKit Go.Proofs.YtgahigmpcgfbeaaW.PrintWords Go.Proofs.YtgahigmpcgfbeaaW.PrintLast
def Tot {α : Type} (f : Nat → Option α) (P : α → Prop) : Prop := ∃ r, Ev f r ∧ P r
theorem Tot.bind {α β : Type} {g : Nat → Option α} {f : Nat → α → Option β} {P : α → Prop} {Q : β → Prop} (h : Tot g P) (k : ∀ a, P a → Tot (fun n => f n a) Q) : Tot (fun n => (g n).bind (f n)) Q := by
  obtain ⟨a, h1, h2⟩ := h
  obtain ⟨b, h3, h4⟩ := k a h2
  exact ⟨b, Ev.bind h1 h3, h4⟩
theorem Tot.now {α : Type} {P : α → Prop} (r : α) (h : P r) : Tot (fun _ => some r) P := ⟨r, Ev.now r, h⟩
theorem Tot.step {α : Type} {g f : Nat → Option α} {P : α → Prop} (h : ∀ k, g (k + 1) = f k) (k : Tot f P) : Tot g P := by
  obtain ⟨r, h1, h2⟩ := k
  exact ⟨r, Ev.step h h1, h2⟩
theorem Tot.congr {α : Type} {g f : Nat → Option α} {P : α → Prop} (h : ∀ k, g k = f k) (k : Tot f P) : Tot g P := by
  obtain ⟨r, h1, h2⟩ := k
  exact ⟨r, Ev.congr h h1, h2⟩
theorem Tot.mono {α : Type} {g : Nat → Option α} {P Q : α → Prop} (k : Tot g P) (h : ∀ r, P r → Q r) : Tot g Q := by
  obtain ⟨r, h1, h2⟩ := k
  exact ⟨r, h1, h r h2⟩
theorem Tot.ite {α : Type} {c : Prop} [Decidable c] {g f : Nat → Option α} {P : α → Prop} (h1 : c → Tot g P) (h2 : ¬ c → Tot f P) : Tot (fun k => if c then g k else f k) P := by
  by_cases h : c
  · exact Tot.congr (fun k => if_pos h) (h1 h)
  · exact Tot.congr (fun k => if_neg h) (h2 h)
def bytes (l : List Int) : Prop := ∀ x ∈ l, 0 ≤ x ∧ x ≤ 255
theorem bytes_of {l : List Int} (h : ∀ x ∈ l, (Lit.int .u8 x).wf = true) : bytes l := fun x hx => by
  have := Go.bounds_u8 (h x hx)
  omega
theorem rd_byte {l : List Int} (h : bytes l) (i : Int) : 0 ≤ rd l i ∧ rd l i ≤ 255 := by
  unfold rd
  rw [List.getD_eq_getElem?_getD]
  cases e : l[i.toNat]? with
  | none => exact ⟨by decide, by decide⟩
  | some x => exact h x (List.mem_of_getElem? e)
theorem and_byte (x : Int) : 0 ≤ Go.bits .and .u64 (IntKind.u64.wrap x / 1099511627776) 255 ∧ Go.bits .and .u64 (IntKind.u64.wrap x / 1099511627776) 255 ≤ 255 := by
  have h1 := IntKind.wrap_u64 x
  have h := bits_mask .u64 64 (by decide) wraps_u64 8 (by decide) (IntKind.u64.wrap x / 1099511627776) (by omega) (by omega)
  have h' : Go.bits .and .u64 (IntKind.u64.wrap x / 1099511627776) 255 = IntKind.u64.wrap x / 1099511627776 % 256 := by simpa using h
  rw [h']
  omega
theorem next_tot {l : List Int} (hl : bytes l) {a s : Int} {n : Nat} (h0 : 0 ≤ a) (h1 : a ≤ n) (hn : n ≤ 1000000) : Tot (fun _ => spec_l1Cur_next.f l a s) (fun r => 0 ≤ r.1 ∧ r.1 ≤ 255 ∧ 0 ≤ r.2.1 ∧ r.2.1 ≤ n + 1) := by
  have hr := rd_byte hl a
  unfold spec_l1Cur_next.f
  rw [w64 (x := a + 1) (by omega) (by omega), w64 (x := rd l a) (by omega) (by omega)]
  refine Tot.ite (fun _ => ?_) (fun _ => ?_)
  · refine Tot.ite (fun _ => ?_) (fun h => absurd h0 h)
    refine Tot.ite (fun _ => ?_) (fun _ => ?_)
    · exact Tot.now _ ⟨hr.1, hr.2, by dsimp only; omega, by dsimp only; omega⟩
    · refine Tot.now _ ?_
      have := and_byte ((IntKind.u64.wrap ((IntKind.u64.wrap (s * 6364136223846793005)) + (IntKind.u64.wrap (rd l a)))) + 1442695040888963407)
      rw [w64 (by omega) (by omega)]
      exact ⟨this.1, this.2, by dsimp only; omega, by dsimp only; omega⟩
  · refine Tot.ite (fun _ => ?_) (fun _ => ?_)
    · exact Tot.now _ ⟨Int.le_refl 0, by dsimp only; omega, by dsimp only; omega, by dsimp only; omega⟩
    · refine Tot.now _ ?_
      have := and_byte ((IntKind.u64.wrap (IntKind.u64.wrap (s * 6364136223846793005))) + 1442695040888963407)
      rw [w64 (by omega) (by omega)]
      exact ⟨this.1, this.2, by dsimp only; omega, by dsimp only; omega⟩
theorem pick_tot {l : List Int} (hl : bytes l) {a s : Int} {n : Nat} (c : Int) (h0 : 0 ≤ a) (h1 : a ≤ n) (hn : n ≤ 999998) : Tot (fun _ => spec_l1Cur_pick.f l a s c) (fun r => 0 ≤ r.1 ∧ (r.1 < c ∨ r.1 = 0) ∧ 0 ≤ r.2.1 ∧ r.2.1 ≤ n + 2) := by
  unfold spec_l1Cur_pick.f
  refine Tot.ite (fun _ => Tot.now _ ⟨Int.le_refl 0, Or.inr rfl, h0, by dsimp only; omega⟩) (fun hc => ?_)
  refine Tot.bind (next_tot hl h0 h1 (by omega)) (fun r hr => ?_)
  refine Tot.ite (fun hc2 => ?_) (fun _ => ?_)
  · refine Tot.bind (next_tot hl (n := n + 1) hr.2.2.1 (by have := hr.2.2.2; omega) (by omega)) (fun u hu => ?_)
    refine Tot.ite (fun h => absurd h (by omega)) (fun _ => ?_)
    refine Tot.now _ ?_
    rw [w64 (x := r.1 * 256) (by omega) (by omega), w64 (by omega) (by omega), Int.tmod_eq_emod_of_nonneg (by omega)]
    exact ⟨Int.emod_nonneg _ (by omega), Or.inl (Int.emod_lt_of_pos _ (by omega)), hu.2.2.1, by have := hu.2.2.2; dsimp only; omega⟩
  · refine Tot.ite (fun h => absurd h (by omega)) (fun _ => ?_)
    refine Tot.now _ ?_
    rw [Int.tmod_eq_emod_of_nonneg (by omega)]
    exact ⟨Int.emod_nonneg _ (by omega), Or.inl (Int.emod_lt_of_pos _ (by omega)), hr.2.2.1, by have := hr.2.2.2; dsimp only; omega⟩
theorem among_tot {l : List Int} (hl : bytes l) {a s : Int} {n : Nat} (c : List Int) (hc : 1 ≤ c.length) (h0 : 0 ≤ a) (h1 : a ≤ n) (hn : n ≤ 999998) : Tot (fun _ => spec_l1Cur_among.f l a s c) (fun r => r.1 ∈ c ∧ 0 ≤ r.2.1 ∧ r.2.1 ≤ n + 2) := by
  unfold spec_l1Cur_among.f
  refine Tot.bind (pick_tot hl _ h0 h1 hn) (fun r hr => ?_)
  have hlt : r.1 < (c.length : Int) := by rcases hr.2.1 with h | h <;> omega
  refine Tot.ite (fun _ => ?_) (fun h => absurd hr.1 h)
  refine Tot.ite (fun _ => ?_) (fun h => absurd hlt h)
  refine Tot.now _ ⟨?_, hr.2.2.1, hr.2.2.2⟩
  show rd c r.1 ∈ c
  unfold rd
  rw [List.getD_eq_getElem?_getD, List.getElem?_eq_getElem (by have := hr.1; omega)]
  exact List.getElem_mem _
theorem one_tot {l : List Int} (hl : bytes l) {a s : Int} {n : Nat} (c : Int) (h0 : 0 ≤ a) (h1 : a ≤ n) (hn : n ≤ 999998) : Tot (fun _ => spec_l1Cur_one.f l a s c) (fun r => 0 ≤ r.2.1 ∧ r.2.1 ≤ n + 2) := by
  unfold spec_l1Cur_one.f
  exact Tot.bind (pick_tot hl _ h0 h1 hn) (fun r hr => Tot.now _ ⟨hr.2.2.1, hr.2.2.2⟩)
theorem sqWith_l {sq fc ov x y : Int} {l : List S126} (hl : l.length ≤ 1000) (d : Nat) (hd : d ≤ l.length) : Tot (fun k => spec_sqWith.l0 k d sq fc ov l x y) (fun r => r.1 = sq ∧ r.2.2.2.length = l.length + 1) := by
  have leaf : ∀ d : Nat, d ≤ l.length → Tot (fun _ : Nat => (some (([] : List (S126)) : List (S126))).bind fun y297 => (if 0 ≤ (d : Int) then (if (d : Int) ≤ (l.length : Int) then ((some (l.take (d : Int).toNat : List (S126))).bind fun y300 => (if y297.length + y300.length < 8796093022208 then ((some (y297 ++ y300 : List (S126))).bind fun y304 => ((some (([(⟨x, y⟩ : S126)] : List (S126)) : List (S126))).bind fun y307 => (if y304.length + y307.length < 8796093022208 then ((some (y304 ++ y307 : List (S126))).bind fun y310 => ((some (l.drop (d : Int).toNat : List (S126))).bind fun y313 => (if y310.length + y313.length < 8796093022208 then (some (sq, fc, ov, (y310 ++ y313))) else (none)))) else (none)))) else (none))) else (none)) else (none))) (fun r => r.1 = sq ∧ r.2.2.2.length = l.length + 1) := by
    intro d hd
    simp only [Option.bind_some]
    rw [if_pos (by omega), if_pos (by omega), if_pos (by first | (simp; done) | (simp; omega)), if_pos (by first | (simp; done) | (simp; omega)), if_pos (by first | (simp; done) | (simp; omega))]
    exact Tot.now _ ⟨rfl, by first | (simp; done) | (simp; omega)⟩
  induction d with
  | zero => exact Tot.step (fun k => by simp only [spec_sqWith.l0]; rw [if_neg (by omega)]; first | done | rfl) (leaf 0 (by omega))
  | succ d ih =>
    refine Tot.step (f := fun k => if ((rd_T126 l (d : Int)).f0) > x then spec_sqWith.l0 k (d : Int) sq fc ov l x y else _) (fun k => by
      simp only [spec_sqWith.l0]
      rw [if_pos (by omega), w64 (by omega) (by omega), show ((d + 1 : Nat) : Int) - 1 = (d : Int) by omega, if_pos (by omega), if_pos (by omega)]) ?_
    exact Tot.ite (fun _ => ih (by omega)) (fun _ => leaf (d + 1) hd)
theorem sqWith_tot {sq fc ov x y : Int} {l : List S126} (hl : l.length ≤ 1000) : Tot (fun k => spec_sqWith.f k sq fc ov l x y) (fun r => r.1 = sq ∧ r.2.2.2.length = l.length + 1) :=
  sqWith_l hl l.length (Nat.le_refl _)
theorem sqGood_tot {sq fc ov : Int} {l : List S126} : Tot (fun _ => spec_sqGood.f sq fc ov l) (fun r => r = bOK sq fc ov l) := Tot.now _ rfl
section
variable {by_ : List Int} (hb : bytes by_)
include hb
theorem sure_l0 (d : Nat) : ∀ (a s sq fc ov : Int) (l : List S126) (n : Nat), 0 ≤ a → a ≤ n → n + 4 * d ≤ 99998 → l.length + d ≤ 100 → 1 ≤ sq → sq ≤ 100 →
    Tot (fun k => spec_l1Cur_sureBoard.l0 k d by_ a s sq fc ov l) (fun r => 1 ≤ r.1 ∧ r.1 ≤ 100 ∧ r.2.2.2.1.length ≤ l.length + d ∧ 0 ≤ r.2.2.2.2.1 ∧ r.2.2.2.2.1 ≤ n + 4 * d) := by
  induction d with
  | zero =>
    intro a s sq fc ov l n h0 h1 hn hl hs0 hs1
    refine Tot.step (f := fun k => spec_l1Cur_sureBoard.j2 k _ false by_ a s sq fc ov l) (fun k => by simp only [spec_l1Cur_sureBoard.l0]; rw [if_neg (by omega)]) ?_
    exact Tot.step (f := fun _ => some (sq, fc, ov, l, a, s)) (fun k => by simp only [spec_l1Cur_sureBoard.j2]; rw [if_neg (by simp)]) (Tot.now _ ⟨hs0, hs1, by dsimp only; omega, h0, by dsimp only; omega⟩)
  | succ d ih =>
    intro a s sq fc ov l n h0 h1 hn hl hs0 hs1
    refine Tot.step (f := fun k => spec_l1Cur_sureBoard.j2 k _ (decide (sq > 2)) by_ a s sq fc ov l) (fun k => by simp only [spec_l1Cur_sureBoard.l0]; rw [if_pos (by omega)]) ?_
    refine Tot.step (f := fun k => if decide (sq > 2) = true then _ else _) (fun k => by simp only [spec_l1Cur_sureBoard.j2]; first | done | rfl) ?_
    refine Tot.ite (fun _ => ?_) (fun _ => Tot.now _ ⟨hs0, hs1, by dsimp only; omega, h0, by dsimp only; omega⟩)
    rw [w64 (x := sq - 1) (by omega) (by omega), w64 (x := sq + 1) (by omega) (by omega), w64 (x := ((d + 1 : Nat) : Int) - 1) (by omega) (by omega), show ((d + 1 : Nat) : Int) - 1 = (d : Int) by omega]
    refine Tot.bind (pick_tot hb _ h0 h1 (by omega)) (fun r hr => ?_)
    refine Tot.bind (pick_tot hb (n := n + 2) _ hr.2.2.1 (by have := hr.2.2.2; omega) (by omega)) (fun u hu => ?_)
    refine Tot.bind (sqWith_tot (by omega)) (fun v hv => ?_)
    refine Tot.bind sqGood_tot (fun t _ => ?_)
    refine Tot.ite (fun _ => ?_) (fun _ => ?_)
    · refine (ih u.2.1 u.2.2 v.1 v.2.1 v.2.2.1 v.2.2.2 (n + 4) hu.2.2.1 (by have := hu.2.2.2; omega) (by omega) (by have := hv.2; omega) (by rw [hv.1]; omega) (by rw [hv.1]; omega)).mono (fun w hw => ⟨hw.1, hw.2.1, by have := hw.2.2.1; have := hv.2; omega, hw.2.2.2.1, by have := hw.2.2.2.2; omega⟩)
    · exact (ih u.2.1 u.2.2 sq fc ov l (n + 4) hu.2.2.1 (by have := hu.2.2.2; omega) (by omega) (by omega) hs0 hs1).mono (fun w hw => ⟨hw.1, hw.2.1, by have := hw.2.2.1; omega, hw.2.2.2.1, by have := hw.2.2.2.2; omega⟩)
theorem sure_tot {a s c : Int} {n : Nat} (h0 : 0 ≤ a) (h1 : a ≤ n) (hn : n ≤ 90000) (hc0 : 1 ≤ c) (hc : c ≤ 99) : Tot (fun k => spec_l1Cur_sureBoard.f k by_ a s c) (fun r => 1 ≤ r.1 ∧ r.1 ≤ 100 ∧ r.2.2.2.1.length ≤ 4 ∧ 0 ≤ r.2.2.2.2.1 ∧ r.2.2.2.2.1 ≤ n + 30) := by
  have j0 : ∀ (a s sq fc ov : Int) (n : Nat), 0 ≤ a → a ≤ n → n ≤ 90010 → 1 ≤ sq → sq ≤ 100 → Tot (fun k => spec_l1Cur_sureBoard.j0 k by_ a s sq fc ov) (fun r => 1 ≤ r.1 ∧ r.1 ≤ 100 ∧ r.2.2.2.1.length ≤ 4 ∧ 0 ≤ r.2.2.2.2.1 ∧ r.2.2.2.2.1 ≤ n + 20) := by
    intro a s sq fc ov n h0 h1 hn hs0 hs1
    refine Tot.step (f := fun k => (spec_l1Cur_pick.f by_ a s 5).bind fun v => spec_l1Cur_sureBoard.l0 k v.1 by_ v.2.1 v.2.2 sq fc ov []) (fun k => by simp only [spec_l1Cur_sureBoard.j0]) ?_
    refine Tot.bind (pick_tot hb _ h0 h1 (by omega)) (fun r hr => ?_)
    have h5 : r.1 ≤ 4 := by rcases hr.2.1 with h | h <;> omega
    have := sure_l0 hb r.1.toNat r.2.1 r.2.2 sq fc ov [] (n + 2) hr.2.2.1 (by have := hr.2.2.2; omega) (by omega) (by simp; omega) hs0 hs1
    rw [show ((r.1.toNat : Nat) : Int) = r.1 by have := hr.1; omega] at this
    exact this.mono (fun w hw => ⟨hw.1, hw.2.1, by have := hw.2.2.1; simp at this; omega, hw.2.2.2.1, by have := hw.2.2.2.2; omega⟩)
  unfold spec_l1Cur_sureBoard.f
  refine Tot.bind (pick_tot hb _ h0 h1 (by omega)) (fun r hr => ?_)
  have h5 : r.1 ≤ 98 := by rcases hr.2.1 with h | h <;> omega
  have h6 := hr.1
  refine Tot.bind (pick_tot hb (n := n + 2) _ hr.2.2.1 (by have := hr.2.2.2; omega) (by omega)) (fun u hu => ?_)
  refine Tot.bind (pick_tot hb (n := n + 4) _ hu.2.2.1 (by have := hu.2.2.2; omega) (by omega)) (fun v hv => ?_)
  refine Tot.bind (one_tot hb (n := n + 6) _ hv.2.2.1 (by have := hv.2.2.2; omega) (by omega)) (fun x hx => ?_)
  rw [w64 (x := 1 + r.1) (by omega) (by omega)]
  refine Tot.ite (fun _ => ?_) (fun _ => ?_)
  · exact (j0 _ _ _ _ _ (n + 8) hx.1 (by have := hx.2; omega) (by omega) (by omega) (by omega)).mono (fun w hw => ⟨hw.1, hw.2.1, hw.2.2.1, hw.2.2.2.1, by have := hw.2.2.2.2; omega⟩)
  · exact (j0 _ _ _ _ _ (n + 8) hx.1 (by have := hx.2; omega) (by omega) (by omega) (by omega)).mono (fun w hw => ⟨hw.1, hw.2.1, hw.2.2.1, hw.2.2.2.1, by have := hw.2.2.2.2; omega⟩)
omit hb in
theorem board_l0 {a s sq fc ov : Int} {n : Nat} (h0 : 0 ≤ a) (h1 : a ≤ n) (d : Nat) : ∀ (i : Nat) (l : List S126), i + d = 7 → l.length + d ≤ 7 →
    Tot (fun k => spec_l1Cur_board.l0 k i by_ a s sq fc ov l) (fun r => r.2.2.2.1.length ≤ 7 ∧ 0 ≤ r.2.2.2.2.1 ∧ r.2.2.2.2.1 ≤ n) := by
  induction d with
  | zero =>
    intro i l hi hl
    refine Tot.step (f := fun k => if (i : Int) < sq then _ else _) (fun k => by simp only [spec_l1Cur_board.l0]; rw [if_neg (show ¬ (i : Int) < 7 by omega)]; first | done | rfl) ?_
    exact Tot.ite (fun _ => Tot.now _ ⟨by dsimp only; omega, h0, h1⟩) (fun _ => Tot.now _ ⟨by dsimp only; omega, h0, h1⟩)
  | succ d ih =>
    intro i l hi hl
    refine Tot.step (f := fun k => if (i : Int) < sq then spec_l1Cur_board.l0 k ((i + 1 : Nat) : Int) by_ a s sq fc ov (l ++ [⟨i, 0⟩]) else _) (fun k => by simp only [spec_l1Cur_board.l0]; rw [if_pos (show (i : Int) < 7 by omega), if_pos (show l.length < 8796093022208 by omega), w64 (x := (i : Int) + 1) (by omega) (by omega)]; first | done | rfl) ?_
    exact Tot.ite (fun _ => ih (i + 1) _ (by omega) (by simp; omega)) (fun _ => Tot.now _ ⟨by dsimp only; omega, h0, h1⟩)
theorem board_tot {a s : Int} {n : Nat} (h0 : 0 ≤ a) (h1 : a ≤ n) (hn : n ≤ 80000) : Tot (fun k => spec_l1Cur_board.f k by_ a s) (fun r => r.2.2.2.1.length ≤ 7 ∧ 0 ≤ r.2.2.2.2.1 ∧ r.2.2.2.2.1 ≤ n + 70) := by
  unfold spec_l1Cur_board.f
  refine Tot.bind (sure_tot hb h0 h1 (by omega) (by omega) (by omega)) (fun r hr => ?_)
  obtain ⟨hr1, hr2, hr3, hr4, hr5⟩ := hr
  refine Tot.bind (pick_tot hb (n := n + 30) _ hr4 (by omega) (by omega)) (fun u hu => ?_)
  obtain ⟨hu1, hu2, hu3, hu4⟩ := hu
  refine Tot.ite (fun _ => ?_) (fun _ => ?_)
  · exact Tot.bind (among_tot hb (n := n + 32) _ (by decide) hu3 (by omega) (by omega)) (fun v hv => Tot.now _ ⟨by dsimp only; omega, hv.2.1, by have := hv.2.2; dsimp only; omega⟩)
  refine Tot.ite (fun _ => ?_) (fun _ => ?_)
  · exact Tot.bind (among_tot hb (n := n + 32) _ (by decide) hu3 (by omega) (by omega)) (fun v hv => Tot.now _ ⟨by dsimp only; omega, hv.2.1, by have := hv.2.2; dsimp only; omega⟩)
  refine Tot.ite (fun _ => ?_) (fun _ => ?_)
  · exact Tot.bind (among_tot hb (n := n + 32) _ (by decide) hu3 (by omega) (by omega)) (fun v hv => Tot.now _ ⟨by dsimp only; omega, hv.2.1, by have := hv.2.2; dsimp only; omega⟩)
  refine Tot.ite (fun _ => ?_) (fun _ => ?_)
  · refine Tot.bind (among_tot hb (n := n + 32) _ (by decide) hu3 (by omega) (by omega)) (fun v hv => ?_)
    refine Tot.bind (among_tot hb (n := n + 34) _ (by decide) hv.2.1 (by have := hv.2.2; omega) (by omega)) (fun x hx => ?_)
    refine Tot.ite (fun _ => ?_) (fun h => absurd h (by omega))
    exact Tot.now _ ⟨by simp; omega, hx.2.1, by have := hx.2.2; dsimp only; omega⟩
  refine Tot.ite (fun _ => ?_) (fun _ => ?_)
  · exact Tot.bind (sure_tot hb (n := n + 32) hu3 (by omega) (by omega) (by omega) (by omega)) (fun v hv => Tot.now _ ⟨by have := hv.2.2.1; dsimp only; omega, hv.2.2.2.1, by have := hv.2.2.2.2; dsimp only; omega⟩)
  refine Tot.ite (fun _ => ?_) (fun _ => ?_)
  · exact (board_l0 (by_ := by_) (n := n + 32) hu3 (by omega) 6 1 [] (by omega) (by simp)).mono (fun w hw => ⟨hw.1, hw.2.1, by have := hw.2.2; omega⟩)
  · exact Tot.now _ ⟨by dsimp only; omega, hu3, by dsimp only; omega⟩
theorem squared_tot {a s : Int} {n : Nat} (h0 : 0 ≤ a) (h1 : a ≤ n) (hn : n ≤ 70000) : Tot (fun k => spec_l1Cur_squared.f k by_ a s) (fun r => r.2.2.2.1.length ≤ 7 ∧ 0 ≤ r.2.2.2.2.2.1 ∧ r.2.2.2.2.2.1 ≤ n + 80) := by
  have j0 : ∀ (b : Bool) (a s sq fc ov : Int) (l : List S126) (n : Nat), 0 ≤ a → a ≤ n → n ≤ 80010 → l.length ≤ 7 → Tot (fun k => spec_l1Cur_squared.j0 k b by_ a s sq fc ov l) (fun r => r.2.2.2.1.length ≤ 7 ∧ 0 ≤ r.2.2.2.2.2.1 ∧ r.2.2.2.2.2.1 ≤ n + 4) := by
    intro b a s sq fc ov l n h0 h1 hn hl
    refine Tot.step (f := fun k => if b = true then _ else _) (fun k => by simp only [spec_l1Cur_squared.j0]; first | done | rfl) ?_
    refine Tot.ite (fun _ => ?_) (fun _ => ?_)
    · exact Tot.bind (among_tot hb _ (by decide) h0 h1 (by omega)) (fun v hv => Tot.now _ ⟨hl, hv.2.1, by have := hv.2.2; dsimp only; omega⟩)
    · refine Tot.bind (one_tot hb _ h0 h1 (by omega)) (fun v hv => ?_)
      refine Tot.ite (fun _ => Tot.now _ ⟨hl, hv.1, by have := hv.2; dsimp only; omega⟩) (fun _ => ?_)
      refine Tot.bind (pick_tot hb (n := n + 2) _ hv.1 (by have := hv.2; omega) (by omega)) (fun x hx => ?_)
      exact Tot.bind (Tot.now (P := fun _ => True) _ trivial) (fun y _ => Tot.now _ ⟨hl, hx.2.2.1, by have := hx.2.2.2; dsimp only; omega⟩)
  unfold spec_l1Cur_squared.f
  refine Tot.bind (board_tot hb h0 h1 (by omega)) (fun r hr => ?_)
  refine Tot.bind sqGood_tot (fun t _ => ?_)
  refine Tot.ite (fun _ => ?_) (fun _ => ?_)
  · refine Tot.bind (one_tot hb (n := n + 70) _ hr.2.1 (by have := hr.2.2; omega) (by omega)) (fun u hu => ?_)
    exact (j0 _ _ _ _ _ _ _ (n + 72) hu.1 (by have := hu.2; omega) (by omega) hr.1).mono (fun w hw => ⟨hw.1, hw.2.1, by have := hw.2.2; omega⟩)
  · exact (j0 _ _ _ _ _ _ _ (n + 70) hr.2.1 (by have := hr.2.2; omega) (by omega) hr.1).mono (fun w hw => ⟨hw.1, hw.2.1, by have := hw.2.2; omega⟩)
end
section
variable {by_ : List Int} (hb : bytes by_)
include hb
theorem thrown_tot {a s : Int} {n : Nat} (h0 : 0 ≤ a) (h1 : a ≤ n) (hn : n ≤ 90000) : Tot (fun _ => spec_l1Cur_thrown.f by_ a s) (fun r => -1 ≤ r.1 ∧ r.1 ≤ 21) := by
  unfold spec_l1Cur_thrown.f
  refine Tot.bind (among_tot hb _ (by decide) h0 h1 (by omega)) (fun r hr => Tot.now _ ?_)
  have h := hr.1
  simp only [List.mem_cons, List.not_mem_nil, or_false] at h
  show -1 ≤ r.1 ∧ r.1 ≤ 21
  omega
theorem drawPartAt_tot : Tot (fun k => spec_DrawPartAt.f k by_) (fun _ => True) := by
  have j0 : ∀ (x y : Int) (b : Bool) (a s sq fc ov : Int) (l : List S126) (n : Nat), 0 ≤ a → a ≤ n → n ≤ 80010 → Tot (fun k => spec_DrawPartAt.j0 k x y b by_ a s sq fc ov l) (fun _ => True) := by
    intro x y b a s sq fc ov l n h0 h1 hn
    refine Tot.step (f := fun k => if b = true then _ else _) (fun k => by simp only [spec_DrawPartAt.j0]; first | done | rfl) ?_
    refine Tot.ite (fun _ => ?_) (fun _ => ?_)
    · refine Tot.bind (pick_tot hb _ h0 h1 (by omega)) (fun r hr => ?_)
      refine Tot.bind (Tot.now (P := fun _ => True) _ trivial) (fun y _ => ?_)
      exact Tot.bind (thrown_tot hb (n := n + 2) hr.2.2.1 (by have := hr.2.2.2; omega) (by omega)) (fun v _ => Tot.now _ trivial)
    · exact Tot.bind (thrown_tot hb h0 h1 (by omega)) (fun v _ => Tot.now _ trivial)
  unfold spec_DrawPartAt.f
  refine Tot.bind (squared_tot hb (n := 0) (by omega) (by omega) (by omega)) (fun r hr => ?_)
  refine Tot.bind (pick_tot hb (n := 80) _ hr.2.1 (by have := hr.2.2; omega) (by omega)) (fun u hu => ?_)
  refine Tot.bind sqGood_tot (fun t _ => ?_)
  refine Tot.ite (fun _ => ?_) (fun _ => ?_)
  · refine Tot.bind (one_tot hb (n := 82) _ hu.2.2.1 (by have := hu.2.2.2; omega) (by omega)) (fun v hv => ?_)
    exact j0 _ _ _ _ _ _ _ _ _ 84 hv.1 (by have := hv.2; omega) (by omega)
  · exact j0 _ _ _ _ _ _ _ _ _ 82 hu.2.2.1 (by have := hu.2.2.2; omega) (by omega)
theorem drawHalfDone_tot : Tot (fun k => spec_DrawHalfDone.f k by_) (fun _ => True) := by
  unfold spec_DrawHalfDone.f
  exact Tot.bind (squared_tot hb (n := 0) (by omega) (by omega) (by omega)) (fun r _ => Tot.now _ trivial)
end
def thr (sq ov : Int) (l : List S126) (s f : Int) : Int :=
  if s = sq then s else if s + f ≤ sq then (jmp l (s + f)).1 else if ov = 1 then sq else if ov = 2 then (if 0 ≤ 2 * sq - (s + f) then (jmp l (2 * sq - (s + f))).1 else s) else s
theorem okJ_mem {sq : Int} {all : List S126} : ∀ {r : List S126} {p : Int}, okJ sq all p r = true → ∀ j ∈ r, (1 ≤ j.f0 ∧ j.f0 ≤ sq - 1) ∧ (0 ≤ j.f1 ∧ j.f1 ≤ sq)
  | j :: r, p, h, i, hi => by
    simp only [okJ, Bool.and_eq_true, inn_iff] at h
    rcases List.mem_cons.1 hi with rfl | hi
    · exact ⟨h.1.1.1.1, h.1.1.1.2⟩
    · exact okJ_mem h.2 i hi
theorem jmp_in {sq fc ov : Int} {l : List S126} (h : bOK sq fc ov l = true) {n : Int} (h0 : 0 ≤ n) (h1 : n ≤ sq) : 0 ≤ (jmp l n).1 ∧ (jmp l n).1 ≤ sq := by
  rcases Bool.eq_false_or_eq_true (jmp l n).2 with e | e
  · obtain ⟨j, hj, _, h3⟩ := jmp_mem e
    have := (okJ_mem (bOK_J h).1 j hj).2
    rw [← h3]; exact this
  · rw [jmp_no e]; exact ⟨h0, h1⟩
theorem jmp_end {sq fc ov : Int} {l : List S126} (h : bOK sq fc ov l = true) {n : Int} (h1 : sq ≤ n) : (jmp l n).1 = n := by
  rcases Bool.eq_false_or_eq_true (jmp l n).2 with e | e
  · obtain ⟨j, hj, h3, _⟩ := jmp_mem e
    have := (okJ_mem (bOK_J h).1 j hj).1
    omega
  · exact jmp_no e
theorem thr_in {sq fc ov : Int} {l : List S126} (h : bOK sq fc ov l = true) {s f : Int} (h0 : 0 ≤ s) (h1 : s ≤ sq) (hf : 1 ≤ f) : 0 ≤ thr sq ov l s f ∧ thr sq ov l s f ≤ sq := by
  have hb := bOK_J h
  unfold thr
  split
  · omega
  · split
    · exact jmp_in h (by omega) (by omega)
    · split
      · omega
      · split
        · split
          · exact jmp_in h (by omega) (by omega)
          · omega
        · omega
theorem spec_thr {sq fc ov : Int} {l : List S126} (h : bOK sq fc ov l = true) {s f : Int} (h0 : 0 ≤ s) (h1 : s ≤ sq) (hf : 1 ≤ f) (hf2 : f ≤ 8) : spec_sqThrow.f sq fc ov l s f = some (thr sq ov l s f) := by
  have hb := bOK_J h
  unfold spec_sqThrow.f thr spec_sqJump.f
  rw [w64 (x := s + f) (by omega) (by omega), w64 (x := 2 * sq) (by omega) (by omega), w64 (x := 2 * sq - (s + f)) (by omega) (by omega)]
  by_cases c1 : s = sq
  · rw [if_pos c1, if_pos c1]
  · rw [if_neg c1, if_neg c1]
    by_cases c2 : s + f ≤ sq
    · rw [if_neg (by omega), if_pos c2]; rfl
    · rw [if_pos (by omega), if_neg c2]
      by_cases c3 : ov = 1
      · rw [if_neg (by omega), if_pos c3, if_pos c3]
      · by_cases c4 : ov = 2
        · rw [if_neg (by omega), if_neg c3, if_neg c3, if_pos c4]
          by_cases c5 : 0 ≤ 2 * sq - (s + f)
          · rw [if_neg (by omega), if_pos c5]; rfl
          · rw [if_pos (by omega), if_neg c5]
        · rw [if_pos (by omega), if_neg c3, if_neg c4]
theorem impl_thr {sq fc ov : Int} {l : List S126} (h : bOK sq fc ov l = true) {s f : Int} (h0 : 0 ≤ s) (h1 : s ≤ sq) (hf : 1 ≤ f) (hf2 : f ≤ 8) : impl_Board_throw.f sq fc ov l s f = some (thr sq ov l s f) := by
  have hb := bOK_J h
  unfold impl_Board_throw.f impl_Board_landing.f thr impl_Board_begins.f
  rw [w64 (x := s + f) (by omega) (by omega), w64 (x := 2 * sq) (by omega) (by omega), w64 (x := 2 * sq - (s + f)) (by omega) (by omega)]
  by_cases c1 : s = sq
  · rw [if_pos c1, if_pos c1]; rfl
  · rw [if_neg c1, if_neg c1]
    by_cases c2 : s + f ≤ sq
    · rw [if_pos c2, if_pos c2]; rfl
    · rw [if_neg c2, if_neg c2]
      by_cases c3 : ov = 1
      · rw [if_pos c3, if_pos c3]
        simp [jmp_end h (Int.le_refl sq)]
      · rw [if_neg c3, if_neg c3]
        by_cases c4 : ov = 2
        · rw [if_pos c4, if_pos c4]
          by_cases c5 : 0 ≤ 2 * sq - (s + f)
          · rw [if_pos c5, if_pos (by omega)]; rfl
          · rw [if_neg c5, if_neg (by omega)]; rfl
        · rw [if_neg c4, if_neg c4]; rfl
def landsN (sq ov : Int) (l : List S126) (s : Int) : Nat → Int → List Int
  | 0, _ => []
  | n + 1, f => thr sq ov l s f :: landsN sq ov l s n (f + 1)
def lands (sq fc ov : Int) (l : List S126) (s : Int) : List Int := landsN sq ov l s fc.toNat 1
theorem landsN_len (sq ov : Int) (l : List S126) (s : Int) : ∀ (n : Nat) (f : Int), (landsN sq ov l s n f).length = n
  | 0, _ => rfl
  | n + 1, f => by rw [landsN, List.length_cons, landsN_len sq ov l s n]
theorem landsN_in {sq fc ov : Int} {l : List S126} (h : bOK sq fc ov l = true) {s : Int} (h0 : 0 ≤ s) (h1 : s ≤ sq) : ∀ (n : Nat) (f : Int), 1 ≤ f → ∀ t ∈ landsN sq ov l s n f, 0 ≤ t ∧ t ≤ sq
  | 0, _, _, t, ht => by cases ht
  | n + 1, f, hf, t, ht => by
    rcases List.mem_cons.1 ht with rfl | ht
    · exact thr_in h h0 h1 hf
    · exact landsN_in h h0 h1 n (f + 1) (by omega) t ht
theorem lands_in {sq fc ov : Int} {l : List S126} (h : bOK sq fc ov l = true) {s : Int} (h0 : 0 ≤ s) (h1 : s ≤ sq) : ∀ t ∈ lands sq fc ov l s, 0 ≤ t ∧ t ≤ sq := landsN_in h h0 h1 _ 1 (by omega)
theorem lands_len {sq fc ov : Int} {l : List S126} (h : bOK sq fc ov l = true) (s : Int) : ((lands sq fc ov l s).length : Int) = fc := by
  have hb := bOK_J h
  rw [lands, landsN_len]; omega
theorem landings_l {sq fc ov : Int} {l : List S126} (h : bOK sq fc ov l = true) {s : Int} (h0 : 0 ≤ s) (h1 : s ≤ sq) (n : Nat) : ∀ (f : Int) (acc : List Int), 1 ≤ f → f + n = fc + 1 → acc.length + n ≤ 8 →
    Ev (fun k => impl_Board_landings.l0 k s acc f sq fc ov l) (acc ++ landsN sq ov l s n f) := by
  have hb := bOK_J h
  induction n with
  | zero =>
    intro f acc hf hn hl
    exact Ev.step (f := fun _ => some (acc ++ landsN sq ov l s 0 f)) (fun k => by simp only [impl_Board_landings.l0]; rw [if_neg (by omega)]; simp [landsN]) (Ev.now _)
  | succ n ih =>
    intro f acc hf hn hl
    refine Ev.step (f := fun k => impl_Board_landings.l0 k s (acc ++ [thr sq ov l s f]) (f + 1) sq fc ov l) (fun k => by simp only [impl_Board_landings.l0]; rw [if_pos (by omega), impl_thr h h0 h1 hf (by omega)]; simp only [Option.bind_some]; rw [if_pos (by omega), w64 (by omega) (by omega)]) ?_
    have := ih (f + 1) (acc ++ [thr sq ov l s f]) (by omega) (by omega) (by simp; omega)
    simpa [landsN] using this
theorem landings_ev {sq fc ov : Int} {l : List S126} (h : bOK sq fc ov l = true) {s : Int} (h0 : 0 ≤ s) (h1 : s ≤ sq) : Ev (fun k => impl_Board_landings.f k sq fc ov l s) (lands sq fc ov l s) := by
  have hb := bOK_J h
  exact landings_l h h0 h1 fc.toNat 1 [] (by omega) (by omega) (by simp; omega)
def addTo (acc : List Int) (n : Int) : List Int → List Int
  | [] => acc
  | t :: ts => addTo (acc.set t.toNat (rd acc t + n)) n ts
def stepFrom (L : Int → List Int) (acc : List Int) : Int → List Int → List Int
  | _, [] => acc
  | i, n :: r => stepFrom L (if n = 0 then acc else addTo acc n (L i)) (i + 1) r
def stepP (L : Int → List Int) (m : Nat) (now : List Int) : List Int := stepFrom L (List.replicate m 0) 0 now
def startP (m : Nat) (s : Int) : List Int := (List.replicate m 0).set s.toNat 1
def placesP (L : Int → List Int) (m : Nat) (now : List Int) : Nat → List Int
  | 0 => now
  | t + 1 => placesP L m (stepP L m now) t
def nn (l : List Int) : Prop := ∀ x ∈ l, 0 ≤ x
theorem nn_cons {x : Int} {l : List Int} : nn (x :: l) ↔ 0 ≤ x ∧ nn l := by simp [nn]
theorem nn_rep (m : Nat) : nn (List.replicate m 0) := fun x h => by simp [List.mem_replicate] at h; omega
theorem sum_nn : ∀ {l : List Int}, nn l → 0 ≤ l.sum
  | [], _ => Int.le_refl _
  | x :: l, h => by rw [nn_cons] at h; have := sum_nn h.2; rw [List.sum_cons]; omega
theorem mem_le_sum : ∀ {l : List Int}, nn l → ∀ x ∈ l, x ≤ l.sum
  | y :: l, h, x, hx => by
    rw [nn_cons] at h
    have := sum_nn h.2
    rw [List.sum_cons]
    rcases List.mem_cons.1 hx with rfl | hx
    · omega
    · have := mem_le_sum h.2 x hx; omega
theorem rd_in {l : List Int} (h : nn l) (i : Int) : 0 ≤ rd l i ∧ rd l i ≤ l.sum := by
  unfold rd
  rw [List.getD_eq_getElem?_getD]
  by_cases hi : i.toNat < l.length
  · rw [List.getElem?_eq_getElem hi]
    exact ⟨h _ (List.getElem_mem hi), mem_le_sum h _ (List.getElem_mem hi)⟩
  · rw [List.getElem?_eq_none (by omega)]
    exact ⟨Int.le_refl _, sum_nn h⟩
theorem sum_set : ∀ (l : List Int) (i : Nat) (v : Int), i < l.length → (l.set i v).sum = l.sum - l.getD i 0 + v
  | x :: l, 0, v, _ => by simp; omega
  | x :: l, i + 1, v, h => by
    rw [List.set_cons_succ, List.sum_cons, List.sum_cons, sum_set l i v (by simpa using h)]
    simp; omega
theorem nn_set {l : List Int} (h : nn l) (i : Nat) {v : Int} (hv : 0 ≤ v) : nn (l.set i v) := fun x hx => by
  rcases List.mem_or_eq_of_mem_set hx with hx | rfl
  · exact h x hx
  · exact hv
theorem addTo_len (n : Int) : ∀ (ts : List Int) (acc : List Int), (addTo acc n ts).length = acc.length
  | [], _ => rfl
  | t :: ts, acc => by rw [addTo, addTo_len n ts]; simp
theorem addTo_nn {n : Int} (hn : 0 ≤ n) : ∀ (ts : List Int) {acc : List Int}, nn acc → nn (addTo acc n ts)
  | [], _, h => h
  | t :: ts, acc, h => addTo_nn hn ts (nn_set h _ (by have := rd_in h t; omega))
theorem addTo_sum {n : Int} : ∀ (ts : List Int) {acc : List Int}, (∀ t ∈ ts, 0 ≤ t ∧ t < (acc.length : Int)) → (addTo acc n ts).sum = acc.sum + ts.length * n
  | [], acc, _ => by simp [addTo]
  | t :: ts, acc, h => by
    have h1 := h t List.mem_cons_self
    rw [addTo, addTo_sum ts (by intro t' ht'; simpa using h t' (List.mem_cons_of_mem _ ht')), sum_set _ _ _ (by omega)]
    simp only [List.length_cons, Int.natCast_add, Int.natCast_one, Int.add_mul, rd]
    omega
theorem stepFrom_len (L : Int → List Int) : ∀ (r : List Int) (i : Int) (acc : List Int), (stepFrom L acc i r).length = acc.length
  | [], _, _ => rfl
  | n :: r, i, acc => by
    rw [stepFrom, stepFrom_len L r]
    split
    · rfl
    · exact addTo_len ..
theorem stepFrom_nn (L : Int → List Int) : ∀ (r : List Int) (i : Int) {acc : List Int}, nn r → nn acc → nn (stepFrom L acc i r)
  | [], _, _, _, h => h
  | n :: r, i, acc, hr, h => by
    rw [nn_cons] at hr
    rw [stepFrom]
    refine stepFrom_nn L r (i + 1) hr.2 ?_
    split
    · exact h
    · exact addTo_nn hr.1 _ h
theorem stepFrom_sum (L : Int → List Int) (c : Int) : ∀ (r : List Int) (i : Int) {acc : List Int}, (∀ j, i ≤ j → j < i + r.length → ((L j).length : Int) = c ∧ ∀ t ∈ L j, 0 ≤ t ∧ t < (acc.length : Int)) → (stepFrom L acc i r).sum = acc.sum + c * r.sum
  | [], _, acc, _ => by simp [stepFrom]
  | n :: r, i, acc, h => by
    have h1 := h i (Int.le_refl _) (by simp; omega)
    rw [stepFrom, stepFrom_sum L c r (i + 1) (by
      intro j hj1 hj2
      have := h j (by omega) (by simp; omega)
      split
      · exact this
      · rw [addTo_len]; exact this)]
    rw [List.sum_cons, Int.mul_add]
    split
    · next e => subst e; omega
    · rw [addTo_sum _ h1.2, h1.1]; omega
theorem stepP_len (L : Int → List Int) (m : Nat) (now : List Int) : (stepP L m now).length = m := by rw [stepP, stepFrom_len]; simp
theorem placesP_succ (L : Int → List Int) (m : Nat) : ∀ (t : Nat) (now : List Int), placesP L m now (t + 1) = stepP L m (placesP L m now t)
  | 0, _ => rfl
  | t + 1, now => placesP_succ L m t (stepP L m now)
theorem placesP_len (L : Int → List Int) (m : Nat) : ∀ (t : Nat) {now : List Int}, now.length = m → (placesP L m now t).length = m
  | 0, _, h => h
  | t + 1, now, _ => placesP_len L m t (stepP_len L m now)
section
variable {sq fc ov : Int} {l : List S126}
theorem step_facts (h : bOK sq fc ov l = true) {now : List Int} (hl : now.length = (sq + 1).toNat) (hn : nn now) :
    nn (stepP (lands sq fc ov l) (sq + 1).toNat now) ∧ (stepP (lands sq fc ov l) (sq + 1).toNat now).sum = fc * now.sum := by
  have hb := bOK_J h
  refine ⟨stepFrom_nn _ _ _ hn (nn_rep _), ?_⟩
  rw [stepP, stepFrom_sum _ fc _ _ (by
    intro j h1 h2
    refine ⟨lands_len h j, fun t ht => ?_⟩
    have := lands_in h h1 (by omega) t ht
    simp; omega)]
  simp
theorem places_facts (h : bOK sq fc ov l = true) : ∀ (t : Nat) {now : List Int}, now.length = (sq + 1).toNat → nn now →
    nn (placesP (lands sq fc ov l) (sq + 1).toNat now t) ∧ (placesP (lands sq fc ov l) (sq + 1).toNat now t).sum = fc ^ t * now.sum
  | 0, now, _, hn => ⟨hn, by simp [placesP]⟩
  | t + 1, now, hl, hn => by
    obtain ⟨h1, h2⟩ := step_facts h hl hn
    obtain ⟨h3, h4⟩ := places_facts h t (stepP_len _ _ now) h1
    exact ⟨h3, by rw [placesP, h4, h2, Int.pow_succ]; simp [Int.mul_assoc]⟩
theorem start_facts (h : bOK sq fc ov l = true) {s : Int} (h0 : 0 ≤ s) (h1 : s ≤ sq) : (startP (sq + 1).toNat s).length = (sq + 1).toNat ∧ nn (startP (sq + 1).toNat s) ∧ (startP (sq + 1).toNat s).sum = 1 := by
  have hb := bOK_J h
  refine ⟨by simp [startP], nn_set (nn_rep _) _ (by omega), ?_⟩
  rw [startP, sum_set _ _ _ (by simp; omega), List.getD_eq_getElem?_getD, List.getElem?_replicate]
  split <;> simp
theorem pow_le {fc : Int} (h1 : 1 ≤ fc) (h8 : fc ≤ 8) (t : Nat) (ht : t ≤ 20) : 1 ≤ fc ^ t ∧ fc ^ t ≤ 1152921504606846976 := by
  obtain ⟨n, rfl⟩ : ∃ n : Nat, fc = n := ⟨fc.toNat, by omega⟩
  have ha : n ^ t ≤ 8 ^ t := Nat.pow_le_pow_left (by omega) t
  have hb : 8 ^ t ≤ 8 ^ 20 := Nat.pow_le_pow_right (by omega) ht
  have hc : 1 ≤ n ^ t := Nat.one_le_pow _ _ (by omega)
  have : ((n : Int)) ^ t = ((n ^ t : Nat) : Int) := by simp
  rw [this]
  omega
end
def cnt (ts : List Int) (j : Int) : Int := match ts with
  | [] => 0
  | t :: ts => (if t = j then 1 else 0) + cnt ts j
theorem cnt_nn : ∀ (ts : List Int) (j : Int), 0 ≤ cnt ts j
  | [], _ => Int.le_refl _
  | t :: ts, j => by have := cnt_nn ts j; rw [cnt]; split <;> omega
theorem rd_set {acc : List Int} {t : Int} (ht : 0 ≤ t) (ht2 : t < (acc.length : Int)) (v : Int) {j : Int} (hj : 0 ≤ j) : rd (acc.set t.toNat v) j = if t = j then v else rd acc j := by
  unfold rd
  rw [List.getD_eq_getElem?_getD, List.getD_eq_getElem?_getD, List.getElem?_set]
  by_cases e : t = j
  · subst e; rw [if_pos rfl, if_pos rfl, if_pos (by omega)]; rfl
  · rw [if_neg (by omega), if_neg e]
theorem rd_addTo {n : Int} : ∀ (ts : List Int) {acc : List Int} {j : Int}, (∀ t ∈ ts, 0 ≤ t ∧ t < (acc.length : Int)) → 0 ≤ j → rd (addTo acc n ts) j = rd acc j + n * cnt ts j
  | [], acc, j, _, _ => by simp [addTo, cnt]
  | t :: ts, acc, j, h, hj => by
    have h1 := h t List.mem_cons_self
    rw [addTo, rd_addTo ts (by intro t' ht'; simpa using h t' (List.mem_cons_of_mem _ ht')) hj, rd_set h1.1 h1.2 _ hj, cnt, Int.mul_add]
    by_cases e : t = j
    · rw [if_pos e, if_pos e, e]; omega
    · rw [if_neg e, if_neg e]; omega
def conv (L : Int → List Int) (j : Int) : Int → List Int → Int
  | _, [] => 0
  | i, n :: r => n * cnt (L i) j + conv L j (i + 1) r
theorem rd_stepFrom (L : Int → List Int) {j : Int} (hj : 0 ≤ j) : ∀ (r : List Int) (i : Int) {acc : List Int}, (∀ q, i ≤ q → q < i + r.length → ∀ t ∈ L q, 0 ≤ t ∧ t < (acc.length : Int)) → rd (stepFrom L acc i r) j = rd acc j + conv L j i r
  | [], _, acc, _ => by simp [stepFrom, conv]
  | n :: r, i, acc, h => by
    have h1 := h i (Int.le_refl _) (by simp; omega)
    rw [stepFrom, rd_stepFrom L hj r (i + 1) (by
      intro q hq1 hq2
      have := h q (by omega) (by simp; omega)
      split
      · exact this
      · rw [addTo_len]; exact this), conv]
    split
    · next e => subst e; omega
    · rw [rd_addTo _ h1 hj]; omega
theorem conv_nn (L : Int → List Int) (j : Int) : ∀ (r : List Int) (i : Int), nn r → 0 ≤ conv L j i r
  | [], _, _ => Int.le_refl _
  | n :: r, i, h => by
    rw [nn_cons] at h
    have := conv_nn L j r (i + 1) h.2
    have := Int.mul_nonneg h.1 (cnt_nn (L i) j)
    rw [conv]; omega
theorem conv_ge (L : Int → List Int) (j : Int) : ∀ (r : List Int) (i : Int) (p : Nat), nn r → p < r.length → r.getD p 0 * cnt (L (i + p)) j ≤ conv L j i r
  | n :: r, i, 0, h, _ => by
    rw [nn_cons] at h
    have := conv_nn L j r (i + 1) h.2
    rw [conv]; simp; omega
  | n :: r, i, p + 1, h, hp => by
    rw [nn_cons] at h
    have h1 := conv_ge L j r (i + 1) p h.2 (by simpa using hp)
    have := Int.mul_nonneg h.1 (cnt_nn (L i) j)
    rw [conv]
    rw [show i + ((p + 1 : Nat) : Int) = i + 1 + (p : Int) by omega]
    simp only [List.getD_cons_succ]
    omega
section
variable {sq fc ov : Int} {l : List S126}
theorem rd_stepP (h : bOK sq fc ov l = true) {now : List Int} (hl : now.length = (sq + 1).toNat) {j : Int} (hj : 0 ≤ j) : rd (stepP (lands sq fc ov l) (sq + 1).toNat now) j = conv (lands sq fc ov l) j 0 now := by
  have hb := bOK_J h
  rw [stepP, rd_stepFrom _ hj _ _ (by
    intro q h1 h2 t ht
    have := lands_in h h1 (by omega) t ht
    simp; omega)]
  have : rd (List.replicate (sq + 1).toNat 0) j = 0 := by
    unfold rd
    rw [List.getD_eq_getElem?_getD, List.getElem?_replicate]
    split <;> rfl
  rw [this]; omega
theorem cnt_end (sq ov : Int) (l : List S126) : ∀ (n : Nat) (f : Int), cnt (landsN sq ov l sq n f) sq = n
  | 0, _ => rfl
  | n + 1, f => by rw [landsN, cnt, cnt_end sq ov l n (f + 1)]; simp [thr]; omega
end
theorem low_div (a : Int) (g : Nat) (ha : 0 ≤ a) (ha2 : a ≤ 9223372036854775807) : wrap64 (Int.tdiv a g) = a / g := by
  rw [Int.tdiv_eq_ediv_of_nonneg ha]
  have h1 : a / (g : Int) ≤ a := Int.ediv_le_self _ ha
  have h2 : 0 ≤ a / (g : Int) := Int.ediv_nonneg ha (by omega)
  exact w64 (by omega) (by omega)
theorem lowest_l (a b : Int) (ha : 0 ≤ a) (ha2 : a ≤ 9223372036854775807) (hb : 0 ≤ b) (hb2 : b ≤ 9223372036854775807) : ∀ (n m : Nat), 0 < m + n → Ev (fun k => impl_lowest.l0 k a b m n) (a / (Nat.gcd m n : Int), b / (Nat.gcd m n : Int)) := by
  intro n
  induction n using Nat.strongRecOn with
  | _ n ih =>
    intro m hmn
    by_cases c : n = 0
    · subst c
      rw [Nat.gcd_zero_right]
      exact Ev.step (f := fun _ => some (a / (m : Int), b / (m : Int))) (fun k => by simp only [impl_lowest.l0]; rw [if_pos (by omega), if_neg (by omega), low_div a m ha ha2, low_div b m hb hb2]) (Ev.now _)
    · have e : Nat.gcd m n = Nat.gcd n (m % n) := by rw [Nat.gcd_comm, Nat.gcd_rec, Nat.gcd_comm]
      refine Ev.step (f := fun k => impl_lowest.l0 k a b (n : Int) ((m % n : Nat) : Int)) (fun k => by simp only [impl_lowest.l0]; rw [if_neg (by omega)]; rfl) ?_
      rw [e]
      exact ih (m % n) (Nat.mod_lt _ (by omega)) n (by omega)
def lowP (a b : Int) : Int × Int := (a / (Nat.gcd a.toNat b.toNat : Int), b / (Nat.gcd a.toNat b.toNat : Int))
theorem lowest_ev {a b : Int} (ha : 0 ≤ a) (ha2 : a ≤ 9223372036854775807) (hb : 1 ≤ b) (hb2 : b ≤ 9223372036854775807) : Ev (fun k => impl_lowest.f k a b) (lowP a b) := by
  have := lowest_l a b ha ha2 (by omega) hb2 b.toNat a.toNat (by omega)
  rw [show ((a.toNat : Nat) : Int) = a by omega, show ((b.toNat : Nat) : Int) = b by omega] at this
  exact this
theorem chLow_l (a b : Int) (ha : 0 ≤ a) (ha2 : a ≤ 9223372036854775807) (hb : 0 ≤ b) (hb2 : b ≤ 9223372036854775807) : ∀ (n m : Nat), 0 < m + n → Ev (fun k => spec_chLow.l0 k a b m n) (a / (Nat.gcd m n : Int), b / (Nat.gcd m n : Int)) := by
  intro n
  induction n using Nat.strongRecOn with
  | _ n ih =>
    intro m hmn
    by_cases c : n = 0
    · subst c
      rw [Nat.gcd_zero_right]
      exact Ev.step (f := fun _ => some (a / (m : Int), b / (m : Int))) (fun k => by simp only [spec_chLow.l0]; rw [if_neg (by omega), if_neg (by omega), low_div a m ha ha2, low_div b m hb hb2]) (Ev.now _)
    · have e : Nat.gcd m n = Nat.gcd n (m % n) := by rw [Nat.gcd_comm, Nat.gcd_rec, Nat.gcd_comm]
      refine Ev.step (f := fun k => spec_chLow.l0 k a b (n : Int) ((m % n : Nat) : Int)) (fun k => by simp only [spec_chLow.l0]; rw [if_pos (by omega), if_neg (by omega)]; rfl) ?_
      rw [e]
      exact ih (m % n) (Nat.mod_lt _ (by omega)) n (by omega)
theorem chLow_ev {a b : Int} (ha : 0 ≤ a) (ha2 : a ≤ 9223372036854775807) (hb : 1 ≤ b) (hb2 : b ≤ 9223372036854775807) : Ev (fun k => spec_chLow.f k a b) (lowP a b) := by
  have := chLow_l a b ha ha2 (by omega) hb2 b.toNat a.toNat (by omega)
  rw [show ((a.toNat : Nat) : Int) = a by omega, show ((b.toNat : Nat) : Int) = b by omega] at this
  exact this
theorem power_l {fc : Int} (h1 : 1 ≤ fc) (h8 : fc ≤ 8) (T : Nat) (hT : T ≤ 20) (d : Nat) : ∀ (i : Nat), i + d = T → Ev (fun k => impl_power.l0 k fc (fc ^ i) T i) (fc ^ T) := by
  induction d with
  | zero =>
    intro i hi
    obtain rfl : i = T := by omega
    exact Ev.step (f := fun _ => some (fc ^ i)) (fun k => by simp only [impl_power.l0]; rw [if_neg (by omega)]) (Ev.now _)
  | succ d ih =>
    intro i hi
    have hp := pow_le h1 h8 (i + 1) (by omega)
    refine Ev.step (f := fun k => impl_power.l0 k fc (fc ^ (i + 1)) T ((i + 1 : Nat) : Int)) (fun k => by
      simp only [impl_power.l0]
      rw [if_pos (by omega), ← Int.pow_succ, w64 (Int.le_trans (by decide) hp.1) (Int.le_trans hp.2 (by decide)), w64 (by omega) (by omega)]
      rfl) (ih (i + 1) (by omega))
theorem power_ev {fc t : Int} (h1 : 1 ≤ fc) (h8 : fc ≤ 8) (ht : 0 ≤ t) (ht2 : t ≤ 20) : Ev (fun k => impl_power.f k fc t) (fc ^ t.toNat) := by
  have := power_l h1 h8 t.toNat (by omega) t.toNat 0 (by omega)
  rw [show ((t.toNat : Nat) : Int) = t by omega] at this
  simpa [impl_power.f] using this
theorem chAll_l {sq fc ov : Int} {l : List S126} (h1 : 1 ≤ fc) (h8 : fc ≤ 8) (d : Nat) : ∀ (i : Nat), i + d ≤ 20 → Ev (fun k => spec_chAll.l0 k d (fc ^ i) sq fc ov l) (fc ^ (i + d)) := by
  induction d with
  | zero =>
    intro i hi
    exact Ev.step (f := fun _ => some (fc ^ i)) (fun k => by simp only [spec_chAll.l0]; rw [if_neg (by omega)]) (Ev.now _)
  | succ d ih =>
    intro i hi
    have hp := pow_le h1 h8 (i + 1) (by omega)
    refine Ev.step (f := fun k => spec_chAll.l0 k d (fc ^ (i + 1)) sq fc ov l) (fun k => by
      simp only [spec_chAll.l0]
      rw [if_pos (by omega), ← Int.pow_succ, w64 (Int.le_trans (by decide) hp.1) (Int.le_trans hp.2 (by decide)), w64 (by omega) (by omega), show (((d + 1 : Nat) : Int) - 1) = (d : Int) by omega]) ?_
    have := ih (i + 1) (by omega)
    rwa [show i + 1 + d = i + (d + 1) by omega] at this
theorem chAll_ev {sq fc ov : Int} {l : List S126} {t : Int} (h1 : 1 ≤ fc) (h8 : fc ≤ 8) (ht : 0 ≤ t) (ht2 : t ≤ 20) : Ev (fun k => spec_chAll.f k sq fc ov l t) (fc ^ t.toNat) := by
  have := chAll_l (sq := sq) (ov := ov) (l := l) h1 h8 t.toNat 0 (by omega)
  rw [show ((t.toNat : Nat) : Int) = t by omega] at this
  simpa [spec_chAll.f] using this
theorem part_ev {sq fc ov : Int} {l : List S126} {n t : Int} (h1 : 1 ≤ fc) (h8 : fc ≤ 8) (ht : 0 ≤ t) (ht2 : t ≤ 20) (hn : 0 ≤ n) (hn2 : n ≤ 9223372036854775807) : Ev (fun k => impl_Board_part.f k sq fc ov l n t) ((lowP n (fc ^ t.toNat)).1, (lowP n (fc ^ t.toNat)).2, true) := by
  have hp := pow_le h1 h8 t.toNat (by omega)
  refine Ev.bind (power_ev h1 h8 ht ht2) ?_
  exact Ev.bind (lowest_ev hn hn2 hp.1 (Int.le_trans hp.2 (by decide))) (Ev.now _)
theorem chPart_ev {sq fc ov : Int} {l : List S126} {n t : Int} (h1 : 1 ≤ fc) (h8 : fc ≤ 8) (ht : 0 ≤ t) (ht2 : t ≤ 20) (hn : 0 ≤ n) (hn2 : n ≤ 9223372036854775807) : Ev (fun k => spec_chPart.f k sq fc ov l n t) ((lowP n (fc ^ t.toNat)).1, (lowP n (fc ^ t.toNat)).2, true) := by
  have hp := pow_le h1 h8 t.toNat (by omega)
  refine Ev.bind (chAll_ev h1 h8 ht ht2) ?_
  exact Ev.bind (chLow_ev hn hn2 hp.1 (Int.le_trans hp.2 (by decide))) (Ev.now _)
section
variable {sq fc ov : Int} {l : List S126}
theorem place_in (h : bOK sq fc ov l = true) {s : Int} (h0 : 0 ≤ s) (h1 : s ≤ sq) {t : Nat} (ht : t ≤ 20) (j : Int) : 0 ≤ rd (placesP (lands sq fc ov l) (sq + 1).toNat (startP (sq + 1).toNat s) t) j ∧ rd (placesP (lands sq fc ov l) (sq + 1).toNat (startP (sq + 1).toNat s) t) j ≤ fc ^ t := by
  have hs := start_facts h h0 h1
  have hp := places_facts h t hs.1 hs.2.1
  have := rd_in hp.1 j
  rw [hp.2, hs.2.2, Int.mul_one] at this
  exact this
theorem sqr_in {n : Int} (h : sqr sq l n = true) : 0 ≤ n ∧ n ≤ sq := by
  simp only [sqr, Bool.and_eq_true, inn_iff] at h
  exact h.1
end
section
variable {sq fc ov : Int} {l : List S126}
theorem rd_drop {r : List Int} {i : Nat} (hi : i < r.length) : r.drop i = rd r i :: r.drop (i + 1) := by
  rw [List.drop_eq_getElem_cons hi]
  simp [rd, hi]
theorem next_l1 (h : bOK sq fc ov l = true) (now : List Int) (i : Nat) (hi : i < now.length) (hlen : now.length ≤ 101) (ts : List Int) (hts : ts.length ≤ 8) (hn : 0 ≤ rd now i) (r : List Int) (d : Nat) :
    ∀ (j : Nat) (acc : List Int), j + d = ts.length → acc.length = (sq + 1).toNat → nn acc → (∀ t ∈ ts, 0 ≤ t ∧ t ≤ sq) → acc.sum + d * rd now i ≤ 2305843009213693952 →
    Ev (fun k => impl_Board_next.l0 k (addTo acc (rd now i) (ts.drop j)) now now.length ((i : Int) + 1) sq fc ov l) r →
    Ev (fun k => impl_Board_next.l1 k acc (rd now i) now now.length i ts ts.length j sq fc ov l) r := by
  have hb := bOK_J h
  induction d with
  | zero =>
    intro j acc hj ha hna ht hs H
    rw [List.drop_eq_nil_of_le (by omega)] at H
    exact Ev.step (f := fun k => impl_Board_next.l0 k acc now now.length ((i : Int) + 1) sq fc ov l) (fun k => by simp only [impl_Board_next.l1]; rw [if_neg (by omega), w64 (by omega) (by omega)]) H
  | succ d ih =>
    intro j acc hj ha hna ht hs H
    have hj' : j < ts.length := by omega
    rw [rd_drop hj', addTo] at H
    have h1 := ht (rd ts j) (by simp [rd, hj'])
    have h2 := rd_in hna (rd ts j)
    have h4 : ((d + 1 : Nat) : Int) * rd now i = d * rd now i + rd now i := by rw [Int.natCast_add, Int.add_mul]; simp
    have h5 : 0 ≤ (d : Int) * rd now i := Int.mul_nonneg (by omega) hn
    refine Ev.step (f := fun k => impl_Board_next.l1 k (acc.set (rd ts j).toNat (rd acc (rd ts j) + rd now i)) (rd now i) now now.length i ts ts.length ((j : Int) + 1) sq fc ov l) (fun k => by
      simp only [impl_Board_next.l1]
      rw [if_pos (by omega), if_pos (by omega), if_pos (by omega), if_pos h1.1, if_pos (by omega), w64 (by omega) (by omega), w64 (by omega) (by omega)]) ?_
    have := ih (j + 1) (acc.set (rd ts j).toNat (rd acc (rd ts j) + rd now i)) (by omega) (by simpa using ha) (nn_set hna _ (by omega)) ht (by rw [sum_set _ _ _ (by omega)]; show acc.sum - rd acc (rd ts j) + _ + _ ≤ _; omega) H
    simpa using this
theorem next_l0 (h : bOK sq fc ov l = true) (now : List Int) (hlen : now.length = (sq + 1).toNat) (hnn : nn now) (d : Nat) : ∀ (i : Nat) (acc : List Int), i + d = now.length → acc.length = (sq + 1).toNat → nn acc → acc.sum + fc * (now.drop i).sum ≤ 2305843009213693952 →
    Ev (fun k => impl_Board_next.l0 k acc now now.length i sq fc ov l) (stepFrom (lands sq fc ov l) acc i (now.drop i)) := by
  have hb := bOK_J h
  induction d with
  | zero =>
    intro i acc hi ha hna hs
    rw [List.drop_eq_nil_of_le (by omega)]
    exact Ev.step (f := fun _ => some acc) (fun k => by simp only [impl_Board_next.l0]; rw [if_neg (by omega)]) (Ev.now _)
  | succ d ih =>
    intro i acc hi ha hna hs
    have hi' : i < now.length := by omega
    have h0 : 0 ≤ rd now i := (rd_in hnn i).1
    rw [rd_drop hi', List.sum_cons, Int.mul_add] at hs
    rw [rd_drop hi', stepFrom]
    have hc : (((i + 1 : Nat)) : Int) = (i : Int) + 1 := by omega
    have hs1 : 0 ≤ fc * (now.drop (i + 1)).sum := Int.mul_nonneg (by omega) (sum_nn (fun x hx => hnn x (List.mem_of_mem_drop hx)))
    by_cases c : rd now i = 0
    · rw [if_pos c]
      refine Ev.step (f := fun k => impl_Board_next.l0 k acc now now.length ((i : Int) + 1) sq fc ov l) (fun k => by simp only [impl_Board_next.l0]; rw [if_pos (by omega), if_pos (by omega), if_pos (by omega), if_pos c, w64 (by omega) (by omega)]) ?_
      have := ih (i + 1) acc (by omega) ha hna (by rw [c] at hs; omega)
      rwa [hc] at this
    · rw [if_neg c]
      refine Ev.step (f := fun k => (impl_Board_landings.f k sq fc ov l i).bind fun t => impl_Board_next.l1 k acc (rd now i) now now.length i t t.length 0 sq fc ov l) (fun k => by simp only [impl_Board_next.l0]; rw [if_pos (by omega), if_pos (by omega), if_pos (by omega), if_neg c]) ?_
      refine Ev.bind (landings_ev h (by omega) (by omega)) ?_
      have hL := lands_len h (i : Int)
      have hin := lands_in h (s := (i : Int)) (by omega) (by omega)
      have e2 : (((lands sq fc ov l i).length : Int)) * rd now i = fc * rd now i := by rw [hL]
      have h3 := ih (i + 1) (addTo acc (rd now i) (lands sq fc ov l i)) (by omega) (by rw [addTo_len]; exact ha) (addTo_nn h0 _ hna) (by rw [addTo_sum _ (fun t ht => by have := hin t ht; omega), e2]; omega)
      rw [hc] at h3
      exact next_l1 h now i hi' (by omega) (lands sq fc ov l i) (by omega) h0 _ (lands sq fc ov l i).length 0 acc (by omega) ha hna hin (by rw [e2]; omega) h3
theorem next_ev (h : bOK sq fc ov l = true) {now : List Int} (hlen : now.length = (sq + 1).toNat) (hnn : nn now) (hs : fc * now.sum ≤ 2305843009213693952) :
    Ev (fun k => impl_Board_next.f k sq fc ov l now) (stepP (lands sq fc ov l) (sq + 1).toNat now) := by
  have hb := bOK_J h
  have := next_l0 h now hlen hnn now.length 0 (List.replicate (sq + 1).toNat 0) (by omega) (by simp) (nn_rep _) (by simpa using hs)
  refine Ev.congr (fun k => ?_) this
  unfold impl_Board_next.f
  rw [w64 (by omega) (by omega), if_pos (by omega), if_pos (by omega)]
  rfl
theorem startOf_eq (h : bOK sq fc ov l = true) {s : Int} (h0 : 0 ≤ s) (h1 : s ≤ sq) : impl_Board_startOf.f sq fc ov l s = some (startP (sq + 1).toNat s) := by
  have hb := bOK_J h
  unfold impl_Board_startOf.f
  rw [w64 (by omega) (by omega), if_pos (by omega), if_pos (by omega)]
  simp only [Option.bind_some]
  rw [if_pos h0, if_pos (by simp; omega)]
  rfl
theorem places_l0 (h : bOK sq fc ov l = true) (T : Nat) (hT : T ≤ 20) (d : Nat) : ∀ (i : Nat) (now : List Int), i + d = T → now.length = (sq + 1).toNat → nn now → now.sum = fc ^ i →
    Ev (fun k => impl_Board_places.l0 k now T i sq fc ov l) (placesP (lands sq fc ov l) (sq + 1).toNat now d) := by
  have hb := bOK_J h
  induction d with
  | zero =>
    intro i now hi hl hn hs
    exact Ev.step (f := fun _ => some now) (fun k => by simp only [impl_Board_places.l0]; rw [if_neg (by omega)]) (Ev.now _)
  | succ d ih =>
    intro i now hi hl hn hs
    have hf := step_facts h hl hn
    refine Ev.step (f := fun k => (impl_Board_next.f k sq fc ov l now).bind fun t => impl_Board_places.l0 k t T ((i : Int) + 1) sq fc ov l) (fun k => by simp only [impl_Board_places.l0]; rw [if_pos (by omega), w64 (by omega) (by omega)]) ?_
    refine Ev.bind (next_ev h hl hn ?_) ?_
    · rw [hs, Int.mul_comm, ← Int.pow_succ]
      exact Int.le_trans (pow_le hb.2.2.2.1 hb.2.2.2.2.1 (i + 1) (by omega)).2 (by decide)
    · have := ih (i + 1) (stepP (lands sq fc ov l) (sq + 1).toNat now) (by omega) (stepP_len _ _ _) hf.1 (by rw [hf.2, hs, Int.mul_comm, ← Int.pow_succ])
      simpa [placesP] using this
theorem places_ev (h : bOK sq fc ov l = true) {s t : Int} (h0 : 0 ≤ s) (h1 : s ≤ sq) (ht : 0 ≤ t) (ht2 : t ≤ 20) : Ev (fun k => impl_Board_places.f k sq fc ov l s t) (placesP (lands sq fc ov l) (sq + 1).toNat (startP (sq + 1).toNat s) t.toNat) := by
  have hb := bOK_J h
  have hs := start_facts h h0 h1
  have := places_l0 h t.toNat (by omega) t.toNat 0 (startP (sq + 1).toNat s) (by omega) hs.1 hs.2.1 (by simpa using hs.2.2)
  refine Ev.congr (fun k => ?_) this
  unfold impl_Board_places.f
  rw [startOf_eq h h0 h1]
  simp only [Option.bind_some]
  rw [show ((t.toNat : Nat) : Int) = t by omega]
  rfl
end
section
variable {sq fc ov : Int} {l : List S126}
theorem rd_dropS {r : List Int} {i : Nat} (hi : i < r.length) : r.drop i = rd r i :: r.drop (i + 1) := by
  rw [List.drop_eq_getElem_cons hi]
  simp [rd, hi]
theorem chP_l2 (h : bOK sq fc ov l = true) (x2 : Int) (now : List Int) (i : Nat) (hi : i < now.length) (hlen : now.length = (sq + 1).toNat) (hn : 0 ≤ rd now i) (r : List Int) (d : Nat) :
    ∀ (f : Int) (acc : List Int), 1 ≤ f → f + d = fc + 1 → acc.length = (sq + 1).toNat → nn acc → acc.sum + d * rd now i ≤ 2305843009213693952 →
    Ev (fun k => spec_chPlaces.l1 k x2 (addTo acc (rd now i) (landsN sq ov l i d f)) now now.length ((i : Int) + 1) sq fc ov l) r →
    Ev (fun k => spec_chPlaces.l2 k x2 acc i (rd now i) f now now.length i sq fc ov l) r := by
  have hb := bOK_J h
  induction d with
  | zero =>
    intro f acc hf hd ha hna hs H
    exact Ev.step (f := fun k => spec_chPlaces.l1 k x2 acc now now.length ((i : Int) + 1) sq fc ov l) (fun k => by simp only [spec_chPlaces.l2]; rw [if_neg (by omega), w64 (by omega) (by omega)]) H
  | succ d ih =>
    intro f acc hf hd ha hna hs H
    rw [landsN, addTo] at H
    have h1 := thr_in h (s := (i : Int)) (f := f) (by omega) (by omega) hf
    have h2 := rd_in hna (thr sq ov l i f)
    have h4 : ((d + 1 : Nat) : Int) * rd now i = d * rd now i + rd now i := by rw [Int.natCast_add, Int.add_mul]; simp
    have h5 : 0 ≤ (d : Int) * rd now i := Int.mul_nonneg (by omega) hn
    refine Ev.step (f := fun k => spec_chPlaces.l2 k x2 (acc.set (thr sq ov l i f).toNat (rd acc (thr sq ov l i f) + rd now i)) i (rd now i) (f + 1) now now.length i sq fc ov l) (fun k => by
      simp only [spec_chPlaces.l2]
      rw [if_pos (by omega), spec_thr h (by omega) (by omega) hf (by omega)]
      simp only [Option.bind_some]
      rw [if_pos h1.1, if_pos (by omega), w64 (by omega) (by omega), w64 (by omega) (by omega)]) ?_
    exact ih (f + 1) _ (by omega) (by omega) (by simpa using ha) (nn_set hna _ (by omega)) (by rw [sum_set _ _ _ (by omega)]; show acc.sum - rd acc _ + _ + _ ≤ _; omega) H
theorem chP_l1 (h : bOK sq fc ov l = true) (x2 : Int) (now : List Int) (hlen : now.length = (sq + 1).toNat) (hnn : nn now) (r : List Int) (d : Nat) : ∀ (i : Nat) (acc : List Int), i + d = now.length → acc.length = (sq + 1).toNat → nn acc → acc.sum + fc * (now.drop i).sum ≤ 2305843009213693952 →
    Ev (fun k => spec_chPlaces.l0 k (wrap64 (x2 - 1)) (stepFrom (lands sq fc ov l) acc i (now.drop i)) sq fc ov l) r →
    Ev (fun k => spec_chPlaces.l1 k x2 acc now now.length i sq fc ov l) r := by
  have hb := bOK_J h
  induction d with
  | zero =>
    intro i acc hi ha hna hs H
    rw [List.drop_eq_nil_of_le (by omega)] at H
    exact Ev.step (f := fun k => spec_chPlaces.l0 k (wrap64 (x2 - 1)) acc sq fc ov l) (fun k => by simp only [spec_chPlaces.l1]; rw [if_neg (by omega)]) H
  | succ d ih =>
    intro i acc hi ha hna hs H
    have hi' : i < now.length := by omega
    have h0 : 0 ≤ rd now i := (rd_in hnn i).1
    rw [rd_dropS hi', List.sum_cons, Int.mul_add] at hs
    rw [rd_dropS hi', stepFrom] at H
    have hc : (((i + 1 : Nat)) : Int) = (i : Int) + 1 := by omega
    have hs1 : 0 ≤ fc * (now.drop (i + 1)).sum := Int.mul_nonneg (by omega) (sum_nn (fun x hx => hnn x (List.mem_of_mem_drop hx)))
    by_cases c : rd now i = 0
    · rw [if_pos c] at H
      refine Ev.step (f := fun k => spec_chPlaces.l1 k x2 acc now now.length ((i : Int) + 1) sq fc ov l) (fun k => by simp only [spec_chPlaces.l1]; rw [if_pos (by omega), if_pos (by omega), if_pos (by omega), if_neg (by omega), w64 (by omega) (by omega)]) ?_
      rw [← hc] at H ⊢
      exact ih (i + 1) acc (by omega) ha hna (by rw [c] at hs; omega) H
    · rw [if_neg c] at H
      have hL := lands_len h (i : Int)
      have hin := lands_in h (s := (i : Int)) (by omega) (by omega)
      have e2 : (((lands sq fc ov l i).length : Int)) * rd now i = fc * rd now i := by rw [hL]
      have e3 : ((fc.toNat : Nat) : Int) = fc := by omega
      refine Ev.step (f := fun k => spec_chPlaces.l2 k x2 acc i (rd now i) 1 now now.length i sq fc ov l) (fun k => by simp only [spec_chPlaces.l1]; rw [if_pos (by omega), if_pos (by omega), if_pos (by omega), if_pos (by omega)]) ?_
      refine chP_l2 h x2 now i hi' hlen h0 r fc.toNat 1 acc (by omega) (by omega) ha hna (by rw [e3]; omega) ?_
      have := ih (i + 1) (addTo acc (rd now i) (lands sq fc ov l i)) (by omega) (by rw [addTo_len]; exact ha) (addTo_nn h0 _ hna) (by rw [addTo_sum _ (fun t ht => by have := hin t ht; omega), e2]; omega)
      rw [hc] at this
      exact this H
theorem chP_l0 (h : bOK sq fc ov l = true) (d : Nat) : ∀ (i : Nat) (now : List Int), i + d ≤ 20 → now.length = (sq + 1).toNat → nn now → now.sum = fc ^ i →
    Ev (fun k => spec_chPlaces.l0 k d now sq fc ov l) (placesP (lands sq fc ov l) (sq + 1).toNat now d) := by
  have hb := bOK_J h
  induction d with
  | zero =>
    intro i now hi hl hn hs
    exact Ev.step (f := fun _ => some now) (fun k => by simp only [spec_chPlaces.l0]; rw [if_neg (by omega)]) (Ev.now _)
  | succ d ih =>
    intro i now hi hl hn hs
    have hf := step_facts h hl hn
    refine Ev.step (f := fun k => spec_chPlaces.l1 k ((d + 1 : Nat) : Int) (List.replicate (sq + 1).toNat 0) now now.length ((0 : Nat) : Int) sq fc ov l) (fun k => by simp only [spec_chPlaces.l0]; rw [if_pos (by omega), w64 (x := sq + 1) (by omega) (by omega), if_pos (by omega), if_pos (by omega)]; rfl) ?_
    refine chP_l1 h _ now hl hn _ now.length 0 (List.replicate (sq + 1).toNat 0) (by omega) (by simp) (nn_rep _) ?_ ?_
    · have := (pow_le hb.2.2.2.1 hb.2.2.2.2.1 (i + 1) (by omega)).2
      rw [List.drop_zero, hs, Int.mul_comm, ← Int.pow_succ]
      simp only [List.sum_replicate_int, Int.mul_zero, Int.zero_add]
      exact Int.le_trans this (by decide)
    · rw [w64 (by omega) (by omega), show (((d + 1 : Nat) : Int) - 1) = (d : Int) by omega]
      exact ih (i + 1) (stepP (lands sq fc ov l) (sq + 1).toNat now) (by omega) (stepP_len _ _ _) hf.1 (by rw [hf.2, hs, Int.mul_comm, ← Int.pow_succ])
theorem chP_ev (h : bOK sq fc ov l = true) {s t : Int} (h0 : 0 ≤ s) (h1 : s ≤ sq) (ht : 0 ≤ t) (ht2 : t ≤ 20) : Ev (fun k => spec_chPlaces.f k sq fc ov l s t) (placesP (lands sq fc ov l) (sq + 1).toNat (startP (sq + 1).toNat s) t.toNat) := by
  have hb := bOK_J h
  have hs := start_facts h h0 h1
  have := chP_l0 h t.toNat 0 (startP (sq + 1).toNat s) (by omega) hs.1 hs.2.1 (by simpa using hs.2.2)
  refine Ev.congr (fun k => ?_) this
  unfold spec_chPlaces.f
  rw [w64 (by omega) (by omega), if_pos (by omega), if_pos (by omega)]
  simp only [Option.bind_some]
  rw [if_pos h0, if_pos (by simp; omega), show ((t.toNat : Nat) : Int) = t by omega]
  rfl
end
section
variable {sq fc ov : Int} {l : List S126}
theorem chAsked_eq (s t : Int) : spec_chAsked.f sq fc ov l s t = some (bOK sq fc ov l && sqr sq l s && inn t 0 20) := by
  unfold spec_chAsked.f spec_sqAsked.f spec_l1In.f
  rw [asked_eq]
  cases bOK sq fc ov l && sqr sq l s <;> simp
theorem isThrown_eq (t m : Int) (xs : List Int) : impl_isThrown.f sq fc ov l t m xs = some (bOK sq fc ov l && xs.all (sqr sq l) && inn t 0 m) := by
  unfold impl_isThrown.f impl_areSquares.f impl_within.f
  simp only [Option.bind_some]
  cases bOK sq fc ov l && xs.all (sqr sq l) <;> simp
end
section
variable {sq fc ov : Int} {l : List S126}
theorem met_l2 (h : bOK sq fc ov l = true) (q t m x : Int) (now : List Int) (i : Nat) (hi : i < now.length) (hlen : now.length = (sq + 1).toNat) (hn : 0 ≤ rd now i) (r : Int × Int × Bool) (d : Nat) :
    ∀ (f : Int) (acc : List Int), 1 ≤ f → f + d = fc + 1 → acc.length = (sq + 1).toNat → nn acc → acc.sum + d * rd now i ≤ 2305843009213693952 →
    Ev (fun k => spec_PartMet.l1 k q t m x (addTo acc (rd now i) (landsN sq ov l i d f)) now now.length ((i : Int) + 1) sq fc ov l) r →
    Ev (fun k => spec_PartMet.l2 k q t m x acc i (rd now i) f now now.length i sq fc ov l) r := by
  have hb := bOK_J h
  induction d with
  | zero =>
    intro f acc hf hd ha hna hs H
    exact Ev.step (f := fun k => spec_PartMet.l1 k q t m x acc now now.length ((i : Int) + 1) sq fc ov l) (fun k => by simp only [spec_PartMet.l2]; rw [if_neg (by omega), w64 (by omega) (by omega)]) H
  | succ d ih =>
    intro f acc hf hd ha hna hs H
    rw [landsN, addTo] at H
    have h1 := thr_in h (s := (i : Int)) (f := f) (by omega) (by omega) hf
    have h2 := rd_in hna (thr sq ov l i f)
    have h4 : ((d + 1 : Nat) : Int) * rd now i = d * rd now i + rd now i := by rw [Int.natCast_add, Int.add_mul]; simp
    have h5 : 0 ≤ (d : Int) * rd now i := Int.mul_nonneg (by omega) hn
    refine Ev.step (f := fun k => spec_PartMet.l2 k q t m x (acc.set (thr sq ov l i f).toNat (rd acc (thr sq ov l i f) + rd now i)) i (rd now i) (f + 1) now now.length i sq fc ov l) (fun k => by
      simp only [spec_PartMet.l2]
      rw [if_pos (by omega), spec_thr h (by omega) (by omega) hf (by omega)]
      simp only [Option.bind_some]
      rw [if_pos h1.1, if_pos (by omega), w64 (by omega) (by omega), w64 (by omega) (by omega)]) ?_
    exact ih (f + 1) _ (by omega) (by omega) (by simpa using ha) (nn_set hna _ (by omega)) (by rw [sum_set _ _ _ (by omega)]; show acc.sum - rd acc _ + _ + _ ≤ _; omega) H
theorem met_l1 (h : bOK sq fc ov l = true) (q t m x : Int) (now : List Int) (hlen : now.length = (sq + 1).toNat) (hnn : nn now) (r : Int × Int × Bool) (d : Nat) : ∀ (i : Nat) (acc : List Int), i + d = now.length → acc.length = (sq + 1).toNat → nn acc → acc.sum + fc * (now.drop i).sum ≤ 2305843009213693952 →
    Ev (fun k => spec_PartMet.l0 k q t (stepFrom (lands sq fc ov l) acc i (now.drop i)) m (wrap64 (x - 1)) sq fc ov l) r →
    Ev (fun k => spec_PartMet.l1 k q t m x acc now now.length i sq fc ov l) r := by
  have hb := bOK_J h
  induction d with
  | zero =>
    intro i acc hi ha hna hs H
    rw [List.drop_eq_nil_of_le (by omega)] at H
    exact Ev.step (f := fun k => spec_PartMet.l0 k q t acc m (wrap64 (x - 1)) sq fc ov l) (fun k => by simp only [spec_PartMet.l1]; rw [if_neg (by omega)]) H
  | succ d ih =>
    intro i acc hi ha hna hs H
    have hi' : i < now.length := by omega
    have h0 : 0 ≤ rd now i := (rd_in hnn i).1
    rw [rd_dropS hi', List.sum_cons, Int.mul_add] at hs
    rw [rd_dropS hi', stepFrom] at H
    have hc : (((i + 1 : Nat)) : Int) = (i : Int) + 1 := by omega
    have hs1 : 0 ≤ fc * (now.drop (i + 1)).sum := Int.mul_nonneg (by omega) (sum_nn (fun x hx => hnn x (List.mem_of_mem_drop hx)))
    by_cases c : rd now i = 0
    · rw [if_pos c] at H
      refine Ev.step (f := fun k => spec_PartMet.l1 k q t m x acc now now.length ((i : Int) + 1) sq fc ov l) (fun k => by simp only [spec_PartMet.l1]; rw [if_pos (by omega), if_pos (by omega), if_pos (by omega), if_neg (by omega), w64 (by omega) (by omega)]) ?_
      rw [← hc] at H ⊢
      exact ih (i + 1) acc (by omega) ha hna (by rw [c] at hs; omega) H
    · rw [if_neg c] at H
      have hL := lands_len h (i : Int)
      have hin := lands_in h (s := (i : Int)) (by omega) (by omega)
      have e2 : (((lands sq fc ov l i).length : Int)) * rd now i = fc * rd now i := by rw [hL]
      have e3 : ((fc.toNat : Nat) : Int) = fc := by omega
      refine Ev.step (f := fun k => spec_PartMet.l2 k q t m x acc i (rd now i) 1 now now.length i sq fc ov l) (fun k => by simp only [spec_PartMet.l1]; rw [if_pos (by omega), if_pos (by omega), if_pos (by omega), if_pos (by omega)]) ?_
      refine met_l2 h q t m x now i hi' hlen h0 r fc.toNat 1 acc (by omega) (by omega) ha hna (by rw [e3]; omega) ?_
      have := ih (i + 1) (addTo acc (rd now i) (lands sq fc ov l i)) (by omega) (by rw [addTo_len]; exact ha) (addTo_nn h0 _ hna) (by rw [addTo_sum _ (fun t ht => by have := hin t ht; omega), e2]; omega)
      rw [hc] at this
      exact this H
def missP (L : Int → List Int) (m : Nat) (q : Int) (now : List Int) : Nat → List Int
  | 0 => now.set q.toNat 0
  | d + 1 => missP L m q (stepP L m (now.set q.toNat 0)) d
theorem sum_set0 {now : List Int} {q : Int} (h0 : 0 ≤ q) (h1 : q < (now.length : Int)) : (now.set q.toNat 0).sum = now.sum - rd now q := by
  rw [sum_set _ _ _ (by omega)]; show now.sum - rd now q + 0 = _; omega
theorem miss_le (h : bOK sq fc ov l = true) {q : Int} (h0 : 0 ≤ q) (h1 : q ≤ sq) : ∀ (d : Nat) (now : List Int), now.length = (sq + 1).toNat → nn now → 0 ≤ (missP (lands sq fc ov l) (sq + 1).toNat q now d).sum ∧ (missP (lands sq fc ov l) (sq + 1).toNat q now d).sum ≤ fc ^ d * now.sum
  | 0, now, hl, hn => by
    have hb := bOK_J h
    have hn' := nn_set hn q.toNat (Int.le_refl 0)
    refine ⟨sum_nn hn', ?_⟩
    have := (rd_in hn q).1
    rw [missP, sum_set0 h0 (by omega)]; simp; omega
  | d + 1, now, hl, hn => by
    have hb := bOK_J h
    have hn' := nn_set hn q.toNat (Int.le_refl 0)
    have hf := step_facts h (now := now.set q.toNat 0) (by simpa using hl) hn'
    obtain ⟨g1, g2⟩ := miss_le h h0 h1 d _ (stepP_len (lands sq fc ov l) (sq + 1).toNat (now.set q.toNat 0)) hf.1
    refine ⟨g1, Int.le_trans g2 ?_⟩
    have hr := (rd_in hn q).1
    rw [hf.2, Int.pow_succ, Int.mul_assoc]
    refine Int.mul_le_mul_of_nonneg_left (Int.mul_le_mul_of_nonneg_left ?_ (by omega)) ?_
    · rw [sum_set0 h0 (by omega)]; omega
    · exact Int.pow_nonneg (by omega)
theorem met_l0 (h : bOK sq fc ov l = true) {q t : Int} (h0 : 0 ≤ q) (h1 : q ≤ sq) (ht0 : 0 ≤ t) (ht2 : t ≤ 20) (d : Nat) : ∀ (i : Nat) (m : Int) (now : List Int), i + d = t.toNat → now.length = (sq + 1).toNat → nn now → now.sum ≤ fc ^ i → 0 ≤ m → m + now.sum * fc ^ d = fc ^ t.toNat →
    Ev (fun k => spec_PartMet.l0 k q t now m d sq fc ov l) ((lowP (fc ^ t.toNat - (missP (lands sq fc ov l) (sq + 1).toNat q now d).sum) (fc ^ t.toNat)).1, (lowP (fc ^ t.toNat - (missP (lands sq fc ov l) (sq + 1).toNat q now d).sum) (fc ^ t.toNat)).2, true) := by
  have hb := bOK_J h
  have hp := pow_le hb.2.2.2.1 hb.2.2.2.2.1 t.toNat (by omega)
  induction d with
  | zero =>
    intro i m now hi hl hn hs hm e
    have hr := rd_in hn q
    simp only [Int.pow_zero, Int.mul_one] at e
    have e2 : fc ^ t.toNat - (missP (lands sq fc ov l) (sq + 1).toNat q now 0).sum = m + rd now q := by rw [missP, sum_set0 h0 (by omega)]; omega
    rw [e2]
    refine Ev.step (f := fun k => (spec_chAll.f k sq fc ov l 0).bind fun c => (spec_chPart.f k sq fc ov l (wrap64 (m + wrap64 (rd now q * c))) t).bind fun b => some (b.1, b.2.1, b.2.2)) (fun k => by simp only [spec_PartMet.l0]; rw [if_pos h0, if_pos (by omega)]; simp) ?_
    refine Ev.bind (chAll_ev hb.2.2.2.1 hb.2.2.2.2.1 (Int.le_refl 0) (by omega)) ?_
    simp only [Int.toNat_zero, Int.pow_zero, Int.mul_one, w64 (x := rd now q) (by omega) (by omega), w64 (x := m + rd now q) (by omega) (by omega)]
    exact Ev.bind (chPart_ev hb.2.2.2.1 hb.2.2.2.2.1 ht0 ht2 (by omega) (by omega)) (Ev.now _)
  | succ d ih =>
    intro i m now hi hl hn hs hm e
    have hr := rd_in hn q
    have hpd := pow_le hb.2.2.2.1 hb.2.2.2.2.1 (d + 1) (by omega)
    have hn' := nn_set hn q.toNat (Int.le_refl 0)
    have hl' : (now.set q.toNat 0).length = (sq + 1).toNat := by simpa using hl
    have hf := step_facts h hl' hn'
    have hs' := sum_set0 (now := now) h0 (by omega)
    have hmul0 : 0 ≤ rd now q * fc ^ (d + 1) := Int.mul_nonneg hr.1 (by omega)
    have hmul1 : rd now q * fc ^ (d + 1) ≤ now.sum * fc ^ (d + 1) := Int.mul_le_mul_of_nonneg_right hr.2 (by omega)
    have hsn := sum_nn hn
    have hsn' := sum_nn hn'
    have hfi : fc * (now.set q.toNat 0).sum ≤ fc ^ (i + 1) := by
      rw [Int.pow_succ, Int.mul_comm]
      exact Int.mul_le_mul_of_nonneg_right (by omega) (by omega)
    have hpi := pow_le hb.2.2.2.1 hb.2.2.2.2.1 (i + 1) (by omega)
    refine Ev.step (f := fun k => (spec_chAll.f k sq fc ov l ((d + 1 : Nat) : Int)).bind fun c => spec_PartMet.l1 k q t (wrap64 (m + wrap64 (rd now q * c))) ((d + 1 : Nat) : Int) (List.replicate (sq + 1).toNat 0) (now.set q.toNat 0) now.length 0 sq fc ov l) (fun k => by
      simp only [spec_PartMet.l0]
      simp only [if_pos h0, if_pos (show q < (now.length : Int) by omega), w64 (x := sq + 1) (by omega) (by omega), if_pos (show 0 ≤ sq + 1 by omega), if_pos (show (sq + 1).toNat ≤ 35184372088832 by omega), if_neg (show ¬ (((d + 1 : Nat) : Int) = 0) by omega)]) ?_
    refine Ev.bind (chAll_ev hb.2.2.2.1 hb.2.2.2.2.1 (by omega) (by omega)) ?_
    simp only [Int.toNat_natCast, w64 (x := rd now q * fc ^ (d + 1)) (by omega) (by omega), w64 (x := m + rd now q * fc ^ (d + 1)) (by omega) (by omega)]
    have := met_l1 h q t (m + rd now q * fc ^ (d + 1)) ((d + 1 : Nat) : Int) (now.set q.toNat 0) hl' hn' ((lowP (fc ^ t.toNat - (missP (lands sq fc ov l) (sq + 1).toNat q now (d + 1)).sum) (fc ^ t.toNat)).1, (lowP (fc ^ t.toNat - (missP (lands sq fc ov l) (sq + 1).toNat q now (d + 1)).sum) (fc ^ t.toNat)).2, true) (now.set q.toNat 0).length 0 (List.replicate (sq + 1).toNat 0) (by omega) (by simp) (nn_rep _) (by simp; omega) (by
        rw [w64 (by omega) (by omega), show (((d + 1 : Nat) : Int) - 1) = (d : Int) by omega]
        refine ih (i + 1) _ (stepP (lands sq fc ov l) (sq + 1).toNat (now.set q.toNat 0)) (by omega) (stepP_len _ _ _) hf.1 (by rw [hf.2]; exact hfi) (by omega) ?_
        rw [hf.2, hs', Int.mul_comm fc, Int.mul_assoc, ← Int.mul_comm (fc ^ d) fc, ← Int.pow_succ, Int.sub_mul]
        simp only [Nat.succ_eq_add_one]
        omega)
    simpa using this
theorem missI_l1 {sq fc ov : Int} {l : List S126} {t all : Int} (h1 : 1 ≤ fc) (h8 : fc ≤ 8) (ht : 0 ≤ t) (ht2 : t ≤ 20) (hA : all = fc ^ t.toNat) (hA2 : all ≤ 1152921504606846976) (P : List Int) (hP : P.length ≤ 101) (hn : nn P) (hs : P.sum ≤ all) (d : Nat) : ∀ (i : Nat) (a : Int), i + d = P.length → 0 ≤ a → a + (P.drop i).sum = P.sum →
    Ev (fun k => impl_PartMet.l1 k t all a P P.length i sq fc ov l) ((lowP (all - P.sum) (fc ^ t.toNat)).1, (lowP (all - P.sum) (fc ^ t.toNat)).2, true) := by
  induction d with
  | zero =>
    intro i a hi ha e
    rw [List.drop_eq_nil_of_le (by omega)] at e
    simp only [List.sum_nil, Int.add_zero] at e
    subst e
    refine Ev.step (f := fun k => (impl_Board_part.f k sq fc ov l (all - P.sum) t).bind fun b => some (b.1, b.2.1, b.2.2)) (fun k => by simp only [impl_PartMet.l1]; rw [if_neg (by omega), w64 (by omega) (by omega)]) ?_
    exact Ev.bind (part_ev h1 h8 ht ht2 (by omega) (by omega)) (Ev.now _)
  | succ d ih =>
    intro i a hi ha e
    have hi' : i < P.length := by omega
    rw [rd_dropS hi', List.sum_cons] at e
    have hr := rd_in hn (i : Int)
    have hw := sum_nn (l := P.drop (i + 1)) (fun x hx => hn x (List.mem_of_mem_drop hx))
    refine Ev.step (f := fun k => impl_PartMet.l1 k t all (a + rd P i) P P.length ((i : Int) + 1) sq fc ov l) (fun k => by simp only [impl_PartMet.l1]; rw [if_pos (by omega), if_pos (by omega), if_pos (by omega), w64 (x := a + rd P i) (by omega) (by omega), w64 (by omega) (by omega)]) ?_
    have := ih (i + 1) (a + rd P i) (by omega) (by omega) (by omega)
    rwa [show ((i + 1 : Nat) : Int) = (i : Int) + 1 by omega] at this
theorem missI_l0 (h : bOK sq fc ov l = true) {q t : Int} (h0 : 0 ≤ q) (h1 : q ≤ sq) (ht0 : 0 ≤ t) (ht2 : t ≤ 20) (d : Nat) : ∀ (i : Nat) (now : List Int), i + d = t.toNat → now.length = (sq + 1).toNat → nn now → now.sum ≤ fc ^ i →
    Ev (fun k => impl_PartMet.l0 k q t (fc ^ t.toNat) (now.set q.toNat 0) t i sq fc ov l) ((lowP (fc ^ t.toNat - (missP (lands sq fc ov l) (sq + 1).toNat q now d).sum) (fc ^ t.toNat)).1, (lowP (fc ^ t.toNat - (missP (lands sq fc ov l) (sq + 1).toNat q now d).sum) (fc ^ t.toNat)).2, true) := by
  have hb := bOK_J h
  have hp := pow_le hb.2.2.2.1 hb.2.2.2.2.1 t.toNat (by omega)
  induction d with
  | zero =>
    intro i now hi hl hn hs
    have hn' := nn_set hn q.toNat (Int.le_refl 0)
    have hr := (rd_in hn q).1
    have hs' := sum_set0 (now := now) h0 (by omega)
    rw [show i = t.toNat by omega] at hs
    refine Ev.step (f := fun k => impl_PartMet.l1 k t (fc ^ t.toNat) 0 (now.set q.toNat 0) (now.set q.toNat 0).length ((0 : Nat) : Int) sq fc ov l) (fun k => by simp only [impl_PartMet.l0]; rw [if_neg (by omega)]; rfl) ?_
    exact missI_l1 hb.2.2.2.1 hb.2.2.2.2.1 ht0 ht2 rfl hp.2 (now.set q.toNat 0) (by simp; omega) hn' (by omega) (now.set q.toNat 0).length 0 0 (by omega) (by omega) (by simp)
  | succ d ih =>
    intro i now hi hl hn hs
    have hn' := nn_set hn q.toNat (Int.le_refl 0)
    have hl' : (now.set q.toNat 0).length = (sq + 1).toNat := by simpa using hl
    have hr := (rd_in hn q).1
    have hs' := sum_set0 (now := now) h0 (by omega)
    have hf := step_facts h hl' hn'
    have hfi : fc * (now.set q.toNat 0).sum ≤ fc ^ (i + 1) := by
      rw [Int.pow_succ, Int.mul_comm]
      exact Int.mul_le_mul_of_nonneg_right (by omega) (by omega)
    have hpi := pow_le hb.2.2.2.1 hb.2.2.2.2.1 (i + 1) (by omega)
    refine Ev.step (f := fun k => (impl_Board_next.f k sq fc ov l (now.set q.toNat 0)).bind fun p => if 0 ≤ q then (if q < (p.length : Int) then impl_PartMet.l0 k q t (fc ^ t.toNat) (p.set q.toNat 0) t ((i : Int) + 1) sq fc ov l else none) else none) (fun k => by simp only [impl_PartMet.l0]; rw [if_pos (by omega), w64 (by omega) (by omega)]) ?_
    refine Ev.bind (next_ev h hl' hn' (Int.le_trans hfi (Int.le_trans hpi.2 (by decide)))) ?_
    simp only [if_pos h0, stepP_len, if_pos (show q < (((sq + 1).toNat : Nat) : Int) by omega)]
    have := ih (i + 1) (stepP (lands sq fc ov l) (sq + 1).toNat (now.set q.toNat 0)) (by omega) (stepP_len _ _ _) hf.1 (by rw [hf.2]; exact hfi)
    rwa [show ((i + 1 : Nat) : Int) = (i : Int) + 1 by omega] at this
theorem PartMet_ev (s q t : Int) : ∃ r, Ev (fun k => spec_PartMet.f k sq fc ov l s q t) r ∧ Ev (fun k => impl_PartMet.f k sq fc ov l s q t) r := by
  have e1 := chAsked_eq (sq := sq) (fc := fc) (ov := ov) (l := l) s t
  have e2 := isThrown_eq (sq := sq) (fc := fc) (ov := ov) (l := l) t 20 [s, q]
  simp only [List.all_cons, List.all_nil, Bool.and_true] at e2
  rcases Bool.eq_false_or_eq_true (bOK sq fc ov l && (sqr sq l s && sqr sq l q) && inn t 0 20) with c | c
  · rw [c] at e2
    simp only [Bool.and_eq_true, inn_iff] at c
    obtain ⟨⟨h, hs, hq⟩, ht0, ht2⟩ := c
    rw [h, hs, inn_iff.2 ⟨ht0, ht2⟩] at e1
    have hb := bOK_J h
    have h0 := sqr_in hs
    have h1 := sqr_in hq
    have hst := start_facts h h0.1 h0.2
    refine ⟨((lowP (fc ^ t.toNat - (missP (lands sq fc ov l) (sq + 1).toNat q (startP (sq + 1).toNat s) t.toNat).sum) (fc ^ t.toNat)).1, (lowP (fc ^ t.toNat - (missP (lands sq fc ov l) (sq + 1).toNat q (startP (sq + 1).toNat s) t.toNat).sum) (fc ^ t.toNat)).2, true), ?_, ?_⟩
    · refine Ev.congr (f := fun k => spec_PartMet.j0 k s q t false sq fc ov l) (fun k => ?_) ?_
      · simp [spec_PartMet.f, e1, spec_sqSquare.f, sqs_eq h, hq]
      · refine Ev.step (f := fun k => spec_PartMet.l0 k q t (startP (sq + 1).toNat s) 0 ((t.toNat : Nat) : Int) sq fc ov l) (fun k => by
          simp only [spec_PartMet.j0]
          rw [if_neg (by simp), w64 (by omega) (by omega), if_pos (by omega), if_pos (by omega)]
          simp only [Option.bind_some]
          rw [if_pos h0.1, if_pos (by simp; omega), show ((t.toNat : Nat) : Int) = t by omega]
          rfl) ?_
        exact met_l0 h h1.1 h1.2 ht0 ht2 t.toNat 0 0 (startP (sq + 1).toNat s) (by omega) hst.1 hst.2.1 (by rw [hst.2.2]; simp) (by omega) (by rw [hst.2.2]; simp)
    · refine Ev.congr (f := fun k => (impl_power.f k fc t).bind fun c => impl_PartMet.l0 k q t c ((startP (sq + 1).toNat s).set q.toNat 0) t ((0 : Nat) : Int) sq fc ov l) (fun k => ?_) ?_
      · unfold impl_PartMet.f
        rw [e2, startOf_eq h h0.1 h0.2]
        simp only [Option.bind_some, if_true, if_pos h1.1, if_pos (show q < ((startP (sq + 1).toNat s).length : Int) by rw [hst.1]; omega)]
        rfl
      · refine Ev.bind (power_ev hb.2.2.2.1 hb.2.2.2.2.1 ht0 ht2) ?_
        exact missI_l0 h h1.1 h1.2 ht0 ht2 t.toNat 0 (startP (sq + 1).toNat s) (by omega) hst.1 hst.2.1 (by rw [hst.2.2]; simp)
  · rw [c] at e2
    refine ⟨(0, 0, false), ?_, Ev.congr (f := fun _ => some (0, 0, false)) (fun k => by simp [impl_PartMet.f, e2]) (Ev.now _)⟩
    have hj : Ev (fun k => spec_PartMet.j0 k s q t true sq fc ov l) (0, 0, false) := Ev.step (f := fun _ => some (0, 0, false)) (fun k => by simp [spec_PartMet.j0]) (Ev.now _)
    refine Ev.congr (f := fun k => spec_PartMet.j0 k s q t true sq fc ov l) (fun k => ?_) hj
    unfold spec_PartMet.f
    rw [e1]
    simp only [Option.bind_some]
    cases h : bOK sq fc ov l && sqr sq l s && inn t 0 20 with
    | false => rfl
    | true =>
      simp only [Bool.and_eq_true] at h
      have hq : sqr sq l q = false := by simpa [h.1.1, h.1.2, h.2] using c
      simp [spec_sqSquare.f, sqs_eq h.1.1, hq]
end
section
variable {sq fc ov : Int} {l : List S126}
theorem PartAt_ev (s q t : Int) : ∃ r, Ev (fun k => spec_PartAt.f k sq fc ov l s q t) r ∧ Ev (fun k => impl_PartAt.f k sq fc ov l s q t) r := by
  rcases Bool.eq_false_or_eq_true (bOK sq fc ov l && (sqr sq l s && sqr sq l q) && inn t 0 20) with c | c
  · simp only [Bool.and_eq_true, inn_iff] at c
    obtain ⟨⟨h, hs, hq⟩, ht0, ht2⟩ := c
    have hb := bOK_J h
    have h0 := sqr_in hs
    have h1 := sqr_in hq
    have hp := pow_le hb.2.2.2.1 hb.2.2.2.2.1 t.toNat (by omega)
    have hr := place_in h h0.1 h0.2 (t := t.toNat) (by omega) q
    have hlen := placesP_len (lands sq fc ov l) (sq + 1).toNat t.toNat (start_facts h h0.1 h0.2).1
    refine ⟨((lowP (rd (placesP (lands sq fc ov l) (sq + 1).toNat (startP (sq + 1).toNat s) t.toNat) q) (fc ^ t.toNat)).1, (lowP (rd (placesP (lands sq fc ov l) (sq + 1).toNat (startP (sq + 1).toNat s) t.toNat) q) (fc ^ t.toNat)).2, true), ?_, ?_⟩
    rotate_left
    · refine Ev.congr (f := fun k => (impl_Board_places.f k sq fc ov l s t).bind fun p => (if 0 ≤ q then (if q < (p.length : Int) then ((impl_Board_part.f k sq fc ov l (rd p q) t).bind fun b => some (b.1, b.2.1, b.2.2)) else none) else none)) (fun k => ?_) ?_
      · simp [impl_PartAt.f, impl_isThrown.f, impl_areSquares.f, impl_within.f, h, hs, hq, inn_iff.2 ⟨ht0, ht2⟩]
      · refine Ev.bind (places_ev h h0.1 h0.2 ht0 ht2) ?_
        refine Ev.congr (f := fun k => (impl_Board_part.f k sq fc ov l (rd (placesP (lands sq fc ov l) (sq + 1).toNat (startP (sq + 1).toNat s) t.toNat) q) t).bind fun b => some (b.1, b.2.1, b.2.2)) (fun k => ?_) ?_
        · rw [if_pos h1.1, if_pos (by omega)]
        · exact Ev.bind (part_ev hb.2.2.2.1 hb.2.2.2.2.1 ht0 ht2 hr.1 (Int.le_trans hr.2 (Int.le_trans hp.2 (by decide)))) (Ev.now _)
    · refine Ev.congr (f := fun k => spec_PartAt.j0 k s q t false sq fc ov l) (fun k => ?_) ?_
      · simp [spec_PartAt.f, spec_chAsked.f, spec_sqAsked.f, spec_sqSquare.f, spec_l1In.f, sqs_eq h, h, hs, hq, inn_iff.2 ⟨ht0, ht2⟩]
      · refine Ev.step (f := fun k => (spec_chPlaces.f k sq fc ov l s t).bind fun p => (if 0 ≤ q then (if q < (p.length : Int) then ((spec_chPart.f k sq fc ov l (rd p q) t).bind fun b => some (b.1, b.2.1, b.2.2)) else none) else none)) (fun k => ?_) ?_
        · simp [spec_PartAt.j0]
        · refine Ev.bind (chP_ev h h0.1 h0.2 ht0 ht2) ?_
          refine Ev.congr (f := fun k => (spec_chPart.f k sq fc ov l (rd (placesP (lands sq fc ov l) (sq + 1).toNat (startP (sq + 1).toNat s) t.toNat) q) t).bind fun b => some (b.1, b.2.1, b.2.2)) (fun k => ?_) ?_
          · rw [if_pos h1.1, if_pos (by omega)]
          · exact Ev.bind (chPart_ev hb.2.2.2.1 hb.2.2.2.2.1 ht0 ht2 hr.1 (Int.le_trans hr.2 (Int.le_trans hp.2 (by decide)))) (Ev.now _)
  · refine ⟨(0, 0, false), ?_, ?_⟩
    · have e : spec_chAsked.f sq fc ov l s t = some (bOK sq fc ov l && sqr sq l s && inn t 0 20) := by
        unfold spec_chAsked.f spec_sqAsked.f spec_l1In.f
        rw [asked_eq]
        cases bOK sq fc ov l && sqr sq l s <;> simp
      by_cases h : bOK sq fc ov l && sqr sq l s && inn t 0 20
      · have h' := h
        simp only [Bool.and_eq_true] at h'
        have hq : sqr sq l q = false := by simpa [h'.1.1, h'.1.2, h'.2] using c
        refine Ev.congr (f := fun k => spec_PartAt.j0 k s q t true sq fc ov l) (fun k => ?_) ?_
        · simp [spec_PartAt.f, e, h, spec_sqSquare.f, sqs_eq h'.1.1, hq]
        · exact Ev.step (f := fun _ => some (0, 0, false)) (fun k => by simp [spec_PartAt.j0]) (Ev.now _)
      · refine Ev.congr (f := fun k => spec_PartAt.j0 k s q t true sq fc ov l) (fun k => ?_) ?_
        · simp [spec_PartAt.f, e, h]
        · exact Ev.step (f := fun _ => some (0, 0, false)) (fun k => by simp [spec_PartAt.j0]) (Ev.now _)
    · refine Ev.congr (f := fun _ => some (0, 0, false)) (fun k => ?_) (Ev.now _)
      have e : impl_isThrown.f sq fc ov l t 20 [s, q] = some false := by
        unfold impl_isThrown.f impl_areSquares.f impl_within.f
        simp only [Option.bind_some, List.all_cons, List.all_nil, Bool.and_true]
        cases h : bOK sq fc ov l && (sqr sq l s && sqr sq l q) with
        | false => rfl
        | true => rw [h] at c; simpa using c
      simp [impl_PartAt.f, e]
end
def leL : List Int → List Int → Prop
  | [], [] => True
  | x :: xs, y :: ys => x ≤ y ∧ leL xs ys
  | _, _ => False
theorem leL_sum : ∀ {a b : List Int}, leL a b → a.sum ≤ b.sum
  | [], [], _ => Int.le_refl _
  | x :: xs, y :: ys, h => by have := leL_sum h.2; have := h.1; simp only [List.sum_cons]; omega
theorem leL_len : ∀ {a b : List Int}, leL a b → a.length = b.length
  | [], [], _ => rfl
  | x :: xs, y :: ys, h => by simp [leL_len h.2]
theorem leL_of : ∀ {a b : List Int}, a.length = b.length → (∀ j : Nat, j < a.length → a.getD j 0 ≤ b.getD j 0) → leL a b
  | [], [], _, _ => trivial
  | x :: xs, y :: ys, hl, h => ⟨by simpa using h 0 (by simp), leL_of (by simpa using hl) (fun j hj => by simpa using h (j + 1) (by simpa using hj))⟩
theorem leL_get : ∀ {a b : List Int}, leL a b → ∀ j : Nat, a.getD j 0 ≤ b.getD j 0
  | [], [], _, j => Int.le_refl _
  | x :: xs, y :: ys, h, 0 => by simpa using h.1
  | x :: xs, y :: ys, h, j + 1 => by simpa using leL_get h.2 j
theorem leL_refl : ∀ (a : List Int), leL a a
  | [] => trivial
  | x :: xs => ⟨Int.le_refl _, leL_refl xs⟩
theorem leL_set : ∀ {a b : List Int} (q : Nat) {v u : Int}, leL a b → v ≤ u → leL (a.set q v) (b.set q u)
  | [], [], _, _, _, _, _ => trivial
  | x :: xs, y :: ys, 0, _, _, h, hv => ⟨hv, h.2⟩
  | x :: xs, y :: ys, q + 1, _, _, h, hv => ⟨h.1, leL_set q h.2 hv⟩
theorem leL_put : ∀ {a b : List Int} (q : Nat), leL a b → leL (a.set q (b.getD q 0)) b
  | [], [], _, _ => trivial
  | x :: xs, y :: ys, 0, h => ⟨by simp, h.2⟩
  | x :: xs, y :: ys, q + 1, h => ⟨h.1, by simpa using leL_put q h.2⟩
theorem conv_mono (L : Int → List Int) (j : Int) : ∀ {a b : List Int} (i : Int), leL a b → conv L j i a ≤ conv L j i b
  | [], [], _, _ => Int.le_refl _
  | x :: xs, y :: ys, i, h => by
    have := conv_mono L j (i + 1) h.2
    have := Int.mul_le_mul_of_nonneg_right h.1 (cnt_nn (L i) j)
    simp only [conv]
    omega
theorem conv_set (L : Int → List Int) (j : Int) : ∀ (a : List Int) (i : Int) (q : Nat) (v : Int), cnt (L (i + q)) j = 0 → conv L j i (a.set q v) = conv L j i a
  | [], _, _, _, _ => rfl
  | x :: xs, i, 0, v, h => by
    simp only [Int.natCast_zero, Int.add_zero, Int.ofNat_zero] at h
    simp only [List.set_cons_zero, conv]
    simp [h]
  | x :: xs, i, q + 1, v, h => by
    simp only [List.set_cons_succ, conv]
    rw [conv_set L j xs (i + 1) q v (by rw [← h]; congr 2; omega)]
theorem missP_succ (L : Int → List Int) (m : Nat) (q : Int) : ∀ (d : Nat) (now : List Int), missP L m q now (d + 1) = (stepP L m (missP L m q now d)).set q.toNat 0
  | 0, _ => rfl
  | d + 1, now => missP_succ L m q d (stepP L m (now.set q.toNat 0))
theorem missP_len (L : Int → List Int) (m : Nat) (q : Int) (now : List Int) (hn : now.length = m) : ∀ (d : Nat), (missP L m q now d).length = m
  | 0 => by simp [missP, hn]
  | d + 1 => by rw [missP_succ]; simp [stepP_len]
section
variable {sq fc ov : Int} {l : List S126}
theorem missP_nn (h : bOK sq fc ov l = true) {q : Int} {now : List Int} (hl : now.length = (sq + 1).toNat) (hn : nn now) : ∀ (d : Nat), nn (missP (lands sq fc ov l) (sq + 1).toNat q now d)
  | 0 => nn_set hn _ (Int.le_refl 0)
  | d + 1 => by
    rw [missP_succ]
    exact nn_set (step_facts h (missP_len _ _ _ _ hl d) (missP_nn h hl hn d)).1 _ (Int.le_refl 0)
theorem stepP_mono (h : bOK sq fc ov l = true) {a b : List Int} (ha : a.length = (sq + 1).toNat) (hab : leL a b) : leL (stepP (lands sq fc ov l) (sq + 1).toNat a) (stepP (lands sq fc ov l) (sq + 1).toNat b) := by
  refine leL_of (by rw [stepP_len, stepP_len]) (fun j _ => ?_)
  have h1 := rd_stepP h ha (j := (j : Int)) (by omega)
  have h2 := rd_stepP h (now := b) (by rw [← leL_len hab]; exact ha) (j := (j : Int)) (by omega)
  have h3 := conv_mono (lands sq fc ov l) (j : Int) 0 hab
  rw [← h1, ← h2] at h3
  exact h3
theorem set_leL : ∀ (a : List Int) (q : Nat), nn a → leL (a.set q 0) a
  | [], _, _ => trivial
  | x :: xs, 0, h => ⟨h x List.mem_cons_self, leL_refl xs⟩
  | x :: xs, q + 1, h => ⟨Int.le_refl _, set_leL xs q (fun y hy => h y (List.mem_cons_of_mem _ hy))⟩
theorem leL_trans : ∀ {a b c : List Int}, leL a b → leL b c → leL a c
  | [], [], [], _, _ => trivial
  | x :: xs, y :: ys, z :: zs, h1, h2 => ⟨Int.le_trans h1.1 h2.1, leL_trans h1.2 h2.2⟩
theorem miss_places (h : bOK sq fc ov l = true) {q : Int} {now : List Int} (hl : now.length = (sq + 1).toNat) (hn : nn now) : ∀ (d : Nat), leL (missP (lands sq fc ov l) (sq + 1).toNat q now d) (placesP (lands sq fc ov l) (sq + 1).toNat now d)
  | 0 => set_leL now _ hn
  | d + 1 => by
    rw [missP_succ, placesP_succ]
    have h1 := stepP_mono h (missP_len _ _ q _ hl d) (miss_places h hl hn d)
    exact leL_trans (set_leL _ _ (step_facts h (missP_len _ _ _ _ hl d) (missP_nn h hl hn d)).1) h1
theorem miss_zero (q : Int) (L : Int → List Int) (m : Nat) (now : List Int) (h0 : 0 ≤ q) (h1 : q.toNat < m) (hl : now.length = m) : ∀ d, rd (missP L m q now d) q = 0
  | 0 => by rw [missP, rd_set h0 (by omega) _ h0, if_pos rfl]
  | d + 1 => by rw [missP_succ, rd_set h0 (by rw [stepP_len]; omega) _ h0, if_pos rfl]
theorem met_ge (h : bOK sq fc ov l = true) {s q : Int} (h0 : 0 ≤ s) (h1 : s ≤ sq) (hq0 : 0 ≤ q) (hq1 : q ≤ sq) (d : Nat) :
    (missP (lands sq fc ov l) (sq + 1).toNat q (startP (sq + 1).toNat s) d).sum + rd (placesP (lands sq fc ov l) (sq + 1).toNat (startP (sq + 1).toNat s) d) q ≤ fc ^ d := by
  have hst := start_facts h h0 h1
  have hp := places_facts h d hst.1 hst.2.1
  have hz := miss_zero q (lands sq fc ov l) (sq + 1).toNat (startP (sq + 1).toNat s) hq0 (by omega) hst.1 d
  have hle := leL_sum (leL_put q.toNat (miss_places h (q := q) hst.1 hst.2.1 d))
  have hlen := missP_len (lands sq fc ov l) (sq + 1).toNat q _ hst.1 d
  rw [sum_set _ _ _ (by omega), hp.2, hst.2.2, Int.mul_one] at hle
  unfold rd at hz ⊢
  omega
theorem cnt_endz (sq ov : Int) (l : List S126) (j : Int) (hj : j ≠ sq) : ∀ (n : Nat) (f : Int), cnt (landsN sq ov l sq n f) j = 0
  | 0, _ => rfl
  | n + 1, f => by
    rw [landsN, cnt, cnt_endz sq ov l j hj n (f + 1)]
    have : thr sq ov l sq f ≠ j := by unfold thr; rw [if_pos rfl]; exact fun h => hj h.symm
    simp [this]
theorem miss_end (h : bOK sq fc ov l = true) {now : List Int} (hl : now.length = (sq + 1).toNat) : ∀ (d : Nat), missP (lands sq fc ov l) (sq + 1).toNat sq now d = (placesP (lands sq fc ov l) (sq + 1).toNat now d).set sq.toNat 0
  | 0 => rfl
  | d + 1 => by
    have hb := bOK_J h
    have hpl := placesP_len (lands sq fc ov l) (sq + 1).toNat d hl
    rw [missP_succ, placesP_succ, miss_end h hl d]
    refine List.ext_getElem (by simp [stepP_len]) (fun j hj1 hj2 => ?_)
    by_cases c : sq.toNat = j
    · subst c; simp
    · rw [List.getElem_set_ne c, List.getElem_set_ne c]
      have hj : j < (sq + 1).toNat := by simpa [stepP_len] using hj1
      have e1 := rd_stepP h (now := (placesP (lands sq fc ov l) (sq + 1).toNat now d).set sq.toNat 0) (by simpa using hpl) (j := (j : Int)) (by omega)
      have e2 := rd_stepP h hpl (j := (j : Int)) (by omega)
      rw [conv_set _ _ _ _ _ _ (by rw [show (0 : Int) + (sq.toNat : Int) = sq by omega]; exact cnt_endz sq ov l _ (by omega) _ _)] at e1
      rw [← e2] at e1
      unfold rd at e1
      simpa [List.getD_eq_getElem?_getD, stepP_len, hj] using e1
theorem met_end (h : bOK sq fc ov l = true) {s : Int} (h0 : 0 ≤ s) (h1 : s ≤ sq) (d : Nat) :
    (missP (lands sq fc ov l) (sq + 1).toNat sq (startP (sq + 1).toNat s) d).sum + rd (placesP (lands sq fc ov l) (sq + 1).toNat (startP (sq + 1).toNat s) d) sq = fc ^ d := by
  have hb := bOK_J h
  have hst := start_facts h h0 h1
  have hp := places_facts h d hst.1 hst.2.1
  have hpl := placesP_len (lands sq fc ov l) (sq + 1).toNat d hst.1
  rw [miss_end h hst.1 d, sum_set0 (by omega) (by omega), hp.2, hst.2.2]
  omega
theorem met_more (h : bOK sq fc ov l = true) {s q : Int} (h0 : 0 ≤ s) (h1 : s ≤ sq) (hq0 : 0 ≤ q) (hq1 : q ≤ sq) (d : Nat) :
    (missP (lands sq fc ov l) (sq + 1).toNat q (startP (sq + 1).toNat s) (d + 1)).sum ≤ fc * (missP (lands sq fc ov l) (sq + 1).toNat q (startP (sq + 1).toNat s) d).sum := by
  have hst := start_facts h h0 h1
  have hl := missP_len (lands sq fc ov l) (sq + 1).toNat q _ hst.1 d
  have hf := step_facts h hl (missP_nn h hst.1 hst.2.1 d)
  rw [missP_succ, sum_set0 hq0 (by rw [stepP_len]; omega), hf.2]
  have := (rd_in hf.1 q).1
  omega
theorem set_start (m : Nat) (q : Nat) : ((List.replicate m (0 : Int)).set q 1).set q 0 = List.replicate m 0 := by
  rw [List.set_set]
  refine List.ext_getElem (by simp) (fun j h1 h2 => ?_)
  rw [List.getElem_set]
  split <;> simp
theorem miss_none (h : bOK sq fc ov l = true) {q : Int} (d : Nat) : (missP (lands sq fc ov l) (sq + 1).toNat q (startP (sq + 1).toNat q) d).sum = 0 := by
  have key : ∀ d, missP (lands sq fc ov l) (sq + 1).toNat q (startP (sq + 1).toNat q) d = List.replicate (sq + 1).toNat 0 ∨ (missP (lands sq fc ov l) (sq + 1).toNat q (startP (sq + 1).toNat q) d).sum = 0 ∧ nn (missP (lands sq fc ov l) (sq + 1).toNat q (startP (sq + 1).toNat q) d) ∧ (missP (lands sq fc ov l) (sq + 1).toNat q (startP (sq + 1).toNat q) d).length = (sq + 1).toNat := by
    intro d
    induction d with
    | zero => exact Or.inl (set_start _ _)
    | succ d ih =>
      right
      have ih' : (missP (lands sq fc ov l) (sq + 1).toNat q (startP (sq + 1).toNat q) d).sum = 0 ∧ nn (missP (lands sq fc ov l) (sq + 1).toNat q (startP (sq + 1).toNat q) d) ∧ (missP (lands sq fc ov l) (sq + 1).toNat q (startP (sq + 1).toNat q) d).length = (sq + 1).toNat := by
        rcases ih with e | e
        · rw [e]; exact ⟨by simp, nn_rep _, by simp⟩
        · exact e
      obtain ⟨g1, g2, g3⟩ := ih'
      have hf := step_facts h g3 g2
      rw [g1, Int.mul_zero] at hf
      rw [missP_succ]
      have hs := leL_sum (set_leL _ q.toNat hf.1)
      have hn := nn_set hf.1 q.toNat (Int.le_refl 0)
      have := sum_nn hn
      exact ⟨by omega, hn, by simp [stepP_len]⟩
  rcases key d with e | e
  · rw [e]; simp
  · exact e.1
end
theorem lowP_x {a b : Int} (ha : 0 ≤ a) (hb : 1 ≤ b) : ∃ g : Int, 1 ≤ g ∧ a = (lowP a b).1 * g ∧ b = (lowP a b).2 * g ∧ 1 ≤ (lowP a b).2 ∧ 0 ≤ (lowP a b).1 ∧ b / (lowP a b).2 = g := by
  have hg : 0 < Nat.gcd a.toNat b.toNat := Nat.gcd_pos_of_pos_right _ (by omega)
  have d1 : ((Nat.gcd a.toNat b.toNat : Nat) : Int) ∣ a := by
    have := Int.natCast_dvd_natCast.2 (Nat.gcd_dvd_left a.toNat b.toNat)
    rwa [show ((a.toNat : Nat) : Int) = a by omega] at this
  have d2 : ((Nat.gcd a.toNat b.toNat : Nat) : Int) ∣ b := by
    have := Int.natCast_dvd_natCast.2 (Nat.gcd_dvd_right a.toNat b.toNat)
    rwa [show ((b.toNat : Nat) : Int) = b by omega] at this
  have e1 := Int.ediv_mul_cancel d1
  have e2 := Int.ediv_mul_cancel d2
  have p2 : 1 ≤ (lowP a b).2 := by
    have : ¬ (lowP a b).2 ≤ 0 := by
      intro hle
      have : (lowP a b).2 * (Nat.gcd a.toNat b.toNat : Int) ≤ 0 := Int.mul_nonpos_of_nonpos_of_nonneg hle (by omega)
      unfold lowP at this
      dsimp only at this
      omega
    omega
  refine ⟨(Nat.gcd a.toNat b.toNat : Nat), by omega, e1.symm, e2.symm, p2, Int.ediv_nonneg ha (by omega), ?_⟩
  exact Int.ediv_eq_of_eq_mul_right (by omega) e2.symm
def srch (p : Nat → Bool) : Nat → Nat → Option Nat
  | 0, _ => none
  | d + 1, n => if p n then some n else srch p d (n + 1)
theorem srch_some (p : Nat → Bool) : ∀ (d n m : Nat), srch p d n = some m → p m = true ∧ n ≤ m ∧ m < n + d ∧ ∀ j, n ≤ j → j < m → p j = false
  | 0, n, m, h => by simp [srch] at h
  | d + 1, n, m, h => by
    rw [srch] at h
    split at h
    · next hp =>
      obtain rfl := Option.some.inj h
      exact ⟨hp, Nat.le_refl _, by omega, fun j h1 h2 => by omega⟩
    · next hp =>
      obtain ⟨h1, h2, h3, h4⟩ := srch_some p d (n + 1) m h
      refine ⟨h1, by omega, by omega, fun j hj1 hj2 => ?_⟩
      by_cases e : j = n
      · subst e; simpa using hp
      · exact h4 j (by omega) hj2
theorem srch_none (p : Nat → Bool) : ∀ (d n : Nat), srch p d n = none → ∀ j, n ≤ j → j < n + d → p j = false
  | 0, n, h, j, h1, h2 => by omega
  | d + 1, n, h, j, h1, h2 => by
    rw [srch] at h
    split at h
    · simp at h
    · next hp =>
      by_cases e : j = n
      · subst e; simpa using hp
      · exact srch_none p d (n + 1) h j (by omega) (by omega)
def srP : Option Nat → Int × Bool
  | some n => ((n : Int), true)
  | none => (0, false)
section
variable {sq fc ov : Int} {l : List S126}
def doneN (sq fc ov : Int) (l : List S126) (s : Int) (n : Nat) : Int := rd (placesP (lands sq fc ov l) (sq + 1).toNat (startP (sq + 1).toNat s) n) sq
def halfB (sq fc ov : Int) (l : List S126) (s : Int) (n : Nat) : Bool := decide (fc ^ n ≤ 2 * doneN sq fc ov l s n)
def allB (sq fc ov : Int) (l : List S126) (s : Int) (n : Nat) : Bool := decide (doneN sq fc ov l s n = fc ^ n)
theorem next_pl (h : bOK sq fc ov l = true) {s : Int} (h0 : 0 ≤ s) (h1 : s ≤ sq) (n : Nat) (hn : n < 20) : Ev (fun k => impl_Board_next.f k sq fc ov l (placesP (lands sq fc ov l) (sq + 1).toNat (startP (sq + 1).toNat s) n)) (placesP (lands sq fc ov l) (sq + 1).toNat (startP (sq + 1).toNat s) (n + 1)) := by
  have hb := bOK_J h
  have hst := start_facts h h0 h1
  have hf := places_facts h n hst.1 hst.2.1
  have hp := pow_le hb.2.2.2.1 hb.2.2.2.2.1 (n + 1) (by omega)
  rw [placesP_succ]
  refine next_ev h (placesP_len _ _ n hst.1) hf.1 ?_
  rw [hf.2, hst.2.2, Int.mul_one, Int.mul_comm, ← Int.pow_succ]
  exact Int.le_trans hp.2 (by decide)
theorem half_l0 (h : bOK sq fc ov l = true) {s : Int} (h0 : 0 ≤ s) (h1 : s ≤ sq) (d : Nat) : ∀ n : Nat, n + d = 21 → n ≤ 20 →
    Ev (fun k => impl_firstHalf.l0 k (placesP (lands sq fc ov l) (sq + 1).toNat (startP (sq + 1).toNat s) n) (fc ^ n) n sq fc ov l) (srP (srch (halfB sq fc ov l s) d n)) := by
  have hb := bOK_J h
  induction d with
  | zero => intro n hn hn2; omega
  | succ d ih =>
    intro n hn hn2
    have hp := pow_le hb.2.2.2.1 hb.2.2.2.2.1 n (by omega)
    have hd : 0 ≤ doneN sq fc ov l s n ∧ doneN sq fc ov l s n ≤ fc ^ n := place_in h h0 h1 (by omega) sq
    have hlen := placesP_len (lands sq fc ov l) (sq + 1).toNat n (start_facts h h0 h1).1
    rcases Bool.eq_false_or_eq_true (halfB sq fc ov l s n) with c | c
    · rw [srch, if_pos c]
      refine Ev.step (f := fun _ => some ((n : Int), true)) (fun k => ?_) (Ev.now _)
      simp only [impl_firstHalf.l0, impl_HalfDone_lit.f]
      rw [if_pos (show (n : Int) ≤ 20 by omega), if_pos (show 0 ≤ sq by omega), if_pos (show sq < _ by rw [hlen]; omega)]
      simp only [Option.bind_some]
      rw [if_pos ?_]
      have c' := of_decide_eq_true c
      rw [show rd (placesP (lands sq fc ov l) (sq + 1).toNat (startP (sq + 1).toNat s) n) sq = doneN sq fc ov l s n from rfl, w64 (by omega) (by omega)]
      exact decide_eq_true c'
    · rw [srch, if_neg (by rw [c]; simp)]
      have ht : ¬ decide (fc ^ n ≤ wrap64 (2 * rd (placesP (lands sq fc ov l) (sq + 1).toNat (startP (sq + 1).toNat s) n) sq)) = true := by
        have c' := of_decide_eq_false c
        rw [show rd (placesP (lands sq fc ov l) (sq + 1).toNat (startP (sq + 1).toNat s) n) sq = doneN sq fc ov l s n from rfl, w64 (by omega) (by omega)]
        simpa using c'
      by_cases hlt : n < 20
      · refine Ev.step (f := fun k => (impl_Board_next.f k sq fc ov l (placesP (lands sq fc ov l) (sq + 1).toNat (startP (sq + 1).toNat s) n)).bind fun p => impl_firstHalf.l0 k p (fc ^ (n + 1)) ((n + 1 : Nat) : Int) sq fc ov l) (fun k => ?_) ?_
        · have hp2 := pow_le hb.2.2.2.1 hb.2.2.2.2.1 (n + 1) (by omega)
          simp only [impl_firstHalf.l0, impl_HalfDone_lit.f]
          rw [if_pos (show (n : Int) ≤ 20 by omega), if_pos (show 0 ≤ sq by omega), if_pos (show sq < _ by rw [hlen]; omega)]
          simp only [Option.bind_some]
          rw [if_neg ht, if_pos (show (n : Int) < 20 by omega), ← Int.pow_succ, w64 (x := fc ^ (n + 1)) (Int.le_trans (by decide) hp2.1) (Int.le_trans hp2.2 (by decide)), w64 (x := (n : Int) + 1) (by omega) (by omega)]
          rfl
        · exact Ev.bind (next_pl h h0 h1 n hlt) (ih (n + 1) (by omega) (by omega))
      · obtain rfl : n = 20 := by omega
        obtain rfl : d = 0 := by omega
        refine Ev.step (f := fun k => impl_firstHalf.l0 k (placesP (lands sq fc ov l) (sq + 1).toNat (startP (sq + 1).toNat s) 20) (fc ^ 20) 21 sq fc ov l) (fun k => ?_) ?_
        · simp only [impl_firstHalf.l0, impl_HalfDone_lit.f]
          rw [if_pos (show ((20 : Nat) : Int) ≤ 20 by omega), if_pos (show 0 ≤ sq by omega), if_pos (show sq < _ by rw [hlen]; omega)]
          simp only [Option.bind_some]
          rw [if_neg ht, if_neg (show ¬ ((20 : Nat) : Int) < 20 by omega), w64 (x := ((20 : Nat) : Int) + 1) (by omega) (by omega)]
          rfl
        · exact Ev.step (f := fun _ => some (0, false)) (fun k => by simp only [impl_firstHalf.l0]; rw [if_neg (by omega)]) (Ev.now _)
theorem untilfirstHalf_l0 (h : bOK sq fc ov l = true) {s : Int} (h0 : 0 ≤ s) (h1 : s ≤ sq) (d : Nat) : ∀ n : Nat, n + d = 21 →
    Ev (fun k => spec_chUntil.l0 k s 2 n sq fc ov l) (srP (srch (halfB sq fc ov l s) d n)) := by
  have hb := bOK_J h
  induction d with
  | zero =>
    intro n hn
    exact Ev.step (f := fun _ => some (0, false)) (fun k => by simp only [spec_chUntil.l0]; rw [if_neg (by omega)]) (Ev.now _)
  | succ d ih =>
    intro n hn
    have hp := pow_le hb.2.2.2.1 hb.2.2.2.2.1 n (by omega)
    have hd : 0 ≤ doneN sq fc ov l s n ∧ doneN sq fc ov l s n ≤ fc ^ n := place_in h h0 h1 (by omega) sq
    have hlen := placesP_len (lands sq fc ov l) (sq + 1).toNat n (start_facts h h0 h1).1
    have hA := chAll_ev (sq := sq) (ov := ov) (l := l) (t := (n : Int)) hb.2.2.2.1 hb.2.2.2.2.1 (by omega) (by omega)
    have hC := chP_ev h h0 h1 (t := (n : Int)) (by omega) (by omega)
    rw [Int.toNat_natCast] at hA hC
    refine Ev.step (f := fun k => (spec_chAll.f k sq fc ov l n).bind fun a => (spec_chPlaces.f k sq fc ov l s n).bind fun p => if 0 ≤ sq then (if sq < (p.length : Int) then (spec_chAll.f k sq fc ov l n).bind fun b => _ else none) else none) (fun k => by simp only [spec_chUntil.l0]; rw [if_pos (show (n : Int) ≤ 20 by omega)]; first | done | rfl) ?_
    refine Ev.bind hA (Ev.bind hC ?_)
    refine Ev.congr (f := fun k => (spec_chAll.f k sq fc ov l n).bind fun b => _) (fun k => by rw [if_pos (show 0 ≤ sq by omega), if_pos (show sq < _ by rw [hlen]; omega)]; first | done | rfl) (Ev.bind hA ?_)
    have e1 : rd (placesP (lands sq fc ov l) (sq + 1).toNat (startP (sq + 1).toNat s) n) sq = doneN sq fc ov l s n := rfl
    have e2 : wrap64 (Int.tdiv (fc ^ n) 2) = fc ^ n / 2 := by rw [Int.tdiv_eq_ediv_of_nonneg (by omega)]; exact w64 (by omega) (by omega)
    rw [e1, e2, w64 (x := fc ^ n - doneN sq fc ov l s n) (by omega) (by omega), w64 (x := (n : Int) + 1) (by omega) (by omega)]
    have ih' := ih (n + 1) (by omega)
    rw [show ((n + 1 : Nat) : Int) = (n : Int) + 1 by omega] at ih'
    rcases Bool.eq_false_or_eq_true (halfB sq fc ov l s n) with c | c
    · rw [srch, if_pos c]
      have c' := of_decide_eq_true c
      refine Ev.congr (f := fun _ => some ((n : Int), true)) (fun k => ?_) (Ev.now _)
      rw [if_neg (by decide), if_pos (by omega), if_pos (by decide)]
    · rw [srch, if_neg (by rw [c]; simp)]
      have c' := of_decide_eq_false c
      refine Ev.congr (f := fun k => spec_chUntil.l0 k s 2 ((n : Int) + 1) sq fc ov l) (fun k => ?_) ih'
      rw [if_neg (by decide), if_neg (by omega), if_neg (by omega)]
theorem all_l0 (h : bOK sq fc ov l = true) {s : Int} (h0 : 0 ≤ s) (h1 : s ≤ sq) (d : Nat) : ∀ n : Nat, n + d = 21 → n ≤ 20 →
    Ev (fun k => impl_firstAll.l0 k (placesP (lands sq fc ov l) (sq + 1).toNat (startP (sq + 1).toNat s) n) (fc ^ n) n sq fc ov l) (srP (srch (allB sq fc ov l s) d n)) := by
  have hb := bOK_J h
  induction d with
  | zero => intro n hn hn2; omega
  | succ d ih =>
    intro n hn hn2
    have hp := pow_le hb.2.2.2.1 hb.2.2.2.2.1 n (by omega)
    have hd : 0 ≤ doneN sq fc ov l s n ∧ doneN sq fc ov l s n ≤ fc ^ n := place_in h h0 h1 (by omega) sq
    have hlen := placesP_len (lands sq fc ov l) (sq + 1).toNat n (start_facts h h0 h1).1
    rcases Bool.eq_false_or_eq_true (allB sq fc ov l s n) with c | c
    · rw [srch, if_pos c]
      refine Ev.step (f := fun _ => some ((n : Int), true)) (fun k => ?_) (Ev.now _)
      simp only [impl_firstAll.l0, impl_AllDone_lit.f]
      rw [if_pos (show (n : Int) ≤ 20 by omega), if_pos (show 0 ≤ sq by omega), if_pos (show sq < _ by rw [hlen]; omega)]
      simp only [Option.bind_some]
      rw [if_pos ?_]
      have c' := of_decide_eq_true c
      exact beq_iff_eq.2 c'
    · rw [srch, if_neg (by rw [c]; simp)]
      have ht : ¬ (rd (placesP (lands sq fc ov l) (sq + 1).toNat (startP (sq + 1).toNat s) n) sq == fc ^ n) = true := by
        have c' := of_decide_eq_false c
        intro e
        exact c' (beq_iff_eq.1 e)
      by_cases hlt : n < 20
      · refine Ev.step (f := fun k => (impl_Board_next.f k sq fc ov l (placesP (lands sq fc ov l) (sq + 1).toNat (startP (sq + 1).toNat s) n)).bind fun p => impl_firstAll.l0 k p (fc ^ (n + 1)) ((n + 1 : Nat) : Int) sq fc ov l) (fun k => ?_) ?_
        · have hp2 := pow_le hb.2.2.2.1 hb.2.2.2.2.1 (n + 1) (by omega)
          simp only [impl_firstAll.l0, impl_AllDone_lit.f]
          rw [if_pos (show (n : Int) ≤ 20 by omega), if_pos (show 0 ≤ sq by omega), if_pos (show sq < _ by rw [hlen]; omega)]
          simp only [Option.bind_some]
          rw [if_neg ht, if_pos (show (n : Int) < 20 by omega), ← Int.pow_succ, w64 (x := fc ^ (n + 1)) (Int.le_trans (by decide) hp2.1) (Int.le_trans hp2.2 (by decide)), w64 (x := (n : Int) + 1) (by omega) (by omega)]
          rfl
        · exact Ev.bind (next_pl h h0 h1 n hlt) (ih (n + 1) (by omega) (by omega))
      · obtain rfl : n = 20 := by omega
        obtain rfl : d = 0 := by omega
        refine Ev.step (f := fun k => impl_firstAll.l0 k (placesP (lands sq fc ov l) (sq + 1).toNat (startP (sq + 1).toNat s) 20) (fc ^ 20) 21 sq fc ov l) (fun k => ?_) ?_
        · simp only [impl_firstAll.l0, impl_AllDone_lit.f]
          rw [if_pos (show ((20 : Nat) : Int) ≤ 20 by omega), if_pos (show 0 ≤ sq by omega), if_pos (show sq < _ by rw [hlen]; omega)]
          simp only [Option.bind_some]
          rw [if_neg ht, if_neg (show ¬ ((20 : Nat) : Int) < 20 by omega), w64 (x := ((20 : Nat) : Int) + 1) (by omega) (by omega)]
          rfl
        · exact Ev.step (f := fun _ => some (0, false)) (fun k => by simp only [impl_firstAll.l0]; rw [if_neg (by omega)]) (Ev.now _)
theorem untilfirstAll_l0 (h : bOK sq fc ov l = true) {s : Int} (h0 : 0 ≤ s) (h1 : s ≤ sq) (d : Nat) : ∀ n : Nat, n + d = 21 →
    Ev (fun k => spec_chUntil.l0 k s 1 n sq fc ov l) (srP (srch (allB sq fc ov l s) d n)) := by
  have hb := bOK_J h
  induction d with
  | zero =>
    intro n hn
    exact Ev.step (f := fun _ => some (0, false)) (fun k => by simp only [spec_chUntil.l0]; rw [if_neg (by omega)]) (Ev.now _)
  | succ d ih =>
    intro n hn
    have hp := pow_le hb.2.2.2.1 hb.2.2.2.2.1 n (by omega)
    have hd : 0 ≤ doneN sq fc ov l s n ∧ doneN sq fc ov l s n ≤ fc ^ n := place_in h h0 h1 (by omega) sq
    have hlen := placesP_len (lands sq fc ov l) (sq + 1).toNat n (start_facts h h0 h1).1
    have hA := chAll_ev (sq := sq) (ov := ov) (l := l) (t := (n : Int)) hb.2.2.2.1 hb.2.2.2.2.1 (by omega) (by omega)
    have hC := chP_ev h h0 h1 (t := (n : Int)) (by omega) (by omega)
    rw [Int.toNat_natCast] at hA hC
    refine Ev.step (f := fun k => (spec_chAll.f k sq fc ov l n).bind fun a => (spec_chPlaces.f k sq fc ov l s n).bind fun p => if 0 ≤ sq then (if sq < (p.length : Int) then (spec_chAll.f k sq fc ov l n).bind fun b => _ else none) else none) (fun k => by simp only [spec_chUntil.l0]; rw [if_pos (show (n : Int) ≤ 20 by omega)]; first | done | rfl) ?_
    refine Ev.bind hA (Ev.bind hC ?_)
    refine Ev.congr (f := fun k => (spec_chAll.f k sq fc ov l n).bind fun b => _) (fun k => by rw [if_pos (show 0 ≤ sq by omega), if_pos (show sq < _ by rw [hlen]; omega)]; first | done | rfl) (Ev.bind hA ?_)
    have e1 : rd (placesP (lands sq fc ov l) (sq + 1).toNat (startP (sq + 1).toNat s) n) sq = doneN sq fc ov l s n := rfl
    have e2 : wrap64 (Int.tdiv (fc ^ n) 1) = fc ^ n / 1 := by rw [Int.tdiv_eq_ediv_of_nonneg (by omega)]; exact w64 (by omega) (by omega)
    rw [e1, e2, w64 (x := fc ^ n - doneN sq fc ov l s n) (by omega) (by omega), w64 (x := (n : Int) + 1) (by omega) (by omega)]
    have ih' := ih (n + 1) (by omega)
    rw [show ((n + 1 : Nat) : Int) = (n : Int) + 1 by omega] at ih'
    rcases Bool.eq_false_or_eq_true (allB sq fc ov l s n) with c | c
    · rw [srch, if_pos c]
      have c' := of_decide_eq_true c
      refine Ev.congr (f := fun _ => some ((n : Int), true)) (fun k => ?_) (Ev.now _)
      rw [if_neg (by decide), if_pos (by omega), if_neg (by decide), if_pos (by omega)]
    · rw [srch, if_neg (by rw [c]; simp)]
      have c' := of_decide_eq_false c
      refine Ev.congr (f := fun k => spec_chUntil.l0 k s 1 ((n : Int) + 1) sq fc ov l) (fun k => ?_) ih'
      rw [if_neg (by decide)]
      by_cases e : fc ^ n - doneN sq fc ov l s n ≤ fc ^ n / 1
      · rw [if_pos e, if_neg (by decide), if_neg (by omega)]
      · rw [if_neg e, if_neg (by omega)]
end
theorem Ev.same {α : Type} {f : Nat → Option α} {a b : α} (h1 : Ev f a) (h2 : Ev f b) : a = b := by
  obtain ⟨K1, e1⟩ := h1
  obtain ⟨K2, e2⟩ := h2
  have := e1 (max K1 K2) (by omega)
  rw [e2 (max K1 K2) (by omega)] at this
  exact (Option.some.inj this).symm
section
variable {sq fc ov : Int} {l : List S126}
theorem metI (h : bOK sq fc ov l = true) {s q t : Int} (hs : sqr sq l s = true) (hq : sqr sq l q = true) (ht0 : 0 ≤ t) (ht2 : t ≤ 20) :
    Ev (fun k => impl_PartMet.f k sq fc ov l s q t) ((lowP (fc ^ t.toNat - (missP (lands sq fc ov l) (sq + 1).toNat q (startP (sq + 1).toNat s) t.toNat).sum) (fc ^ t.toNat)).1, (lowP (fc ^ t.toNat - (missP (lands sq fc ov l) (sq + 1).toNat q (startP (sq + 1).toNat s) t.toNat).sum) (fc ^ t.toNat)).2, true) := by
  have e2 := isThrown_eq (sq := sq) (fc := fc) (ov := ov) (l := l) t 20 [s, q]
  simp only [List.all_cons, List.all_nil, Bool.and_true, h, hs, hq, inn_iff.2 ⟨ht0, ht2⟩] at e2
  have hb := bOK_J h
  have h0 := sqr_in hs
  have h1 := sqr_in hq
  have hst := start_facts h h0.1 h0.2
  refine Ev.congr (f := fun k => (impl_power.f k fc t).bind fun c => impl_PartMet.l0 k q t c ((startP (sq + 1).toNat s).set q.toNat 0) t ((0 : Nat) : Int) sq fc ov l) (fun k => ?_) ?_
  · unfold impl_PartMet.f
    rw [e2, startOf_eq h h0.1 h0.2]
    simp only [Option.bind_some, if_true, if_pos h1.1, if_pos (show q < ((startP (sq + 1).toNat s).length : Int) by rw [hst.1]; omega)]
    rfl
  · refine Ev.bind (power_ev hb.2.2.2.1 hb.2.2.2.2.1 ht0 ht2) ?_
    exact missI_l0 h h1.1 h1.2 ht0 ht2 t.toNat 0 (startP (sq + 1).toNat s) (by omega) hst.1 hst.2.1 (by rw [hst.2.2]; simp)
theorem metI_no {s q t : Int} (c : (bOK sq fc ov l && (sqr sq l s && sqr sq l q) && inn t 0 20) = false) : Ev (fun k => impl_PartMet.f k sq fc ov l s q t) (0, 0, false) := by
  have e2 := isThrown_eq (sq := sq) (fc := fc) (ov := ov) (l := l) t 20 [s, q]
  simp only [List.all_cons, List.all_nil, Bool.and_true] at e2
  rw [c] at e2
  exact Ev.congr (f := fun _ => some (0, 0, false)) (fun k => by simp [impl_PartMet.f, e2]) (Ev.now _)
theorem atI (h : bOK sq fc ov l = true) {s q t : Int} (hs : sqr sq l s = true) (hq : sqr sq l q = true) (ht0 : 0 ≤ t) (ht2 : t ≤ 20) :
    Ev (fun k => impl_PartAt.f k sq fc ov l s q t) ((lowP (rd (placesP (lands sq fc ov l) (sq + 1).toNat (startP (sq + 1).toNat s) t.toNat) q) (fc ^ t.toNat)).1, (lowP (rd (placesP (lands sq fc ov l) (sq + 1).toNat (startP (sq + 1).toNat s) t.toNat) q) (fc ^ t.toNat)).2, true) := by
  have hb := bOK_J h
  have h0 := sqr_in hs
  have h1 := sqr_in hq
  have hp := pow_le hb.2.2.2.1 hb.2.2.2.2.1 t.toNat (by omega)
  have hr := place_in h h0.1 h0.2 (t := t.toNat) (by omega) q
  have hlen := placesP_len (lands sq fc ov l) (sq + 1).toNat t.toNat (start_facts h h0.1 h0.2).1
  refine Ev.congr (f := fun k => (impl_Board_places.f k sq fc ov l s t).bind fun p => (if 0 ≤ q then (if q < (p.length : Int) then ((impl_Board_part.f k sq fc ov l (rd p q) t).bind fun b => some (b.1, b.2.1, b.2.2)) else none) else none)) (fun k => ?_) ?_
  · simp [impl_PartAt.f, impl_isThrown.f, impl_areSquares.f, impl_within.f, h, hs, hq, inn_iff.2 ⟨ht0, ht2⟩]
  · refine Ev.bind (places_ev h h0.1 h0.2 ht0 ht2) ?_
    refine Ev.congr (f := fun k => (impl_Board_part.f k sq fc ov l (rd (placesP (lands sq fc ov l) (sq + 1).toNat (startP (sq + 1).toNat s) t.toNat) q) t).bind fun b => some (b.1, b.2.1, b.2.2)) (fun k => ?_) ?_
    · rw [if_pos h1.1, if_pos (by omega)]
    · exact Ev.bind (part_ev hb.2.2.2.1 hb.2.2.2.2.1 ht0 ht2 hr.1 (Int.le_trans hr.2 (Int.le_trans hp.2 (by decide)))) (Ev.now _)
theorem atI_no {s q t : Int} (c : (bOK sq fc ov l && (sqr sq l s && sqr sq l q) && inn t 0 20) = false) : Ev (fun k => impl_PartAt.f k sq fc ov l s q t) (0, 0, false) := by
  have e2 := isThrown_eq (sq := sq) (fc := fc) (ov := ov) (l := l) t 20 [s, q]
  simp only [List.all_cons, List.all_nil, Bool.and_true] at e2
  rw [c] at e2
  exact Ev.congr (f := fun _ => some (0, 0, false)) (fun k => by simp [impl_PartAt.f, e2]) (Ev.now _)
theorem doneI (h : bOK sq fc ov l = true) {s t : Int} (hs : sqr sq l s = true) (ht0 : 0 ≤ t) (ht2 : t ≤ 20) :
    Ev (fun k => impl_PartDone.f k sq fc ov l s t) ((lowP (doneN sq fc ov l s t.toNat) (fc ^ t.toNat)).1, (lowP (doneN sq fc ov l s t.toNat) (fc ^ t.toNat)).2, true) := by
  have hb := bOK_J h
  have h0 := sqr_in hs
  have hp := pow_le hb.2.2.2.1 hb.2.2.2.2.1 t.toNat (by omega)
  have hr := place_in h h0.1 h0.2 (t := t.toNat) (by omega) sq
  have hlen := placesP_len (lands sq fc ov l) (sq + 1).toNat t.toNat (start_facts h h0.1 h0.2).1
  refine Ev.congr (f := fun k => (impl_Board_places.f k sq fc ov l s t).bind fun p => (if 0 ≤ sq then (if sq < (p.length : Int) then ((impl_Board_part.f k sq fc ov l (rd p sq) t).bind fun b => some (b.1, b.2.1, b.2.2)) else none) else none)) (fun k => ?_) ?_
  · simp [impl_PartDone.f, impl_isThrown.f, impl_areSquares.f, impl_within.f, h, hs, inn_iff.2 ⟨ht0, ht2⟩]
  · refine Ev.bind (places_ev h h0.1 h0.2 ht0 ht2) ?_
    refine Ev.congr (f := fun k => (impl_Board_part.f k sq fc ov l (doneN sq fc ov l s t.toNat) t).bind fun b => some (b.1, b.2.1, b.2.2)) (fun k => ?_) ?_
    · rw [if_pos (by omega), if_pos (by omega)]; rfl
    · exact Ev.bind (part_ev hb.2.2.2.1 hb.2.2.2.2.1 ht0 ht2 hr.1 (Int.le_trans hr.2 (Int.le_trans hp.2 (by decide)))) (Ev.now _)
theorem placesI (h : bOK sq fc ov l = true) {s t : Int} (hs : sqr sq l s = true) (ht0 : 0 ≤ t) (ht2 : t ≤ 20) :
    Ev (fun k => impl_PlacesAfter.f k sq fc ov l s t) (placesP (lands sq fc ov l) (sq + 1).toNat (startP (sq + 1).toNat s) t.toNat, true) := by
  have h0 := sqr_in hs
  refine Ev.congr (f := fun k => (impl_Board_places.f k sq fc ov l s t).bind fun p => some (p, true)) (fun k => ?_) (Ev.bind (places_ev h h0.1 h0.2 ht0 ht2) (Ev.now _))
  simp [impl_PlacesAfter.f, impl_isThrown.f, impl_areSquares.f, impl_within.f, h, hs, inn_iff.2 ⟨ht0, ht2⟩]
theorem halfI (s : Int) : Ev (fun k => impl_HalfDone.f k sq fc ov l s) (if (bOK sq fc ov l && sqr sq l s) = true then srP (srch (halfB sq fc ov l s) 21 0) else (0, false)) := by
  unfold impl_HalfDone.f impl_firstDone.f
  simp only [show isHalfV (.func (.func 230) #[] #[] : Value) = true from rfl, if_true]
  refine Ev.bind (a := if (bOK sq fc ov l && sqr sq l s) = true then srP (srch (halfB sq fc ov l s) 21 0) else (0, false)) ?_ (Ev.now _)
  unfold impl_firstHalf.f
  have e : impl_areSquares.f sq fc ov l [s] = some (bOK sq fc ov l && sqr sq l s) := by simp [impl_areSquares.f]
  rw [e]
  simp only [Option.bind_some]
  rcases Bool.eq_false_or_eq_true (bOK sq fc ov l && sqr sq l s) with c | c
  · simp only [c, if_true]
    simp only [Bool.and_eq_true] at c
    have h0 := sqr_in c.2
    rw [startOf_eq c.1 h0.1 h0.2]
    have := half_l0 c.1 h0.1 h0.2 21 0 (by omega) (by omega)
    simpa [placesP] using this
  · simp only [c]
    exact Ev.now _
theorem halfS (s : Int) : Ev (fun k => spec_HalfDone.f k sq fc ov l s) (if (bOK sq fc ov l && sqr sq l s) = true then srP (srch (halfB sq fc ov l s) 21 0) else (0, false)) := by
  unfold spec_HalfDone.f
  have e : spec_sqAsked.f sq fc ov l s = some (bOK sq fc ov l && sqr sq l s) := by rw [← asked_eq]; rfl
  rw [e]
  simp only [Option.bind_some]
  rcases Bool.eq_false_or_eq_true (bOK sq fc ov l && sqr sq l s) with c | c
  · simp only [c, if_true]
    simp only [Bool.and_eq_true] at c
    have h0 := sqr_in c.2
    refine Ev.bind (a := srP (srch (halfB sq fc ov l s) 21 0)) ?_ (Ev.now _)
    exact untilfirstHalf_l0 c.1 h0.1 h0.2 21 0 (by omega)
  · simp only [c]
    exact Ev.now _
theorem allI (s : Int) : Ev (fun k => impl_AllDone.f k sq fc ov l s) (if (bOK sq fc ov l && sqr sq l s) = true then srP (srch (allB sq fc ov l s) 21 0) else (0, false)) := by
  unfold impl_AllDone.f impl_firstDone.f
  simp only [show isHalfV (.func (.func 233) #[] #[] : Value) = false from rfl, show isAllV (.func (.func 233) #[] #[] : Value) = true from rfl, if_true, if_neg (show ¬ (false = true) by decide)]
  refine Ev.bind (a := if (bOK sq fc ov l && sqr sq l s) = true then srP (srch (allB sq fc ov l s) 21 0) else (0, false)) ?_ (Ev.now _)
  unfold impl_firstAll.f
  have e : impl_areSquares.f sq fc ov l [s] = some (bOK sq fc ov l && sqr sq l s) := by simp [impl_areSquares.f]
  rw [e]
  simp only [Option.bind_some]
  rcases Bool.eq_false_or_eq_true (bOK sq fc ov l && sqr sq l s) with c | c
  · simp only [c, if_true]
    simp only [Bool.and_eq_true] at c
    have h0 := sqr_in c.2
    rw [startOf_eq c.1 h0.1 h0.2]
    have := all_l0 c.1 h0.1 h0.2 21 0 (by omega) (by omega)
    simpa [placesP] using this
  · simp only [c]
    exact Ev.now _
theorem allS (s : Int) : Ev (fun k => spec_AllDone.f k sq fc ov l s) (if (bOK sq fc ov l && sqr sq l s) = true then srP (srch (allB sq fc ov l s) 21 0) else (0, false)) := by
  unfold spec_AllDone.f
  have e : spec_sqAsked.f sq fc ov l s = some (bOK sq fc ov l && sqr sq l s) := by rw [← asked_eq]; rfl
  rw [e]
  simp only [Option.bind_some]
  rcases Bool.eq_false_or_eq_true (bOK sq fc ov l && sqr sq l s) with c | c
  · simp only [c, if_true]
    simp only [Bool.and_eq_true] at c
    have h0 := sqr_in c.2
    refine Ev.bind (a := srP (srch (allB sq fc ov l s) 21 0)) ?_ (Ev.now _)
    exact untilfirstAll_l0 c.1 h0.1 h0.2 21 0 (by omega)
  · simp only [c]
    exact Ev.now _
end
theorem low_law {a b : Int} (ha : 0 ≤ a) (hab : a ≤ b) (hb : 1 ≤ b) (hb2 : b ≤ 1152921504606846976) :
    1 ≤ (lowP a b).2 ∧ 0 ≤ (lowP a b).1 ∧ (lowP a b).1 ≤ (lowP a b).2 ∧ (lowP a b).2 ≤ b ∧ Int.tmod b (lowP a b).2 = 0 ∧ wrap64 ((lowP a b).1 * wrap64 (Int.tdiv b (lowP a b).2)) = a ∧ ((lowP a b).1 = (lowP a b).2 ↔ a = b) ∧ (2 * (lowP a b).1 ≥ (lowP a b).2 ↔ 2 * a ≥ b) := by
  obtain ⟨g, hg, e1, e2, h2, h1, e3⟩ := lowP_x ha hb
  obtain ⟨x, hx⟩ : ∃ x, x = (lowP a b).1 := ⟨_, rfl⟩
  obtain ⟨y, hy⟩ : ∃ y, y = (lowP a b).2 := ⟨_, rfl⟩
  rw [← hx] at e1 h1 ⊢
  rw [← hy] at e2 h2 e3 ⊢
  clear hx hy
  have hgb : g ≤ b := by
    have := Int.mul_le_mul_of_nonneg_right h2 (show 0 ≤ g by omega)
    rw [Int.one_mul, ← e2] at this
    exact this
  have hyb : y ≤ b := by
    have := Int.mul_le_mul_of_nonneg_left hg (show 0 ≤ y by omega)
    rw [Int.mul_one, ← e2] at this
    exact this
  have hxy : x ≤ y := Int.le_of_mul_le_mul_right (by rw [← e1, ← e2]; exact hab) (by omega)
  have hd : wrap64 (Int.tdiv b y) = g := by
    rw [Int.tdiv_eq_ediv_of_nonneg (by omega), e3]
    exact w64 (by omega) (by omega)
  refine ⟨h2, h1, hxy, hyb, ?_, ?_, ?_, ?_⟩
  · rw [Int.tmod_eq_emod_of_nonneg (by omega), e2]
    exact Int.mul_emod_right y g
  · rw [hd, ← e1]
    exact w64 (by omega) (by omega)
  · constructor
    · intro e; rw [e1, e2, e]
    · intro e; exact Int.eq_of_mul_eq_mul_right (show g ≠ 0 by omega) (by rw [← e1, ← e2]; exact e)
  · constructor
    · intro e
      have := Int.mul_le_mul_of_nonneg_right (show y ≤ 2 * x from e) (show 0 ≤ g by omega)
      rw [Int.mul_assoc, ← e1, ← e2] at this
      exact this
    · intro e
      refine Int.le_of_mul_le_mul_right (a := g) ?_ (by omega)
      rw [Int.mul_assoc, ← e1, ← e2]
      exact e
theorem bPower_l {fc : Int} (h1 : 1 ≤ fc) (h8 : fc ≤ 8) (d : Nat) : ∀ (i : Nat), i + d ≤ 20 → Ev (fun k => laws_bPower.l0 k fc d (fc ^ i)) (fc ^ (i + d)) := by
  induction d with
  | zero =>
    intro i hi
    exact Ev.step (f := fun _ => some (fc ^ i)) (fun k => by simp only [laws_bPower.l0]; rw [if_neg (by omega)]) (Ev.now _)
  | succ d ih =>
    intro i hi
    have hp := pow_le h1 h8 (i + 1) (by omega)
    refine Ev.step (f := fun k => laws_bPower.l0 k fc d (fc ^ (i + 1))) (fun k => by
      simp only [laws_bPower.l0]
      rw [if_pos (by omega), ← Int.pow_succ, w64 (Int.le_trans (by decide) hp.1) (Int.le_trans hp.2 (by decide)), w64 (by omega) (by omega), show (((d + 1 : Nat) : Int) - 1) = (d : Int) by omega]) ?_
    have := ih (i + 1) (by omega)
    rwa [show i + 1 + d = i + (d + 1) by omega] at this
theorem bPower_ev {fc t : Int} (h1 : 1 ≤ fc) (h8 : fc ≤ 8) (ht : 0 ≤ t) (ht2 : t ≤ 20) : Ev (fun k => laws_bPower.f k fc t) (fc ^ t.toNat) := by
  have := bPower_l h1 h8 t.toNat 0 (by omega)
  rw [show ((t.toNat : Nat) : Int) = t by omega] at this
  simpa [laws_bPower.f] using this
section
variable {sq fc ov : Int} {l : List S126}
theorem pm_j6 {s hv dv : Int} {hb db : Bool} (he : (hv, hb) = (if (bOK sq fc ov l && sqr sq l s) = true then srP (srch (halfB sq fc ov l s) 21 0) else (0, false))) (de : (dv, db) = (if (bOK sq fc ov l && sqr sq l s) = true then srP (srch (allB sq fc ov l s) 21 0) else (0, false))) :
    Ev (fun k => laws_FnPartsMet.j6 k s hv dv db sq fc ov l) true := by
  rcases Bool.eq_false_or_eq_true (bOK sq fc ov l && sqr sq l s) with c | c
  · rw [c] at he de
    simp only [if_true] at he de
    simp only [Bool.and_eq_true] at c
    obtain ⟨h, hs⟩ := c
    have hbd := bOK_J h
    have h0 := sqr_in hs
    cases ed : srch (allB sq fc ov l s) 21 0 with
    | none =>
      rw [ed] at de
      obtain ⟨rfl, rfl⟩ := Prod.mk.inj de
      exact Ev.step (f := fun _ => some true) (fun k => by simp only [laws_FnPartsMet.j6]; rw [if_neg (by decide)]) (Ev.now _)
    | some m =>
      rw [ed] at de
      obtain ⟨rfl, rfl⟩ := Prod.mk.inj de
      obtain ⟨p1, p2, p3, p4⟩ := srch_some _ _ _ _ ed
      have hd := doneI h (t := (m : Int)) hs (by omega) (by omega)
      rw [Int.toNat_natCast] at hd
      have hp := pow_le hbd.2.2.2.1 hbd.2.2.2.2.1 m (by omega)
      have hr : 0 ≤ doneN sq fc ov l s m ∧ doneN sq fc ov l s m ≤ fc ^ m := place_in h h0.1 h0.2 (by omega) sq
      have q1 := of_decide_eq_true p1
      have hll := low_law hr.1 hr.2 hp.1 hp.2
      refine Ev.step (f := fun k => (impl_PartDone.f k sq fc ov l s (m : Int)).bind fun b => if b.2.2 = true then (if b.1 = b.2.1 then laws_FnPartsMet.j7 k s m (decide ((m : Int) < hv)) sq fc ov l else none) else none) (fun k => by simp only [laws_FnPartsMet.j6]; rw [if_pos trivial]) ?_
      refine Ev.bind hd ?_
      refine Ev.congr (f := fun k => laws_FnPartsMet.j7 k s m (decide ((m : Int) < hv)) sq fc ov l) (fun k => by rw [if_pos rfl, if_pos (hll.2.2.2.2.2.2.1.2 q1)]) ?_
      have hge : ¬ ((m : Int) < hv) := by
        have hm : halfB sq fc ov l s m = true := decide_eq_true (by omega)
        cases eh : srch (halfB sq fc ov l s) 21 0 with
        | none => rw [eh] at he; obtain ⟨rfl, _⟩ := Prod.mk.inj he; omega
        | some q =>
          rw [eh] at he
          obtain ⟨rfl, _⟩ := Prod.mk.inj he
          obtain ⟨_, _, _, u4⟩ := srch_some _ _ _ _ eh
          intro hlt
          have := u4 m (by omega) (by omega)
          rw [hm] at this
          exact absurd this (by decide)
      rw [decide_eq_false hge]
      by_cases c2 : (m : Int) > 0
      · have hd2 := doneI h (t := (m : Int) - 1) hs (by omega) (by omega)
        rw [show ((m : Int) - 1).toNat = m - 1 by omega] at hd2
        have hp2 := pow_le hbd.2.2.2.1 hbd.2.2.2.2.1 (m - 1) (by omega)
        have hr2 : 0 ≤ doneN sq fc ov l s (m - 1) ∧ doneN sq fc ov l s (m - 1) ≤ fc ^ (m - 1) := place_in h h0.1 h0.2 (by omega) sq
        have hll2 := low_law hr2.1 hr2.2 hp2.1 hp2.2
        have q2 := of_decide_eq_false (p4 (m - 1) (by omega) (by omega))
        refine Ev.step (f := fun k => (impl_PartDone.f k sq fc ov l s ((m : Int) - 1)).bind fun b => if b.2.2 = true then some (decide (b.1 < b.2.1)) else none) (fun k => by simp only [laws_FnPartsMet.j7]; rw [if_neg (by decide), if_pos c2, w64 (by omega) (by omega)]) ?_
        refine Ev.bind hd2 ?_
        refine Ev.congr (f := fun _ => some true) (fun k => ?_) (Ev.now _)
        have hlt : (lowP (doneN sq fc ov l s (m - 1)) (fc ^ (m - 1))).1 < (lowP (doneN sq fc ov l s (m - 1)) (fc ^ (m - 1))).2 := by
          have := hll2.2.2.1
          have : (lowP (doneN sq fc ov l s (m - 1)) (fc ^ (m - 1))).1 ≠ (lowP (doneN sq fc ov l s (m - 1)) (fc ^ (m - 1))).2 := fun e => q2 (hll2.2.2.2.2.2.2.1.1 e)
          omega
        rw [if_pos rfl]
        exact congrArg some (decide_eq_true hlt)
      · exact Ev.step (f := fun _ => some true) (fun k => by simp only [laws_FnPartsMet.j7]; rw [if_neg (by decide), if_neg c2]) (Ev.now _)
  · rw [c] at de
    obtain ⟨rfl, rfl⟩ := Prod.mk.inj de
    exact Ev.step (f := fun _ => some true) (fun k => by simp only [laws_FnPartsMet.j6]; rw [if_neg (by decide)]) (Ev.now _)
theorem pm_j4 {s hv dv : Int} {hb db : Bool} (he : (hv, hb) = (if (bOK sq fc ov l && sqr sq l s) = true then srP (srch (halfB sq fc ov l s) 21 0) else (0, false))) (de : (dv, db) = (if (bOK sq fc ov l && sqr sq l s) = true then srP (srch (allB sq fc ov l s) 21 0) else (0, false))) :
    Ev (fun k => laws_FnPartsMet.j4 k s hv hb dv db false sq fc ov l) true := by
  have h6 := pm_j6 he de
  cases hb with
  | false => exact Ev.step (f := fun k => laws_FnPartsMet.j6 k s hv dv db sq fc ov l) (fun k => by simp only [laws_FnPartsMet.j4]; rw [if_neg (by decide), if_neg (by decide)]) h6
  | true =>
    rcases Bool.eq_false_or_eq_true (bOK sq fc ov l && sqr sq l s) with c | c
    · rw [c] at he
      simp only [if_true] at he
      simp only [Bool.and_eq_true] at c
      obtain ⟨h, hs⟩ := c
      have hbd := bOK_J h
      have h0 := sqr_in hs
      cases eh : srch (halfB sq fc ov l s) 21 0 with
      | none => rw [eh] at he; exact absurd (Prod.mk.inj he).2 (by decide)
      | some m =>
        rw [eh] at he
        obtain ⟨rfl, _⟩ := Prod.mk.inj he
        obtain ⟨p1, p2, p3, p4⟩ := srch_some _ _ _ _ eh
        have hd := doneI h (t := (m : Int)) hs (by omega) (by omega)
        rw [Int.toNat_natCast] at hd
        have hp := pow_le hbd.2.2.2.1 hbd.2.2.2.2.1 m (by omega)
        have hr : 0 ≤ doneN sq fc ov l s m ∧ doneN sq fc ov l s m ≤ fc ^ m := place_in h h0.1 h0.2 (by omega) sq
        have hll := low_law hr.1 hr.2 hp.1 hp.2
        have q1 := of_decide_eq_true p1
        have q2 := hll.2.2.2.2.2.2.2.2 q1
        refine Ev.step (f := fun k => (impl_PartDone.f k sq fc ov l s (m : Int)).bind fun b => if b.2.2 = true then laws_FnPartsMet.j5 k s m dv db (decide (wrap64 (b.2.1 - b.1) > b.1)) sq fc ov l else none) (fun k => by simp only [laws_FnPartsMet.j4]; rw [if_neg (by decide), if_pos trivial]) ?_
        refine Ev.bind hd ?_
        dsimp only
        rw [w64 (by omega) (by omega), decide_eq_false (by omega)]
        refine Ev.congr (f := fun k => laws_FnPartsMet.j5 k s m dv db false sq fc ov l) (fun k => by rw [if_pos rfl]) ?_
        by_cases c2 : (m : Int) > 0
        · have hd2 := doneI h (t := (m : Int) - 1) hs (by omega) (by omega)
          rw [show ((m : Int) - 1).toNat = m - 1 by omega] at hd2
          have hp2 := pow_le hbd.2.2.2.1 hbd.2.2.2.2.1 (m - 1) (by omega)
          have hr2 : 0 ≤ doneN sq fc ov l s (m - 1) ∧ doneN sq fc ov l s (m - 1) ≤ fc ^ (m - 1) := place_in h h0.1 h0.2 (by omega) sq
          have hll2 := low_law hr2.1 hr2.2 hp2.1 hp2.2
          have u2 := of_decide_eq_false (p4 (m - 1) (by omega) (by omega))
          have u3 : ¬ (2 * (lowP (doneN sq fc ov l s (m - 1)) (fc ^ (m - 1))).1 ≥ (lowP (doneN sq fc ov l s (m - 1)) (fc ^ (m - 1))).2) := fun e => u2 (hll2.2.2.2.2.2.2.2.1 e)
          refine Ev.step (f := fun k => (impl_PartDone.f k sq fc ov l s ((m : Int) - 1)).bind fun b => if b.2.2 = true then (if wrap64 (b.2.1 - b.1) ≤ b.1 then none else laws_FnPartsMet.j6 k s m dv db sq fc ov l) else none) (fun k => by simp only [laws_FnPartsMet.j5]; rw [if_neg (by decide), if_pos c2, w64 (x := (m : Int) - 1) (by omega) (by omega)]) ?_
          refine Ev.bind hd2 ?_
          dsimp only
          rw [w64 (by omega) (by omega)]
          exact Ev.congr (f := fun k => laws_FnPartsMet.j6 k s m dv db sq fc ov l) (fun k => by rw [if_pos rfl, if_neg (by omega)]) h6
        · exact Ev.step (f := fun k => laws_FnPartsMet.j6 k s m dv db sq fc ov l) (fun k => by simp only [laws_FnPartsMet.j5]; rw [if_neg (by decide), if_neg c2]) h6
    · rw [c] at he
      exact absurd (Prod.mk.inj he).2 (by decide)
end
theorem pm_j3 {by_ : List Int} (hb : bytes by_) : Ev (fun k => laws_FnPartsMet.j3 k by_) true := by
  obtain ⟨⟨sq, fc, ov, l, s⟩, hD, _⟩ := drawHalfDone_tot hb
  refine Ev.step (f := fun k => (spec_DrawHalfDone.f k by_).bind fun b => _) (fun k => by simp only [laws_FnPartsMet.j3]; first | done | rfl) ?_
  refine Ev.bind hD ?_
  dsimp only
  refine Ev.bind (halfI s) (Ev.bind (halfS s) (Ev.bind (allI s) (Ev.bind (allS s) ?_)))
  obtain ⟨⟨hv, hb'⟩, he⟩ : ∃ x : Int × Bool, x = (if (bOK sq fc ov l && sqr sq l s) = true then srP (srch (halfB sq fc ov l s) 21 0) else (0, false)) := ⟨_, rfl⟩
  obtain ⟨⟨dv, db⟩, de⟩ : ∃ x : Int × Bool, x = (if (bOK sq fc ov l && sqr sq l s) = true then srP (srch (allB sq fc ov l s) 21 0) else (0, false)) := ⟨_, rfl⟩
  rw [← he, ← de]
  have h4 := pm_j4 he de
  refine Ev.congr (f := fun k => laws_FnPartsMet.j4 k s hv hb' dv db false sq fc ov l) (fun k => ?_) h4
  simp only [bne_self_eq_false, if_true, if_neg (show ¬ (false = true) by decide)]
  cases db with
  | false => rw [if_neg (by decide)]
  | true =>
    have : hb' = true := by
      rcases Bool.eq_false_or_eq_true (bOK sq fc ov l && sqr sq l s) with c | c
      · rw [c] at he de
        simp only [if_true] at he de
        cases ed : srch (allB sq fc ov l s) 21 0 with
        | none => rw [ed] at de; exact absurd (Prod.mk.inj de).2 (by decide)
        | some m =>
          cases eh : srch (halfB sq fc ov l s) 21 0 with
          | some q => rw [eh] at he; exact (Prod.mk.inj he).2
          | none =>
            exfalso
            simp only [Bool.and_eq_true] at c
            obtain ⟨p1, p2, p3, p4⟩ := srch_some _ _ _ _ ed
            have := srch_none _ _ _ eh m (by omega) (by omega)
            have q1 := of_decide_eq_true p1
            have q2 := of_decide_eq_false this
            have hbd := bOK_J c.1
            have hp := pow_le hbd.2.2.2.1 hbd.2.2.2.2.1 m (by omega)
            omega
      · rw [c] at de
        exact absurd (Prod.mk.inj de).2 (by decide)
    rw [if_pos rfl, this]
    rfl
section
variable {sq fc ov : Int} {l : List S126}
theorem pm_j0 {by_ : List Int} (hb : bytes by_) (h : bOK sq fc ov l = true) {s q t : Int} (hs : sqr sq l s = true) (hq : sqr sq l q = true) (ht0 : 0 ≤ t) (ht2 : t ≤ 20) {n d n2 d2 M P : Int} (hM : M = fc ^ t.toNat - (missP (lands sq fc ov l) (sq + 1).toNat q (startP (sq + 1).toNat s) t.toNat).sum) (hP : P = rd (placesP (lands sq fc ov l) (sq + 1).toNat (startP (sq + 1).toNat s) t.toNat) q)
    (e1 : (n, d) = lowP M (fc ^ t.toNat)) (e2 : (n2, d2) = lowP P (fc ^ t.toNat)) : Ev (fun k => laws_FnPartsMet.j0 k by_ s q t n d true n2 d2 false sq fc ov l) true := by
  have hbd := bOK_J h
  have h0 := sqr_in hs
  have h1 := sqr_in hq
  have hp := pow_le hbd.2.2.2.1 hbd.2.2.2.2.1 t.toNat (by omega)
  have hr := place_in h h0.1 h0.2 (t := t.toNat) (by omega) q
  have hge := met_ge h h0.1 h0.2 h1.1 h1.2 t.toNat
  have hst := start_facts h h0.1 h0.2
  have hmn := sum_nn (missP_nn h (q := q) hst.1 hst.2.1 t.toNat)
  rw [← hP] at hr hge
  obtain ⟨N, hN⟩ : ∃ N, N = fc ^ t.toNat := ⟨_, rfl⟩
  rw [← hN] at hM e1 e2 hp hr hge
  have L1 := low_law (a := M) (b := N) (by omega) (by omega) hp.1 hp.2
  have L2 := low_law (a := P) (b := N) hr.1 hr.2 hp.1 hp.2
  rw [← e1] at L1
  rw [← e2] at L2
  dsimp only at L1 L2
  obtain ⟨a1, a2, a3, a4, a5, a6, a7, _⟩ := L1
  obtain ⟨b1, b2, b3, b4, b5, b6, b7, _⟩ := L2
  have hlen := placesP_len (lands sq fc ov l) (sq + 1).toNat t.toNat hst.1
  have j2 : Ev (fun k => laws_FnPartsMet.j2 k by_ s q t n d N false sq fc ov l) true := by
    by_cases c : t > 0
    · refine Ev.step (f := fun k => (impl_PartMet.f k sq fc ov l s q (t - 1)).bind fun b => if b.2.2 = true then (if b.2.1 = 0 then none else (if wrap64 (b.1 * wrap64 (Int.tdiv N b.2.1)) > M then none else laws_FnPartsMet.j3 k by_)) else none) (fun k => by simp only [laws_FnPartsMet.j2]; rw [if_neg (by decide), if_pos c, w64 (x := t - 1) (by omega) (by omega)]; simp only [if_neg (show ¬ d = 0 by omega), a6]) ?_
      refine Ev.bind (metI h hs hq (t := t - 1) (by omega) (by omega)) ?_
      dsimp only
      have hst' : (t - 1).toNat + 1 = t.toNat := by omega
      have hp' := pow_le hbd.2.2.2.1 hbd.2.2.2.2.1 (t - 1).toNat (by omega)
      have hm' := met_more h h0.1 h0.2 h1.1 h1.2 (t - 1).toNat
      rw [hst'] at hm'
      have hge' := met_ge h h0.1 h0.2 h1.1 h1.2 (t - 1).toNat
      have hmn' := sum_nn (missP_nn h (q := q) hst.1 hst.2.1 (t - 1).toNat)
      have hr' := place_in h h0.1 h0.2 (t := (t - 1).toNat) (by omega) q
      have hNN : N = fc ^ (t - 1).toNat * fc := by rw [hN, ← hst', Int.pow_succ]
      obtain ⟨N', hN'⟩ : ∃ N', N' = fc ^ (t - 1).toNat := ⟨_, rfl⟩
      obtain ⟨S', hS'⟩ : ∃ S', S' = (missP (lands sq fc ov l) (sq + 1).toNat q (startP (sq + 1).toNat s) (t - 1).toNat).sum := ⟨_, rfl⟩
      rw [← hN'] at hNN hp' hge' hr' ⊢
      rw [← hS'] at hm' hge' hmn' ⊢
      obtain ⟨g, hg, f1, f2, f3, f4, f5⟩ := lowP_x (a := N' - S') (b := N') (by omega) (by omega)
      refine Ev.congr (f := fun k => laws_FnPartsMet.j3 k by_) (fun k => ?_) (pm_j3 hb)
      obtain ⟨x, hx⟩ : ∃ x, x = (lowP (N' - S') N').1 := ⟨_, rfl⟩
      obtain ⟨y, hy⟩ : ∃ y, y = (lowP (N' - S') N').2 := ⟨_, rfl⟩
      rw [← hx] at f1 f4 ⊢
      rw [← hy] at f2 f3 f5 ⊢
      have hdiv : Int.tdiv N y = g * fc := by
        rw [Int.tdiv_eq_ediv_of_nonneg (by omega)]
        exact Int.ediv_eq_of_eq_mul_right (by omega) (by rw [hNN, f2, Int.mul_assoc])
      have hgf : 0 ≤ g * fc := Int.mul_nonneg (by omega) (by omega)
      have hgN : g * fc ≤ N := by
        have := Int.mul_le_mul_of_nonneg_right f3 hgf
        rw [Int.one_mul, ← Int.mul_assoc, ← f2, ← hNN] at this
        exact this
      have hxe : x * (g * fc) = (N' - S') * fc := by rw [← Int.mul_assoc, ← f1]
      have hle : (N' - S') * fc ≤ M := by
        rw [Int.sub_mul, ← hNN, hM, Int.mul_comm S' fc]
        omega
      have h0' : 0 ≤ (N' - S') * fc := Int.mul_nonneg (by omega) (by omega)
      rw [if_pos rfl, if_neg (by omega), hdiv, w64 (x := g * fc) (by omega) (by omega), hxe, w64 (by omega) (by omega), if_neg (by omega)]
    · exact Ev.step (f := fun k => laws_FnPartsMet.j3 k by_) (fun k => by simp only [laws_FnPartsMet.j2]; rw [if_neg (by decide), if_neg c]) (pm_j3 hb)
  have j1 : Ev (fun k => laws_FnPartsMet.j1 k by_ s q t n d n2 d2 N false sq fc ov l) true := by
    refine Ev.step (f := fun k => (impl_PlacesAfter.f k sq fc ov l s t).bind fun b => _) (fun k => by simp only [laws_FnPartsMet.j1]; rw [if_neg (by decide)]; first | done | rfl) ?_
    refine Ev.bind (placesI h hs ht0 ht2) ?_
    refine Ev.congr (f := fun k => laws_FnPartsMet.j2 k by_ s q t n d N false sq fc ov l) (fun k => ?_) j2
    dsimp only
    rw [if_pos rfl, if_pos h1.1, if_pos (show q < _ by rw [hlen]; omega), if_neg (show ¬ d2 = 0 by omega), b6, ← hP, if_pos rfl, a6]
    by_cases c : q = sq
    · have he : (M != P) = false := by
        have := met_end h h0.1 h0.2 t.toNat
        subst c
        rw [← hP, ← hN] at this
        simp only [bne_eq_false_iff_eq]
        omega
      rw [if_pos c, if_neg (show ¬ d = 0 by omega), he]
    · rw [if_neg c]
  refine Ev.step (f := fun k => (laws_bPower.f k fc t).bind fun N => _) (fun k => by simp only [laws_FnPartsMet.j0]; rw [if_neg (by decide), if_pos trivial]; first | done | rfl) ?_
  refine Ev.bind (bPower_ev hbd.2.2.2.1 hbd.2.2.2.2.1 ht0 ht2) ?_
  refine Ev.congr (f := fun k => laws_FnPartsMet.j1 k by_ s q t n d n2 d2 N false sq fc ov l) (fun k => ?_) j1
  rw [← hN, if_neg (show ¬ d = 0 by omega), if_pos a5, if_neg (show ¬ d2 = 0 by omega), if_pos b5, a6, b6, if_neg (show ¬ M < P by omega), if_neg (show ¬ n > d by omega)]
  by_cases c : s = q
  · have : (n != d) = false := by
      have h2 := miss_none h (q := q) t.toNat
      rw [← c] at h2
      rw [c] at h2 hM
      simp only [bne_eq_false_iff_eq]
      exact a7.2 (by omega)
    rw [if_pos c, this]
  · rw [if_neg c]
end
end Go.Proofs.Ytgahigmpcgfbeaa.P
namespace Go.Proofs.Ytgahigmpcgfbeaa.Pure
set_option linter.unusedVariables false
set_option linter.unusedSimpArgs false
open Go.RowKit Go.Proofs.Ytgahigmpcgfbeaa.P Go.Proofs.YtgahigmpcgfbeaaW.PrintWords Go.Proofs.YtgahigmpcgfbeaaW.PrintLast
theorem FnPartsMet : laws_FnPartsMet.Pure := by
  intro l0 l1 _ _ hb0 _ _ hb1
  have hb0 := bytes_of hb0
  have hb1 := bytes_of hb1
  refine Ev.rounds ?_
  unfold laws_FnPartsMet.f
  obtain ⟨b, hbig⟩ : ∃ b, laws_big.f l0 l1 = some b := by unfold laws_big.f; split <;> exact ⟨_, rfl⟩
  rw [hbig]
  simp only [Option.bind_some]
  cases b with
  | true => exact Ev.congr (f := fun _ => some true) (fun k => if_pos rfl) (Ev.now _)
  | false =>
    refine Ev.congr (f := fun k => (spec_DrawPartMet.f k l0).bind fun b => _) (fun k => if_neg (by decide)) ?_
    obtain ⟨⟨sq, fc, ov, l, s, q, t⟩, hD, _⟩ := drawPartAt_tot hb0
    refine Ev.bind (a := (sq, fc, ov, l, s, q, t)) (by unfold spec_DrawPartMet.f; exact Ev.bind hD (Ev.now _)) ?_
    dsimp only
    obtain ⟨r, m1, m2⟩ := PartMet_ev (sq := sq) (fc := fc) (ov := ov) (l := l) s q t
    obtain ⟨u, p1, p2⟩ := PartAt_ev (sq := sq) (fc := fc) (ov := ov) (l := l) s q t
    refine Ev.bind m2 (Ev.bind m1 (Ev.bind p2 (Ev.bind p1 ?_)))
    rcases Bool.eq_false_or_eq_true (bOK sq fc ov l && (sqr sq l s && sqr sq l q) && inn t 0 20) with c | c
    · simp only [Bool.and_eq_true, inn_iff] at c
      obtain ⟨⟨h, hs, hq⟩, ht0, ht2⟩ := c
      have er := Ev.same m2 (metI h hs hq ht0 ht2)
      have eu := Ev.same p2 (atI h hs hq ht0 ht2)
      have := pm_j0 hb1 h hs hq ht0 ht2 (n := (lowP (fc ^ t.toNat - (missP (lands sq fc ov l) (sq + 1).toNat q (startP (sq + 1).toNat s) t.toNat).sum) (fc ^ t.toNat)).1) (d := (lowP (fc ^ t.toNat - (missP (lands sq fc ov l) (sq + 1).toNat q (startP (sq + 1).toNat s) t.toNat).sum) (fc ^ t.toNat)).2) (n2 := (lowP (rd (placesP (lands sq fc ov l) (sq + 1).toNat (startP (sq + 1).toNat s) t.toNat) q) (fc ^ t.toNat)).1) (d2 := (lowP (rd (placesP (lands sq fc ov l) (sq + 1).toNat (startP (sq + 1).toNat s) t.toNat) q) (fc ^ t.toNat)).2) rfl rfl rfl rfl
      refine Ev.congr (fun k => ?_) this
      rw [er, eu]
      simp
    · obtain rfl := Ev.same m2 (metI_no c)
      obtain rfl := Ev.same p2 (atI_no c)
      refine Ev.congr (f := fun k => laws_FnPartsMet.j0 k l1 s q t 0 0 false 0 0 false sq fc ov l) (fun k => by simp) ?_
      exact Ev.step (f := fun k => laws_FnPartsMet.j3 k l1) (fun k => by simp only [laws_FnPartsMet.j0]; rw [if_neg (by decide), if_neg (by decide)]) (pm_j3 hb1)
end Go.Proofs.Ytgahigmpcgfbeaa.Pure
end

section
namespace Go.Proofs.YtgahigmpcgfbeaaW.PrintWords
open Go.ChangeShapes Go.WideShapes
theorem sized_ints {H : Type} {enc : TypeId × Value → H} {P : Program} {W : World} {base : Nat} {spare : Nat → Bool} {held : Bool} {t e : TypeId} {k : IntKind} {a : Option Addr} {len cap : Nat} {d : DataW H} {ps : List MemPlace} {ts : List TypeId} {ds : List (DataW H)} {j : Nat}
    (hsz : (DataW.weightsEach P ts ds).all (· ≤ reachBytes) = true) (ht : ts[j]? = some t) (hd : ds[j]? = some d) (hu : P.underlying t = some (.slice e)) (he : P.underlying e = some (.int k)) (hc : P.cellsOf e = 1) {B : Nat} (hB : P.bytesOf e = B)
    (h : DataW.Trod enc P W base spare held t (.slice a len cap) d ps) : len * B ≤ 140737488351232 := by
  obtain ⟨fuel, hf⟩ := h
  rcases open_ints hu he hc hf with ⟨hcs, _⟩ | ⟨x, l, c, zs, hcs, _, hl, _, hz, hx, _, _⟩
  · simp [Value.cells] at hcs
    obtain ⟨rfl, rfl, rfl⟩ := hcs
    simp
  · simp [Value.cells] at hcs
    obtain ⟨rfl, rfl, rfl⟩ := hcs
    obtain ⟨hx, _⟩ := Prod.mk.inj hx
    subst hx
    have z := sized_slice hsz ht hd hu
    rw [hB] at z
    have hl2 : len ≤ zs.length := by
      rw [hz]
      split
      · exact hl
      · exact Nat.le_refl _
    have h1 : (lits (H := H) k (zs.take len)).length + (lits (H := H) k (zs.drop len)).length = zs.length := by
      simp [lits]
      omega
    rw [h1] at z
    exact Nat.le_trans (Nat.mul_le_mul_right _ hl2) z
end Go.Proofs.YtgahigmpcgfbeaaW.PrintWords
end
