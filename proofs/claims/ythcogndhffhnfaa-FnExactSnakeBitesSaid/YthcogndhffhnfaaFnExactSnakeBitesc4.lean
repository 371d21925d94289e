/- The program's SnakeBites returns what the reference's SnakeBites returns, for every board, a square and a number of throws, and leaves the board as it was. -/
import Derived.ProofKit
import Derived.Deep.Slices
import Derived.Lib.SmallJoins
import Derived.SizedLaws
import Derived.ChangeSlices
import Derived.OpenShut
import Derived.Test.YthcogndhffhnfaaFnExactSnakeBitesc3
section
namespace Go.Proofs.Ythcogndhffhnfaa.P
set_option linter.unusedVariables false
set_option linter.unusedSimpArgs false
open Go.ChangeShapes Go.WideShapes Go.Deep Go.RowKit Go.Proofs.YthcogndhffhnfaaW.PrintWords
set_option maxRecDepth 100000 in
theorem int_of {P : Program} {H : Type} {enc : TypeId × Value → H} {W : World} {base n : Nat} {t : TypeId} {k : IntKind} {u : Value} {y : DataW H × List MemPlace} (ht : P.underlying t = some (.int k)) (h : DataW.trod enc P W base (fun _ => true) true n t [u] = some y) :
    ∃ a : Int, u = .int k a ∧ (Lit.int k a).wf = true := by
  obtain ⟨a, e, _, hw⟩ := DataW.trod_int ht h
  exact ⟨a, by simpa using e, hw⟩
set_option maxRecDepth 100000 in
theorem row_of {P : Program} {α : Type} [Inhabited α] {H : Type} {enc : TypeId × Value → H} {W : World} {base n : Nat} {t e : TypeId} {u : Value} {y : DataW H × List MemPlace} (d : Kd α) (good : α → Prop) (ht : P.underlying t = some (.slice e)) (hsz : P.cellsOf e = d.sz)
    (hd : ∀ (m : Nat) (cs : List Value) (y : DataW H × List MemPlace), DataW.trod enc P W base (fun _ => true) true m e cs = some y → ∃ x, d.K W x cs ∧ good x)
    (h : DataW.trod enc P W base (fun _ => true) true n t [u] = some y) :
    ∃ (A : Option Addr) (len cap : Nat) (l : List α), u = .slice A len cap ∧ l.length = len ∧ len ≤ cap ∧ cap ≤ maxLen ∧ Kd.C d W A len l ∧ ∀ x ∈ l, good x := by
  rcases open_slice ht h with ⟨hcs, _⟩ | ⟨a, len, cap, m, n', D, Pl, hcs, hb, hl, hm, hmm, _, hx⟩
  · exact ⟨none, 0, 0, [], by simpa using hcs, rfl, Nat.le_refl _, by decide, ⟨rfl, by decide, fun h => absurd h (by decide)⟩, by simp⟩
  · have hm' : len ≤ m := by rw [hmm]; simp; exact hl
    obtain ⟨f, hf⟩ := choose_lt (α := α) (p := fun i x => ∃ cs, W.cells? base (a.add (i * P.cellsOf e)) (P.cellsOf e) = some cs ∧ d.K W x cs ∧ good x) (n := len) (fun i hi => by
      obtain ⟨cs, h1, h2⟩ := hx i (by omega)
      obtain ⟨x, h3, h4⟩ := hd _ _ _ h2
      exact ⟨x, cs, h1, h3, h4⟩)
    refine ⟨some a, len, cap, (List.range len).map f, by simpa using hcs, by simp, hl, hm, ⟨by simp, by have := hm; unfold maxLen at this; omega, fun _ => ⟨a, rfl, fun j p hj => ?_⟩⟩, fun x hx' => ?_⟩
    · have hj' : j < len := by have := (List.getElem?_eq_some_iff.1 hj).1; simpa using this
      have hp : p = f j := by rw [List.getElem?_map, List.getElem?_range hj'] at hj; simpa using hj.symm
      obtain ⟨cs, h1, h2, _⟩ := hf j hj'
      subst hp
      obtain ⟨_, h3, h4⟩ := World.cells?_some h1
      refine ⟨cs, d.K_len h2, h2, fun i v hv => ?_⟩
      have hi : i < d.sz := by have := (List.getElem?_eq_some_iff.1 hv).1; rw [d.K_len h2] at this; exact this
      rw [← hv, ← h4 i (by rw [hsz]; exact hi), hsz, Deep.add_add]
    · obtain ⟨i, hi, rfl⟩ := List.mem_map.1 hx'
      obtain ⟨_, _, _, h5⟩ := hf i (by simpa using hi)
      exact h5
def goodI (x : Int) : Prop := (Lit.int .i64 x).wf = true
set_option maxRecDepth 100000 in
theorem ints_of {H : Type} {enc : TypeId × Value → H} {W : World} {base m : Nat} {cs : List Value} {y : DataW H × List MemPlace} (h : DataW.trod enc Try.prog W base (fun _ => true) true m 3 cs = some y) : ∃ x, (Kd.int .i64).K W x cs ∧ goodI x := by
  obtain ⟨a, rfl, _, hw⟩ := DataW.trod_int Try.underlying3 h
  exact ⟨a, rfl, hw⟩
instance : Inhabited S174 := ⟨z174⟩
def goodJ (x : S174) : Prop := (Lit.int .i64 x.f0).wf = true ∧ (Lit.int .i64 x.f1).wf = true
set_option maxRecDepth 100000 in
theorem jumps_of {H : Type} {enc : TypeId × Value → H} {W : World} {base m : Nat} {cs : List Value} {y : DataW H × List MemPlace} (h : DataW.trod enc Try.prog W base (fun _ => true) true m 174 cs = some y) : ∃ x, k174.K W x cs ∧ goodJ x := by
  obtain ⟨_, _, n, _, hl, h0, h1⟩ := trod_struct2 Try.underlying174 h
  have hl : cs.length = 2 := hl.trans (by kernel_rfl)
  have hc : Try.prog.cellsOf 3 = 1 := by kernel_rfl
  match cs, hl with
  | [u0, u1], _ =>
    simp only [hc, List.drop_succ_cons, List.drop_zero, List.take_succ_cons, List.take_zero] at h0 h1
    obtain ⟨a, rfl, wa⟩ := int_of Try.underlying3 h0
    obtain ⟨b, rfl, wb⟩ := int_of Try.underlying3 h1
    exact ⟨⟨a, b⟩, k174_mk _ _, wa, wb⟩
set_option maxRecDepth 100000 in
theorem board_of {H : Type} {enc : TypeId × Value → H} {W : World} {base m : Nat} {cs : List Value} {y : DataW H × List MemPlace} (h : DataW.trod enc Try.prog W base (fun _ => true) true m 24 cs = some y) :
    ∃ (a0 a1 a2 : Int) (A : Option Addr) (c : Nat) (l : List S174), cs = [.int .i64 a0, .int .i64 a1, .int .i64 a2, .slice A l.length c] ∧ Kd.C k174 W A l.length l ∧ l.length ≤ c ∧ l.length ≤ maxLen ∧ (Lit.int .i64 a0).wf = true ∧ (Lit.int .i64 a1).wf = true ∧ (Lit.int .i64 a2).wf = true ∧ ∀ x ∈ l, goodJ x := by
  obtain ⟨_, _, _, _, n, _, hl, h0, h1, h2, h3⟩ := Go.Joins.trod_struct4 Try.underlying24 h
  have hl : cs.length = 4 := hl.trans (by kernel_rfl)
  have hc : Try.prog.cellsOf 3 = 1 := by kernel_rfl
  have hc2 : Try.prog.cellsOf 22 = 1 := by kernel_rfl
  match cs, hl with
  | [u0, u1, u2, u3], _ =>
    simp only [hc, hc2, List.drop_succ_cons, List.drop_zero, List.take_succ_cons, List.take_zero] at h0 h1 h2 h3
    obtain ⟨a0, rfl, w0⟩ := int_of Try.underlying3 h0
    obtain ⟨a1, rfl, w1⟩ := int_of Try.underlying3 h1
    obtain ⟨a2, rfl, w2⟩ := int_of Try.underlying3 h2
    obtain ⟨A, len, cap, l, rfl, rfl, hl, hm, hC, hg⟩ := row_of k174 goodJ Try.underlying22 (by kernel_rfl) (fun _ _ _ h => jumps_of h) h3
    exact ⟨a0, a1, a2, A, cap, l, rfl, hC, hl, Nat.le_trans hl hm, w0, w1, w2, hg⟩
set_option maxRecDepth 100000 in
theorem open_Board {H : Type} {enc : TypeId × Value → H} {W : World} {b base : Nat} {v : Value} {d : DataW H} {p : List MemPlace} (hv : Value.okWide Try.prog W .any b 24 v) (h : DataW.Trod enc Try.prog W base (fun _ => true) true 24 v d p) :
    ∃ (a0 a1 a2 : Int) (A : Option Addr) (c : Nat) (l : List S174), v = .agg #[.int .i64 a0, .int .i64 a1, .int .i64 a2, .slice A l.length c] ∧ Kd.C k174 W A l.length l ∧ l.length ≤ c ∧ l.length ≤ maxLen ∧ (Lit.int .i64 a0).wf = true ∧ (Lit.int .i64 a1).wf = true ∧ (Lit.int .i64 a2).wf = true ∧ ∀ x ∈ l, goodJ x := by
  obtain ⟨cs, rfl, _⟩ := okWide_struct Try.underlying24 hv
  obtain ⟨fuel, hf⟩ := h
  obtain ⟨a0, a1, a2, A, c, l, e, r⟩ := board_of (cs := cs.toList) hf
  exact ⟨a0, a1, a2, A, c, l, by rw [← Array.toArray_toList (xs := cs), e], r⟩
end Go.Proofs.Ythcogndhffhnfaa.P
end

section
namespace Go.Proofs.YthcogndhffhnfaaW.PrintWords
open Go.ChangeShapes Go.WideShapes
end Go.Proofs.YthcogndhffhnfaaW.PrintWords
end

section
namespace Go.Proofs.Ythcogndhffhnfaa.P
set_option linter.unusedVariables false
set_option linter.unusedSimpArgs false
open Go.RowKit Go.Proofs.YthcogndhffhnfaaW.PrintWords Go.Proofs.YthcogndhffhnfaaW.PrintLast
theorem w64 {x : Int} (h : -9223372036854775808 ≤ x) (h2 : x ≤ 9223372036854775807) : wrap64 x = x := by unfold wrap64; omega
theorem wf64 {x : Int} (h : (Lit.int .i64 x).wf = true) : -9223372036854775808 ≤ x ∧ x ≤ 9223372036854775807 := Go.bounds_i64 h
def cvJ (x : S174) : S127 := ⟨x.f0, x.f1⟩
theorem toJumpS_l (x0 : List S174) (hl : x0.length ≤ 17592186044416) (d : Nat) : ∀ (k i : Nat) (x3 : List S127), i + d = x0.length → x3.length = x0.length → d < k →
    laws_toJumpS.l0 k x0 x3 i = some (x3.take i ++ (x0.drop i).map cvJ) := by
  induction d with
  | zero =>
    intro k i x3 hi h3 hk
    obtain ⟨k, rfl⟩ : ∃ m, k = m + 1 := ⟨k - 1, by omega⟩
    simp only [laws_toJumpS.l0]
    rw [if_neg (by omega), List.drop_eq_nil_of_le (by omega), List.take_of_length_le (by omega)]
    simp
  | succ d ih =>
    intro k i x3 hi h3 hk
    obtain ⟨k, rfl⟩ : ∃ m, k = m + 1 := ⟨k - 1, by omega⟩
    simp only [laws_toJumpS.l0]
    rw [if_pos (by omega), if_pos (by omega)]
    simp only [laws_toJump.f, Option.bind_some]
    rw [if_pos (by omega), w64 (by omega) (by omega), show ((i : Int) + 1) = ((i + 1 : Nat) : Int) by omega, ih k (i + 1) _ (by omega) (by simp [h3]) (by omega)]
    have hg : rd_T174 x0 i = x0[i] := by simp [rd_T174, show i < x0.length by omega]
    rw [hg, Int.toNat_natCast, List.drop_eq_getElem_cons (show i < x0.length by omega), List.map_cons]
    congr 1
    rw [List.take_succ_eq_append_getElem (by simp; omega), List.getElem_set_self, List.take_set_of_le (Nat.le_refl _)]
    simp [cvJ]
theorem toJumpS_eq {l : List S174} (hl : l.length ≤ 17592186044416) {k : Nat} (hk : l.length < k) : laws_toJumpS.f k l = some (l.map cvJ) := by
  unfold laws_toJumpS.f
  rw [if_pos (by omega), if_pos (by omega)]
  have := toJumpS_l l hl l.length k 0 (List.replicate l.length z127) (by omega) (by simp) hk
  simpa using this
theorem toBoard_eq {l : List S174} (hl : l.length ≤ 17592186044416) {k : Nat} (hk : l.length < k) (a b c : Int) : laws_toBoard.f k a b c l = some (a, b, c, l.map cvJ) := by
  unfold laws_toBoard.f
  rw [toJumpS_eq hl hk]
  rfl
theorem szBoard_eq (a b c : Int) (l : List S174) (hl : l.length ≤ maxLen) : (laws_szBoard.f a b c l 1048576 = some (-1)) ∨ (l.length ≤ 1048576 ∧ laws_szBoard.f a b c l 1048576 = some (1048576 - (l.length : Int))) := by
  have h : wrap64 (1048576 - (l.length : Int)) = 1048576 - (l.length : Int) := w64 (by unfold maxLen at hl; omega) (by omega)
  unfold laws_szBoard.f laws_szJumpS.f
  rw [h]
  by_cases c : (1048576 - (l.length : Int)) < 0
  · left
    rw [if_pos c]
    rfl
  · right
    rw [if_neg c]
    exact ⟨by omega, by rw [Option.bind_some, if_neg c]⟩
theorem eqJumpS_l (x : List S127) (hl : x.length ≤ 17592186044416) (d : Nat) : ∀ (k i : Nat), i + d = x.length → d < k → laws_eqJumpS.l0 k x x i = some true := by
  induction d with
  | zero =>
    intro k i hi hk
    obtain ⟨k, rfl⟩ : ∃ m, k = m + 1 := ⟨k - 1, by omega⟩
    simp only [laws_eqJumpS.l0]
    rw [if_neg (by omega)]
  | succ d ih =>
    intro k i hi hk
    obtain ⟨k, rfl⟩ : ∃ m, k = m + 1 := ⟨k - 1, by omega⟩
    simp only [laws_eqJumpS.l0]
    rw [if_pos (by omega), if_pos (by omega), if_pos (by omega)]
    simp only [laws_eqJump.f, if_true, Option.bind_some]
    rw [w64 (by omega) (by omega), show ((i : Int) + 1) = ((i + 1 : Nat) : Int) by omega]
    exact ih k (i + 1) (by omega) (by omega)
theorem eqBoard_refl {l : List S127} (hl : l.length ≤ 17592186044416) {k : Nat} (hk : l.length < k) (a b c : Int) : laws_eqBoard.f k a b c l a b c l = some true := by
  unfold laws_eqBoard.f laws_eqJumpS.f
  rw [if_pos rfl, if_pos rfl, if_pos rfl, if_pos rfl]
  have := eqJumpS_l l hl l.length k 0 (by omega) hk
  rw [show ((0 : Int)) = ((0 : Nat) : Int) from rfl, this]
  rfl
theorem bOK_J {sq fc ov : Int} {l : List S127} (h : bOK sq fc ov l = true) : okJ sq l 0 l = true ∧ 1 ≤ sq ∧ sq ≤ 100 ∧ 1 ≤ fc ∧ fc ≤ 8 ∧ 0 ≤ ov ∧ ov ≤ 2 ∧ l.length ≤ 20 := by
  simp only [bOK, Bool.and_eq_true, inn_iff, decide_eq_true_eq] at h
  obtain ⟨⟨⟨⟨⟨h1, h2⟩, h3, h4⟩, h5, h6⟩, h7⟩, h8⟩ := h
  exact ⟨h8, h1, h2, h3, h4, h5, h6, h7⟩
theorem jmp_ne {sq fc ov : Int} {l : List S127} (h : bOK sq fc ov l = true) {n : Int} (hj : (jmp l n).2 = true) : (jmp l n).1 ≠ n := by
  obtain ⟨j, hj1, h1, h2⟩ := jmp_mem hj
  have h3 := okS_ne sq l 0 (okJ_iff sq l l 0 (fun _ h => h) (bOK_J h).1).1 j hj1
  intro e
  exact h3 (by rw [h1, h2, e])
theorem sqs_eq {sq fc ov : Int} {l : List S127} (h : bOK sq fc ov l = true) (n : Int) : sqs sq l n = sqr sq l n := by
  unfold sqs sqr
  congr 1
  rcases Bool.eq_false_or_eq_true (jmp l n).2 with e | e
  · rw [e]; simpa using jmp_ne h e
  · rw [e]; simpa using jmp_no e
theorem asked_eq (sq fc ov : Int) (l : List S127) (n : Int) : (bOK sq fc ov l && sqs sq l n) = (bOK sq fc ov l && sqr sq l n) := by
  rcases Bool.eq_false_or_eq_true (bOK sq fc ov l) with e | e
  · rw [sqs_eq e]
  · rw [e]; rfl
end Go.Proofs.Ythcogndhffhnfaa.P
end

section
namespace Go.Proofs.Ythcogndhffhnfaa.P
set_option linter.unusedVariables false
set_option linter.unusedSimpArgs false
open Go.RowKit Go.Proofs.YthcogndhffhnfaaW.PrintWords Go.Proofs.YthcogndhffhnfaaW.PrintLast
theorem low_div (a : Int) (g : Nat) (ha : 0 ≤ a) (ha2 : a ≤ 9223372036854775807) : wrap64 (Int.tdiv a g) = a / g := by
  rw [Int.tdiv_eq_ediv_of_nonneg ha]
  have h1 : a / (g : Int) ≤ a := Int.ediv_le_self _ ha
  have h2 : 0 ≤ a / (g : Int) := Int.ediv_nonneg ha (by omega)
  exact w64 (by omega) (by omega)
theorem lowest_l (a b : Int) (ha : 0 ≤ a) (ha2 : a ≤ 9223372036854775807) (hb : 0 ≤ b) (hb2 : b ≤ 9223372036854775807) : ∀ (n m : Nat), 0 < m + n → Ev (fun k => impl_lowest.l0 k a b m n) (a / (Nat.gcd m n : Int), b / (Nat.gcd m n : Int)) := by
  intro n
  induction n using Nat.strongRecOn with
  | _ n ih =>
    intro m hmn
    by_cases c : n = 0
    · subst c
      rw [Nat.gcd_zero_right]
      exact Ev.step (f := fun _ => some (a / (m : Int), b / (m : Int))) (fun k => by simp only [impl_lowest.l0]; rw [if_pos (by omega), if_neg (by omega), low_div a m ha ha2, low_div b m hb hb2]) (Ev.now _)
    · have e : Nat.gcd m n = Nat.gcd n (m % n) := by rw [Nat.gcd_comm, Nat.gcd_rec, Nat.gcd_comm]
      refine Ev.step (f := fun k => impl_lowest.l0 k a b (n : Int) ((m % n : Nat) : Int)) (fun k => by simp only [impl_lowest.l0]; rw [if_neg (by omega)]; rfl) ?_
      rw [e]
      exact ih (m % n) (Nat.mod_lt _ (by omega)) n (by omega)
def lowP (a b : Int) : Int × Int := (a / (Nat.gcd a.toNat b.toNat : Int), b / (Nat.gcd a.toNat b.toNat : Int))
theorem lowest_ev {a b : Int} (ha : 0 ≤ a) (ha2 : a ≤ 9223372036854775807) (hb : 1 ≤ b) (hb2 : b ≤ 9223372036854775807) : Ev (fun k => impl_lowest.f k a b) (lowP a b) := by
  have := lowest_l a b ha ha2 (by omega) hb2 b.toNat a.toNat (by omega)
  rw [show ((a.toNat : Nat) : Int) = a by omega, show ((b.toNat : Nat) : Int) = b by omega] at this
  exact this
end Go.Proofs.Ythcogndhffhnfaa.P
end

section
namespace Go.Proofs.Ythcogndhffhnfaa.P
set_option linter.unusedVariables false
set_option linter.unusedSimpArgs false
open Go.RowKit Go.Proofs.YthcogndhffhnfaaW.PrintWords Go.Proofs.YthcogndhffhnfaaW.PrintLast
theorem chLow_l (a b : Int) (ha : 0 ≤ a) (ha2 : a ≤ 9223372036854775807) (hb : 0 ≤ b) (hb2 : b ≤ 9223372036854775807) : ∀ (n m : Nat), 0 < m + n → Ev (fun k => spec_chLow.l0 k a b m n) (a / (Nat.gcd m n : Int), b / (Nat.gcd m n : Int)) := by
  intro n
  induction n using Nat.strongRecOn with
  | _ n ih =>
    intro m hmn
    by_cases c : n = 0
    · subst c
      rw [Nat.gcd_zero_right]
      exact Ev.step (f := fun _ => some (a / (m : Int), b / (m : Int))) (fun k => by simp only [spec_chLow.l0]; rw [if_neg (by omega), if_neg (by omega), low_div a m ha ha2, low_div b m hb hb2]) (Ev.now _)
    · have e : Nat.gcd m n = Nat.gcd n (m % n) := by rw [Nat.gcd_comm, Nat.gcd_rec, Nat.gcd_comm]
      refine Ev.step (f := fun k => spec_chLow.l0 k a b (n : Int) ((m % n : Nat) : Int)) (fun k => by simp only [spec_chLow.l0]; rw [if_pos (by omega), if_neg (by omega)]; rfl) ?_
      rw [e]
      exact ih (m % n) (Nat.mod_lt _ (by omega)) n (by omega)
theorem chLow_ev {a b : Int} (ha : 0 ≤ a) (ha2 : a ≤ 9223372036854775807) (hb : 1 ≤ b) (hb2 : b ≤ 9223372036854775807) : Ev (fun k => spec_chLow.f k a b) (lowP a b) := by
  have := chLow_l a b ha ha2 (by omega) hb2 b.toNat a.toNat (by omega)
  rw [show ((a.toNat : Nat) : Int) = a by omega, show ((b.toNat : Nat) : Int) = b by omega] at this
  exact this
end Go.Proofs.Ythcogndhffhnfaa.P
end

section
namespace Go.Proofs.Ythcogndhffhnfaa.P
set_option linter.unusedVariables false
set_option linter.unusedSimpArgs false
open Go.RowKit Go.Proofs.YthcogndhffhnfaaW.PrintWords Go.Proofs.YthcogndhffhnfaaW.PrintLast
def thr (sq ov : Int) (l : List S127) (s f : Int) : Int :=
  if s = sq then s else if s + f ≤ sq then (jmp l (s + f)).1 else if ov = 1 then sq else if ov = 2 then (if 0 ≤ 2 * sq - (s + f) then (jmp l (2 * sq - (s + f))).1 else s) else s
theorem okJ_mem {sq : Int} {all : List S127} : ∀ {r : List S127} {p : Int}, okJ sq all p r = true → ∀ j ∈ r, (1 ≤ j.f0 ∧ j.f0 ≤ sq - 1) ∧ (0 ≤ j.f1 ∧ j.f1 ≤ sq)
  | j :: r, p, h, i, hi => by
    simp only [okJ, Bool.and_eq_true, inn_iff] at h
    rcases List.mem_cons.1 hi with rfl | hi
    · exact ⟨h.1.1.1.1, h.1.1.1.2⟩
    · exact okJ_mem h.2 i hi
theorem jmp_in {sq fc ov : Int} {l : List S127} (h : bOK sq fc ov l = true) {n : Int} (h0 : 0 ≤ n) (h1 : n ≤ sq) : 0 ≤ (jmp l n).1 ∧ (jmp l n).1 ≤ sq := by
  rcases Bool.eq_false_or_eq_true (jmp l n).2 with e | e
  · obtain ⟨j, hj, _, h3⟩ := jmp_mem e
    have := (okJ_mem (bOK_J h).1 j hj).2
    rw [← h3]; exact this
  · rw [jmp_no e]; exact ⟨h0, h1⟩
theorem jmp_end {sq fc ov : Int} {l : List S127} (h : bOK sq fc ov l = true) {n : Int} (h1 : sq ≤ n) : (jmp l n).1 = n := by
  rcases Bool.eq_false_or_eq_true (jmp l n).2 with e | e
  · obtain ⟨j, hj, h3, _⟩ := jmp_mem e
    have := (okJ_mem (bOK_J h).1 j hj).1
    omega
  · exact jmp_no e
theorem thr_in {sq fc ov : Int} {l : List S127} (h : bOK sq fc ov l = true) {s f : Int} (h0 : 0 ≤ s) (h1 : s ≤ sq) (hf : 1 ≤ f) : 0 ≤ thr sq ov l s f ∧ thr sq ov l s f ≤ sq := by
  have hb := bOK_J h
  unfold thr
  split
  · omega
  · split
    · exact jmp_in h (by omega) (by omega)
    · split
      · omega
      · split
        · split
          · exact jmp_in h (by omega) (by omega)
          · omega
        · omega
theorem spec_thr {sq fc ov : Int} {l : List S127} (h : bOK sq fc ov l = true) {s f : Int} (h0 : 0 ≤ s) (h1 : s ≤ sq) (hf : 1 ≤ f) (hf2 : f ≤ 8) : spec_sqThrow.f sq fc ov l s f = some (thr sq ov l s f) := by
  have hb := bOK_J h
  unfold spec_sqThrow.f thr spec_sqJump.f
  rw [w64 (x := s + f) (by omega) (by omega), w64 (x := 2 * sq) (by omega) (by omega), w64 (x := 2 * sq - (s + f)) (by omega) (by omega)]
  by_cases c1 : s = sq
  · rw [if_pos c1, if_pos c1]
  · rw [if_neg c1, if_neg c1]
    by_cases c2 : s + f ≤ sq
    · rw [if_neg (by omega), if_pos c2]; rfl
    · rw [if_pos (by omega), if_neg c2]
      by_cases c3 : ov = 1
      · rw [if_neg (by omega), if_pos c3, if_pos c3]
      · by_cases c4 : ov = 2
        · rw [if_neg (by omega), if_neg c3, if_neg c3, if_pos c4]
          by_cases c5 : 0 ≤ 2 * sq - (s + f)
          · rw [if_neg (by omega), if_pos c5]; rfl
          · rw [if_pos (by omega), if_neg c5]
        · rw [if_pos (by omega), if_neg c3, if_neg c4]
theorem impl_thr {sq fc ov : Int} {l : List S127} (h : bOK sq fc ov l = true) {s f : Int} (h0 : 0 ≤ s) (h1 : s ≤ sq) (hf : 1 ≤ f) (hf2 : f ≤ 8) : impl_Board_throw.f sq fc ov l s f = some (thr sq ov l s f) := by
  have hb := bOK_J h
  unfold impl_Board_throw.f impl_Board_landing.f thr impl_Board_begins.f
  rw [w64 (x := s + f) (by omega) (by omega), w64 (x := 2 * sq) (by omega) (by omega), w64 (x := 2 * sq - (s + f)) (by omega) (by omega)]
  by_cases c1 : s = sq
  · rw [if_pos c1, if_pos c1]; rfl
  · rw [if_neg c1, if_neg c1]
    by_cases c2 : s + f ≤ sq
    · rw [if_pos c2, if_pos c2]; rfl
    · rw [if_neg c2, if_neg c2]
      by_cases c3 : ov = 1
      · rw [if_pos c3, if_pos c3]
        simp [jmp_end h (Int.le_refl sq)]
      · rw [if_neg c3, if_neg c3]
        by_cases c4 : ov = 2
        · rw [if_pos c4, if_pos c4]
          by_cases c5 : 0 ≤ 2 * sq - (s + f)
          · rw [if_pos c5, if_pos (by omega)]; rfl
          · rw [if_neg c5, if_neg (by omega)]; rfl
        · rw [if_neg c4, if_neg c4]; rfl
def landsN (sq ov : Int) (l : List S127) (s : Int) : Nat → Int → List Int
  | 0, _ => []
  | n + 1, f => thr sq ov l s f :: landsN sq ov l s n (f + 1)
def lands (sq fc ov : Int) (l : List S127) (s : Int) : List Int := landsN sq ov l s fc.toNat 1
theorem landsN_len (sq ov : Int) (l : List S127) (s : Int) : ∀ (n : Nat) (f : Int), (landsN sq ov l s n f).length = n
  | 0, _ => rfl
  | n + 1, f => by rw [landsN, List.length_cons, landsN_len sq ov l s n]
theorem landsN_in {sq fc ov : Int} {l : List S127} (h : bOK sq fc ov l = true) {s : Int} (h0 : 0 ≤ s) (h1 : s ≤ sq) : ∀ (n : Nat) (f : Int), 1 ≤ f → ∀ t ∈ landsN sq ov l s n f, 0 ≤ t ∧ t ≤ sq
  | 0, _, _, t, ht => by cases ht
  | n + 1, f, hf, t, ht => by
    rcases List.mem_cons.1 ht with rfl | ht
    · exact thr_in h h0 h1 hf
    · exact landsN_in h h0 h1 n (f + 1) (by omega) t ht
theorem lands_in {sq fc ov : Int} {l : List S127} (h : bOK sq fc ov l = true) {s : Int} (h0 : 0 ≤ s) (h1 : s ≤ sq) : ∀ t ∈ lands sq fc ov l s, 0 ≤ t ∧ t ≤ sq := landsN_in h h0 h1 _ 1 (by omega)
theorem lands_len {sq fc ov : Int} {l : List S127} (h : bOK sq fc ov l = true) (s : Int) : ((lands sq fc ov l s).length : Int) = fc := by
  have hb := bOK_J h
  rw [lands, landsN_len]; omega
end Go.Proofs.Ythcogndhffhnfaa.P
end

section
namespace Go.Proofs.Ythcogndhffhnfaa.P
set_option linter.unusedVariables false
set_option linter.unusedSimpArgs false
open Go.RowKit Go.Proofs.YthcogndhffhnfaaW.PrintWords Go.Proofs.YthcogndhffhnfaaW.PrintLast
theorem landings_l {sq fc ov : Int} {l : List S127} (h : bOK sq fc ov l = true) {s : Int} (h0 : 0 ≤ s) (h1 : s ≤ sq) (n : Nat) : ∀ (f : Int) (acc : List Int), 1 ≤ f → f + n = fc + 1 → acc.length + n ≤ 8 →
    Ev (fun k => impl_Board_landings.l0 k s acc f sq fc ov l) (acc ++ landsN sq ov l s n f) := by
  have hb := bOK_J h
  induction n with
  | zero =>
    intro f acc hf hn hl
    exact Ev.step (f := fun _ => some (acc ++ landsN sq ov l s 0 f)) (fun k => by simp only [impl_Board_landings.l0]; rw [if_neg (by omega)]; simp [landsN]) (Ev.now _)
  | succ n ih =>
    intro f acc hf hn hl
    refine Ev.step (f := fun k => impl_Board_landings.l0 k s (acc ++ [thr sq ov l s f]) (f + 1) sq fc ov l) (fun k => by simp only [impl_Board_landings.l0]; rw [if_pos (by omega), impl_thr h h0 h1 hf (by omega)]; simp only [Option.bind_some]; rw [if_pos (by omega), w64 (by omega) (by omega)]) ?_
    have := ih (f + 1) (acc ++ [thr sq ov l s f]) (by omega) (by omega) (by simp; omega)
    simpa [landsN] using this
theorem landings_ev {sq fc ov : Int} {l : List S127} (h : bOK sq fc ov l = true) {s : Int} (h0 : 0 ≤ s) (h1 : s ≤ sq) : Ev (fun k => impl_Board_landings.f k sq fc ov l s) (lands sq fc ov l s) := by
  have hb := bOK_J h
  exact landings_l h h0 h1 fc.toNat 1 [] (by omega) (by omega) (by simp; omega)
end Go.Proofs.Ythcogndhffhnfaa.P
end

section
namespace Go.Proofs.Ythcogndhffhnfaa.P
set_option linter.unusedVariables false
set_option linter.unusedSimpArgs false
open Go.RowKit Go.Proofs.YthcogndhffhnfaaW.PrintWords Go.Proofs.YthcogndhffhnfaaW.PrintLast
def addTo (acc : List Int) (n : Int) : List Int → List Int
  | [] => acc
  | t :: ts => addTo (acc.set t.toNat (rd acc t + n)) n ts
def stepFrom (L : Int → List Int) (acc : List Int) : Int → List Int → List Int
  | _, [] => acc
  | i, n :: r => stepFrom L (if n = 0 then acc else addTo acc n (L i)) (i + 1) r
def stepP (L : Int → List Int) (m : Nat) (now : List Int) : List Int := stepFrom L (List.replicate m 0) 0 now
def startP (m : Nat) (s : Int) : List Int := (List.replicate m 0).set s.toNat 1
def placesP (L : Int → List Int) (m : Nat) (now : List Int) : Nat → List Int
  | 0 => now
  | t + 1 => placesP L m (stepP L m now) t
def nn (l : List Int) : Prop := ∀ x ∈ l, 0 ≤ x
theorem nn_nil : nn [] := fun x h => by cases h
theorem nn_cons {x : Int} {l : List Int} : nn (x :: l) ↔ 0 ≤ x ∧ nn l := by simp [nn]
theorem nn_rep (m : Nat) : nn (List.replicate m 0) := fun x h => by simp [List.mem_replicate] at h; omega
theorem sum_nn : ∀ {l : List Int}, nn l → 0 ≤ l.sum
  | [], _ => Int.le_refl _
  | x :: l, h => by rw [nn_cons] at h; have := sum_nn h.2; rw [List.sum_cons]; omega
theorem mem_le_sum : ∀ {l : List Int}, nn l → ∀ x ∈ l, x ≤ l.sum
  | y :: l, h, x, hx => by
    rw [nn_cons] at h
    have := sum_nn h.2
    rw [List.sum_cons]
    rcases List.mem_cons.1 hx with rfl | hx
    · omega
    · have := mem_le_sum h.2 x hx; omega
theorem rd_in {l : List Int} (h : nn l) (i : Int) : 0 ≤ rd l i ∧ rd l i ≤ l.sum := by
  unfold rd
  rw [List.getD_eq_getElem?_getD]
  by_cases hi : i.toNat < l.length
  · rw [List.getElem?_eq_getElem hi]
    exact ⟨h _ (List.getElem_mem hi), mem_le_sum h _ (List.getElem_mem hi)⟩
  · rw [List.getElem?_eq_none (by omega)]
    exact ⟨Int.le_refl _, sum_nn h⟩
theorem sum_set : ∀ (l : List Int) (i : Nat) (v : Int), i < l.length → (l.set i v).sum = l.sum - l.getD i 0 + v
  | x :: l, 0, v, _ => by simp; omega
  | x :: l, i + 1, v, h => by
    rw [List.set_cons_succ, List.sum_cons, List.sum_cons, sum_set l i v (by simpa using h)]
    simp; omega
theorem nn_set {l : List Int} (h : nn l) (i : Nat) {v : Int} (hv : 0 ≤ v) : nn (l.set i v) := fun x hx => by
  rcases List.mem_or_eq_of_mem_set hx with hx | rfl
  · exact h x hx
  · exact hv
theorem addTo_len (n : Int) : ∀ (ts : List Int) (acc : List Int), (addTo acc n ts).length = acc.length
  | [], _ => rfl
  | t :: ts, acc => by rw [addTo, addTo_len n ts]; simp
theorem addTo_nn {n : Int} (hn : 0 ≤ n) : ∀ (ts : List Int) {acc : List Int}, nn acc → nn (addTo acc n ts)
  | [], _, h => h
  | t :: ts, acc, h => addTo_nn hn ts (nn_set h _ (by have := rd_in h t; omega))
theorem addTo_sum {n : Int} : ∀ (ts : List Int) {acc : List Int}, (∀ t ∈ ts, 0 ≤ t ∧ t < (acc.length : Int)) → (addTo acc n ts).sum = acc.sum + ts.length * n
  | [], acc, _ => by simp [addTo]
  | t :: ts, acc, h => by
    have h1 := h t List.mem_cons_self
    rw [addTo, addTo_sum ts (by intro t' ht'; simpa using h t' (List.mem_cons_of_mem _ ht')), sum_set _ _ _ (by omega)]
    simp only [List.length_cons, Int.natCast_add, Int.natCast_one, Int.add_mul, rd]
    omega
theorem stepFrom_len (L : Int → List Int) : ∀ (r : List Int) (i : Int) (acc : List Int), (stepFrom L acc i r).length = acc.length
  | [], _, _ => rfl
  | n :: r, i, acc => by
    rw [stepFrom, stepFrom_len L r]
    split
    · rfl
    · exact addTo_len ..
theorem stepFrom_nn (L : Int → List Int) : ∀ (r : List Int) (i : Int) {acc : List Int}, nn r → nn acc → nn (stepFrom L acc i r)
  | [], _, _, _, h => h
  | n :: r, i, acc, hr, h => by
    rw [nn_cons] at hr
    rw [stepFrom]
    refine stepFrom_nn L r (i + 1) hr.2 ?_
    split
    · exact h
    · exact addTo_nn hr.1 _ h
theorem stepFrom_sum (L : Int → List Int) (c : Int) : ∀ (r : List Int) (i : Int) {acc : List Int}, (∀ j, i ≤ j → j < i + r.length → ((L j).length : Int) = c ∧ ∀ t ∈ L j, 0 ≤ t ∧ t < (acc.length : Int)) → (stepFrom L acc i r).sum = acc.sum + c * r.sum
  | [], _, acc, _ => by simp [stepFrom]
  | n :: r, i, acc, h => by
    have h1 := h i (Int.le_refl _) (by simp; omega)
    rw [stepFrom, stepFrom_sum L c r (i + 1) (by
      intro j hj1 hj2
      have := h j (by omega) (by simp; omega)
      split
      · exact this
      · rw [addTo_len]; exact this)]
    rw [List.sum_cons, Int.mul_add]
    split
    · next e => subst e; omega
    · rw [addTo_sum _ h1.2, h1.1]; omega
theorem stepP_len (L : Int → List Int) (m : Nat) (now : List Int) : (stepP L m now).length = m := by rw [stepP, stepFrom_len]; simp
theorem placesP_succ (L : Int → List Int) (m : Nat) : ∀ (t : Nat) (now : List Int), placesP L m now (t + 1) = stepP L m (placesP L m now t)
  | 0, _ => rfl
  | t + 1, now => placesP_succ L m t (stepP L m now)
theorem placesP_len (L : Int → List Int) (m : Nat) : ∀ (t : Nat) {now : List Int}, now.length = m → (placesP L m now t).length = m
  | 0, _, h => h
  | t + 1, now, _ => placesP_len L m t (stepP_len L m now)
section
variable {sq fc ov : Int} {l : List S127}
theorem step_facts (h : bOK sq fc ov l = true) {now : List Int} (hl : now.length = (sq + 1).toNat) (hn : nn now) :
    nn (stepP (lands sq fc ov l) (sq + 1).toNat now) ∧ (stepP (lands sq fc ov l) (sq + 1).toNat now).sum = fc * now.sum := by
  have hb := bOK_J h
  refine ⟨stepFrom_nn _ _ _ hn (nn_rep _), ?_⟩
  rw [stepP, stepFrom_sum _ fc _ _ (by
    intro j h1 h2
    refine ⟨lands_len h j, fun t ht => ?_⟩
    have := lands_in h h1 (by omega) t ht
    simp; omega)]
  simp
theorem places_facts (h : bOK sq fc ov l = true) : ∀ (t : Nat) {now : List Int}, now.length = (sq + 1).toNat → nn now →
    nn (placesP (lands sq fc ov l) (sq + 1).toNat now t) ∧ (placesP (lands sq fc ov l) (sq + 1).toNat now t).sum = fc ^ t * now.sum
  | 0, now, _, hn => ⟨hn, by simp [placesP]⟩
  | t + 1, now, hl, hn => by
    obtain ⟨h1, h2⟩ := step_facts h hl hn
    obtain ⟨h3, h4⟩ := places_facts h t (stepP_len _ _ now) h1
    exact ⟨h3, by rw [placesP, h4, h2, Int.pow_succ]; simp [Int.mul_assoc]⟩
theorem start_facts (h : bOK sq fc ov l = true) {s : Int} (h0 : 0 ≤ s) (h1 : s ≤ sq) : (startP (sq + 1).toNat s).length = (sq + 1).toNat ∧ nn (startP (sq + 1).toNat s) ∧ (startP (sq + 1).toNat s).sum = 1 := by
  have hb := bOK_J h
  refine ⟨by simp [startP], nn_set (nn_rep _) _ (by omega), ?_⟩
  rw [startP, sum_set _ _ _ (by simp; omega), List.getD_eq_getElem?_getD, List.getElem?_replicate]
  split <;> simp
theorem pow_le {fc : Int} (h1 : 1 ≤ fc) (h8 : fc ≤ 8) (t : Nat) (ht : t ≤ 20) : 1 ≤ fc ^ t ∧ fc ^ t ≤ 1152921504606846976 := by
  obtain ⟨n, rfl⟩ : ∃ n : Nat, fc = n := ⟨fc.toNat, by omega⟩
  have ha : n ^ t ≤ 8 ^ t := Nat.pow_le_pow_left (by omega) t
  have hb : 8 ^ t ≤ 8 ^ 20 := Nat.pow_le_pow_right (by omega) ht
  have hc : 1 ≤ n ^ t := Nat.one_le_pow _ _ (by omega)
  have : ((n : Int)) ^ t = ((n ^ t : Nat) : Int) := by simp
  rw [this]
  omega
theorem pow_le' {fc : Int} (h1 : 1 ≤ fc) {a b : Nat} (hab : a ≤ b) : fc ^ a ≤ fc ^ b := by
  obtain ⟨n, rfl⟩ : ∃ n : Nat, fc = n := ⟨fc.toNat, by omega⟩
  have ha : n ^ a ≤ n ^ b := Nat.pow_le_pow_right (by omega) hab
  have e1 : ((n : Int)) ^ a = ((n ^ a : Nat) : Int) := by simp
  have e2 : ((n : Int)) ^ b = ((n ^ b : Nat) : Int) := by simp
  rw [e1, e2]
  omega
end
end Go.Proofs.Ythcogndhffhnfaa.P
end

section
namespace Go.Proofs.Ythcogndhffhnfaa.P
set_option linter.unusedVariables false
set_option linter.unusedSimpArgs false
open Go.RowKit Go.Proofs.YthcogndhffhnfaaW.PrintWords Go.Proofs.YthcogndhffhnfaaW.PrintLast
theorem power_l {fc : Int} (h1 : 1 ≤ fc) (h8 : fc ≤ 8) (T : Nat) (hT : T ≤ 20) (d : Nat) : ∀ (i : Nat), i + d = T → Ev (fun k => impl_power.l0 k fc (fc ^ i) T i) (fc ^ T) := by
  induction d with
  | zero =>
    intro i hi
    obtain rfl : i = T := by omega
    exact Ev.step (f := fun _ => some (fc ^ i)) (fun k => by simp only [impl_power.l0]; rw [if_neg (by omega)]) (Ev.now _)
  | succ d ih =>
    intro i hi
    have hp := pow_le h1 h8 (i + 1) (by omega)
    refine Ev.step (f := fun k => impl_power.l0 k fc (fc ^ (i + 1)) T ((i + 1 : Nat) : Int)) (fun k => by
      simp only [impl_power.l0]
      rw [if_pos (by omega), ← Int.pow_succ, w64 (Int.le_trans (by decide) hp.1) (Int.le_trans hp.2 (by decide)), w64 (by omega) (by omega)]
      rfl) (ih (i + 1) (by omega))
theorem power_ev {fc t : Int} (h1 : 1 ≤ fc) (h8 : fc ≤ 8) (ht : 0 ≤ t) (ht2 : t ≤ 20) : Ev (fun k => impl_power.f k fc t) (fc ^ t.toNat) := by
  have := power_l h1 h8 t.toNat (by omega) t.toNat 0 (by omega)
  rw [show ((t.toNat : Nat) : Int) = t by omega] at this
  simpa [impl_power.f] using this
theorem chAll_l {sq fc ov : Int} {l : List S127} (h1 : 1 ≤ fc) (h8 : fc ≤ 8) (d : Nat) : ∀ (i : Nat), i + d ≤ 20 → Ev (fun k => spec_chAll.l0 k d (fc ^ i) sq fc ov l) (fc ^ (i + d)) := by
  induction d with
  | zero =>
    intro i hi
    exact Ev.step (f := fun _ => some (fc ^ i)) (fun k => by simp only [spec_chAll.l0]; rw [if_neg (by omega)]) (Ev.now _)
  | succ d ih =>
    intro i hi
    have hp := pow_le h1 h8 (i + 1) (by omega)
    refine Ev.step (f := fun k => spec_chAll.l0 k d (fc ^ (i + 1)) sq fc ov l) (fun k => by
      simp only [spec_chAll.l0]
      rw [if_pos (by omega), ← Int.pow_succ, w64 (Int.le_trans (by decide) hp.1) (Int.le_trans hp.2 (by decide)), w64 (by omega) (by omega), show (((d + 1 : Nat) : Int) - 1) = (d : Int) by omega]) ?_
    have := ih (i + 1) (by omega)
    rwa [show i + 1 + d = i + (d + 1) by omega] at this
theorem chAll_ev {sq fc ov : Int} {l : List S127} {t : Int} (h1 : 1 ≤ fc) (h8 : fc ≤ 8) (ht : 0 ≤ t) (ht2 : t ≤ 20) : Ev (fun k => spec_chAll.f k sq fc ov l t) (fc ^ t.toNat) := by
  have := chAll_l (sq := sq) (ov := ov) (l := l) h1 h8 t.toNat 0 (by omega)
  rw [show ((t.toNat : Nat) : Int) = t by omega] at this
  simpa [spec_chAll.f] using this
theorem part_ev {sq fc ov : Int} {l : List S127} {n t : Int} (h1 : 1 ≤ fc) (h8 : fc ≤ 8) (ht : 0 ≤ t) (ht2 : t ≤ 20) (hn : 0 ≤ n) (hn2 : n ≤ 9223372036854775807) : Ev (fun k => impl_Board_part.f k sq fc ov l n t) ((lowP n (fc ^ t.toNat)).1, (lowP n (fc ^ t.toNat)).2, true) := by
  have hp := pow_le h1 h8 t.toNat (by omega)
  refine Ev.bind (power_ev h1 h8 ht ht2) ?_
  exact Ev.bind (lowest_ev hn hn2 hp.1 (Int.le_trans hp.2 (by decide))) (Ev.now _)
theorem chPart_ev {sq fc ov : Int} {l : List S127} {n t : Int} (h1 : 1 ≤ fc) (h8 : fc ≤ 8) (ht : 0 ≤ t) (ht2 : t ≤ 20) (hn : 0 ≤ n) (hn2 : n ≤ 9223372036854775807) : Ev (fun k => spec_chPart.f k sq fc ov l n t) ((lowP n (fc ^ t.toNat)).1, (lowP n (fc ^ t.toNat)).2, true) := by
  have hp := pow_le h1 h8 t.toNat (by omega)
  refine Ev.bind (chAll_ev h1 h8 ht ht2) ?_
  exact Ev.bind (chLow_ev hn hn2 hp.1 (Int.le_trans hp.2 (by decide))) (Ev.now _)
section
variable {sq fc ov : Int} {l : List S127}
theorem place_in (h : bOK sq fc ov l = true) {s : Int} (h0 : 0 ≤ s) (h1 : s ≤ sq) {t : Nat} (ht : t ≤ 20) (j : Int) : 0 ≤ rd (placesP (lands sq fc ov l) (sq + 1).toNat (startP (sq + 1).toNat s) t) j ∧ rd (placesP (lands sq fc ov l) (sq + 1).toNat (startP (sq + 1).toNat s) t) j ≤ fc ^ t := by
  have hs := start_facts h h0 h1
  have hp := places_facts h t hs.1 hs.2.1
  have := rd_in hp.1 j
  rw [hp.2, hs.2.2, Int.mul_one] at this
  exact this
theorem sqr_in {n : Int} (h : sqr sq l n = true) : 0 ≤ n ∧ n ≤ sq := by
  simp only [sqr, Bool.and_eq_true, inn_iff] at h
  exact h.1
end
end Go.Proofs.Ythcogndhffhnfaa.P
end

section
namespace Go.Proofs.Ythcogndhffhnfaa.P
set_option linter.unusedVariables false
set_option linter.unusedSimpArgs false
open Go.RowKit Go.Proofs.YthcogndhffhnfaaW.PrintWords Go.Proofs.YthcogndhffhnfaaW.PrintLast
section
variable {sq fc ov : Int} {l : List S127}
theorem rd_drop {r : List Int} {i : Nat} (hi : i < r.length) : r.drop i = rd r i :: r.drop (i + 1) := by
  rw [List.drop_eq_getElem_cons hi]
  simp [rd, hi]
theorem next_l1 (h : bOK sq fc ov l = true) (now : List Int) (i : Nat) (hi : i < now.length) (hlen : now.length ≤ 101) (ts : List Int) (hts : ts.length ≤ 8) (hn : 0 ≤ rd now i) (r : List Int) (d : Nat) :
    ∀ (j : Nat) (acc : List Int), j + d = ts.length → acc.length = (sq + 1).toNat → nn acc → (∀ t ∈ ts, 0 ≤ t ∧ t ≤ sq) → acc.sum + d * rd now i ≤ 2305843009213693952 →
    Ev (fun k => impl_Board_next.l0 k (addTo acc (rd now i) (ts.drop j)) now now.length ((i : Int) + 1) sq fc ov l) r →
    Ev (fun k => impl_Board_next.l1 k acc (rd now i) now now.length i ts ts.length j sq fc ov l) r := by
  have hb := bOK_J h
  induction d with
  | zero =>
    intro j acc hj ha hna ht hs H
    rw [List.drop_eq_nil_of_le (by omega)] at H
    exact Ev.step (f := fun k => impl_Board_next.l0 k acc now now.length ((i : Int) + 1) sq fc ov l) (fun k => by simp only [impl_Board_next.l1]; rw [if_neg (by omega), w64 (by omega) (by omega)]) H
  | succ d ih =>
    intro j acc hj ha hna ht hs H
    have hj' : j < ts.length := by omega
    rw [rd_drop hj', addTo] at H
    have h1 := ht (rd ts j) (by simp [rd, hj'])
    have h2 := rd_in hna (rd ts j)
    have h4 : ((d + 1 : Nat) : Int) * rd now i = d * rd now i + rd now i := by rw [Int.natCast_add, Int.add_mul]; simp
    have h5 : 0 ≤ (d : Int) * rd now i := Int.mul_nonneg (by omega) hn
    refine Ev.step (f := fun k => impl_Board_next.l1 k (acc.set (rd ts j).toNat (rd acc (rd ts j) + rd now i)) (rd now i) now now.length i ts ts.length ((j : Int) + 1) sq fc ov l) (fun k => by
      simp only [impl_Board_next.l1]
      rw [if_pos (by omega), if_pos (by omega), if_pos (by omega), if_pos h1.1, if_pos (by omega), w64 (by omega) (by omega), w64 (by omega) (by omega)]) ?_
    have := ih (j + 1) (acc.set (rd ts j).toNat (rd acc (rd ts j) + rd now i)) (by omega) (by simpa using ha) (nn_set hna _ (by omega)) ht (by rw [sum_set _ _ _ (by omega)]; show acc.sum - rd acc (rd ts j) + _ + _ ≤ _; omega) H
    simpa using this
theorem next_l0 (h : bOK sq fc ov l = true) (now : List Int) (hlen : now.length = (sq + 1).toNat) (hnn : nn now) (d : Nat) : ∀ (i : Nat) (acc : List Int), i + d = now.length → acc.length = (sq + 1).toNat → nn acc → acc.sum + fc * (now.drop i).sum ≤ 2305843009213693952 →
    Ev (fun k => impl_Board_next.l0 k acc now now.length i sq fc ov l) (stepFrom (lands sq fc ov l) acc i (now.drop i)) := by
  have hb := bOK_J h
  induction d with
  | zero =>
    intro i acc hi ha hna hs
    rw [List.drop_eq_nil_of_le (by omega)]
    exact Ev.step (f := fun _ => some acc) (fun k => by simp only [impl_Board_next.l0]; rw [if_neg (by omega)]) (Ev.now _)
  | succ d ih =>
    intro i acc hi ha hna hs
    have hi' : i < now.length := by omega
    have h0 : 0 ≤ rd now i := (rd_in hnn i).1
    rw [rd_drop hi', List.sum_cons, Int.mul_add] at hs
    rw [rd_drop hi', stepFrom]
    have hc : (((i + 1 : Nat)) : Int) = (i : Int) + 1 := by omega
    have hs1 : 0 ≤ fc * (now.drop (i + 1)).sum := Int.mul_nonneg (by omega) (sum_nn (fun x hx => hnn x (List.mem_of_mem_drop hx)))
    by_cases c : rd now i = 0
    · rw [if_pos c]
      refine Ev.step (f := fun k => impl_Board_next.l0 k acc now now.length ((i : Int) + 1) sq fc ov l) (fun k => by simp only [impl_Board_next.l0]; rw [if_pos (by omega), if_pos (by omega), if_pos (by omega), if_pos c, w64 (by omega) (by omega)]) ?_
      have := ih (i + 1) acc (by omega) ha hna (by rw [c] at hs; omega)
      rwa [hc] at this
    · rw [if_neg c]
      refine Ev.step (f := fun k => (impl_Board_landings.f k sq fc ov l i).bind fun t => impl_Board_next.l1 k acc (rd now i) now now.length i t t.length 0 sq fc ov l) (fun k => by simp only [impl_Board_next.l0]; rw [if_pos (by omega), if_pos (by omega), if_pos (by omega), if_neg c]) ?_
      refine Ev.bind (landings_ev h (by omega) (by omega)) ?_
      have hL := lands_len h (i : Int)
      have hin := lands_in h (s := (i : Int)) (by omega) (by omega)
      have e2 : (((lands sq fc ov l i).length : Int)) * rd now i = fc * rd now i := by rw [hL]
      have h3 := ih (i + 1) (addTo acc (rd now i) (lands sq fc ov l i)) (by omega) (by rw [addTo_len]; exact ha) (addTo_nn h0 _ hna) (by rw [addTo_sum _ (fun t ht => by have := hin t ht; omega), e2]; omega)
      rw [hc] at h3
      exact next_l1 h now i hi' (by omega) (lands sq fc ov l i) (by omega) h0 _ (lands sq fc ov l i).length 0 acc (by omega) ha hna hin (by rw [e2]; omega) h3
theorem next_ev (h : bOK sq fc ov l = true) {now : List Int} (hlen : now.length = (sq + 1).toNat) (hnn : nn now) (hs : fc * now.sum ≤ 2305843009213693952) :
    Ev (fun k => impl_Board_next.f k sq fc ov l now) (stepP (lands sq fc ov l) (sq + 1).toNat now) := by
  have hb := bOK_J h
  have := next_l0 h now hlen hnn now.length 0 (List.replicate (sq + 1).toNat 0) (by omega) (by simp) (nn_rep _) (by simpa using hs)
  refine Ev.congr (fun k => ?_) this
  unfold impl_Board_next.f
  rw [w64 (by omega) (by omega), if_pos (by omega), if_pos (by omega)]
  rfl
theorem startOf_eq (h : bOK sq fc ov l = true) {s : Int} (h0 : 0 ≤ s) (h1 : s ≤ sq) : impl_Board_startOf.f sq fc ov l s = some (startP (sq + 1).toNat s) := by
  have hb := bOK_J h
  unfold impl_Board_startOf.f
  rw [w64 (by omega) (by omega), if_pos (by omega), if_pos (by omega)]
  simp only [Option.bind_some]
  rw [if_pos h0, if_pos (by simp; omega)]
  rfl
theorem places_l0 (h : bOK sq fc ov l = true) (T : Nat) (hT : T ≤ 20) (d : Nat) : ∀ (i : Nat) (now : List Int), i + d = T → now.length = (sq + 1).toNat → nn now → now.sum = fc ^ i →
    Ev (fun k => impl_Board_places.l0 k now T i sq fc ov l) (placesP (lands sq fc ov l) (sq + 1).toNat now d) := by
  have hb := bOK_J h
  induction d with
  | zero =>
    intro i now hi hl hn hs
    exact Ev.step (f := fun _ => some now) (fun k => by simp only [impl_Board_places.l0]; rw [if_neg (by omega)]) (Ev.now _)
  | succ d ih =>
    intro i now hi hl hn hs
    have hf := step_facts h hl hn
    refine Ev.step (f := fun k => (impl_Board_next.f k sq fc ov l now).bind fun t => impl_Board_places.l0 k t T ((i : Int) + 1) sq fc ov l) (fun k => by simp only [impl_Board_places.l0]; rw [if_pos (by omega), w64 (by omega) (by omega)]) ?_
    refine Ev.bind (next_ev h hl hn ?_) ?_
    · rw [hs, Int.mul_comm, ← Int.pow_succ]
      exact Int.le_trans (pow_le hb.2.2.2.1 hb.2.2.2.2.1 (i + 1) (by omega)).2 (by decide)
    · have := ih (i + 1) (stepP (lands sq fc ov l) (sq + 1).toNat now) (by omega) (stepP_len _ _ _) hf.1 (by rw [hf.2, hs, Int.mul_comm, ← Int.pow_succ])
      simpa [placesP] using this
theorem places_ev (h : bOK sq fc ov l = true) {s t : Int} (h0 : 0 ≤ s) (h1 : s ≤ sq) (ht : 0 ≤ t) (ht2 : t ≤ 20) : Ev (fun k => impl_Board_places.f k sq fc ov l s t) (placesP (lands sq fc ov l) (sq + 1).toNat (startP (sq + 1).toNat s) t.toNat) := by
  have hb := bOK_J h
  have hs := start_facts h h0 h1
  have := places_l0 h t.toNat (by omega) t.toNat 0 (startP (sq + 1).toNat s) (by omega) hs.1 hs.2.1 (by simpa using hs.2.2)
  refine Ev.congr (fun k => ?_) this
  unfold impl_Board_places.f
  rw [startOf_eq h h0 h1]
  simp only [Option.bind_some]
  rw [show ((t.toNat : Nat) : Int) = t by omega]
  rfl
end
end Go.Proofs.Ythcogndhffhnfaa.P
end

section
namespace Go.Proofs.Ythcogndhffhnfaa.P
set_option linter.unusedVariables false
set_option linter.unusedSimpArgs false
open Go.RowKit Go.Proofs.YthcogndhffhnfaaW.PrintWords Go.Proofs.YthcogndhffhnfaaW.PrintLast
section
variable {sq fc ov : Int} {l : List S127}
theorem rd_dropS {r : List Int} {i : Nat} (hi : i < r.length) : r.drop i = rd r i :: r.drop (i + 1) := by
  rw [List.drop_eq_getElem_cons hi]
  simp [rd, hi]
theorem chP_l2 (h : bOK sq fc ov l = true) (x2 : Int) (now : List Int) (i : Nat) (hi : i < now.length) (hlen : now.length = (sq + 1).toNat) (hn : 0 ≤ rd now i) (r : List Int) (d : Nat) :
    ∀ (f : Int) (acc : List Int), 1 ≤ f → f + d = fc + 1 → acc.length = (sq + 1).toNat → nn acc → acc.sum + d * rd now i ≤ 2305843009213693952 →
    Ev (fun k => spec_chPlaces.l1 k x2 (addTo acc (rd now i) (landsN sq ov l i d f)) now now.length ((i : Int) + 1) sq fc ov l) r →
    Ev (fun k => spec_chPlaces.l2 k x2 acc i (rd now i) f now now.length i sq fc ov l) r := by
  have hb := bOK_J h
  induction d with
  | zero =>
    intro f acc hf hd ha hna hs H
    exact Ev.step (f := fun k => spec_chPlaces.l1 k x2 acc now now.length ((i : Int) + 1) sq fc ov l) (fun k => by simp only [spec_chPlaces.l2]; rw [if_neg (by omega), w64 (by omega) (by omega)]) H
  | succ d ih =>
    intro f acc hf hd ha hna hs H
    rw [landsN, addTo] at H
    have h1 := thr_in h (s := (i : Int)) (f := f) (by omega) (by omega) hf
    have h2 := rd_in hna (thr sq ov l i f)
    have h4 : ((d + 1 : Nat) : Int) * rd now i = d * rd now i + rd now i := by rw [Int.natCast_add, Int.add_mul]; simp
    have h5 : 0 ≤ (d : Int) * rd now i := Int.mul_nonneg (by omega) hn
    refine Ev.step (f := fun k => spec_chPlaces.l2 k x2 (acc.set (thr sq ov l i f).toNat (rd acc (thr sq ov l i f) + rd now i)) i (rd now i) (f + 1) now now.length i sq fc ov l) (fun k => by
      simp only [spec_chPlaces.l2]
      rw [if_pos (by omega), spec_thr h (by omega) (by omega) hf (by omega)]
      simp only [Option.bind_some]
      rw [if_pos h1.1, if_pos (by omega), w64 (by omega) (by omega), w64 (by omega) (by omega)]) ?_
    exact ih (f + 1) _ (by omega) (by omega) (by simpa using ha) (nn_set hna _ (by omega)) (by rw [sum_set _ _ _ (by omega)]; show acc.sum - rd acc _ + _ + _ ≤ _; omega) H
theorem chP_l1 (h : bOK sq fc ov l = true) (x2 : Int) (now : List Int) (hlen : now.length = (sq + 1).toNat) (hnn : nn now) (r : List Int) (d : Nat) : ∀ (i : Nat) (acc : List Int), i + d = now.length → acc.length = (sq + 1).toNat → nn acc → acc.sum + fc * (now.drop i).sum ≤ 2305843009213693952 →
    Ev (fun k => spec_chPlaces.l0 k (wrap64 (x2 - 1)) (stepFrom (lands sq fc ov l) acc i (now.drop i)) sq fc ov l) r →
    Ev (fun k => spec_chPlaces.l1 k x2 acc now now.length i sq fc ov l) r := by
  have hb := bOK_J h
  induction d with
  | zero =>
    intro i acc hi ha hna hs H
    rw [List.drop_eq_nil_of_le (by omega)] at H
    exact Ev.step (f := fun k => spec_chPlaces.l0 k (wrap64 (x2 - 1)) acc sq fc ov l) (fun k => by simp only [spec_chPlaces.l1]; rw [if_neg (by omega)]) H
  | succ d ih =>
    intro i acc hi ha hna hs H
    have hi' : i < now.length := by omega
    have h0 : 0 ≤ rd now i := (rd_in hnn i).1
    rw [rd_dropS hi', List.sum_cons, Int.mul_add] at hs
    rw [rd_dropS hi', stepFrom] at H
    have hc : (((i + 1 : Nat)) : Int) = (i : Int) + 1 := by omega
    have hs1 : 0 ≤ fc * (now.drop (i + 1)).sum := Int.mul_nonneg (by omega) (sum_nn (fun x hx => hnn x (List.mem_of_mem_drop hx)))
    by_cases c : rd now i = 0
    · rw [if_pos c] at H
      refine Ev.step (f := fun k => spec_chPlaces.l1 k x2 acc now now.length ((i : Int) + 1) sq fc ov l) (fun k => by simp only [spec_chPlaces.l1]; rw [if_pos (by omega), if_pos (by omega), if_pos (by omega), if_neg (by omega), w64 (by omega) (by omega)]) ?_
      rw [← hc] at H ⊢
      exact ih (i + 1) acc (by omega) ha hna (by rw [c] at hs; omega) H
    · rw [if_neg c] at H
      have hL := lands_len h (i : Int)
      have hin := lands_in h (s := (i : Int)) (by omega) (by omega)
      have e2 : (((lands sq fc ov l i).length : Int)) * rd now i = fc * rd now i := by rw [hL]
      have e3 : ((fc.toNat : Nat) : Int) = fc := by omega
      refine Ev.step (f := fun k => spec_chPlaces.l2 k x2 acc i (rd now i) 1 now now.length i sq fc ov l) (fun k => by simp only [spec_chPlaces.l1]; rw [if_pos (by omega), if_pos (by omega), if_pos (by omega), if_pos (by omega)]) ?_
      refine chP_l2 h x2 now i hi' hlen h0 r fc.toNat 1 acc (by omega) (by omega) ha hna (by rw [e3]; omega) ?_
      have := ih (i + 1) (addTo acc (rd now i) (lands sq fc ov l i)) (by omega) (by rw [addTo_len]; exact ha) (addTo_nn h0 _ hna) (by rw [addTo_sum _ (fun t ht => by have := hin t ht; omega), e2]; omega)
      rw [hc] at this
      exact this H
theorem chP_l0 (h : bOK sq fc ov l = true) (d : Nat) : ∀ (i : Nat) (now : List Int), i + d ≤ 20 → now.length = (sq + 1).toNat → nn now → now.sum = fc ^ i →
    Ev (fun k => spec_chPlaces.l0 k d now sq fc ov l) (placesP (lands sq fc ov l) (sq + 1).toNat now d) := by
  have hb := bOK_J h
  induction d with
  | zero =>
    intro i now hi hl hn hs
    exact Ev.step (f := fun _ => some now) (fun k => by simp only [spec_chPlaces.l0]; rw [if_neg (by omega)]) (Ev.now _)
  | succ d ih =>
    intro i now hi hl hn hs
    have hf := step_facts h hl hn
    refine Ev.step (f := fun k => spec_chPlaces.l1 k ((d + 1 : Nat) : Int) (List.replicate (sq + 1).toNat 0) now now.length ((0 : Nat) : Int) sq fc ov l) (fun k => by simp only [spec_chPlaces.l0]; rw [if_pos (by omega), w64 (x := sq + 1) (by omega) (by omega), if_pos (by omega), if_pos (by omega)]; rfl) ?_
    refine chP_l1 h _ now hl hn _ now.length 0 (List.replicate (sq + 1).toNat 0) (by omega) (by simp) (nn_rep _) ?_ ?_
    · have := (pow_le hb.2.2.2.1 hb.2.2.2.2.1 (i + 1) (by omega)).2
      rw [List.drop_zero, hs, Int.mul_comm, ← Int.pow_succ]
      simp only [List.sum_replicate_int, Int.mul_zero, Int.zero_add]
      exact Int.le_trans this (by decide)
    · rw [w64 (by omega) (by omega), show (((d + 1 : Nat) : Int) - 1) = (d : Int) by omega]
      exact ih (i + 1) (stepP (lands sq fc ov l) (sq + 1).toNat now) (by omega) (stepP_len _ _ _) hf.1 (by rw [hf.2, hs, Int.mul_comm, ← Int.pow_succ])
theorem chP_ev (h : bOK sq fc ov l = true) {s t : Int} (h0 : 0 ≤ s) (h1 : s ≤ sq) (ht : 0 ≤ t) (ht2 : t ≤ 20) : Ev (fun k => spec_chPlaces.f k sq fc ov l s t) (placesP (lands sq fc ov l) (sq + 1).toNat (startP (sq + 1).toNat s) t.toNat) := by
  have hb := bOK_J h
  have hs := start_facts h h0 h1
  have := chP_l0 h t.toNat 0 (startP (sq + 1).toNat s) (by omega) hs.1 hs.2.1 (by simpa using hs.2.2)
  refine Ev.congr (fun k => ?_) this
  unfold spec_chPlaces.f
  rw [w64 (by omega) (by omega), if_pos (by omega), if_pos (by omega)]
  simp only [Option.bind_some]
  rw [if_pos h0, if_pos (by simp; omega), show ((t.toNat : Nat) : Int) = t by omega]
  rfl
end
end Go.Proofs.Ythcogndhffhnfaa.P
end

section
namespace Go.Proofs.Ythcogndhffhnfaa.P
set_option linter.unusedVariables false
set_option linter.unusedSimpArgs false
open Go.RowKit Go.Proofs.YthcogndhffhnfaaW.PrintWords Go.Proofs.YthcogndhffhnfaaW.PrintLast
section
variable {sq fc ov : Int} {l : List S127}
theorem chAsked_eq (s t : Int) : spec_chAsked.f sq fc ov l s t = some (bOK sq fc ov l && sqr sq l s && inn t 0 20) := by
  unfold spec_chAsked.f spec_sqAsked.f spec_l1In.f
  rw [asked_eq]
  cases bOK sq fc ov l && sqr sq l s <;> simp
theorem isThrown_eq (t m : Int) (xs : List Int) : impl_isThrown.f sq fc ov l t m xs = some (bOK sq fc ov l && xs.all (sqr sq l) && inn t 0 m) := by
  unfold impl_isThrown.f impl_areSquares.f impl_within.f
  simp only [Option.bind_some]
  cases bOK sq fc ov l && xs.all (sqr sq l) <;> simp
end
end Go.Proofs.Ythcogndhffhnfaa.P
end

section
namespace Go.Proofs.Ythcogndhffhnfaa.P
set_option linter.unusedVariables false
set_option linter.unusedSimpArgs false
open Go.RowKit Go.Proofs.YthcogndhffhnfaaW.PrintWords Go.Proofs.YthcogndhffhnfaaW.PrintLast
def cnt (ts : List Int) (j : Int) : Int := match ts with
  | [] => 0
  | t :: ts => (if t = j then 1 else 0) + cnt ts j
theorem cnt_nn : ∀ (ts : List Int) (j : Int), 0 ≤ cnt ts j
  | [], _ => Int.le_refl _
  | t :: ts, j => by have := cnt_nn ts j; rw [cnt]; split <;> omega
theorem rd_set {acc : List Int} {t : Int} (ht : 0 ≤ t) (ht2 : t < (acc.length : Int)) (v : Int) {j : Int} (hj : 0 ≤ j) : rd (acc.set t.toNat v) j = if t = j then v else rd acc j := by
  unfold rd
  rw [List.getD_eq_getElem?_getD, List.getD_eq_getElem?_getD, List.getElem?_set]
  by_cases e : t = j
  · subst e; rw [if_pos rfl, if_pos rfl, if_pos (by omega)]; rfl
  · rw [if_neg (by omega), if_neg e]
theorem rd_addTo {n : Int} : ∀ (ts : List Int) {acc : List Int} {j : Int}, (∀ t ∈ ts, 0 ≤ t ∧ t < (acc.length : Int)) → 0 ≤ j → rd (addTo acc n ts) j = rd acc j + n * cnt ts j
  | [], acc, j, _, _ => by simp [addTo, cnt]
  | t :: ts, acc, j, h, hj => by
    have h1 := h t List.mem_cons_self
    rw [addTo, rd_addTo ts (by intro t' ht'; simpa using h t' (List.mem_cons_of_mem _ ht')) hj, rd_set h1.1 h1.2 _ hj, cnt, Int.mul_add]
    by_cases e : t = j
    · rw [if_pos e, if_pos e, e]; omega
    · rw [if_neg e, if_neg e]; omega
def conv (L : Int → List Int) (j : Int) : Int → List Int → Int
  | _, [] => 0
  | i, n :: r => n * cnt (L i) j + conv L j (i + 1) r
theorem rd_stepFrom (L : Int → List Int) {j : Int} (hj : 0 ≤ j) : ∀ (r : List Int) (i : Int) {acc : List Int}, (∀ q, i ≤ q → q < i + r.length → ∀ t ∈ L q, 0 ≤ t ∧ t < (acc.length : Int)) → rd (stepFrom L acc i r) j = rd acc j + conv L j i r
  | [], _, acc, _ => by simp [stepFrom, conv]
  | n :: r, i, acc, h => by
    have h1 := h i (Int.le_refl _) (by simp; omega)
    rw [stepFrom, rd_stepFrom L hj r (i + 1) (by
      intro q hq1 hq2
      have := h q (by omega) (by simp; omega)
      split
      · exact this
      · rw [addTo_len]; exact this), conv]
    split
    · next e => subst e; omega
    · rw [rd_addTo _ h1 hj]; omega
theorem conv_nn (L : Int → List Int) (j : Int) : ∀ (r : List Int) (i : Int), nn r → 0 ≤ conv L j i r
  | [], _, _ => Int.le_refl _
  | n :: r, i, h => by
    rw [nn_cons] at h
    have := conv_nn L j r (i + 1) h.2
    have := Int.mul_nonneg h.1 (cnt_nn (L i) j)
    rw [conv]; omega
theorem conv_ge (L : Int → List Int) (j : Int) : ∀ (r : List Int) (i : Int) (p : Nat), nn r → p < r.length → r.getD p 0 * cnt (L (i + p)) j ≤ conv L j i r
  | n :: r, i, 0, h, _ => by
    rw [nn_cons] at h
    have := conv_nn L j r (i + 1) h.2
    rw [conv]; simp; omega
  | n :: r, i, p + 1, h, hp => by
    rw [nn_cons] at h
    have h1 := conv_ge L j r (i + 1) p h.2 (by simpa using hp)
    have := Int.mul_nonneg h.1 (cnt_nn (L i) j)
    rw [conv]
    rw [show i + ((p + 1 : Nat) : Int) = i + 1 + (p : Int) by omega]
    simp only [List.getD_cons_succ]
    omega
section
variable {sq fc ov : Int} {l : List S127}
theorem rd_stepP (h : bOK sq fc ov l = true) {now : List Int} (hl : now.length = (sq + 1).toNat) {j : Int} (hj : 0 ≤ j) : rd (stepP (lands sq fc ov l) (sq + 1).toNat now) j = conv (lands sq fc ov l) j 0 now := by
  have hb := bOK_J h
  rw [stepP, rd_stepFrom _ hj _ _ (by
    intro q h1 h2 t ht
    have := lands_in h h1 (by omega) t ht
    simp; omega)]
  have : rd (List.replicate (sq + 1).toNat 0) j = 0 := by
    unfold rd
    rw [List.getD_eq_getElem?_getD, List.getElem?_replicate]
    split <;> rfl
  rw [this]; omega
theorem cnt_end (sq ov : Int) (l : List S127) : ∀ (n : Nat) (f : Int), cnt (landsN sq ov l sq n f) sq = n
  | 0, _ => rfl
  | n + 1, f => by rw [landsN, cnt, cnt_end sq ov l n (f + 1)]; simp [thr]; omega
theorem end_keeps (h : bOK sq fc ov l = true) {now : List Int} (hl : now.length = (sq + 1).toNat) (hn : nn now) : fc * rd now sq ≤ rd (stepP (lands sq fc ov l) (sq + 1).toNat now) sq := by
  have hb := bOK_J h
  rw [rd_stepP h hl (by omega)]
  have := conv_ge (lands sq fc ov l) sq now 0 sq.toNat hn (by omega)
  rw [show (0 : Int) + (sq.toNat : Int) = sq by omega, lands, cnt_end] at this
  rw [Int.mul_comm]
  have e : rd now sq = now.getD sq.toNat 0 := rfl
  rw [e, show fc = ((fc.toNat : Nat) : Int) by omega]
  exact this
end
end Go.Proofs.Ythcogndhffhnfaa.P
end

section
namespace Go.Proofs.Ythcogndhffhnfaa.P
set_option linter.unusedVariables false
set_option linter.unusedSimpArgs false
open Go.RowKit Go.Proofs.YthcogndhffhnfaaW.PrintWords Go.Proofs.YthcogndhffhnfaaW.PrintLast
def wsum : Int → List Int → Int
  | _, [] => 0
  | i, n :: r => i * n + wsum (i + 1) r
theorem wsum_nn : ∀ (r : List Int) (i : Int), 0 ≤ i → nn r → 0 ≤ wsum i r
  | [], _, _, _ => Int.le_refl _
  | n :: r, i, hi, h => by
    rw [nn_cons] at h
    have := wsum_nn r (i + 1) (by omega) h.2
    have := Int.mul_nonneg hi h.1
    rw [wsum]; omega
theorem wsum_le (m : Int) : ∀ (r : List Int) (i : Int), i + r.length ≤ m + 1 → nn r → wsum i r ≤ m * r.sum
  | [], _, _, _ => by simp [wsum]
  | n :: r, i, hi, h => by
    rw [nn_cons] at h
    have h1 := wsum_le m r (i + 1) (by simp at hi; omega) h.2
    have h2 : i * n ≤ m * n := Int.mul_le_mul_of_nonneg_right (by simp at hi; omega) h.1
    rw [wsum, List.sum_cons, Int.mul_add]; omega
theorem avg_l1 {all n : Int} (ha : 1 ≤ all) (ha2 : all ≤ 1152921504606846976) (hn : 0 ≤ n) (hn2 : n ≤ all) (P : List Int) (i : Nat) (hi : i < P.length) (hP : P.length ≤ 101) (r : Int × Int × Bool) : ∀ (j : Nat) (W R : Int), j ≤ 101 → 0 ≤ R → R < all → 0 ≤ W → W * all + R + j * n ≤ 1152921504606846976 →
    (∀ W' R' : Int, 0 ≤ W' → 0 ≤ R' → R' < all → W' * all + R' = W * all + R + j * n → Ev (fun k => spec_chAverage.l0 k all W' R' P P.length ((i : Int) + 1)) r) →
    Ev (fun k => spec_chAverage.l1 k all W R n j P P.length i) r
  | 0, W, R, _, h0, h1, hW, _, H => Ev.step (f := fun k => spec_chAverage.l0 k all W R P P.length ((i : Int) + 1)) (fun k => by simp only [spec_chAverage.l1]; rw [if_neg (by omega), w64 (by omega) (by omega)]) (H W R hW h0 h1 (by simp))
  | j + 1, W, R, hj, h0, h1, hW, hM, H => by
    have hj1 : ((j + 1 : Nat) : Int) * n = j * n + n := by rw [Int.natCast_add, Int.add_mul]; simp
    have hj0 : 0 ≤ (j : Int) * n := Int.mul_nonneg (by omega) hn
    have hq := Int.mul_ediv_add_emod (R + n) all
    have hd0 : 0 ≤ (R + n) / all := Int.ediv_nonneg (by omega) (by omega)
    have hd1 : (R + n) / all ≤ R + n := Int.ediv_le_self _ (by omega)
    have hm0 := Int.emod_nonneg (R + n) (show all ≠ 0 by omega)
    have hm1 := Int.emod_lt_of_pos (R + n) (show 0 < all by omega)
    have hW1 : W ≤ W * all := by have := Int.mul_le_mul_of_nonneg_left ha hW; omega
    have e : (W + (R + n) / all) * all + (R + n) % all = W * all + R + n := by rw [Int.add_mul, Int.mul_comm ((R + n) / all) all]; omega
    have w1 : wrap64 (R + n) = R + n := w64 (by omega) (by omega)
    refine Ev.step (f := fun k => spec_chAverage.l1 k all (W + (R + n) / all) ((R + n) % all) n j P P.length i) (fun k => by
      simp only [spec_chAverage.l1]
      rw [if_pos (by omega), if_neg (by omega), w1, Int.tdiv_eq_ediv_of_nonneg (by omega), Int.tmod_eq_emod_of_nonneg (by omega), w64 (x := (R + n) / all) (by omega) (by omega), w64 (x := W + (R + n) / all) (by omega) (by omega), w64 (by omega) (by omega), show (((j + 1 : Nat) : Int) - 1) = (j : Int) by omega]) ?_
    exact avg_l1 ha ha2 hn hn2 P i hi hP r j _ _ (by omega) hm0 hm1 (by omega) (by omega) (fun W' R' g0 g1 g2 g3 => H W' R' g0 g1 g2 (by omega))
theorem avg_low {W R all : Int} (hW : 0 ≤ W) (hR : 0 ≤ R) (ha : 1 ≤ all) : lowP (W * all + R) all = (W * (lowP R all).2 + (lowP R all).1, (lowP R all).2) := by
  obtain ⟨w, rfl⟩ := Int.eq_ofNat_of_zero_le hW
  obtain ⟨q, rfl⟩ := Int.eq_ofNat_of_zero_le hR
  obtain ⟨a, rfl⟩ := Int.eq_ofNat_of_zero_le (show 0 ≤ all by omega)
  unfold lowP
  have e1 : ((w : Int) * a + q).toNat = w * a + q := by omega
  simp only [e1, Int.toNat_natCast]
  have hg : Nat.gcd (w * a + q) a = Nat.gcd q a := by rw [Nat.add_comm, Nat.gcd_add_mul_right_left]
  rw [hg]
  have hd : (Nat.gcd q a : Nat) ∣ a := Nat.gcd_dvd_right _ _
  have hd2 : (Nat.gcd q a : Nat) ∣ q := Nat.gcd_dvd_left _ _
  have hpos : 0 < Nat.gcd q a := Nat.gcd_pos_of_pos_right _ (by omega)
  generalize Nat.gcd q a = g at hd hd2 hpos
  obtain ⟨x, rfl⟩ := hd
  obtain ⟨y, rfl⟩ := hd2
  have hgz : (g : Int) ≠ 0 := by omega
  refine Prod.ext ?_ rfl
  show ((w : Int) * ((g * x : Nat) : Int) + ((g * y : Nat) : Int)) / (g : Int) = (w : Int) * (((g * x : Nat) : Int) / (g : Int)) + ((g * y : Nat) : Int) / (g : Int)
  simp only [Int.natCast_mul]
  rw [Int.mul_ediv_cancel_left _ hgz, Int.mul_ediv_cancel_left _ hgz, show (w : Int) * ((g : Int) * x) + g * y = g * (w * x + y) by rw [Int.mul_add, ← Int.mul_assoc, ← Int.mul_assoc, Int.mul_comm (w : Int) g], Int.mul_ediv_cancel_left _ hgz]
theorem lowP_le {a b : Int} (ha : 0 ≤ a) (hb : 0 ≤ b) : 0 ≤ (lowP a b).1 ∧ (lowP a b).1 ≤ a ∧ 0 ≤ (lowP a b).2 ∧ (lowP a b).2 ≤ b :=
  ⟨Int.ediv_nonneg ha (by omega), Int.ediv_le_self _ ha, Int.ediv_nonneg hb (by omega), Int.ediv_le_self _ hb⟩
theorem avg_l0 {all S : Int} (ha : 1 ≤ all) (ha2 : all ≤ 1152921504606846976) (hS : S ≤ 1152921504606846976) (P : List Int) (hP : P.length ≤ 101) (hn : nn P) (hm : ∀ i : Nat, rd P i ≤ all) (d : Nat) : ∀ (i : Nat) (W R : Int), i + d = P.length → 0 ≤ W → 0 ≤ R → R < all → W * all + R + wsum i (P.drop i) = S →
    Ev (fun k => spec_chAverage.l0 k all W R P P.length i) ((lowP S all).1, (lowP S all).2, true) := by
  induction d with
  | zero =>
    intro i W R hi hW hR hR2 e
    rw [List.drop_eq_nil_of_le (by omega)] at e
    simp only [wsum, Int.add_zero] at e
    have hl := lowP_le hR (show 0 ≤ all by omega)
    have hW1 : W * (lowP R all).2 ≤ W * all := Int.mul_le_mul_of_nonneg_left hl.2.2.2 hW
    have hW0 : 0 ≤ W * (lowP R all).2 := Int.mul_nonneg hW hl.2.2.1
    rw [← e, avg_low hW hR ha]
    refine Ev.step (f := fun k => (spec_chLow.f k R all).bind fun b => some (wrap64 (wrap64 (W * b.2) + b.1), b.2, true)) (fun k => by simp only [spec_chAverage.l0]; rw [if_neg (by omega)]) ?_
    refine Ev.bind (chLow_ev hR (by omega) ha (by omega)) ?_
    rw [w64 (x := W * (lowP R all).2) (by omega) (by omega), w64 (x := W * (lowP R all).2 + (lowP R all).1) (by omega) (by omega)]
    exact Ev.now _
  | succ d ih =>
    intro i W R hi hW hR hR2 e
    have hi' : i < P.length := by omega
    rw [rd_dropS hi', wsum] at e
    have hr := rd_in hn (i : Int)
    have hw := wsum_nn (P.drop (i + 1)) ((i : Int) + 1) (by omega) (fun x hx => hn x (List.mem_of_mem_drop hx))
    refine Ev.step (f := fun k => spec_chAverage.l1 k all W R (rd P i) i P P.length i) (fun k => by simp only [spec_chAverage.l0]; rw [if_pos (by omega), if_pos (by omega), if_pos (by omega)]) ?_
    refine avg_l1 ha ha2 hr.1 (hm i) P i hi' hP _ i W R (by omega) hR hR2 hW (by omega) (fun W' R' g0 g1 g2 g3 => ?_)
    have := ih (i + 1) W' R' (by omega) g0 g1 g2 (by rw [show ((i + 1 : Nat) : Int) = (i : Int) + 1 by omega]; omega)
    rwa [show ((i + 1 : Nat) : Int) = (i : Int) + 1 by omega] at this
theorem avgI_l0 {sq fc ov : Int} {l : List S127} {t S : Int} (h1 : 1 ≤ fc) (h8 : fc ≤ 8) (ht : 0 ≤ t) (ht2 : t ≤ 20) (hS : S ≤ 1152921504606846976) (P : List Int) (hP : P.length ≤ 101) (hn : nn P) (d : Nat) : ∀ (i : Nat) (A : Int), i + d = P.length → 0 ≤ A → A + wsum i (P.drop i) = S →
    Ev (fun k => impl_AverageAfter.l0 k t A P P.length i sq fc ov l) ((lowP S (fc ^ t.toNat)).1, (lowP S (fc ^ t.toNat)).2, true) := by
  induction d with
  | zero =>
    intro i A hi hA e
    rw [List.drop_eq_nil_of_le (by omega)] at e
    simp only [wsum, Int.add_zero] at e
    subst e
    refine Ev.step (f := fun k => (impl_Board_part.f k sq fc ov l A t).bind fun b => some (b.1, b.2.1, b.2.2)) (fun k => by simp only [impl_AverageAfter.l0]; rw [if_neg (by omega)]) ?_
    exact Ev.bind (part_ev h1 h8 ht ht2 hA (by omega)) (Ev.now _)
  | succ d ih =>
    intro i A hi hA e
    have hi' : i < P.length := by omega
    rw [rd_dropS hi', wsum] at e
    have hr := rd_in hn (i : Int)
    have hm := Int.mul_nonneg (show 0 ≤ (i : Int) by omega) hr.1
    have hw := wsum_nn (P.drop (i + 1)) ((i : Int) + 1) (by omega) (fun x hx => hn x (List.mem_of_mem_drop hx))
    refine Ev.step (f := fun k => impl_AverageAfter.l0 k t (A + i * rd P i) P P.length ((i : Int) + 1) sq fc ov l) (fun k => by simp only [impl_AverageAfter.l0]; rw [if_pos (by omega), if_pos (by omega), if_pos (by omega), w64 (x := (i : Int) * rd P i) (by omega) (by omega), w64 (x := A + i * rd P i) (by omega) (by omega), w64 (by omega) (by omega)]) ?_
    have := ih (i + 1) (A + i * rd P i) (by omega) (by omega) (by rw [show ((i + 1 : Nat) : Int) = (i : Int) + 1 by omega]; omega)
    rwa [show ((i + 1 : Nat) : Int) = (i : Int) + 1 by omega] at this
section
variable {sq fc ov : Int} {l : List S127}
theorem AverageAfter_ev (s t : Int) : ∃ r, Ev (fun k => spec_AverageAfter.f k sq fc ov l s t) r ∧ Ev (fun k => impl_AverageAfter.f k sq fc ov l s t) r := by
  have e1 := chAsked_eq (sq := sq) (fc := fc) (ov := ov) (l := l) s t
  have e2 := isThrown_eq (sq := sq) (fc := fc) (ov := ov) (l := l) t 16 [s]
  rw [List.all_cons, List.all_nil, Bool.and_true] at e2
  rcases Bool.eq_false_or_eq_true (bOK sq fc ov l && sqr sq l s && inn t 0 16) with c | c
  · rw [c] at e2
    simp only [Bool.and_eq_true, inn_iff] at c
    obtain ⟨⟨h, hs⟩, ht0, ht2⟩ := c
    rw [h, hs, inn_iff.2 ⟨ht0, show t ≤ 20 by omega⟩] at e1
    have hb := bOK_J h
    have h0 := sqr_in hs
    have hst := start_facts h h0.1 h0.2
    have hp := pow_le hb.2.2.2.1 hb.2.2.2.2.1 t.toNat (by omega)
    have hp16 : fc ^ t.toNat ≤ 281474976710656 := Int.le_trans (pow_le' hb.2.2.2.1 (show t.toNat ≤ 16 by omega)) (by
      have : ∀ fc : Int, 1 ≤ fc → fc ≤ 8 → fc ^ 16 ≤ 281474976710656 := fun fc a b => by
        obtain ⟨n, rfl⟩ : ∃ n : Nat, fc = n := ⟨fc.toNat, by omega⟩
        have ha : n ^ 16 ≤ 8 ^ 16 := Nat.pow_le_pow_left (by omega) 16
        have : ((n : Int)) ^ 16 = ((n ^ 16 : Nat) : Int) := by simp
        rw [this]; omega
      exact this fc hb.2.2.2.1 hb.2.2.2.2.1)
    have hlen := placesP_len (lands sq fc ov l) (sq + 1).toNat t.toNat hst.1
    have hpf := places_facts h t.toNat hst.1 hst.2.1
    rw [hst.2.2, Int.mul_one] at hpf
    have hS := chP_ev h h0.1 h0.2 ht0 (show t ≤ 20 by omega)
    have hI := places_ev h h0.1 h0.2 ht0 (show t ≤ 20 by omega)
    have hr := fun i : Nat => (place_in h h0.1 h0.2 (t := t.toNat) (by omega) (i : Int)).2
    generalize hP : placesP (lands sq fc ov l) (sq + 1).toNat (startP (sq + 1).toNat s) t.toNat = P at hlen hS hI hpf hr
    have hw := wsum_le sq P 0 (by omega) hpf.1
    have hw2 : sq * P.sum ≤ 100 * 281474976710656 := by
      rw [hpf.2]
      exact Int.le_trans (Int.mul_le_mul_of_nonneg_right (show sq ≤ 100 by omega) (by omega)) (Int.mul_le_mul_of_nonneg_left hp16 (by omega))
    refine ⟨((lowP (wsum 0 P) (fc ^ t.toNat)).1, (lowP (wsum 0 P) (fc ^ t.toNat)).2, true), ?_, ?_⟩
    · refine Ev.congr (f := fun k => spec_AverageAfter.j0 k s t false sq fc ov l) (fun k => ?_) ?_
      · simp [spec_AverageAfter.f, e1, show ¬ (t > 16) by omega]
      · refine Ev.step (f := fun k => (spec_chPlaces.f k sq fc ov l s t).bind fun p => (spec_chAverage.f k sq fc ov l p t).bind fun b => some (b.1, b.2.1, b.2.2)) (fun k => by simp [spec_AverageAfter.j0]) ?_
        refine Ev.bind hS ?_
        refine Ev.bind (a := ((lowP (wsum 0 P) (fc ^ t.toNat)).1, (lowP (wsum 0 P) (fc ^ t.toNat)).2, true)) ?_ (Ev.now _)
        refine Ev.bind (chAll_ev hb.2.2.2.1 hb.2.2.2.2.1 ht0 (by omega)) ?_
        exact avg_l0 hp.1 hp.2 (by omega) P (by omega) hpf.1 hr P.length 0 0 0 (by omega) (by omega) (by omega) (by omega) (by simp)
    · refine Ev.congr (f := fun k => (impl_Board_places.f k sq fc ov l s t).bind fun p => impl_AverageAfter.l0 k t 0 p p.length 0 sq fc ov l) (fun k => ?_) ?_
      · simp [impl_AverageAfter.f, e2]
      · refine Ev.bind hI ?_
        exact avgI_l0 hb.2.2.2.1 hb.2.2.2.2.1 ht0 (by omega) (by omega) P (by omega) hpf.1 P.length 0 0 (by omega) (by omega) (by simp)
  · rw [c] at e2
    refine ⟨(0, 0, false), ?_, Ev.congr (f := fun _ => some (0, 0, false)) (fun k => by simp [impl_AverageAfter.f, e2]) (Ev.now _)⟩
    refine Ev.congr (f := fun k => spec_AverageAfter.j0 k s t true sq fc ov l) (fun k => ?_) (Ev.step (f := fun _ => some (0, 0, false)) (fun k => by simp [spec_AverageAfter.j0]) (Ev.now _))
    unfold spec_AverageAfter.f
    rw [e1]
    simp only [Option.bind_some]
    cases h : bOK sq fc ov l && sqr sq l s && inn t 0 20 with
    | false => rfl
    | true =>
      simp only [Bool.and_eq_true, inn_iff] at h
      have : t > 16 := by
        rcases (by omega : 16 < t ∨ t ≤ 16) with g | g
        · exact g
        · rw [h.1.1, h.1.2, inn_iff.2 ⟨h.2.1, g⟩] at c; cases c
      simp [this]
end
end Go.Proofs.Ythcogndhffhnfaa.P
end

section
namespace Go.Proofs.Ythcogndhffhnfaa.P
set_option linter.unusedVariables false
set_option linter.unusedSimpArgs false
open Go.RowKit Go.Proofs.YthcogndhffhnfaaW.PrintWords Go.Proofs.YthcogndhffhnfaaW.PrintLast
theorem okJ_gt {sq : Int} {all : List S127} : ∀ {r : List S127} {p : Int}, okJ sq all p r = true → ∀ j ∈ r, p < j.f0
  | j :: r, p, h, i, hi => by
    simp only [okJ, Bool.and_eq_true, decide_eq_true_eq] at h
    rcases List.mem_cons.1 hi with rfl | hi
    · exact h.1.1.2
    · have := okJ_gt h.2 i hi
      omega
theorem hits_zero (a : Int) : ∀ (r : List S127), (∀ j ∈ r, j.f0 ≠ a) → hits a r = 0
  | [], _ => rfl
  | j :: r, h => by
    rw [hits, hits_zero a r (fun i hi => h i (List.mem_cons_of_mem _ hi)), if_neg (fun e => h j List.mem_cons_self e.1)]
    rfl
theorem hits_jmp {sq a : Int} {all : List S127} : ∀ {r : List S127} {p : Int}, okJ sq all p r = true → hits a r = if (jmp r a).1 < a then 1 else 0
  | [], _, _ => by simp [hits, jmp]
  | j :: r, p, h => by
    have h2 : okJ sq all j.f0 r = true := by simp only [okJ, Bool.and_eq_true] at h; exact h.2
    rw [hits, jmp]
    by_cases e : j.f0 = a
    · subst e
      rw [if_pos rfl, hits_zero _ r (fun i hi => by have := okJ_gt h2 i hi; omega)]
      by_cases c : j.f1 < j.f0
      · rw [if_pos ⟨rfl, c⟩, if_pos c]; rfl
      · rw [if_neg (fun h => c h.2), if_neg c]; rfl
    · rw [if_neg e, if_neg (fun h => e h.1), hits_jmp h2]
      omega
theorem bOK_nil {sq fc ov : Int} {l : List S127} (h : bOK sq fc ov l = true) : bOK sq fc ov [] = true := by
  have hb := bOK_J h
  simp [bOK, okJ, inn_iff]
  omega
def bite (sq ov : Int) (l : List S127) (s f : Int) : Int := if (jmp l (thr sq ov [] s f)).1 < thr sq ov [] s f then 1 else 0
def bitesN (sq ov : Int) (l : List S127) (s : Int) : Nat → Int → Int
  | 0, _ => 0
  | n + 1, f => bite sq ov l s f + bitesN sq ov l s n (f + 1)
theorem bite_bd (sq ov : Int) (l : List S127) (s f : Int) : 0 ≤ bite sq ov l s f ∧ bite sq ov l s f ≤ 1 := by
  unfold bite; split <;> omega
theorem bitesN_bd (sq ov : Int) (l : List S127) (s : Int) : ∀ (n : Nat) (f : Int), 0 ≤ bitesN sq ov l s n f ∧ bitesN sq ov l s n f ≤ n
  | 0, _ => ⟨Int.le_refl _, Int.le_refl _⟩
  | n + 1, f => by
    have h1 := bite_bd sq ov l s f
    have h2 := bitesN_bd sq ov l s n (f + 1)
    rw [bitesN]; omega
section
variable {sq fc ov : Int} {l : List S127}
theorem ldTo_eq (h : bOK sq fc ov l = true) {s f : Int} (h0 : 0 ≤ s) (h1 : s ≤ sq) (hf : 1 ≤ f) (hf2 : f ≤ 8) : ldTo sq fc ov l s f = thr sq ov [] s f := by
  have hb := bOK_J h
  unfold ldTo impl_Board_landing.f thr
  rw [w64 (x := s + f) (by omega) (by omega), w64 (x := 2 * sq) (by omega) (by omega), w64 (x := 2 * sq - (s + f)) (by omega) (by omega)]
  by_cases c1 : s = sq
  · rw [if_pos c1, if_pos c1]
  · rw [if_neg c1, if_neg c1]
    by_cases c2 : s + f ≤ sq
    · rw [if_pos c2, if_pos c2]; rfl
    · rw [if_neg c2, if_neg c2]
      by_cases c3 : ov = 1
      · rw [if_pos c3, if_pos c3]
      · rw [if_neg c3, if_neg c3]
        by_cases c4 : ov = 2
        · rw [if_pos c4, if_pos c4]
          by_cases c5 : 0 ≤ 2 * sq - (s + f)
          · rw [if_pos c5, if_pos (by omega)]; rfl
          · rw [if_neg c5, if_neg (by omega)]
        · rw [if_neg c4, if_neg c4]
theorem ldSum_eq (h : bOK sq fc ov l = true) {s : Int} (h0 : 0 ≤ s) (h1 : s ≤ sq) : ∀ (n : Nat) (f : Int), 1 ≤ f → f + n ≤ 9 → ldSum sq fc ov l s n f = bitesN sq ov l s n f
  | 0, _, _, _ => rfl
  | n + 1, f, hf, hn => by
    rw [ldSum, bitesN, ldSum_eq h h0 h1 n (f + 1) (by omega) (by omega), ldTo_eq h h0 h1 hf (by omega), hits_jmp (bOK_J h).1]
    rfl
theorem landed_eq (h : bOK sq fc ov l = true) {s : Int} (h0 : 0 ≤ s) (h1 : s ≤ sq) : impl_Board_landed.f sq fc ov l s (.func (.func 155) #[] #[] : Value) = some (bitesN sq ov l s fc.toNat 1) := by
  have hb := bOK_J h
  unfold impl_Board_landed.f
  rw [ldSum_eq h h0 h1 _ _ (by omega) (by omega)]
  rw [if_pos]
  simp only [Bool.and_eq_true, decide_eq_true_eq]
  exact ⟨⟨⟨rfl, by omega⟩, by omega⟩, by omega⟩
theorem chSnake_eq (h : bOK sq fc ov l = true) {s f : Int} (h0 : 0 ≤ s) (h1 : s ≤ sq) (hs : (jmp l s).2 = false) (hf : 1 ≤ f) (hf2 : f ≤ 8) : spec_chSnake.f sq fc ov l s f = some (decide (bite sq ov l s f = 1)) := by
  unfold spec_chSnake.f
  rw [spec_thr (bOK_nil h) h0 h1 hf hf2]
  simp only [Option.bind_some, spec_sqJump.f]
  by_cases c : (jmp l (thr sq ov [] s f)).1 < thr sq ov [] s f
  · have e1 : bite sq ov l s f = 1 := by unfold bite; rw [if_pos c]
    have e : thr sq ov [] s f ≠ s := fun e => by rw [e, jmp_no hs] at c; omega
    rw [if_neg e, e1, decide_eq_true c]; rfl
  · have e1 : bite sq ov l s f = 0 := by unfold bite; rw [if_neg c]
    rw [e1, decide_eq_false c]
    split <;> rfl
def offJ (l : List S127) (now : List Int) : Prop := ∀ j : Int, 0 ≤ j → (jmp l j).2 = true → rd now j = 0
theorem jmp_off (h : bOK sq fc ov l = true) (n : Int) : (jmp l (jmp l n).1).2 = true → False := by
  intro e
  rcases Bool.eq_false_or_eq_true (jmp l n).2 with c | c
  · obtain ⟨j, hj, _, h3⟩ := jmp_mem c
    have := (okJ_iff sq l l 0 (fun _ h => h) (bOK_J h).1).2 j hj
    rw [← h3, this] at e
    cases e
  · rw [jmp_no c, c] at e
    cases e
theorem thr_off (h : bOK sq fc ov l = true) {s f : Int} (hs : (jmp l s).2 = false) : (jmp l (thr sq ov l s f)).2 = false := by
  rw [← Bool.not_eq_true]
  intro e
  unfold thr at e
  repeat' split at e
  all_goals first
    | exact jmp_off h _ e
    | (rw [hs] at e; cases e)
    | skip
  · have := jmp_end h (Int.le_refl sq)
    obtain ⟨j, hj, h3, _⟩ := jmp_mem e
    have := (okJ_mem (bOK_J h).1 j hj).1
    omega
theorem cnt_zero : ∀ (ts : List Int) (j : Int), (∀ t ∈ ts, t ≠ j) → cnt ts j = 0
  | [], _, _ => rfl
  | t :: ts, j, h => by rw [cnt, if_neg (h t List.mem_cons_self), cnt_zero ts j (fun x hx => h x (List.mem_cons_of_mem _ hx))]; rfl
theorem landsN_off (h : bOK sq fc ov l = true) {s : Int} (hs : (jmp l s).2 = false) : ∀ (n : Nat) (f : Int), ∀ t ∈ landsN sq ov l s n f, (jmp l t).2 = false
  | 0, _, t, ht => by cases ht
  | n + 1, f, t, ht => by
    rcases List.mem_cons.1 ht with rfl | ht
    · exact thr_off h hs
    · exact landsN_off h hs n (f + 1) t ht
theorem conv_zero (L : Int → List Int) (j : Int) : ∀ (r : List Int) (i : Int), (∀ p : Nat, p < r.length → r.getD p 0 = 0 ∨ cnt (L (i + p)) j = 0) → conv L j i r = 0
  | [], _, _ => rfl
  | n :: r, i, h => by
    have h0 := h 0 (by simp)
    rw [conv, conv_zero L j r (i + 1) (fun p hp => by have := h (p + 1) (by simpa using hp); rwa [show i + ((p + 1 : Nat) : Int) = i + 1 + (p : Int) by omega, List.getD_cons_succ] at this)]
    rcases h0 with e | e
    · simp at e; rw [e]; simp
    · simp at e; rw [e]; simp
theorem step_off (h : bOK sq fc ov l = true) {now : List Int} (hl : now.length = (sq + 1).toNat) (ho : offJ l now) : offJ l (stepP (lands sq fc ov l) (sq + 1).toNat now) := by
  intro j hj e
  rw [rd_stepP h hl hj]
  refine conv_zero _ _ _ _ (fun p hp => ?_)
  rcases Bool.eq_false_or_eq_true (jmp l (p : Int)).2 with c | c
  · left; exact ho (p : Int) (by omega) c
  · right
    refine cnt_zero _ _ (fun t ht e2 => ?_)
    have := landsN_off h (s := (0 : Int) + (p : Int)) (by rw [Int.zero_add]; exact c) fc.toNat 1 t ht
    rw [e2, e] at this
    cases this
theorem start_off {s : Int} (h0 : 0 ≤ s) (hs : sqr sq l s = true) : offJ l (startP (sq + 1).toNat s) := by
  intro j hj e
  have hs2 : (jmp l s).2 = false := by simp only [sqr, Bool.and_eq_true] at hs; simpa using hs.2
  unfold startP rd
  rw [List.getD_eq_getElem?_getD, List.getElem?_set]
  by_cases c : s.toNat = j.toNat
  · have : s = j := by omega
    rw [this, e] at hs2
    cases hs2
  · rw [if_neg c, List.getElem?_replicate]
    split <;> rfl
theorem places_off (h : bOK sq fc ov l = true) {s : Int} (h0 : 0 ≤ s) (h1 : s ≤ sq) (hs : sqr sq l s = true) : ∀ t, offJ l (placesP (lands sq fc ov l) (sq + 1).toNat (startP (sq + 1).toNat s) t)
  | 0 => start_off h0 hs
  | t + 1 => by
    rw [placesP_succ]
    exact step_off h (placesP_len _ _ t (start_facts h h0 h1).1) (places_off h h0 h1 hs t)
def bsum (sq fc ov : Int) (l : List S127) : Int → List Int → Int
  | _, [] => 0
  | i, n :: r => bitesN sq ov l i fc.toNat 1 * n + bsum sq fc ov l (i + 1) r
theorem bsum_bd (hb1 : 1 ≤ fc) (hb8 : fc ≤ 8) : ∀ (r : List Int) (i : Int), nn r → 0 ≤ bsum sq fc ov l i r ∧ bsum sq fc ov l i r ≤ 8 * r.sum
  | [], _, _ => by simp [bsum]
  | n :: r, i, h => by
    rw [nn_cons] at h
    have h1 := bsum_bd hb1 hb8 r (i + 1) h.2
    have h2 := bitesN_bd sq ov l i fc.toNat 1
    have h3 := Int.mul_nonneg h2.1 h.1
    have h4 : bitesN sq ov l i fc.toNat 1 * n ≤ 8 * n := Int.mul_le_mul_of_nonneg_right (by omega) h.1
    rw [bsum, List.sum_cons, Int.mul_add]; omega
def stot (sq fc ov : Int) (l : List S127) : List Int → Nat → Int
  | _, 0 => 0
  | now, d + 1 => bsum sq fc ov l 0 now * fc ^ d + stot sq fc ov l (stepP (lands sq fc ov l) (sq + 1).toNat now) d
theorem stot_bd (h : bOK sq fc ov l = true) : ∀ (d : Nat) (now : List Int), now.length = (sq + 1).toNat → nn now → 0 ≤ stot sq fc ov l now d ∧ stot sq fc ov l now d * fc ≤ 8 * d * (now.sum * fc ^ d)
  | 0, now, _, _ => by simp [stot]
  | d + 1, now, hl, hn => by
    have hb := bOK_J h
    have hf := step_facts h hl hn
    have h1 := stot_bd h d (stepP (lands sq fc ov l) (sq + 1).toNat now) (stepP_len _ _ _) hf.1
    have h2 := bsum_bd (sq := sq) (ov := ov) (l := l) hb.2.2.2.1 hb.2.2.2.2.1 now 0 hn
    have hp : 0 ≤ fc ^ d := Int.pow_nonneg (by omega)
    have h3 := Int.mul_nonneg h2.1 hp
    have h4 : bsum sq fc ov l 0 now * fc ^ d * fc ≤ 8 * (now.sum * fc ^ (d + 1)) := by
      rw [Int.pow_succ, Int.mul_assoc, ← Int.mul_assoc 8]
      exact Int.mul_le_mul_of_nonneg_right h2.2 (Int.mul_nonneg hp (by omega))
    have h5 : (stepP (lands sq fc ov l) (sq + 1).toNat now).sum * fc ^ d = now.sum * fc ^ (d + 1) := by
      rw [hf.2, Int.pow_succ, Int.mul_comm fc, Int.mul_assoc, Int.mul_comm fc]
    rw [h5] at h1
    rw [stot, Int.add_mul]
    have h6 : 8 * ((d + 1 : Nat) : Int) * (now.sum * fc ^ (d + 1)) = 8 * (now.sum * fc ^ (d + 1)) + 8 * (d : Int) * (now.sum * fc ^ (d + 1)) := by
      rw [Int.natCast_add, Int.mul_add, Int.add_mul]
      simp
      omega
    rw [h6]
    omega
theorem snI_l1 (h : bOK sq fc ov l = true) (T i acc : Int) (now : List Int) (hl : now.length = (sq + 1).toNat) (hn : nn now) (r : Int × Int × Bool) (d : Nat) : ∀ (j : Nat) (c : Int), j + d = now.length → 0 ≤ c → c + bsum sq fc ov l j (now.drop j) ≤ 4611686018427387904 →
    Ev (fun k => (impl_power.f k fc (wrap64 (wrap64 (T - i) - 1))).bind fun t624 => (impl_Board_next.f k sq fc ov l now).bind fun t625 => impl_SnakeBites.l0 k T (wrap64 (acc + wrap64 ((c + bsum sq fc ov l j (now.drop j)) * t624))) t625 T (wrap64 (i + 1)) sq fc ov l) r →
    Ev (fun k => impl_SnakeBites.l1 k T acc now i c T i now now.length j sq fc ov l) r := by
  have hb := bOK_J h
  induction d with
  | zero =>
    intro j c hj hc hM H
    rw [List.drop_eq_nil_of_le (by omega)] at H
    simp only [bsum, Int.add_zero] at H
    exact Ev.step (fun k => by simp only [impl_SnakeBites.l1]; rw [if_neg (by omega)]) H
  | succ d ih =>
    intro j c hj hc hM H
    have hj' : j < now.length := by omega
    have h0 := (rd_in hn (j : Int)).1
    have hbs := (bsum_bd (sq := sq) (ov := ov) (l := l) hb.2.2.2.1 hb.2.2.2.2.1 (now.drop (j + 1)) ((j : Int) + 1) (fun x hx => hn x (List.mem_of_mem_drop hx))).1
    have hbn := bitesN_bd sq ov l j fc.toNat 1
    have hm := Int.mul_nonneg hbn.1 h0
    rw [rd_drop hj', bsum] at H hM
    have e1 : ((j + 1 : Nat) : Int) = (j : Int) + 1 := by omega
    by_cases c0 : rd now j > 0
    · refine Ev.step (f := fun k => impl_SnakeBites.l1 k T acc now i (c + bitesN sq ov l j fc.toNat 1 * rd now j) T i now now.length ((j + 1 : Nat) : Int) sq fc ov l) (fun k => by
        simp only [impl_SnakeBites.l1]
        rw [if_pos (by omega), if_pos (by omega), if_pos (by omega), if_pos c0, landed_eq h (by omega) (by omega)]
        simp only [Option.bind_some]
        rw [Int.mul_comm (rd now j), w64 (x := bitesN sq ov l j fc.toNat 1 * rd now j) (by omega) (by omega), w64 (x := c + _) (by omega) (by omega), w64 (x := (j : Int) + 1) (by omega) (by omega), e1]) ?_
      refine ih (j + 1) _ (by omega) (by omega) (by rw [e1]; omega) ?_
      rw [e1, Int.add_assoc]
      exact H
    · have z : rd now j = 0 := by omega
      rw [z, Int.mul_zero, Int.zero_add] at H hM
      refine Ev.step (f := fun k => impl_SnakeBites.l1 k T acc now i c T i now now.length ((j + 1 : Nat) : Int) sq fc ov l) (fun k => by
        simp only [impl_SnakeBites.l1]
        rw [if_pos (by omega), if_pos (by omega), if_pos (by omega), if_neg c0, w64 (x := (j : Int) + 1) (by omega) (by omega), e1]) ?_
      refine ih (j + 1) _ (by omega) (by omega) (by rw [e1]; omega) ?_
      rw [e1]
      exact H
theorem snI_l0 (h : bOK sq fc ov l = true) (T : Nat) (hT : T ≤ 16) {S : Int} (hS : S ≤ 2305843009213693952) (d : Nat) : ∀ (i : Nat) (now : List Int) (acc : Int), i + d = T → now.length = (sq + 1).toNat → nn now → now.sum = fc ^ i → 0 ≤ acc → acc + stot sq fc ov l now d = S →
    Ev (fun k => impl_SnakeBites.l0 k T acc now T i sq fc ov l) ((lowP S (fc ^ T)).1, (lowP S (fc ^ T)).2, true) := by
  have hb := bOK_J h
  induction d with
  | zero =>
    intro i now acc hi hl hn hs hacc e
    simp only [stot, Int.add_zero] at e
    subst e
    refine Ev.step (f := fun k => (impl_Board_part.f k sq fc ov l acc T).bind fun b => some (b.1, b.2.1, b.2.2)) (fun k => by simp only [impl_SnakeBites.l0]; rw [if_neg (by omega)]) ?_
    have := part_ev (sq := sq) (ov := ov) (l := l) (t := (T : Int)) hb.2.2.2.1 hb.2.2.2.2.1 (by omega) (by omega) hacc (by omega)
    rw [Int.toNat_natCast] at this
    exact Ev.bind this (Ev.now _)
  | succ d ih =>
    intro i now acc hi hl hn hs hacc e
    have hf := step_facts h hl hn
    have hbs := bsum_bd (sq := sq) (ov := ov) (l := l) hb.2.2.2.1 hb.2.2.2.2.1 now 0 hn
    have hst := stot_bd h d (stepP (lands sq fc ov l) (sq + 1).toNat now) (stepP_len _ _ _) hf.1
    rw [stot] at e
    have hpi := pow_le hb.2.2.2.1 hb.2.2.2.2.1 i (by omega)
    have hpd := pow_le hb.2.2.2.1 hb.2.2.2.2.1 d (by omega)
    have hm := Int.mul_nonneg hbs.1 (show 0 ≤ fc ^ d by omega)
    have hm2 : bsum sq fc ov l 0 now ≤ bsum sq fc ov l 0 now * fc ^ d := by
      have := Int.mul_le_mul_of_nonneg_left hpd.1 hbs.1
      omega
    refine Ev.step (f := fun k => impl_SnakeBites.l1 k T acc now i 0 T i now now.length ((0 : Nat) : Int) sq fc ov l) (fun k => by simp only [impl_SnakeBites.l0]; rw [if_pos (by omega)]; rfl) ?_
    refine snI_l1 h T i acc now hl hn _ now.length 0 0 (by omega) (by omega) (by simp only [List.drop_zero]; show 0 + bsum sq fc ov l 0 now ≤ _; omega) ?_
    rw [w64 (x := (T : Int) - i) (by omega) (by omega), w64 (x := (T : Int) - i - 1) (by omega) (by omega), show (T : Int) - i - 1 = (d : Int) by omega]
    have hp := power_ev hb.2.2.2.1 hb.2.2.2.2.1 (t := (d : Int)) (by omega) (by omega)
    rw [Int.toNat_natCast] at hp
    refine Ev.bind hp ?_
    refine Ev.bind (next_ev h hl hn ?_) ?_
    · rw [hs, Int.mul_comm, ← Int.pow_succ]
      exact Int.le_trans (pow_le hb.2.2.2.1 hb.2.2.2.2.1 (i + 1) (by omega)).2 (by decide)
    · simp only [List.drop_zero, Int.zero_add]
      show Ev (fun k => impl_SnakeBites.l0 k T (wrap64 (acc + wrap64 (bsum sq fc ov l 0 now * fc ^ d))) (stepP (lands sq fc ov l) (sq + 1).toNat now) T (wrap64 ((i : Int) + 1)) sq fc ov l) _
      rw [w64 (x := bsum sq fc ov l 0 now * fc ^ d) (by omega) (by omega), w64 (x := acc + bsum sq fc ov l 0 now * fc ^ d) (by omega) (by omega), w64 (x := (i : Int) + 1) (by omega) (by omega), show (i : Int) + 1 = ((i + 1 : Nat) : Int) by omega]
      exact ih (i + 1) _ _ (by omega) (stepP_len _ _ _) hf.1 (by rw [hf.2, hs, Int.mul_comm, ← Int.pow_succ]) (by omega) (by omega)
def snTail (sq fc ov : Int) (l : List S127) (s T W R all kk n : Int) (P : List Int) (i : Nat) (k : Nat) (c : Int) : Option (Int × Int × Bool) :=
  (spec_chAll.f k sq fc ov l (wrap64 (wrap64 (T - kk) - 1))).bind fun t610 => if all = 0 then none else spec_SnakeBites.l1 k s T (wrap64 (W + wrap64 (Int.tdiv (wrap64 (R + wrap64 (wrap64 (c * n) * t610))) all))) (Int.tmod (wrap64 (R + wrap64 (wrap64 (c * n) * t610))) all) all kk P P.length (wrap64 ((i : Int) + 1)) sq fc ov l
theorem snS_l2 (h : bOK sq fc ov l = true) {s T W R all kk n : Int} {P : List Int} {i : Nat} (hi : (i : Int) ≤ sq) (hn : n > 0) (hs : (jmp l (i : Int)).2 = false) (r : Int × Int × Bool) : ∀ (d : Nat) (x c : Int), 1 ≤ x → x + d = fc + 1 → 0 ≤ c → c + d ≤ 8 →
    Ev (fun k => snTail sq fc ov l s T W R all kk n P i k (c + bitesN sq ov l i d x)) r →
    Ev (fun k => spec_SnakeBites.l2 k s T W R all kk i n c x P P.length i sq fc ov l) r
  | 0, x, c, hx, hd, hc, hc2, H => by
    have hb := bOK_J h
    rw [bitesN, Int.add_zero] at H
    refine Ev.step (f := fun k => spec_SnakeBites.j4 k s T W R all kk i n c x P P.length i false sq fc ov l) (fun k => by simp only [spec_SnakeBites.l2]; rw [if_neg (by omega)]) ?_
    refine Ev.step (fun k => by simp [spec_SnakeBites.j4, snTail]) H
  | d + 1, x, c, hx, hd, hc, hc2, H => by
    have hb := bOK_J h
    have hbt := bite_bd sq ov l i x
    refine Ev.step (f := fun k => spec_SnakeBites.j4 k s T W R all kk i n c x P P.length i true sq fc ov l) (fun k => by simp only [spec_SnakeBites.l2]; rw [if_pos (by omega), decide_eq_true hn]) ?_
    refine Ev.step (f := fun k => spec_SnakeBites.l2 k s T W R all kk i n (c + bite sq ov l i x) (x + 1) P P.length i sq fc ov l) (fun k => by
      simp only [spec_SnakeBites.j4]
      rw [if_pos trivial, chSnake_eq h (by omega) hi hs hx (by omega)]
      simp only [Option.bind_some, decide_eq_true_eq]
      rw [w64 (x := x + 1) (by omega) (by omega)]
      by_cases e : bite sq ov l i x = 1
      · rw [if_pos e, w64 (x := c + 1) (by omega) (by omega), e]
      · rw [if_neg e, show bite sq ov l i x = 0 by omega, Int.add_zero]) ?_
    refine snS_l2 h hi hn hs r d (x + 1) _ (by omega) (by omega) (by omega) (by omega) ?_
    rw [bitesN, ← Int.add_assoc] at H
    exact H
theorem snS_l1 (h : bOK sq fc ov l = true) {s : Int} (T kk e : Nat) (hT : kk + e + 1 = T) (hT2 : T ≤ 16) {S rest : Int} (hS : S ≤ 2305843009213693952) (hrest : 0 ≤ rest) (P : List Int) (hl : P.length = (sq + 1).toNat) (hn : nn P) (ho : offJ l P) (hm : ∀ i : Nat, rd P i ≤ fc ^ kk) (r : Int × Int × Bool)
    (H : ∀ W R : Int, 0 ≤ W → 0 ≤ R → R < fc ^ T → W * fc ^ T + R + rest = S → Ev (fun k => spec_SnakeBites.l0 k s T W R (fc ^ T) ((kk : Int) + 1) sq fc ov l) r) (d : Nat) :
    ∀ (i : Nat) (W R : Int), i + d = P.length → 0 ≤ W → 0 ≤ R → R < fc ^ T → W * fc ^ T + R + bsum sq fc ov l i (P.drop i) * fc ^ e + rest = S →
    Ev (fun k => spec_SnakeBites.l1 k s T W R (fc ^ T) kk P P.length i sq fc ov l) r := by
  have hb := bOK_J h
  have hpe := pow_le hb.2.2.2.1 hb.2.2.2.2.1 e (by omega)
  have hpT := pow_le hb.2.2.2.1 hb.2.2.2.2.1 T (by omega)
  induction d with
  | zero =>
    intro i W R hi hW hR hR2 eS
    rw [List.drop_eq_nil_of_le (by omega)] at eS
    simp only [bsum, Int.zero_mul, Int.add_zero] at eS
    refine Ev.step (f := fun k => spec_SnakeBites.l0 k s T W R (fc ^ T) ((kk : Int) + 1) sq fc ov l) (fun k => by simp only [spec_SnakeBites.l1]; rw [if_neg (by omega), w64 (by omega) (by omega)]) (H W R hW hR hR2 eS)
  | succ d ih =>
    intro i W R hi hW hR hR2 eS
    have hi' : i < P.length := by omega
    rw [rd_drop hi', bsum, Int.add_mul] at eS
    have h0 := (rd_in hn (i : Int)).1
    have hbn := bitesN_bd sq ov l i fc.toNat 1
    have hbs := (bsum_bd (sq := sq) (ov := ov) (l := l) hb.2.2.2.1 hb.2.2.2.2.1 (P.drop (i + 1)) ((i : Int) + 1) (fun x hx => hn x (List.mem_of_mem_drop hx))).1
    have hbe := Int.mul_nonneg hbs (show 0 ≤ fc ^ e by omega)
    have hm1 := Int.mul_nonneg hbn.1 h0
    have hm2 := Int.mul_nonneg hm1 (show 0 ≤ fc ^ e by omega)
    have hm3 : bitesN sq ov l i fc.toNat 1 * rd P i ≤ bitesN sq ov l i fc.toNat 1 * rd P i * fc ^ e := by
      have := Int.mul_le_mul_of_nonneg_left hpe.1 hm1
      omega
    have hW1 : W ≤ W * fc ^ T := by have := Int.mul_le_mul_of_nonneg_left hpT.1 hW; omega
    refine Ev.step (f := fun k => spec_SnakeBites.l2 k s T W R (fc ^ T) kk i (rd P i) 0 1 P P.length i sq fc ov l) (fun k => by simp only [spec_SnakeBites.l1]; rw [if_pos (by omega), if_pos (by omega), if_pos (by omega)]) ?_
    have key : Ev (fun k => snTail sq fc ov l s T W R (fc ^ T) kk (rd P i) P i k (bitesN sq ov l i fc.toNat 1)) r := by
      unfold snTail
      have ht : wrap64 (wrap64 ((T : Int) - kk) - 1) = (e : Int) := by rw [w64 (x := (T : Int) - kk) (by omega) (by omega), w64 (by omega) (by omega)]; omega
      rw [ht]
      have hc := chAll_ev (sq := sq) (ov := ov) (l := l) (t := (e : Int)) hb.2.2.2.1 hb.2.2.2.2.1 (by omega) (by omega)
      rw [Int.toNat_natCast] at hc
      refine Ev.bind hc ?_
      generalize hA : bitesN sq ov l i fc.toNat 1 * rd P i * fc ^ e = A at *
      have hq := Int.mul_ediv_add_emod (R + A) (fc ^ T)
      have hd0 : 0 ≤ (R + A) / fc ^ T := Int.ediv_nonneg (by omega) (by omega)
      have hd1 : (R + A) / fc ^ T ≤ R + A := Int.ediv_le_self _ (by omega)
      have hm0 := Int.emod_nonneg (R + A) (show fc ^ T ≠ 0 by omega)
      have hm1' := Int.emod_lt_of_pos (R + A) (show 0 < fc ^ T by omega)
      have e3 : (W + (R + A) / fc ^ T) * fc ^ T + (R + A) % fc ^ T = W * fc ^ T + R + A := by rw [Int.add_mul, Int.mul_comm ((R + A) / fc ^ T)]; omega
      refine Ev.congr (f := fun k => spec_SnakeBites.l1 k s T (W + (R + A) / fc ^ T) ((R + A) % fc ^ T) (fc ^ T) kk P P.length ((i + 1 : Nat) : Int) sq fc ov l) (fun k => by
        rw [if_neg (by omega), w64 (x := bitesN sq ov l i fc.toNat 1 * rd P i) (by omega) (by omega), hA, w64 (x := A) (by omega) (by omega), w64 (x := R + A) (by omega) (by omega), Int.tdiv_eq_ediv_of_nonneg (by omega), Int.tmod_eq_emod_of_nonneg (by omega),
          w64 (x := (R + A) / fc ^ T) (by omega) (by omega), w64 (x := W + (R + A) / fc ^ T) (by omega) (by omega), w64 (x := (i : Int) + 1) (by omega) (by omega), show (i : Int) + 1 = ((i + 1 : Nat) : Int) by omega]) ?_
      exact ih (i + 1) _ _ (by omega) (by omega) hm0 hm1' (by rw [show ((i + 1 : Nat) : Int) = (i : Int) + 1 by omega]; omega)
    by_cases c0 : rd P i > 0
    · have hs2 : (jmp l (i : Int)).2 = false := by
        rw [← Bool.not_eq_true]
        intro e2
        have := ho (i : Int) (by omega) e2
        omega
      refine snS_l2 h (by omega) c0 hs2 r fc.toNat 1 0 (by omega) (by omega) (by omega) (by omega) ?_
      rw [Int.zero_add]
      exact key
    · have z : rd P i = 0 := by omega
      refine Ev.step (f := fun k => spec_SnakeBites.j4 k s T W R (fc ^ T) kk i (rd P i) 0 1 P P.length i false sq fc ov l) (fun k => by simp only [spec_SnakeBites.l2]; rw [if_pos (by omega), decide_eq_false c0]) ?_
      refine Ev.step (f := fun k => snTail sq fc ov l s T W R (fc ^ T) kk (rd P i) P i k 0) (fun k => by simp [spec_SnakeBites.j4, snTail]) ?_
      rw [z] at key ⊢
      have : ∀ k, snTail sq fc ov l s T W R (fc ^ T) kk 0 P i k (bitesN sq ov l i fc.toNat 1) = snTail sq fc ov l s T W R (fc ^ T) kk 0 P i k 0 := fun k => by unfold snTail; rw [Int.mul_zero, Int.mul_zero]
      exact Ev.congr (fun k => (this k).symm) key
theorem snS_l0 (h : bOK sq fc ov l = true) {s : Int} (h0 : 0 ≤ s) (h1 : s ≤ sq) (hs : sqr sq l s = true) (T : Nat) (hT : T ≤ 16) {S : Int} (hS : S ≤ 2305843009213693952) (d : Nat) : ∀ (i : Nat) (W R : Int), i + d = T → 0 ≤ W → 0 ≤ R → R < fc ^ T → W * fc ^ T + R + stot sq fc ov l (placesP (lands sq fc ov l) (sq + 1).toNat (startP (sq + 1).toNat s) i) d = S →
    Ev (fun k => spec_SnakeBites.l0 k s T W R (fc ^ T) i sq fc ov l) ((lowP S (fc ^ T)).1, (lowP S (fc ^ T)).2, true) := by
  have hb := bOK_J h
  have hpT := pow_le hb.2.2.2.1 hb.2.2.2.2.1 T (by omega)
  have hst0 := start_facts h h0 h1
  induction d with
  | zero =>
    intro i W R hi hW hR hR2 e
    simp only [stot, Int.add_zero] at e
    have hl := lowP_le hR (show 0 ≤ fc ^ T by omega)
    have hW1 : W * (lowP R (fc ^ T)).2 ≤ W * fc ^ T := Int.mul_le_mul_of_nonneg_left hl.2.2.2 hW
    have hW0 : 0 ≤ W * (lowP R (fc ^ T)).2 := Int.mul_nonneg hW hl.2.2.1
    rw [← e, avg_low hW hR hpT.1]
    refine Ev.step (f := fun k => (spec_chLow.f k R (fc ^ T)).bind fun b => some (wrap64 (wrap64 (W * b.2) + b.1), b.2, true)) (fun k => by simp only [spec_SnakeBites.l0]; rw [if_neg (by omega)]) ?_
    refine Ev.bind (chLow_ev hR (by omega) hpT.1 (by omega)) ?_
    rw [w64 (x := W * (lowP R (fc ^ T)).2) (by omega) (by omega), w64 (x := W * (lowP R (fc ^ T)).2 + (lowP R (fc ^ T)).1) (by omega) (by omega)]
    exact Ev.now _
  | succ d ih =>
    intro i W R hi hW hR hR2 e
    have hlen := placesP_len (lands sq fc ov l) (sq + 1).toNat i hst0.1
    have hpf := places_facts h i hst0.1 hst0.2.1
    have hoff := places_off h h0 h1 hs i
    have hm := fun j : Nat => (place_in h h0 h1 (t := i) (by omega) (j : Int)).2
    have hch := chP_ev h h0 h1 (t := (i : Int)) (by omega) (by omega)
    rw [Int.toNat_natCast] at hch
    have hsucc := placesP_succ (lands sq fc ov l) (sq + 1).toNat i (startP (sq + 1).toNat s)
    rw [stot, ← hsucc] at e
    have hf2 := places_facts h (i + 1) hst0.1 hst0.2.1
    have hst := (stot_bd h d (placesP (lands sq fc ov l) (sq + 1).toNat (startP (sq + 1).toNat s) (i + 1)) (placesP_len _ _ _ hst0.1) hf2.1).1
    refine Ev.step (f := fun k => (spec_chPlaces.f k sq fc ov l s i).bind fun t605 => spec_SnakeBites.l1 k s T W R (fc ^ T) i t605 (t605.length : Int) ((0 : Nat) : Int) sq fc ov l) (fun k => by simp only [spec_SnakeBites.l0]; rw [if_pos (by omega)]; rfl) ?_
    refine Ev.bind hch ?_
    refine snS_l1 h T i d (by omega) hT hS hst _ hlen hpf.1 hoff hm _ ?_ (sq + 1).toNat 0 W R (by omega) hW hR hR2 (by simp only [List.drop_zero]; show W * fc ^ T + R + bsum sq fc ov l 0 _ * fc ^ d + _ = S; omega)
    intro W' R' g0 g1 g2 g3
    have := ih (i + 1) W' R' (by omega) g0 g1 g2 g3
    rwa [show ((i + 1 : Nat) : Int) = (i : Int) + 1 by omega] at this
theorem SnakeBites_ev (s t : Int) : ∃ r, Ev (fun k => spec_SnakeBites.f k sq fc ov l s t) r ∧ Ev (fun k => impl_SnakeBites.f k sq fc ov l s t) r := by
  have e1 := chAsked_eq (sq := sq) (fc := fc) (ov := ov) (l := l) s t
  have e2 := isThrown_eq (sq := sq) (fc := fc) (ov := ov) (l := l) t 16 [s]
  rw [List.all_cons, List.all_nil, Bool.and_true] at e2
  rcases Bool.eq_false_or_eq_true (bOK sq fc ov l && sqr sq l s && inn t 0 16) with c | c
  · rw [c] at e2
    simp only [Bool.and_eq_true, inn_iff] at c
    obtain ⟨⟨h, hs⟩, ht0, ht2⟩ := c
    rw [h, hs, inn_iff.2 ⟨ht0, show t ≤ 20 by omega⟩] at e1
    have hb := bOK_J h
    have h0 := sqr_in hs
    have hst := start_facts h h0.1 h0.2
    have hp := pow_le hb.2.2.2.1 hb.2.2.2.2.1 t.toNat (by omega)
    have hp16 : fc ^ t.toNat ≤ 281474976710656 := Int.le_trans (pow_le' hb.2.2.2.1 (show t.toNat ≤ 16 by omega)) (by
      have : ∀ fc : Int, 1 ≤ fc → fc ≤ 8 → fc ^ 16 ≤ 281474976710656 := fun fc a b => by
        obtain ⟨n, rfl⟩ : ∃ n : Nat, fc = n := ⟨fc.toNat, by omega⟩
        have ha : n ^ 16 ≤ 8 ^ 16 := Nat.pow_le_pow_left (by omega) 16
        have : ((n : Int)) ^ 16 = ((n ^ 16 : Nat) : Int) := by simp
        rw [this]; omega
      exact this fc hb.2.2.2.1 hb.2.2.2.2.1)
    have hbd := stot_bd h t.toNat _ hst.1 hst.2.1
    rw [hst.2.2, Int.one_mul] at hbd
    generalize hS : stot sq fc ov l (startP (sq + 1).toNat s) t.toNat = S at *
    have hS2 : S ≤ 2305843009213693952 := by
      have a1 : S ≤ S * fc := by have := Int.mul_le_mul_of_nonneg_left hb.2.2.2.1 hbd.1; omega
      have a2 : 8 * (t.toNat : Int) * fc ^ t.toNat ≤ 128 * 281474976710656 := Int.mul_le_mul (by omega) hp16 (by omega) (by omega)
      omega
    have ht : ((t.toNat : Nat) : Int) = t := by omega
    refine ⟨((lowP S (fc ^ t.toNat)).1, (lowP S (fc ^ t.toNat)).2, true), ?_, ?_⟩
    · refine Ev.congr (f := fun k => spec_SnakeBites.j0 k s t false sq fc ov l) (fun k => ?_) ?_
      · simp [spec_SnakeBites.f, e1, show ¬ (t > 16) by omega]
      · refine Ev.step (f := fun k => (spec_chAll.f k sq fc ov l t).bind fun p => spec_SnakeBites.l0 k s t 0 0 p 0 sq fc ov l) (fun k => by simp [spec_SnakeBites.j0]) ?_
        refine Ev.bind (chAll_ev hb.2.2.2.1 hb.2.2.2.2.1 ht0 (by omega)) ?_
        have := snS_l0 h h0.1 h0.2 hs t.toNat (by omega) hS2 t.toNat 0 0 0 (by omega) (by omega) (by omega) (by omega) (by rw [placesP, hS]; omega)
        rw [ht] at this
        exact this
    · refine Ev.congr (f := fun k => (impl_Board_startOf.f sq fc ov l s).bind fun t616 => impl_SnakeBites.l0 k t 0 t616 t 0 sq fc ov l) (fun k => ?_) ?_
      · simp [impl_SnakeBites.f, e2]
      · rw [startOf_eq h h0.1 h0.2]
        simp only [Option.bind_some]
        have := snI_l0 h t.toNat (by omega) hS2 t.toNat 0 (startP (sq + 1).toNat s) 0 (by omega) hst.1 hst.2.1 (by simpa using hst.2.2) (by omega) (by rw [hS]; omega)
        rw [ht] at this
        exact this
  · rw [c] at e2
    refine ⟨(0, 0, false), ?_, Ev.congr (f := fun _ => some (0, 0, false)) (fun k => by simp [impl_SnakeBites.f, e2]) (Ev.now _)⟩
    refine Ev.congr (f := fun k => spec_SnakeBites.j0 k s t true sq fc ov l) (fun k => ?_) (Ev.step (f := fun _ => some (0, 0, false)) (fun k => by simp [spec_SnakeBites.j0]) (Ev.now _))
    unfold spec_SnakeBites.f
    rw [e1]
    simp only [Option.bind_some]
    cases h : bOK sq fc ov l && sqr sq l s && inn t 0 20 with
    | false => rfl
    | true =>
      simp only [Bool.and_eq_true, inn_iff] at h
      have : t > 16 := by
        rcases (by omega : 16 < t ∨ t ≤ 16) with g | g
        · exact g
        · rw [h.1.1, h.1.2, inn_iff.2 ⟨h.2.1, g⟩] at c; cases c
      simp [this]
end
end Go.Proofs.Ythcogndhffhnfaa.P
end

section
namespace Go.Proofs.Ythcogndhffhnfaa.Pure
set_option linter.unusedVariables false
set_option linter.unusedSimpArgs false
open Go.RowKit Go.Proofs.Ythcogndhffhnfaa.P Go.Proofs.YthcogndhffhnfaaW.PrintWords Go.Proofs.YthcogndhffhnfaaW.PrintLast
theorem FnExactSnakeBites (a0_0 : Int) (a0_1 : Int) (a0_2 : Int) (l0_3 : List (S174)) (a1 : Int) (a2 : Int) (_h0 : (Lit.int .i64 a0_0).wf = true) (_h1 : (Lit.int .i64 a0_1).wf = true) (_h2 : (Lit.int .i64 a0_2).wf = true) (h3 : l0_3.length ≤ maxLen) (_h4 : (∀ x ∈ l0_3, goodJ x)) (_h5 : (Lit.int .i64 a1).wf = true) (_h6 : (Lit.int .i64 a2).wf = true) : ∃ k, laws_FnExactSnakeBites.f k a0_0 a0_1 a0_2 l0_3 a1 a2 = some true := by
  rcases szBoard_eq a0_0 a0_1 a0_2 l0_3 h3 with h | ⟨hl, h⟩
  · exact ⟨0, by unfold laws_FnExactSnakeBites.f; rw [h]; rfl⟩
  · obtain ⟨r, ⟨K1, e1⟩, K2, e2⟩ := SnakeBites_ev (sq := a0_0) (fc := a0_1) (ov := a0_2) (l := l0_3.map cvJ) a1 a2
    refine ⟨max K1 K2 + l0_3.length + 2, ?_⟩
    have e1 := e1 (max K1 K2 + l0_3.length + 2) (by omega)
    have e2 := e2 (max K1 K2 + l0_3.length + 2) (by omega)
    dsimp only at e1 e2
    unfold laws_FnExactSnakeBites.f
    rw [h, toBoard_eq (by omega) (by omega)]
    simp only [Option.bind_some]
    rw [if_neg (by omega), e1]
    simp only [Option.bind_some]
    rw [e2]
    simp only [Option.bind_some, if_true, bne_self_eq_false, laws_FnExactSnakeBites.j0]
    rw [toBoard_eq (by omega) (by omega)]
    simp only [Option.bind_some]
    rw [eqBoard_refl (by simp; omega) (by simp; omega)]
    rfl
end Go.Proofs.Ythcogndhffhnfaa.Pure
end
