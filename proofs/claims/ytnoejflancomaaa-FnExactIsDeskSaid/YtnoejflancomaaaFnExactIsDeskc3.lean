/- The program's IsDesk returns what the reference's IsDesk returns, for every desk, and leaves the desk as it was. -/
import Derived.ProofKit
import Derived.Deep.Slices
import Derived.Lib.SmallJoins
import Derived.SizedLaws
import Derived.ChangeSlices
import Derived.OpenShut
import Derived.Test.YtnoejflancomaaaRows
import Derived.WalkKit
import Derived.ShutString
import Derived.ChangeOld
import Derived.Below
import Derived.Test.YtnoejflancomaaaFnExactIsDeskc2
section
namespace Go.Proofs.Ytnoejflancomaaa.P
open Go.ChangeShapes Go.WideShapes Go.Deep Go.RowKit Go.Proofs.YtnoejflancomaaaW.PrintWords
set_option maxRecDepth 100000 in
theorem int_of {P : Program} {H : Type} {enc : TypeId × Value → H} {W : World} {base n : Nat} {t : TypeId} {k : IntKind} {u : Value} {y : DataW H × List MemPlace} (ht : P.underlying t = some (.int k)) (h : DataW.trod enc P W base (fun _ => true) true n t [u] = some y) :
    ∃ a : Int, u = .int k a ∧ (Lit.int k a).wf = true := by
  obtain ⟨a, e, _, hw⟩ := DataW.trod_int ht h
  exact ⟨a, by simpa using e, hw⟩
set_option maxRecDepth 100000 in
theorem row_of {P : Program} {α : Type} [Inhabited α] {H : Type} {enc : TypeId × Value → H} {W : World} {base n : Nat} {t e : TypeId} {u : Value} {y : DataW H × List MemPlace} (d : Kd α) (good : α → Prop) (ht : P.underlying t = some (.slice e)) (hsz : P.cellsOf e = d.sz)
    (hd : ∀ (m : Nat) (cs : List Value) (y : DataW H × List MemPlace), DataW.trod enc P W base (fun _ => true) true m e cs = some y → ∃ x, d.K W x cs ∧ good x)
    (h : DataW.trod enc P W base (fun _ => true) true n t [u] = some y) :
    ∃ (A : Option Addr) (len cap : Nat) (l : List α), u = .slice A len cap ∧ l.length = len ∧ len ≤ cap ∧ cap ≤ maxLen ∧ Kd.C d W A len l ∧ ∀ x ∈ l, good x := by
  rcases open_slice ht h with ⟨hcs, _⟩ | ⟨a, len, cap, m, n', D, Pl, hcs, hb, hl, hm, hmm, _, hx⟩
  · exact ⟨none, 0, 0, [], by simpa using hcs, rfl, Nat.le_refl _, by decide, ⟨rfl, by decide, fun h => absurd h (by decide)⟩, by simp⟩
  · have hm' : len ≤ m := by rw [hmm]; simp; exact hl
    obtain ⟨f, hf⟩ := choose_lt (α := α) (p := fun i x => ∃ cs, W.cells? base (a.add (i * P.cellsOf e)) (P.cellsOf e) = some cs ∧ d.K W x cs ∧ good x) (n := len) (fun i hi => by
      obtain ⟨cs, h1, h2⟩ := hx i (by omega)
      obtain ⟨x, h3, h4⟩ := hd _ _ _ h2
      exact ⟨x, cs, h1, h3, h4⟩)
    refine ⟨some a, len, cap, (List.range len).map f, by simpa using hcs, by simp, hl, hm, ⟨by simp, by have := hm; unfold maxLen at this; omega, fun _ => ⟨a, rfl, fun j p hj => ?_⟩⟩, fun x hx' => ?_⟩
    · have hj' : j < len := by have := (List.getElem?_eq_some_iff.1 hj).1; simpa using this
      have hp : p = f j := by rw [List.getElem?_map, List.getElem?_range hj'] at hj; simpa using hj.symm
      obtain ⟨cs, h1, h2, _⟩ := hf j hj'
      subst hp
      obtain ⟨_, h3, h4⟩ := World.cells?_some h1
      refine ⟨cs, d.K_len h2, h2, fun i v hv => ?_⟩
      have hi : i < d.sz := by have := (List.getElem?_eq_some_iff.1 hv).1; rw [d.K_len h2] at this; exact this
      rw [← hv, ← h4 i (by rw [hsz]; exact hi), hsz, Deep.add_add]
    · obtain ⟨i, hi, rfl⟩ := List.mem_map.1 hx'
      obtain ⟨_, _, _, h5⟩ := hf i (by simpa using hi)
      exact h5
def goodI (x : Int) : Prop := (Lit.int .i64 x).wf = true
set_option maxRecDepth 100000 in
theorem ints_of {H : Type} {enc : TypeId × Value → H} {W : World} {base m : Nat} {cs : List Value} {y : DataW H × List MemPlace} (h : DataW.trod enc Try.prog W base (fun _ => true) true m 3 cs = some y) : ∃ x, (Kd.int .i64).K W x cs ∧ goodI x := by
  obtain ⟨a, rfl, _, hw⟩ := DataW.trod_int Try.underlying3 h
  exact ⟨a, rfl, hw⟩
instance : Inhabited S151 := ⟨z151⟩
def goodJ (x : S151) : Prop := (Lit.int .i64 x.f0).wf = true ∧ (Lit.int .i64 x.f1).wf = true
set_option maxRecDepth 100000 in
theorem jumps_of {H : Type} {enc : TypeId × Value → H} {W : World} {base m : Nat} {cs : List Value} {y : DataW H × List MemPlace} (h : DataW.trod enc Try.prog W base (fun _ => true) true m 151 cs = some y) : ∃ x, k151.K W x cs ∧ goodJ x := by
  obtain ⟨_, _, n, _, hl, h0, h1⟩ := trod_struct2 Try.underlying151 h
  have hl : cs.length = 2 := hl.trans (by kernel_rfl)
  have hc : Try.prog.cellsOf 3 = 1 := by kernel_rfl
  match cs, hl with
  | [u0, u1], _ =>
    simp only [hc, List.drop_succ_cons, List.drop_zero, List.take_succ_cons, List.take_zero] at h0 h1
    obtain ⟨a, rfl, wa⟩ := int_of Try.underlying3 h0
    obtain ⟨b, rfl, wb⟩ := int_of Try.underlying3 h1
    exact ⟨⟨a, b⟩, k151_mk _ _, wa, wb⟩
set_option maxRecDepth 100000 in
theorem board_of {H : Type} {enc : TypeId × Value → H} {W : World} {base m : Nat} {cs : List Value} {y : DataW H × List MemPlace} (h : DataW.trod enc Try.prog W base (fun _ => true) true m 33 cs = some y) :
    ∃ (a0 a1 a2 : Int) (A : Option Addr) (c : Nat) (l : List S151), cs = [.int .i64 a0, .int .i64 a1, .int .i64 a2, .slice A l.length c] ∧ Kd.C k151 W A l.length l ∧ l.length ≤ c ∧ l.length ≤ maxLen ∧ (Lit.int .i64 a0).wf = true ∧ (Lit.int .i64 a1).wf = true ∧ (Lit.int .i64 a2).wf = true ∧ ∀ x ∈ l, goodJ x := by
  obtain ⟨_, _, _, _, n, _, hl, h0, h1, h2, h3⟩ := Go.Joins.trod_struct4 Try.underlying33 h
  have hl : cs.length = 4 := hl.trans (by kernel_rfl)
  have hc : Try.prog.cellsOf 3 = 1 := by kernel_rfl
  have hc2 : Try.prog.cellsOf 31 = 1 := by kernel_rfl
  match cs, hl with
  | [u0, u1, u2, u3], _ =>
    simp only [hc, hc2, List.drop_succ_cons, List.drop_zero, List.take_succ_cons, List.take_zero] at h0 h1 h2 h3
    obtain ⟨a0, rfl, w0⟩ := int_of Try.underlying3 h0
    obtain ⟨a1, rfl, w1⟩ := int_of Try.underlying3 h1
    obtain ⟨a2, rfl, w2⟩ := int_of Try.underlying3 h2
    obtain ⟨A, len, cap, l, rfl, rfl, hl, hm, hC, hg⟩ := row_of k151 goodJ Try.underlying31 (by kernel_rfl) (fun _ _ _ h => jumps_of h) h3
    exact ⟨a0, a1, a2, A, cap, l, rfl, hC, hl, Nat.le_trans hl hm, w0, w1, w2, hg⟩
set_option maxRecDepth 100000 in
theorem open_Board {H : Type} {enc : TypeId × Value → H} {W : World} {b base : Nat} {v : Value} {d : DataW H} {p : List MemPlace} (hv : Value.okWide Try.prog W .any b 33 v) (h : DataW.Trod enc Try.prog W base (fun _ => true) true 33 v d p) :
    ∃ (a0 a1 a2 : Int) (A : Option Addr) (c : Nat) (l : List S151), v = .agg #[.int .i64 a0, .int .i64 a1, .int .i64 a2, .slice A l.length c] ∧ Kd.C k151 W A l.length l ∧ l.length ≤ c ∧ l.length ≤ maxLen ∧ (Lit.int .i64 a0).wf = true ∧ (Lit.int .i64 a1).wf = true ∧ (Lit.int .i64 a2).wf = true ∧ ∀ x ∈ l, goodJ x := by
  obtain ⟨cs, rfl, _⟩ := okWide_struct Try.underlying33 hv
  obtain ⟨fuel, hf⟩ := h
  obtain ⟨a0, a1, a2, A, c, l, e, r⟩ := board_of (cs := cs.toList) hf
  exact ⟨a0, a1, a2, A, c, l, by rw [← Array.toArray_toList (xs := cs), e], r⟩
set_option maxRecDepth 100000 in
theorem open_Desk {H : Type} {enc : TypeId × Value → H} {W : World} {b base : Nat} {v : Value} {d : DataW H} {p : List MemPlace} (hv : Value.okWide Try.prog W .any b 35 v) (h : DataW.Trod enc Try.prog W base (fun _ => true) true 35 v d p) :
    ∃ (a0 a1 a2 : Int) (A : Option Addr) (c : Nat) (l : List S151) (a4 : Int), v = .agg #[.int .i64 a0, .int .i64 a1, .int .i64 a2, .slice A l.length c, .int .i64 a4] ∧ Kd.C k151 W A l.length l ∧ l.length ≤ c ∧ l.length ≤ maxLen ∧ (Lit.int .i64 a0).wf = true ∧ (Lit.int .i64 a1).wf = true ∧ (Lit.int .i64 a2).wf = true ∧ (∀ x ∈ l, goodJ x) ∧ (Lit.int .i64 a4).wf = true := by
  obtain ⟨cs, rfl, hs⟩ := okWide_struct Try.underlying35 hv
  have hs : cs.size = 5 := hs.trans (by kernel_rfl)
  obtain ⟨fuel, hf⟩ := h
  have hf : DataW.trod enc Try.prog W base (fun _ => true) true fuel 35 cs.toList = some (d, p) := hf
  obtain ⟨_, _, n, _, _, h0, h1⟩ := trod_struct2 Try.underlying35 hf
  have hc : Try.prog.cellsOf 3 = 1 := by kernel_rfl
  have hc2 : Try.prog.cellsOf 33 = 4 := by kernel_rfl
  rw [← Array.toArray_toList (xs := cs)]
  match hcs : cs.toList, (by simpa using hs : cs.toList.length = 5) with
  | [u0, u1, u2, u3, u4], _ =>
    rw [hcs] at h0 h1
    simp only [hc, hc2, List.drop_succ_cons, List.drop_zero, List.take_succ_cons, List.take_zero] at h0 h1
    obtain ⟨a0, a1, a2, A, c, l, e, r1, r2, r3, r4, r5, r6, r7⟩ := board_of h0
    obtain ⟨a4, rfl, w4⟩ := int_of Try.underlying3 h1
    simp only [List.cons.injEq] at e
    obtain ⟨rfl, rfl, rfl, rfl, _⟩ := e
    exact ⟨a0, a1, a2, A, c, l, a4, rfl, r1, r2, r3, r4, r5, r6, r7, w4⟩
end Go.Proofs.Ytnoejflancomaaa.P
end

section
namespace Go.Proofs.YtnoejflancomaaaW.PrintWords
open Go.ChangeShapes Go.WideShapes
end Go.Proofs.YtnoejflancomaaaW.PrintWords
end

section
namespace Go.Proofs.Ytnoejflancomaaa.P
open Go.RowKit Go.Proofs.YtnoejflancomaaaW.PrintWords Go.Proofs.YtnoejflancomaaaW.PrintLast
theorem w64 {x : Int} (h : -9223372036854775808 ≤ x) (h2 : x ≤ 9223372036854775807) : wrap64 x = x := by unfold wrap64; omega
theorem wf64 {x : Int} (h : (Lit.int .i64 x).wf = true) : -9223372036854775808 ≤ x ∧ x ≤ 9223372036854775807 := Go.bounds_i64 h
def cvJ (x : S151) : S76 := ⟨x.f0, x.f1⟩
theorem toJumpS_l (x0 : List S151) (hl : x0.length ≤ 17592186044416) (d : Nat) : ∀ (k i : Nat) (x3 : List S76), i + d = x0.length → x3.length = x0.length → d < k →
    laws_toJumpS.l0 k x0 x3 i = some (x3.take i ++ (x0.drop i).map cvJ) := by
  induction d with
  | zero =>
    intro k i x3 hi h3 hk
    obtain ⟨k, rfl⟩ : ∃ m, k = m + 1 := ⟨k - 1, by omega⟩
    simp only [laws_toJumpS.l0]
    rw [if_neg (by omega), List.drop_eq_nil_of_le (by omega), List.take_of_length_le (by omega)]
    simp
  | succ d ih =>
    intro k i x3 hi h3 hk
    obtain ⟨k, rfl⟩ : ∃ m, k = m + 1 := ⟨k - 1, by omega⟩
    simp only [laws_toJumpS.l0]
    rw [if_pos (by omega), if_pos (by omega)]
    simp only [laws_toJump.f, Option.bind_some]
    rw [if_pos (by omega), w64 (by omega) (by omega), show ((i : Int) + 1) = ((i + 1 : Nat) : Int) by omega, ih k (i + 1) _ (by omega) (by simp [h3]) (by omega)]
    have hg : rd_T151 x0 i = x0[i] := by simp [rd_T151, show i < x0.length by omega]
    rw [hg, Int.toNat_natCast, List.drop_eq_getElem_cons (show i < x0.length by omega), List.map_cons]
    congr 1
    rw [List.take_succ_eq_append_getElem (by simp; omega), List.getElem_set_self, List.take_set_of_le (Nat.le_refl _)]
    simp [cvJ]
theorem toJumpS_eq {l : List S151} (hl : l.length ≤ 17592186044416) {k : Nat} (hk : l.length < k) : laws_toJumpS.f k l = some (l.map cvJ) := by
  unfold laws_toJumpS.f
  rw [if_pos (by omega), if_pos (by omega)]
  have := toJumpS_l l hl l.length k 0 (List.replicate l.length z76) (by omega) (by simp) hk
  simpa using this
theorem toBoard_eq {l : List S151} (hl : l.length ≤ 17592186044416) {k : Nat} (hk : l.length < k) (a b c : Int) : laws_toBoard.f k a b c l = some (a, b, c, l.map cvJ) := by
  unfold laws_toBoard.f
  rw [toJumpS_eq hl hk]
  rfl
theorem szBoard_eq (a b c : Int) (l : List S151) (hl : l.length ≤ maxLen) : (laws_szBoard.f a b c l 1048576 = some (-1)) ∨ (l.length ≤ 1048576 ∧ laws_szBoard.f a b c l 1048576 = some (1048576 - (l.length : Int))) := by
  have h : wrap64 (1048576 - (l.length : Int)) = 1048576 - (l.length : Int) := w64 (by unfold maxLen at hl; omega) (by omega)
  unfold laws_szBoard.f laws_szJumpS.f
  rw [h]
  by_cases c : (1048576 - (l.length : Int)) < 0
  · left
    rw [if_pos c]
    rfl
  · right
    rw [if_neg c]
    exact ⟨by omega, by rw [Option.bind_some, if_neg c]⟩
theorem eqJumpS_l (x : List S76) (hl : x.length ≤ 17592186044416) (d : Nat) : ∀ (k i : Nat), i + d = x.length → d < k → laws_eqJumpS.l0 k x x i = some true := by
  induction d with
  | zero =>
    intro k i hi hk
    obtain ⟨k, rfl⟩ : ∃ m, k = m + 1 := ⟨k - 1, by omega⟩
    simp only [laws_eqJumpS.l0]
    rw [if_neg (by omega)]
  | succ d ih =>
    intro k i hi hk
    obtain ⟨k, rfl⟩ : ∃ m, k = m + 1 := ⟨k - 1, by omega⟩
    simp only [laws_eqJumpS.l0]
    rw [if_pos (by omega), if_pos (by omega), if_pos (by omega)]
    simp only [laws_eqJump.f, if_true, Option.bind_some]
    rw [w64 (by omega) (by omega), show ((i : Int) + 1) = ((i + 1 : Nat) : Int) by omega]
    exact ih k (i + 1) (by omega) (by omega)
theorem eqBoard_refl {l : List S76} (hl : l.length ≤ 17592186044416) {k : Nat} (hk : l.length < k) (a b c : Int) : laws_eqBoard.f k a b c l a b c l = some true := by
  unfold laws_eqBoard.f laws_eqJumpS.f
  rw [if_pos rfl, if_pos rfl, if_pos rfl, if_pos rfl]
  have := eqJumpS_l l hl l.length k 0 (by omega) hk
  rw [show ((0 : Int)) = ((0 : Nat) : Int) from rfl, this]
  rfl
theorem bOK_J {sq fc ov : Int} {l : List S76} (h : bOK sq fc ov l = true) : okJ sq l 0 l = true ∧ 1 ≤ sq ∧ sq ≤ 100 ∧ 1 ≤ fc ∧ fc ≤ 8 ∧ 0 ≤ ov ∧ ov ≤ 2 ∧ l.length ≤ 20 := by
  simp only [bOK, Bool.and_eq_true, inn_iff, decide_eq_true_eq] at h
  obtain ⟨⟨⟨⟨⟨h1, h2⟩, h3, h4⟩, h5, h6⟩, h7⟩, h8⟩ := h
  exact ⟨h8, h1, h2, h3, h4, h5, h6, h7⟩
theorem jmp_ne {sq fc ov : Int} {l : List S76} (h : bOK sq fc ov l = true) {n : Int} (hj : (jmp l n).2 = true) : (jmp l n).1 ≠ n := by
  obtain ⟨j, hj1, h1, h2⟩ := jmp_mem hj
  have h3 := okS_ne sq l 0 (okJ_iff sq l l 0 (fun _ h => h) (bOK_J h).1).1 j hj1
  intro e
  exact h3 (by rw [h1, h2, e])
theorem sqs_eq {sq fc ov : Int} {l : List S76} (h : bOK sq fc ov l = true) (n : Int) : sqs sq l n = sqr sq l n := by
  unfold sqs sqr
  congr 1
  rcases Bool.eq_false_or_eq_true (jmp l n).2 with e | e
  · rw [e]; simpa using jmp_ne h e
  · rw [e]; simpa using jmp_no e
theorem asked_eq (sq fc ov : Int) (l : List S76) (n : Int) : (bOK sq fc ov l && sqs sq l n) = (bOK sq fc ov l && sqr sq l n) := by
  rcases Bool.eq_false_or_eq_true (bOK sq fc ov l) with e | e
  · rw [sqs_eq e]
  · rw [e]; rfl
end Go.Proofs.Ytnoejflancomaaa.P
end

section
namespace Go.Proofs.Ytnoejflancomaaa.Pure
open Go.RowKit Go.Proofs.Ytnoejflancomaaa.P Go.Proofs.YtnoejflancomaaaW.PrintWords Go.Proofs.YtnoejflancomaaaW.PrintLast
theorem FnExactIsDesk (a0_0 : Int) (a0_1 : Int) (a0_2 : Int) (l0_3 : List (S151)) (a0_4 : Int) (_h0 : (Lit.int .i64 a0_0).wf = true) (_h1 : (Lit.int .i64 a0_1).wf = true) (_h2 : (Lit.int .i64 a0_2).wf = true) (h3 : l0_3.length ≤ maxLen) (_h4 : (∀ x ∈ l0_3, goodJ x)) (_h5 : (Lit.int .i64 a0_4).wf = true) : ∃ k, laws_FnExactIsDesk.f k a0_0 a0_1 a0_2 l0_3 a0_4 = some true := by
  refine ⟨l0_3.length + 1, ?_⟩
  unfold laws_FnExactIsDesk.f laws_szDesk.f
  rcases szBoard_eq a0_0 a0_1 a0_2 l0_3 h3 with h | ⟨hl, h⟩
  · rw [h]; rfl
  · have e1 : laws_toDesk.f (l0_3.length + 1) a0_0 a0_1 a0_2 l0_3 a0_4 = some (a0_0, a0_1, a0_2, l0_3.map cvJ, a0_4) := by
      unfold laws_toDesk.f
      rw [toBoard_eq (by omega) (by omega)]
      rfl
    have e2 : laws_eqDesk.f (l0_3.length + 1) a0_0 a0_1 a0_2 (l0_3.map cvJ) a0_4 a0_0 a0_1 a0_2 (l0_3.map cvJ) a0_4 = some true := by
      unfold laws_eqDesk.f
      rw [eqBoard_refl (by simp; omega) (by simp)]
      simp
    have e3 : spec_IsDesk.f a0_0 a0_1 a0_2 (l0_3.map cvJ) a0_4 = impl_IsDesk.f a0_0 a0_1 a0_2 (l0_3.map cvJ) a0_4 := by
      unfold spec_IsDesk.f impl_IsDesk.f spec_coGood.f spec_sqAsked.f impl_areSquares.f
      simp only [Option.bind_some, asked_eq, List.all_cons, List.all_nil, Bool.and_true]
    rw [h]
    simp only [Option.bind_some]
    rw [if_neg (by omega)]
    simp only [Option.bind_some]
    rw [if_neg (by omega), e1]
    simp only [Option.bind_some]
    rw [e3]
    simp [impl_IsDesk.f, impl_areSquares.f, e2]
end Go.Proofs.Ytnoejflancomaaa.Pure
end

section
namespace Go.Proofs.Ytnoejflancomaaa.fnExactIsDesk
open Go.ChangeShapes Go.WideShapes Go.ChangeAt Go.RowKit
open Go.ChangeMaps (open_string shut_string)
theorem own : ownKnob Try.prog.godebug = none := by kernel_rfl
theorem laidOut : laidOutB Try.prog = true := by kernel_rfl
set_option maxRecDepth 100000 in
theorem lifted (os : Os) (started : os.Started) (H : Type) (enc : TypeId × Value → H) :
    ReturnsInHanded {} Try.checked os 4 .any (Rows.fnExactIsDeskSpec.pre6 enc Try.prog Try.f4 Rows.fnExactIsDeskRow.domain false) (Rows.fnExactIsDeskSpec.post enc Try.prog Try.f4 false true false false) := by
  refine returnsInHanded_of_change_sized (C := Try.checked) own started (by kernel_rfl) Try.func4
    (ChangeSpec.witness6 (enc := enc) (C := Try.checked) false ⟨#[], #[.agg #[.int .i64 0, .int .i64 0, .int .i64 0, .slice none 0 0, .int .i64 0]], []⟩ 8 (by kernel_rfl) (by kernel_rfl) (by kernel_rfl) (by kernel_rfl)) ?_
  intro W base args ds gs before hval0 hW _ _ _
  have hval : ∀ (j : Nat) t v, Try.f4.params[j]? = some t → args[j]? = some v → Value.okWide Try.prog W .any base t v := hval0
  have hW' := hW
  obtain ⟨p, q, hA0, hV, rfl, hfz, hnd⟩ := hW
  have hA : DataW.TrodAll enc Try.prog W 0 (fun _ => true) true Try.f4.params.toList args.toList ds p := hA0
  rw [Try.params4] at hA hval
  obtain ⟨v0, vs0, d0, ds0, p0, q0, hargs, rfl, rfl, h0, r0⟩ := trodAll_cons hA
  obtain ⟨rfl, rfl, rfl⟩ := trodAll_nil r0
  obtain rfl : args = #[v0] := by cases args; simp_all
  obtain ⟨rfl, rfl⟩ := trodVars_none hV
  have k0 := h0
  have lt0 : ∀ x ∈ p0, x.block < W.heap.size := by obtain ⟨m, hm⟩ := k0; exact DataW.trod_lt m _ _ _ hm
  obtain ⟨a0_0, a0_1, a0_2, A0_3, c0_3, l0_3, a0_4, rfl, hr0_3, hc0_3, hm0_3, w0_0, w0_1, w0_2, hg0_3, w0_4⟩ := P.open_Desk (hval 0 35 v0 rfl rfl) h0
  clear hA0 hval0
  obtain ⟨k, hk⟩ := Pure.FnExactIsDesk a0_0 a0_1 a0_2 l0_3 a0_4 w0_0 w0_1 w0_2 hm0_3 hg0_3 w0_4
  refine (P.laws_FnExactIsDesk.calls k a0_0 a0_1 a0_2 A0_3 c0_3 l0_3 a0_4 true W hr0_3 hc0_3 hk).mono fun e W' ⟨he, bel⟩ => ?_
  subst he
  exact ⟨_, rfl, _, _, _, [], _, [], hW', trodAll_mk1 (shut_bool Try.underlying4 _), (trodAll_cons_mk (Below.trod laidOut (by kernel_rfl) (of_decide_eq_true (by kernel_rfl)) k0 bel lt0) trodAll_mk0), rfl, bel.frame _, fun h => by cases h⟩
theorem over : Rows.fnExactIsDeskRow.holds Try.pinned (OpenSpec.ofChange Rows.fnExactIsDeskSpec) :=
  OpenClaim.holds_of_wide 4 Try.f4 rfl rfl rfl rfl rfl rfl rfl ⟨rfl, rfl, rfl, rfl, rfl⟩ rfl rfl rfl rfl rfl (by kernel_rfl) Try.func4 (by kernel_rfl)
    (of_decide_eq_true (by kernel_rfl)) (by unfold Func.isWrapper; first | (rw [if_pos (by decide +kernel)]; kernel_rfl) | (rw [if_neg (by decide +kernel)]; exact ⟨rfl, rfl⟩))
    (fun os started H enc _ => lifted os started H enc)
theorem proved : Rows.FnExactIsDeskSaid := over
end Go.Proofs.Ytnoejflancomaaa.fnExactIsDesk
namespace Go.Proofs.Ytnoejflancomaaa
theorem fnExactIsDesk_holds : Rows.FnExactIsDeskSaid := fnExactIsDesk.proved
#print axioms fnExactIsDesk_holds
end Go.Proofs.Ytnoejflancomaaa
end
