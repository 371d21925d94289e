/- The program's SureSquares returns what the reference's SureSquares returns, for every board and a number of throws, and leaves the board as it was; the list it returns is its own. -/
import Derived.ProofKit
import Derived.Deep.Slices
import Derived.Lib.SmallJoins
import Derived.SizedLaws
import Derived.ChangeSlices
import Derived.Test.YtgahigmpcgfbeaaFnExactSureSquaresc3
section
namespace Go.Proofs.Ytgahigmpcgfbeaa.P
set_option linter.unusedVariables false
set_option linter.unusedSimpArgs false
open Go.ChangeShapes Go.WideShapes Go.Deep Go.RowKit Go.Proofs.YtgahigmpcgfbeaaW.PrintWords
set_option maxRecDepth 100000 in
theorem int_of {P : Program} {H : Type} {enc : TypeId × Value → H} {W : World} {base n : Nat} {t : TypeId} {k : IntKind} {u : Value} {y : DataW H × List MemPlace} (ht : P.underlying t = some (.int k)) (h : DataW.trod enc P W base (fun _ => true) true n t [u] = some y) :
    ∃ a : Int, u = .int k a ∧ (Lit.int k a).wf = true := by
  obtain ⟨a, e, _, hw⟩ := DataW.trod_int ht h
  exact ⟨a, by simpa using e, hw⟩
set_option maxRecDepth 100000 in
theorem row_of {P : Program} {α : Type} [Inhabited α] {H : Type} {enc : TypeId × Value → H} {W : World} {base n : Nat} {t e : TypeId} {u : Value} {y : DataW H × List MemPlace} (d : Kd α) (good : α → Prop) (ht : P.underlying t = some (.slice e)) (hsz : P.cellsOf e = d.sz)
    (hd : ∀ (m : Nat) (cs : List Value) (y : DataW H × List MemPlace), DataW.trod enc P W base (fun _ => true) true m e cs = some y → ∃ x, d.K W x cs ∧ good x)
    (h : DataW.trod enc P W base (fun _ => true) true n t [u] = some y) :
    ∃ (A : Option Addr) (len cap : Nat) (l : List α), u = .slice A len cap ∧ l.length = len ∧ len ≤ cap ∧ cap ≤ maxLen ∧ Kd.C d W A len l ∧ ∀ x ∈ l, good x := by
  rcases open_slice ht h with ⟨hcs, _⟩ | ⟨a, len, cap, m, n', D, Pl, hcs, hb, hl, hm, hmm, _, hx⟩
  · exact ⟨none, 0, 0, [], by simpa using hcs, rfl, Nat.le_refl _, by decide, ⟨rfl, by decide, fun h => absurd h (by decide)⟩, by simp⟩
  · have hm' : len ≤ m := by rw [hmm]; simp; exact hl
    obtain ⟨f, hf⟩ := choose_lt (α := α) (p := fun i x => ∃ cs, W.cells? base (a.add (i * P.cellsOf e)) (P.cellsOf e) = some cs ∧ d.K W x cs ∧ good x) (n := len) (fun i hi => by
      obtain ⟨cs, h1, h2⟩ := hx i (by omega)
      obtain ⟨x, h3, h4⟩ := hd _ _ _ h2
      exact ⟨x, cs, h1, h3, h4⟩)
    refine ⟨some a, len, cap, (List.range len).map f, by simpa using hcs, by simp, hl, hm, ⟨by simp, by have := hm; unfold maxLen at this; omega, fun _ => ⟨a, rfl, fun j p hj => ?_⟩⟩, fun x hx' => ?_⟩
    · have hj' : j < len := by have := (List.getElem?_eq_some_iff.1 hj).1; simpa using this
      have hp : p = f j := by rw [List.getElem?_map, List.getElem?_range hj'] at hj; simpa using hj.symm
      obtain ⟨cs, h1, h2, _⟩ := hf j hj'
      subst hp
      obtain ⟨_, h3, h4⟩ := World.cells?_some h1
      refine ⟨cs, d.K_len h2, h2, fun i v hv => ?_⟩
      have hi : i < d.sz := by have := (List.getElem?_eq_some_iff.1 hv).1; rw [d.K_len h2] at this; exact this
      rw [← hv, ← h4 i (by rw [hsz]; exact hi), hsz, Deep.add_add]
    · obtain ⟨i, hi, rfl⟩ := List.mem_map.1 hx'
      obtain ⟨_, _, _, h5⟩ := hf i (by simpa using hi)
      exact h5
def goodI (x : Int) : Prop := (Lit.int .i64 x).wf = true
set_option maxRecDepth 100000 in
theorem ints_of {H : Type} {enc : TypeId × Value → H} {W : World} {base m : Nat} {cs : List Value} {y : DataW H × List MemPlace} (h : DataW.trod enc Try.prog W base (fun _ => true) true m 3 cs = some y) : ∃ x, (Kd.int .i64).K W x cs ∧ goodI x := by
  obtain ⟨a, rfl, _, hw⟩ := DataW.trod_int Try.underlying3 h
  exact ⟨a, rfl, hw⟩
instance : Inhabited S177 := ⟨z177⟩
def goodJ (x : S177) : Prop := (Lit.int .i64 x.f0).wf = true ∧ (Lit.int .i64 x.f1).wf = true
set_option maxRecDepth 100000 in
theorem jumps_of {H : Type} {enc : TypeId × Value → H} {W : World} {base m : Nat} {cs : List Value} {y : DataW H × List MemPlace} (h : DataW.trod enc Try.prog W base (fun _ => true) true m 177 cs = some y) : ∃ x, k177.K W x cs ∧ goodJ x := by
  obtain ⟨_, _, n, _, hl, h0, h1⟩ := trod_struct2 Try.underlying177 h
  have hl : cs.length = 2 := hl.trans (by kernel_rfl)
  have hc : Try.prog.cellsOf 3 = 1 := by kernel_rfl
  match cs, hl with
  | [u0, u1], _ =>
    simp only [hc, List.drop_succ_cons, List.drop_zero, List.take_succ_cons, List.take_zero] at h0 h1
    obtain ⟨a, rfl, wa⟩ := int_of Try.underlying3 h0
    obtain ⟨b, rfl, wb⟩ := int_of Try.underlying3 h1
    exact ⟨⟨a, b⟩, k177_mk _ _, wa, wb⟩
set_option maxRecDepth 100000 in
theorem board_of {H : Type} {enc : TypeId × Value → H} {W : World} {base m : Nat} {cs : List Value} {y : DataW H × List MemPlace} (h : DataW.trod enc Try.prog W base (fun _ => true) true m 24 cs = some y) :
    ∃ (a0 a1 a2 : Int) (A : Option Addr) (c : Nat) (l : List S177), cs = [.int .i64 a0, .int .i64 a1, .int .i64 a2, .slice A l.length c] ∧ Kd.C k177 W A l.length l ∧ l.length ≤ c ∧ l.length ≤ maxLen ∧ (Lit.int .i64 a0).wf = true ∧ (Lit.int .i64 a1).wf = true ∧ (Lit.int .i64 a2).wf = true ∧ ∀ x ∈ l, goodJ x := by
  obtain ⟨_, _, _, _, n, _, hl, h0, h1, h2, h3⟩ := Go.Joins.trod_struct4 Try.underlying24 h
  have hl : cs.length = 4 := hl.trans (by kernel_rfl)
  have hc : Try.prog.cellsOf 3 = 1 := by kernel_rfl
  have hc2 : Try.prog.cellsOf 22 = 1 := by kernel_rfl
  match cs, hl with
  | [u0, u1, u2, u3], _ =>
    simp only [hc, hc2, List.drop_succ_cons, List.drop_zero, List.take_succ_cons, List.take_zero] at h0 h1 h2 h3
    obtain ⟨a0, rfl, w0⟩ := int_of Try.underlying3 h0
    obtain ⟨a1, rfl, w1⟩ := int_of Try.underlying3 h1
    obtain ⟨a2, rfl, w2⟩ := int_of Try.underlying3 h2
    obtain ⟨A, len, cap, l, rfl, rfl, hl, hm, hC, hg⟩ := row_of k177 goodJ Try.underlying22 (by kernel_rfl) (fun _ _ _ h => jumps_of h) h3
    exact ⟨a0, a1, a2, A, cap, l, rfl, hC, hl, Nat.le_trans hl hm, w0, w1, w2, hg⟩
set_option maxRecDepth 100000 in
theorem open_Board {H : Type} {enc : TypeId × Value → H} {W : World} {b base : Nat} {v : Value} {d : DataW H} {p : List MemPlace} (hv : Value.okWide Try.prog W .any b 24 v) (h : DataW.Trod enc Try.prog W base (fun _ => true) true 24 v d p) :
    ∃ (a0 a1 a2 : Int) (A : Option Addr) (c : Nat) (l : List S177), v = .agg #[.int .i64 a0, .int .i64 a1, .int .i64 a2, .slice A l.length c] ∧ Kd.C k177 W A l.length l ∧ l.length ≤ c ∧ l.length ≤ maxLen ∧ (Lit.int .i64 a0).wf = true ∧ (Lit.int .i64 a1).wf = true ∧ (Lit.int .i64 a2).wf = true ∧ ∀ x ∈ l, goodJ x := by
  obtain ⟨cs, rfl, _⟩ := okWide_struct Try.underlying24 hv
  obtain ⟨fuel, hf⟩ := h
  obtain ⟨a0, a1, a2, A, c, l, e, r⟩ := board_of (cs := cs.toList) hf
  exact ⟨a0, a1, a2, A, c, l, by rw [← Array.toArray_toList (xs := cs), e], r⟩
end Go.Proofs.Ytgahigmpcgfbeaa.P
end

section
namespace Go.Proofs.YtgahigmpcgfbeaaW.PrintWords
open Go.ChangeShapes Go.WideShapes
end Go.Proofs.YtgahigmpcgfbeaaW.PrintWords
end

section
namespace Go.Proofs.Ytgahigmpcgfbeaa.P
set_option linter.unusedVariables false
set_option linter.unusedSimpArgs false
open Go.RowKit Go.Proofs.YtgahigmpcgfbeaaW.PrintWords Go.Proofs.YtgahigmpcgfbeaaW.PrintLast
def rowN (sq : Int) (F : Int → Int) : List Int := (List.range (sq + 1).toNat).map fun i : Nat => F (i : Int)
theorem rowN_len (sq : Int) (F : Int → Int) : (rowN sq F).length = (sq + 1).toNat := by simp [rowN]
theorem rowN_rd {sq : Int} (F : Int → Int) {t : Int} (h0 : 0 ≤ t) (h1 : t ≤ sq) : rd (rowN sq F) t = F t := by
  unfold rd rowN
  rw [List.getD_eq_getElem?_getD, List.getElem?_map, List.getElem?_range (by omega)]
  simp [show ((t.toNat : Nat) : Int) = t by omega]
theorem rowN_congr {sq : Int} {F G : Int → Int} (h : ∀ s, 0 ≤ s → s ≤ sq → F s = G s) : rowN sq F = rowN sq G := by
  unfold rowN
  exact List.map_congr_left fun i hi => h i (by omega) (by have := List.mem_range.1 hi; omega)
theorem rowN_set {sq : Int} (F : Int → Int) {t : Int} (h0 : 0 ≤ t) (v : Int) : (rowN sq F).set t.toNat v = rowN sq (fun s => if s = t then v else F s) := by
  apply List.ext_getElem?
  intro i
  rw [List.getElem?_set]
  unfold rowN
  simp only [List.length_map, List.length_range, List.getElem?_map]
  by_cases hi : i < (sq + 1).toNat
  · rw [List.getElem?_range hi]
    by_cases e : t.toNat = i
    · rw [if_pos e, if_pos (by omega)]; simp [show (i : Int) = t by omega]
    · rw [if_neg e]; simp; omega
  · by_cases e : t.toNat = i
    · rw [if_pos e, if_neg (by omega), List.getElem?_eq_none (by simp; omega)]; rfl
    · rw [if_neg e, List.getElem?_eq_none (by simp; omega)]; rfl
theorem rowN_zero (sq : Int) : List.replicate (sq + 1).toNat (0 : Int) = rowN sq (fun _ => 0) := by
  unfold rowN
  apply List.ext_getElem?
  intro i
  rw [List.getElem?_replicate, List.getElem?_map]
  by_cases hi : i < (sq + 1).toNat
  · rw [if_pos hi, List.getElem?_range hi]; rfl
  · rw [if_neg hi, List.getElem?_eq_none (by simp; omega)]; rfl
def tS (sq ov : Int) (l : List S126) (f : Int → Int) (s : Int) : Nat → Int → Int
  | 0, _ => 0
  | n + 1, x => f (thr sq ov l s x) + tS sq ov l f s n (x + 1)
def nx (sq fc ov : Int) (l : List S126) (z : Int) (f : Int → Int) (s : Int) : Int := if s = sq ∨ s = z then 0 else tS sq ov l f s fc.toNat 1
def gN (sq fc ov : Int) (l : List S126) (z : Int) : Nat → Int → Int
  | 0, s => if s = sq then 1 else 0
  | n + 1, s => nx sq fc ov l z (gN sq fc ov l z n) s
section
variable {sq fc ov : Int} {l : List S126}
theorem tS_bd (hbd : bOK sq fc ov l = true) {f : Int → Int} {B : Int} (hf : ∀ s, 0 ≤ s → s ≤ sq → 0 ≤ f s ∧ f s ≤ B) {s : Int} (h0 : 0 ≤ s) (h1 : s ≤ sq) : ∀ (n : Nat) (x : Int), 1 ≤ x → 0 ≤ tS sq ov l f s n x ∧ tS sq ov l f s n x ≤ n * B
  | 0, x, _ => by simp [tS]
  | n + 1, x, hx => by
    have h2 := thr_in hbd h0 h1 hx
    have h3 := hf _ h2.1 h2.2
    have h4 := tS_bd hbd hf h0 h1 n (x + 1) (by omega)
    rw [tS, Int.natCast_add, Int.add_mul]
    omega
theorem gN_bd (hbd : bOK sq fc ov l = true) (z : Int) : ∀ (n : Nat) (s : Int), 0 ≤ s → s ≤ sq → 0 ≤ gN sq fc ov l z n s ∧ gN sq fc ov l z n s ≤ (8 : Int) ^ n
  | 0, s, _, _ => by rw [gN]; split <;> simp
  | n + 1, s, h0, h1 => by
    have hb := bOK_J hbd
    have hp : (0 : Int) ≤ 8 ^ n := Int.le_of_lt (Int.pow_pos (by omega))
    rw [gN, nx]
    split
    · exact ⟨by omega, Int.le_of_lt (Int.pow_pos (by omega))⟩
    · have h2 := tS_bd hbd (fun s h0 h1 => gN_bd hbd z n s h0 h1) h0 h1 fc.toNat 1 (by omega)
      refine ⟨h2.1, Int.le_trans h2.2 ?_⟩
      rw [Int.pow_succ, Int.mul_comm]
      exact Int.mul_le_mul_of_nonneg_left (by omega) hp
theorem p8 {n : Nat} (h : n ≤ 16) : (8 : Int) ^ n ≤ 281474976710656 := by
  have hb : 8 ^ n ≤ 8 ^ 16 := Nat.pow_le_pow_right (by omega) h
  have : ((8 : Int)) ^ n = ((8 ^ n : Nat) : Int) := by simp
  rw [this]; omega
theorem tS_sub (hbd : bOK sq fc ov l = true) {f g h : Int → Int} (hf : ∀ s, 0 ≤ s → s ≤ sq → f s = g s - h s) {s : Int} (h0 : 0 ≤ s) (h1 : s ≤ sq) : ∀ (n : Nat) (x : Int), 1 ≤ x → tS sq ov l f s n x = tS sq ov l g s n x - tS sq ov l h s n x
  | 0, x, _ => by simp [tS]
  | n + 1, x, hx => by
    have h2 := thr_in hbd h0 h1 hx
    rw [tS, tS, tS, tS_sub hbd hf h0 h1 n (x + 1) (by omega), hf _ h2.1 h2.2]
    omega
variable {mk : Int × Int → Int → Int}
theorem opI_succ : ∀ (i : Nat) (β : Int × Int → Int), opI sq fc ov l mk (i + 1) β = opB sq fc ov l mk (opI sq fc ov l mk i β)
  | 0, β => rfl
  | i + 1, β => by rw [opI, opI_succ i (opB sq fc ov l mk β)]; rfl
theorem sumF_tS (hbd : bOK sq fc ov l = true) {β : Int × Int → Int} {f : Int → Int} {u : Int × Int} (h0 : 0 ≤ u.1) (h1 : u.1 ≤ sq) (hf : ∀ x, 1 ≤ x → β (thr sq ov l u.1 x, mk u x) = f (thr sq ov l u.1 x)) : ∀ (n : Nat) (x : Int), 1 ≤ x → sumF sq ov l mk β u n x = tS sq ov l f u.1 n x
  | 0, x, _ => rfl
  | n + 1, x, hx => by rw [sumF, tS, sumF_tS hbd h0 h1 hf n (x + 1) (by omega), hf x hx]
end
end Go.Proofs.Ytgahigmpcgfbeaa.P
end

section
namespace Go.Proofs.Ytgahigmpcgfbeaa.P
set_option linter.unusedVariables false
set_option linter.unusedSimpArgs false
open Go.RowKit Go.Proofs.YtgahigmpcgfbeaaW.PrintWords Go.Proofs.YtgahigmpcgfbeaaW.PrintLast
section
variable {sq fc ov : Int} {l : List S126}
theorem gaCounts_l2 (hbd : bOK sq fc ov l = true) (f h : Int → Int) {B : Int} (hB : B ≤ 281474976710656) (hB0 : 0 ≤ B) (hf : ∀ s, 0 ≤ s → s ≤ sq → 0 ≤ f s ∧ f s ≤ B) {T at_ : Int} (h0 : 0 ≤ at_) (h1 : at_ < sq) {r : List Int} :
    ∀ (n : Nat) (x v : Int), x + n = fc + 1 → 1 ≤ x → 0 ≤ v → v + n * B ≤ 4503599627370496 → Ev (fun k => spec_gaCounts.l1 k T (rowN sq f) (rowN sq (fun s => if s = at_ then v + tS sq ov l f at_ n x else h s)) (at_ + 1) sq fc ov l) r →
      Ev (fun k => spec_gaCounts.l2 k T (rowN sq f) (rowN sq (fun s => if s = at_ then v else h s)) at_ x sq fc ov l) r
  | 0, x, v, hx, _, hv, _, he => by
    have hb := bOK_J hbd
    refine Ev.step (f := fun k => spec_gaCounts.l1 k T (rowN sq f) (rowN sq (fun s => if s = at_ then v + tS sq ov l f at_ 0 x else h s)) (at_ + 1) sq fc ov l) (fun k => ?_) he
    simp only [spec_gaCounts.l2, tS, Int.add_zero]
    rw [if_neg (by omega), w64 (by omega) (by omega)]
  | n + 1, x, v, hx, hx1, hv, hvb, he => by
    have hb := bOK_J hbd
    have h2 := thr_in hbd h0 (Int.le_of_lt h1) hx1
    have h3 := hf _ h2.1 h2.2
    have hl := rowN_len sq f
    have hl2 := rowN_len sq (fun s => if s = at_ then v else h s)
    rw [Int.natCast_add, Int.add_mul] at hvb
    have hnB : 0 ≤ (n : Int) * B := Int.mul_nonneg (by omega) (by omega)
    have hvb : v + ((n : Int) * B + B) ≤ 4503599627370496 := by simpa using hvb
    refine Ev.step (f := fun k => spec_gaCounts.l2 k T (rowN sq f) (rowN sq (fun s => if s = at_ then v + f (thr sq ov l at_ x) else h s)) at_ (x + 1) sq fc ov l) (fun k => ?_)
      (gaCounts_l2 hbd f h hB hB0 hf h0 h1 n (x + 1) (v + f (thr sq ov l at_ x)) (by omega) (by omega) (by omega) (by omega) (Ev.congr (fun k => by
        rw [tS, show v + f (thr sq ov l at_ x) + tS sq ov l f at_ n (x + 1) = v + (f (thr sq ov l at_ x) + tS sq ov l f at_ n (x + 1)) by omega]) he))
    simp only [spec_gaCounts.l2]
    rw [if_pos (by omega), if_pos h0, if_pos (by omega), spec_thr hbd h0 (Int.le_of_lt h1) hx1 (by omega)]
    simp only [Option.bind_some]
    rw [if_pos h2.1, if_pos (by omega), rowN_rd _ h2.1 h2.2, rowN_rd _ h0 (Int.le_of_lt h1), rowN_set _ h0, if_pos rfl, w64 (x := v + f (thr sq ov l at_ x)) (by omega) (by omega), w64 (x := x + 1) (by omega) (by omega)]
    rw [rowN_congr (F := fun s => if s = at_ then v + f (thr sq ov l at_ x) else if s = at_ then v else h s) (G := fun s => if s = at_ then v + f (thr sq ov l at_ x) else h s) (fun s _ _ => by
      by_cases e : s = at_
      · simp [e]
      · simp [e])]
theorem gaCounts_l1 (hbd : bOK sq fc ov l = true) (f : Int → Int) {B : Int} (hB : B ≤ 281474976710656) (hB0 : 0 ≤ B) (hf : ∀ s, 0 ≤ s → s ≤ sq → 0 ≤ f s ∧ f s ≤ B) {T : Int} (hT : 1 ≤ T) (hT2 : T ≤ 16) {r : List Int}
    (he : Ev (fun k => spec_gaCounts.l0 k (T - 1) (rowN sq (nx sq fc ov l (-1) f)) sq fc ov l) r) :
    ∀ (n : Nat) (at_ : Int), at_ + n = sq → 0 ≤ at_ → Ev (fun k => spec_gaCounts.l1 k T (rowN sq f) (rowN sq (fun s => if s < at_ then nx sq fc ov l (-1) f s else 0)) at_ sq fc ov l) r
  | 0, at_, hn, h0 => by
    have hb := bOK_J hbd
    refine Ev.step (f := fun k => spec_gaCounts.l0 k (T - 1) (rowN sq (nx sq fc ov l (-1) f)) sq fc ov l) (fun k => ?_) he
    simp only [spec_gaCounts.l1]
    rw [if_neg (by omega), w64 (by omega) (by omega)]
    rw [rowN_congr (F := fun s => if s < at_ then nx sq fc ov l (-1) f s else 0) (G := nx sq fc ov l (-1) f) (fun s _ hs => by
      by_cases e : s < at_
      · simp [e]
      · rw [if_neg e, nx, if_pos (Or.inl (by omega))])]
  | n + 1, at_, hn, h0 => by
    have hb := bOK_J hbd
    have ih := gaCounts_l1 hbd f hB hB0 hf hT hT2 he n (at_ + 1) (by omega) (by omega)
    refine Ev.step (f := fun k => spec_gaCounts.l2 k T (rowN sq f) (rowN sq (fun s => if s < at_ then nx sq fc ov l (-1) f s else 0)) at_ 1 sq fc ov l) (fun k => by
      simp only [spec_gaCounts.l1]
      rw [if_pos (by omega)]) ?_
    have hz : at_ ≠ -1 := by omega
    have h9 := gaCounts_l2 hbd f (fun s => if s < at_ then nx sq fc ov l (-1) f s else 0) hB hB0 hf (T := T) h0 (by omega) (r := r) fc.toNat 1 0 (by omega) (by omega) (by omega) (by
      have : (fc.toNat : Int) * B ≤ 8 * B := Int.mul_le_mul_of_nonneg_right (by omega) hB0
      omega) (Ev.congr (fun k => by
        rw [rowN_congr (F := fun s => if s = at_ then 0 + tS sq ov l f at_ fc.toNat 1 else if s < at_ then nx sq fc ov l (-1) f s else 0) (G := fun s => if s < at_ + 1 then nx sq fc ov l (-1) f s else 0) (fun s _ _ => by
          by_cases e2 : s = at_
          · rw [if_pos e2, if_pos (by omega), nx, if_neg (by omega), e2]; omega
          · rw [if_neg e2]
            by_cases e : s < at_
            · rw [if_pos e, if_pos (by omega)]
            · rw [if_neg e, if_neg (by omega)])]) ih)
    refine Ev.congr (fun k => ?_) h9
    rw [rowN_congr (F := fun s => if s < at_ then nx sq fc ov l (-1) f s else 0) (G := fun s => if s = at_ then 0 else if s < at_ then nx sq fc ov l (-1) f s else 0) (fun s _ _ => by
      by_cases e2 : s = at_
      · rw [if_pos e2, if_neg (by omega)]
      · rw [if_neg e2])]
theorem gaCounts_l0 (hbd : bOK sq fc ov l = true) : ∀ (n m : Nat), m + n ≤ 16 → Ev (fun k => spec_gaCounts.l0 k n (rowN sq (gN sq fc ov l (-1) m)) sq fc ov l) (rowN sq (gN sq fc ov l (-1) (m + n)))
  | 0, m, _ => Ev.step (f := fun _ => some (rowN sq (gN sq fc ov l (-1) m))) (fun k => by simp only [spec_gaCounts.l0]; rw [if_neg (by omega)]) (Ev.now _)
  | n + 1, m, h => by
    have hb := bOK_J hbd
    have ih := gaCounts_l0 hbd n (m + 1) (by omega)
    rw [show m + 1 + n = m + (n + 1) by omega] at ih
    refine Ev.step (f := fun k => spec_gaCounts.l1 k ((n + 1 : Nat) : Int) (rowN sq (gN sq fc ov l (-1) m)) (rowN sq (fun s => if s < 0 then nx sq fc ov l (-1) (gN sq fc ov l (-1) m) s else 0)) 0 sq fc ov l) (fun k => ?_)
      (gaCounts_l1 hbd (gN sq fc ov l (-1) m) (p8 (show m ≤ 16 by omega)) (Int.le_of_lt (Int.pow_pos (by omega))) (gN_bd hbd (-1) m) (T := ((n + 1 : Nat) : Int)) (by omega) (by omega) (by
        rw [show ((n + 1 : Nat) : Int) - 1 = (n : Int) by omega]
        exact ih) sq.toNat 0 (by omega) (by omega))
    simp only [spec_gaCounts.l0]
    rw [if_pos (by omega), w64 (x := sq + 1) (by omega) (by omega), if_pos (by omega), if_pos (by omega), rowN_zero]
    rw [rowN_congr (F := fun _ => 0) (G := fun s => if s < 0 then nx sq fc ov l (-1) (gN sq fc ov l (-1) m) s else 0) (fun s h0 _ => by rw [if_neg (by omega)])]
theorem gaCounts_ev (hbd : bOK sq fc ov l = true) {t : Int} (ht : 0 ≤ t) (ht2 : t ≤ 16) : Ev (fun k => spec_gaCounts.f k sq fc ov l t) (rowN sq (gN sq fc ov l (-1) t.toNat)) := by
  have hb := bOK_J hbd
  have h := gaCounts_l0 hbd t.toNat 0 (by omega)
  rw [show ((t.toNat : Nat) : Int) = t by omega, Nat.zero_add] at h
  refine Ev.congr (fun k => ?_) h
  unfold spec_gaCounts.f
  rw [w64 (x := sq + 1) (by omega) (by omega), if_pos (by omega), if_pos (by omega)]
  simp only [Option.bind_some]
  rw [if_pos (by omega), if_pos (by simp; omega), rowN_zero, rowN_set _ (by omega)]
  rw [rowN_congr (F := fun s => if s = sq then 1 else 0) (G := gN sq fc ov l (-1) 0) (fun s _ _ => rfl)]
end
end Go.Proofs.Ytgahigmpcgfbeaa.P
end

section
namespace Go.Proofs.Ytgahigmpcgfbeaa.P
set_option linter.unusedVariables false
set_option linter.unusedSimpArgs false
open Go.RowKit Go.Proofs.YtgahigmpcgfbeaaW.PrintWords Go.Proofs.YtgahigmpcgfbeaaW.PrintLast
section
variable {sq fc ov : Int} {l : List S126}
theorem gaOver_l2 (hbd : bOK sq fc ov l = true) (z a7 : Int) (f h : Int → Int) {B : Int} (hB : B ≤ 281474976710656) (hB0 : 0 ≤ B) (hf : ∀ s, 0 ≤ s → s ≤ sq → 0 ≤ f s ∧ f s ≤ B) {T at_ : Int} (h0 : 0 ≤ at_) (h1 : at_ < sq) (hz : at_ ≠ z) {r : Int} :
    ∀ (n : Nat) (x v : Int), x + n = fc + 1 → 1 ≤ x → 0 ≤ v → v + n * B ≤ 4503599627370496 → Ev (fun k => spec_gaOver.l1 k T z a7 (rowN sq f) (rowN sq (fun s => if s = at_ then v + tS sq ov l f at_ n x else h s)) (at_ + 1) sq fc ov l) r →
      Ev (fun k => spec_gaOver.l2 k T z a7 (rowN sq f) (rowN sq (fun s => if s = at_ then v else h s)) at_ x sq fc ov l) r
  | 0, x, v, hx, _, hv, _, he => by
    have hb := bOK_J hbd
    refine Ev.step (f := fun k => spec_gaOver.l1 k T z a7 (rowN sq f) (rowN sq (fun s => if s = at_ then v + tS sq ov l f at_ 0 x else h s)) (at_ + 1) sq fc ov l) (fun k => ?_) he
    simp only [spec_gaOver.l2, tS, Int.add_zero]
    rw [if_neg (by omega), w64 (by omega) (by omega)]
  | n + 1, x, v, hx, hx1, hv, hvb, he => by
    have hb := bOK_J hbd
    have h2 := thr_in hbd h0 (Int.le_of_lt h1) hx1
    have h3 := hf _ h2.1 h2.2
    have hl := rowN_len sq f
    have hl2 := rowN_len sq (fun s => if s = at_ then v else h s)
    rw [Int.natCast_add, Int.add_mul] at hvb
    have hnB : 0 ≤ (n : Int) * B := Int.mul_nonneg (by omega) (by omega)
    have hvb : v + ((n : Int) * B + B) ≤ 4503599627370496 := by simpa using hvb
    refine Ev.step (f := fun k => spec_gaOver.l2 k T z a7 (rowN sq f) (rowN sq (fun s => if s = at_ then v + f (thr sq ov l at_ x) else h s)) at_ (x + 1) sq fc ov l) (fun k => ?_)
      (gaOver_l2 hbd z a7 f h hB hB0 hf h0 h1 hz n (x + 1) (v + f (thr sq ov l at_ x)) (by omega) (by omega) (by omega) (by omega) (Ev.congr (fun k => by
        rw [tS, show v + f (thr sq ov l at_ x) + tS sq ov l f at_ n (x + 1) = v + (f (thr sq ov l at_ x) + tS sq ov l f at_ n (x + 1)) by omega]) he))
    simp only [spec_gaOver.l2]
    rw [if_pos (by omega), if_neg hz, if_pos h0, if_pos (by omega), spec_thr hbd h0 (Int.le_of_lt h1) hx1 (by omega)]
    simp only [Option.bind_some]
    rw [if_pos h2.1, if_pos (by omega), rowN_rd _ h2.1 h2.2, rowN_rd _ h0 (Int.le_of_lt h1), rowN_set _ h0, if_pos rfl, w64 (x := v + f (thr sq ov l at_ x)) (by omega) (by omega), w64 (x := x + 1) (by omega) (by omega)]
    rw [rowN_congr (F := fun s => if s = at_ then v + f (thr sq ov l at_ x) else if s = at_ then v else h s) (G := fun s => if s = at_ then v + f (thr sq ov l at_ x) else h s) (fun s _ _ => by
      by_cases e : s = at_
      · simp [e]
      · simp [e])]
theorem gaOver_l1 (hbd : bOK sq fc ov l = true) (z a7 : Int) (f : Int → Int) {B : Int} (hB : B ≤ 281474976710656) (hB0 : 0 ≤ B) (hf : ∀ s, 0 ≤ s → s ≤ sq → 0 ≤ f s ∧ f s ≤ B) {T : Int} (hT : 1 ≤ T) (hT2 : T ≤ 16) {r : Int}
    (he : Ev (fun k => spec_gaOver.l0 k (T - 1) z a7 (rowN sq (nx sq fc ov l z f)) sq fc ov l) r) :
    ∀ (n : Nat) (at_ : Int), at_ + n = sq → 0 ≤ at_ → Ev (fun k => spec_gaOver.l1 k T z a7 (rowN sq f) (rowN sq (fun s => if s < at_ then nx sq fc ov l z f s else 0)) at_ sq fc ov l) r
  | 0, at_, hn, h0 => by
    have hb := bOK_J hbd
    refine Ev.step (f := fun k => spec_gaOver.l0 k (T - 1) z a7 (rowN sq (nx sq fc ov l z f)) sq fc ov l) (fun k => ?_) he
    simp only [spec_gaOver.l1]
    rw [if_neg (by omega), w64 (by omega) (by omega)]
    rw [rowN_congr (F := fun s => if s < at_ then nx sq fc ov l z f s else 0) (G := nx sq fc ov l z f) (fun s _ hs => by
      by_cases e : s < at_
      · simp [e]
      · rw [if_neg e, nx, if_pos (Or.inl (by omega))])]
  | n + 1, at_, hn, h0 => by
    have hb := bOK_J hbd
    have ih := gaOver_l1 hbd z a7 f hB hB0 hf hT hT2 he n (at_ + 1) (by omega) (by omega)
    refine Ev.step (f := fun k => spec_gaOver.l2 k T z a7 (rowN sq f) (rowN sq (fun s => if s < at_ then nx sq fc ov l z f s else 0)) at_ 1 sq fc ov l) (fun k => by
      simp only [spec_gaOver.l1]
      rw [if_pos (by omega)]) ?_
    by_cases hz : at_ = z
    · refine Ev.step (f := fun k => spec_gaOver.l1 k T z a7 (rowN sq f) (rowN sq (fun s => if s < at_ + 1 then nx sq fc ov l z f s else 0)) (at_ + 1) sq fc ov l) (fun k => ?_) ih
      simp only [spec_gaOver.l2]
      rw [if_pos (by omega), if_pos hz, w64 (by omega) (by omega)]
      rw [rowN_congr (F := fun s => if s < at_ then nx sq fc ov l z f s else 0) (G := fun s => if s < at_ + 1 then nx sq fc ov l z f s else 0) (fun s _ _ => by
        by_cases e : s < at_
        · rw [if_pos e, if_pos (by omega)]
        · rw [if_neg e]
          by_cases e2 : s = at_
          · rw [if_pos (by omega), nx, if_pos (Or.inr (by omega))]
          · rw [if_neg (by omega)])]
    have h9 := gaOver_l2 hbd z a7 f (fun s => if s < at_ then nx sq fc ov l z f s else 0) hB hB0 hf (T := T) h0 (by omega) hz (r := r) fc.toNat 1 0 (by omega) (by omega) (by omega) (by
      have : (fc.toNat : Int) * B ≤ 8 * B := Int.mul_le_mul_of_nonneg_right (by omega) hB0
      omega) (Ev.congr (fun k => by
        rw [rowN_congr (F := fun s => if s = at_ then 0 + tS sq ov l f at_ fc.toNat 1 else if s < at_ then nx sq fc ov l z f s else 0) (G := fun s => if s < at_ + 1 then nx sq fc ov l z f s else 0) (fun s _ _ => by
          by_cases e2 : s = at_
          · rw [if_pos e2, if_pos (by omega), nx, if_neg (by omega), e2]; omega
          · rw [if_neg e2]
            by_cases e : s < at_
            · rw [if_pos e, if_pos (by omega)]
            · rw [if_neg e, if_neg (by omega)])]) ih)
    refine Ev.congr (fun k => ?_) h9
    rw [rowN_congr (F := fun s => if s < at_ then nx sq fc ov l z f s else 0) (G := fun s => if s = at_ then 0 else if s < at_ then nx sq fc ov l z f s else 0) (fun s _ _ => by
      by_cases e2 : s = at_
      · rw [if_pos e2, if_neg (by omega)]
      · rw [if_neg e2])]
theorem gaOver_l0 (hbd : bOK sq fc ov l = true) (z a7 : Int) (ha : 0 ≤ a7) (ha2 : a7 ≤ 281474976710656) : ∀ (n m : Nat), m + n ≤ 16 → Ev (fun k => spec_gaOver.l0 k n z a7 (rowN sq (gN sq fc ov l z m)) sq fc ov l) (a7 - gN sq fc ov l z (m + n) 0)
  | 0, m, h => by
    have hb := bOK_J hbd
    have h2 := gN_bd hbd z m 0 (by omega) (by omega)
    have h3 := p8 (show m ≤ 16 by omega)
    have hl := rowN_len sq (gN sq fc ov l z m)
    refine Ev.step (f := fun _ => some (a7 - gN sq fc ov l z m 0)) (fun k => ?_) (Ev.now _)
    simp only [spec_gaOver.l0]
    rw [if_neg (by omega), if_pos (by omega), rowN_rd _ (by omega) (by omega), w64 (by omega) (by omega)]
  | n + 1, m, h => by
    have hb := bOK_J hbd
    have ih := gaOver_l0 hbd z a7 ha ha2 n (m + 1) (by omega)
    rw [show m + 1 + n = m + (n + 1) by omega] at ih
    refine Ev.step (f := fun k => spec_gaOver.l1 k ((n + 1 : Nat) : Int) z a7 (rowN sq (gN sq fc ov l z m)) (rowN sq (fun s => if s < 0 then nx sq fc ov l z (gN sq fc ov l z m) s else 0)) 0 sq fc ov l) (fun k => ?_)
      (gaOver_l1 hbd z a7 (gN sq fc ov l z m) (p8 (show m ≤ 16 by omega)) (Int.le_of_lt (Int.pow_pos (by omega))) (gN_bd hbd z m) (T := ((n + 1 : Nat) : Int)) (by omega) (by omega) (by
        rw [show ((n + 1 : Nat) : Int) - 1 = (n : Int) by omega]
        exact ih) sq.toNat 0 (by omega) (by omega))
    simp only [spec_gaOver.l0]
    rw [if_pos (by omega), w64 (x := sq + 1) (by omega) (by omega), if_pos (by omega), if_pos (by omega), rowN_zero]
    rw [rowN_congr (F := fun _ => 0) (G := fun s => if s < 0 then nx sq fc ov l z (gN sq fc ov l z m) s else 0) (fun s h0 _ => by rw [if_neg (by omega)])]
def gO (sq fc ov : Int) (l : List S126) (t z : Int) : Int := if z = 0 ∨ z = sq then gN sq fc ov l (-1) t.toNat 0 else gN sq fc ov l (-1) t.toNat 0 - gN sq fc ov l z t.toNat 0
theorem gaOver_ev (hbd : bOK sq fc ov l = true) {t : Int} (ht : 0 ≤ t) (ht2 : t ≤ 16) (z : Int) : Ev (fun k => spec_gaOver.f k sq fc ov l t z) (gO sq fc ov l t z) := by
  have hb := bOK_J hbd
  have hl := rowN_len sq (gN sq fc ov l (-1) t.toNat)
  have h2 := gN_bd hbd (-1) t.toNat 0 (by omega) (by omega)
  have h3 := p8 (show t.toNat ≤ 16 by omega)
  unfold spec_gaOver.f
  refine Ev.bind (gaCounts_ev hbd ht ht2) ?_
  refine Ev.congr (f := fun k => spec_gaOver.j0 k t z (gN sq fc ov l (-1) t.toNat 0) (decide (z = 0 ∨ z = sq)) sq fc ov l) (fun k => ?_) ?_
  · rw [if_pos (by omega), rowN_rd _ (by omega) (by omega)]
    by_cases e : z = 0
    · rw [if_pos e]; simp [e]
    · rw [if_neg e]
      rw [show (z == sq) = decide (z = 0 ∨ z = sq) by rw [Bool.eq_iff_iff]; simp [e]]
  · unfold gO
    by_cases e : z = 0 ∨ z = sq
    · rw [if_pos e]
      exact Ev.step (f := fun _ => some (gN sq fc ov l (-1) t.toNat 0)) (fun k => by simp only [spec_gaOver.j0]; rw [if_pos (by simp [e])]) (Ev.now _)
    · rw [if_neg e]
      have h := gaOver_l0 hbd z (gN sq fc ov l (-1) t.toNat 0) h2.1 (by omega) t.toNat 0 (by omega)
      rw [show ((t.toNat : Nat) : Int) = t by omega, Nat.zero_add] at h
      refine Ev.step (fun k => ?_) h
      simp only [spec_gaOver.j0]
      rw [if_neg (by simp [e]), w64 (x := sq + 1) (by omega) (by omega), if_pos (by omega), if_pos (by omega)]
      simp only [Option.bind_some]
      rw [if_pos (by omega), if_pos (by simp; omega), rowN_zero, rowN_set _ (by omega)]
      rw [rowN_congr (F := fun s => if s = sq then 1 else 0) (G := gN sq fc ov l z 0) (fun s _ _ => rfl)]
end
end Go.Proofs.Ytgahigmpcgfbeaa.P
end

section
namespace Go.Proofs.Ytgahigmpcgfbeaa.P
set_option linter.unusedVariables false
set_option linter.unusedSimpArgs false
open Go.RowKit Go.Proofs.YtgahigmpcgfbeaaW.PrintWords Go.Proofs.YtgahigmpcgfbeaaW.PrintLast
section
variable {sq fc ov : Int} {l : List S126}
theorem over_1 (hbd : bOK sq fc ov l = true) (z : Int) : ∀ (n : Nat) (s : Int), 0 ≤ s → s ≤ sq → opI sq fc ov l (mkO sq ov l z) n (fun u => if u.1 = sq ∧ u.2 = 1 then 1 else 0) (s, 1) = gN sq fc ov l (-1) n s
  | 0, s, _, _ => by simp [opI, gN]
  | n + 1, s, h0, h1 => by
    rw [opI_succ, gN, nx, opB]
    by_cases e : s = sq
    · rw [if_pos e, if_pos (Or.inl e)]
    · rw [if_neg e, if_neg (by omega)]
      refine sumF_tS hbd (u := (s, 1)) h0 h1 (fun x hx => ?_) fc.toNat 1 (by omega)
      have h2 := thr_in hbd h0 h1 hx
      have h3 := over_1 hbd z n (thr sq ov l s x) h2.1 h2.2
      rw [show mkO sq ov l z (s, 1) x = 1 by unfold mkO; split <;> rfl]
      exact h3
theorem over_0 (hbd : bOK sq fc ov l = true) {z : Int} (hz : z ≠ sq) : ∀ (n : Nat) (s : Int), 0 ≤ s → s ≤ sq → s ≠ z → opI sq fc ov l (mkO sq ov l z) n (fun u => if u.1 = sq ∧ u.2 = 1 then 1 else 0) (s, 0) = gN sq fc ov l (-1) n s - gN sq fc ov l z n s
  | 0, s, _, _, _ => by simp [opI, gN]
  | n + 1, s, h0, h1, hs => by
    rw [opI_succ, gN, gN, nx, nx, opB]
    by_cases e : s = sq
    · rw [if_pos e, if_pos (Or.inl e), if_pos (Or.inl e)]; omega
    · rw [if_neg e, if_neg (by omega), if_neg (by omega)]
      rw [← tS_sub hbd (f := fun v => gN sq fc ov l (-1) n v - gN sq fc ov l z n v) (fun _ _ _ => rfl) h0 h1 fc.toNat 1 (by omega)]
      refine sumF_tS hbd (u := (s, 0)) h0 h1 (fun x hx => ?_) fc.toNat 1 (by omega)
      have h2 := thr_in hbd h0 h1 hx
      show opI sq fc ov l (mkO sq ov l z) n _ (thr sq ov l s x, mkO sq ov l z (s, 0) x) = _
      unfold mkO
      by_cases e2 : thr sq ov l s x = z
      · rw [if_pos e2]
        have h3 := over_1 hbd z n (thr sq ov l s x) h2.1 h2.2
        have h4 : gN sq fc ov l z n (thr sq ov l s x) = 0 := by
          rw [e2]
          cases n with
          | zero => simp [gN, hz]
          | succ n => simp [gN, nx]
        show _ = gN sq fc ov l (-1) n (thr sq ov l s x) - gN sq fc ov l z n (thr sq ov l s x)
        rw [h4, Int.sub_zero]
        exact h3
      · rw [if_neg e2]
        exact over_0 hbd hz n (thr sq ov l s x) h2.1 h2.2 e2
theorem over_e (hbd : bOK sq fc ov l = true) : ∀ (n : Nat) (s : Int), 0 ≤ s → s ≤ sq → s ≠ sq → opI sq fc ov l (mkO sq ov l sq) n (fun u => if u.1 = sq ∧ u.2 = 1 then 1 else 0) (s, 0) = gN sq fc ov l (-1) n s
  | 0, s, _, _, hs => by simp [opI, gN, hs]
  | n + 1, s, h0, h1, hs => by
    rw [opI_succ, gN, nx, opB]
    rw [if_neg hs, if_neg (by omega)]
    refine sumF_tS hbd (u := (s, 0)) h0 h1 (fun x hx => ?_) fc.toNat 1 (by omega)
    have h2 := thr_in hbd h0 h1 hx
    show opI sq fc ov l (mkO sq ov l sq) n _ (thr sq ov l s x, mkO sq ov l sq (s, 0) x) = _
    unfold mkO
    by_cases e2 : thr sq ov l s x = sq
    · rw [if_pos e2]
      exact over_1 hbd sq n (thr sq ov l s x) h2.1 h2.2
    · rw [if_neg e2]
      exact over_e hbd n (thr sq ov l s x) h2.1 h2.2 e2
theorem over_eq (hbd : bOK sq fc ov l = true) {t : Int} (ht : 0 ≤ t) (ht2 : t ≤ 16) (z : Int) : impl_Board_over.f sq fc ov l t z = some (gO sq fc ov l t z) := by
  have hb := bOK_J hbd
  unfold impl_Board_over.f gO
  rw [if_pos ⟨hbd, ht, ht2⟩]
  by_cases e : z = 0
  · rw [if_pos (Or.inl e), if_pos e, over_1 hbd z _ 0 (by omega) (by omega)]
  · rw [if_neg e]
    by_cases e2 : z = sq
    · rw [if_pos (Or.inr e2)]
      subst e2
      rw [over_e hbd _ 0 (by omega) (by omega) (by omega)]
    · rw [if_neg (by omega), over_0 hbd e2 _ 0 (by omega) (by omega) (by omega)]
theorem count_1 (hbd : bOK sq fc ov l = true) : ∀ (n : Nat) (s : Int), 0 ≤ s → s ≤ sq → opI sq fc ov l (fun _ _ => 0) n (fun u => if u.1 = sq ∧ u.2 = 0 then 1 else 0) (s, 0) = gN sq fc ov l (-1) n s
  | 0, s, _, _ => by simp [opI, gN]
  | n + 1, s, h0, h1 => by
    rw [opI_succ, gN, nx, opB]
    by_cases e : s = sq
    · rw [if_pos e, if_pos (Or.inl e)]
    · rw [if_neg e, if_neg (by omega)]
      refine sumF_tS hbd (u := (s, 0)) h0 h1 (fun x hx => ?_) fc.toNat 1 (by omega)
      have h2 := thr_in hbd h0 h1 hx
      exact count_1 hbd n (thr sq ov l s x) h2.1 h2.2
theorem count_eq (hbd : bOK sq fc ov l = true) {s t : Int} (ht : 0 ≤ t) (ht2 : t ≤ 16) (h0 : 0 ≤ s) (h1 : s ≤ sq) : impl_Board_countGames.f sq fc ov l s t = some (gN sq fc ov l (-1) t.toNat s) := by
  unfold impl_Board_countGames.f
  rw [if_pos ⟨hbd, ht, ht2, h0, h1⟩, count_1 hbd _ s h0 h1]
end
end Go.Proofs.Ytgahigmpcgfbeaa.P
end

section
namespace Go.Proofs.Ytgahigmpcgfbeaa.P
set_option linter.unusedVariables false
set_option linter.unusedSimpArgs false
open Go.RowKit Go.Proofs.YtgahigmpcgfbeaaW.PrintWords Go.Proofs.YtgahigmpcgfbeaaW.PrintLast
section
variable {sq fc ov : Int} {l : List S126}
def sureN (sq fc ov : Int) (l : List S126) (t all : Int) : Nat → Int → List Int
  | 0, _ => []
  | n + 1, s => if sqr sq l s = true ∧ gO sq fc ov l t s = all then s :: sureN sq fc ov l t all n (s + 1) else sureN sq fc ov l t all n (s + 1)
theorem sureN_len (t all : Int) : ∀ (n : Nat) (s : Int), (sureN sq fc ov l t all n s).length ≤ n
  | 0, _ => Nat.le_refl _
  | n + 1, s => by have := sureN_len t all n (s + 1); rw [sureN]; split <;> simp <;> omega
theorem sureI_l (hbd : bOK sq fc ov l = true) {t all : Int} (ht : 0 ≤ t) (ht2 : t ≤ 16) : ∀ (n : Nat) (s : Int) (acc : List Int), s + n = sq + 1 → 0 ≤ s → (acc.length : Int) ≤ s →
    Ev (fun k => impl_SureSquares.l0 k t all acc (sq + 1) s sq fc ov l) (acc ++ sureN sq fc ov l t all n s, true)
  | 0, s, acc, hn, h0, ha => Ev.step (f := fun _ => some (acc ++ sureN sq fc ov l t all 0 s, true)) (fun k => by simp only [impl_SureSquares.l0]; rw [if_neg (by omega)]; simp [sureN]) (Ev.now _)
  | n + 1, s, acc, hn, h0, ha => by
    have hb := bOK_J hbd
    by_cases e1 : sqr sq l s = true
    · by_cases e2 : gO sq fc ov l t s = all
      · have ih := sureI_l hbd (all := all) ht ht2 n (s + 1) (acc ++ [s]) (by omega) (by omega) (by simp; omega)
        rw [List.append_assoc, List.singleton_append] at ih
        rw [sureN, if_pos ⟨e1, e2⟩]
        refine Ev.step (f := fun k => impl_SureSquares.l0 k t all (acc ++ [s]) (sq + 1) (s + 1) sq fc ov l) (fun k => ?_) ih
        simp only [impl_SureSquares.l0, impl_Board_isSquare.f]
        rw [if_pos (by omega), e1, over_eq hbd ht ht2 s]
        simp only [Option.bind_some, if_true]
        rw [if_pos e2, if_pos (by omega), w64 (by omega) (by omega)]
      · have ih := sureI_l hbd (all := all) ht ht2 n (s + 1) acc (by omega) (by omega) (by omega)
        rw [sureN, if_neg (fun h => e2 h.2)]
        refine Ev.step (f := fun k => impl_SureSquares.l0 k t all acc (sq + 1) (s + 1) sq fc ov l) (fun k => ?_) ih
        simp only [impl_SureSquares.l0, impl_Board_isSquare.f]
        rw [if_pos (by omega), e1, over_eq hbd ht ht2 s]
        simp only [Option.bind_some, if_true]
        rw [if_neg e2, w64 (by omega) (by omega)]
    · have ih := sureI_l hbd (all := all) ht ht2 n (s + 1) acc (by omega) (by omega) (by omega)
      rw [sureN, if_neg (fun h => e1 h.1)]
      refine Ev.step (f := fun k => impl_SureSquares.l0 k t all acc (sq + 1) (s + 1) sq fc ov l) (fun k => ?_) ih
      simp only [impl_SureSquares.l0, impl_Board_isSquare.f]
      rw [if_pos (by omega)]
      simp only [Option.bind_some]
      rw [if_neg e1, w64 (by omega) (by omega)]
theorem sureS_l (hbd : bOK sq fc ov l = true) {t all : Int} (ht : 0 ≤ t) (ht2 : t ≤ 16) (hall : all = gN sq fc ov l (-1) t.toNat 0) : ∀ (n : Nat) (s : Int) (acc : List Int), s + n = sq + 1 → 0 ≤ s → (acc.length : Int) ≤ s →
    Ev (fun k => spec_SureSquares.l0 k t acc s sq fc ov l) (acc ++ sureN sq fc ov l t all n s, true)
  | 0, s, acc, hn, h0, ha => Ev.step (f := fun _ => some (acc ++ sureN sq fc ov l t all 0 s, true)) (fun k => by simp only [spec_SureSquares.l0]; rw [if_neg (by omega)]; simp [sureN]) (Ev.now _)
  | n + 1, s, acc, hn, h0, ha => by
    have hb := bOK_J hbd
    have hq : sqs sq l s = sqr sq l s := by have := asked_eq sq fc ov l s; rw [hbd] at this; simpa using this
    have hl := rowN_len sq (gN sq fc ov l (-1) t.toNat)
    by_cases e1 : sqr sq l s = true
    · refine Ev.step (f := fun k => (spec_gaOver.f k sq fc ov l t s).bind fun a => (spec_gaCounts.f k sq fc ov l t).bind fun b => (if 0 < (b.length : Int) then (if a = rd b 0 then (if acc.length < 17592186044416 then spec_SureSquares.l0 k t (acc ++ [s]) (wrap64 (s + 1)) sq fc ov l else none) else spec_SureSquares.l0 k t acc (wrap64 (s + 1)) sq fc ov l) else none)) (fun k => by
        simp only [spec_SureSquares.l0, spec_sqSquare.f]
        rw [if_pos (by omega), hq, e1]
        rfl) ?_
      refine Ev.bind (gaOver_ev hbd ht ht2 s) ?_
      refine Ev.bind (gaCounts_ev hbd ht ht2) ?_
      by_cases e2 : gO sq fc ov l t s = all
      · have ih := sureS_l hbd (all := all) ht ht2 hall n (s + 1) (acc ++ [s]) (by omega) (by omega) (by simp; omega)
        rw [List.append_assoc, List.singleton_append] at ih
        rw [sureN, if_pos ⟨e1, e2⟩]
        refine Ev.congr (fun k => ?_) ih
        rw [if_pos (by omega), rowN_rd _ (by omega) (by omega), if_pos (by rw [e2, hall]), if_pos (by omega), w64 (by omega) (by omega)]
      · have ih := sureS_l hbd (all := all) ht ht2 hall n (s + 1) acc (by omega) (by omega) (by omega)
        rw [sureN, if_neg (fun h => e2 h.2)]
        refine Ev.congr (fun k => ?_) ih
        rw [if_pos (by omega), rowN_rd _ (by omega) (by omega), if_neg (fun h => e2 (by rw [h, hall])), w64 (by omega) (by omega)]
    · have ih := sureS_l hbd (all := all) ht ht2 hall n (s + 1) acc (by omega) (by omega) (by omega)
      rw [sureN, if_neg (fun h => e1 h.1)]
      refine Ev.step (f := fun k => spec_SureSquares.l0 k t acc (s + 1) sq fc ov l) (fun k => ?_) ih
      simp only [spec_SureSquares.l0, spec_sqSquare.f]
      rw [if_pos (by omega), hq]
      simp only [Option.bind_some]
      rw [if_neg e1, w64 (by omega) (by omega)]
theorem SureSquares_ev (t : Int) : ∃ r : List Int × Bool, r.1.length ≤ 101 ∧ Ev (fun k => spec_SureSquares.f k sq fc ov l t) r ∧ Ev (fun k => impl_SureSquares.f k sq fc ov l t) r := by
  cases hbd : bOK sq fc ov l with
  | false => exact ⟨([], false), by simp, Ev.congr (f := fun k => spec_SureSquares.j0 k t true sq fc ov l) (fun k => by simp [spec_SureSquares.f, spec_gaAsked.f, spec_sqGood.f, hbd]) (Ev.step (f := fun _ => some ([], false)) (fun k => by simp [spec_SureSquares.j0]) (Ev.now _)), Ev.congr (f := fun _ => some ([], false)) (fun k => by simp [impl_SureSquares.f, impl_isGamed.f, impl_IsBoard.f, hbd]) (Ev.now _)⟩
  | true =>
    have hb := bOK_J hbd
    cases hin : inn t 0 16 with
    | false => exact ⟨([], false), by simp, Ev.congr (f := fun k => spec_SureSquares.j0 k t true sq fc ov l) (fun k => by simp [spec_SureSquares.f, spec_gaAsked.f, spec_sqGood.f, spec_l1In.f, hbd, hin]) (Ev.step (f := fun _ => some ([], false)) (fun k => by simp [spec_SureSquares.j0]) (Ev.now _)), Ev.congr (f := fun _ => some ([], false)) (fun k => by simp [impl_SureSquares.f, impl_isGamed.f, impl_IsBoard.f, impl_within.f, hbd, hin]) (Ev.now _)⟩
    | true =>
      have ht := inn_iff.1 hin
      have hl := rowN_len sq (gN sq fc ov l (-1) t.toNat)
      obtain ⟨all, hall⟩ : ∃ all, all = gN sq fc ov l (-1) t.toNat 0 := ⟨_, rfl⟩
      have hS : ∀ r, Ev (fun k => spec_SureSquares.j0 k t (all == 0) sq fc ov l) r → Ev (fun k => spec_SureSquares.f k sq fc ov l t) r := fun r he => by
        refine Ev.congr (f := fun k => (spec_gaCounts.f k sq fc ov l t).bind fun b => (if 0 < (b.length : Int) then spec_SureSquares.j0 k t ((rd b 0) == 0) sq fc ov l else none)) (fun k => by
          simp [spec_SureSquares.f, spec_gaAsked.f, spec_sqGood.f, spec_l1In.f, hbd, hin]) ?_
        refine Ev.bind (gaCounts_ev hbd ht.1 ht.2) (Ev.congr (fun k => ?_) he)
        rw [if_pos (by omega), rowN_rd _ (by omega) (by omega), hall]
      have hI : ∀ k, impl_SureSquares.f k sq fc ov l t = if all = 0 then some ([], false) else impl_SureSquares.l0 k t all [] (sq + 1) 0 sq fc ov l := fun k => by
        unfold impl_SureSquares.f impl_isGamed.f impl_IsBoard.f impl_within.f
        rw [hbd, hin, count_eq hbd ht.1 ht.2 (by omega) (by omega), ← hall, w64 (by omega) (by omega)]
        simp
      by_cases e : all = 0
      · exact ⟨([], false), by simp, hS _ (Ev.step (f := fun _ => some ([], false)) (fun k => by simp [spec_SureSquares.j0, e]) (Ev.now _)), Ev.congr (f := fun _ => some ([], false)) (fun k => by rw [hI, if_pos e]) (Ev.now _)⟩
      · refine ⟨(sureN sq fc ov l t all (sq + 1).toNat 0, true), ?_, ?_, ?_⟩
        · have := sureN_len (sq := sq) (fc := fc) (ov := ov) (l := l) t all (sq + 1).toNat 0
          show (sureN sq fc ov l t all (sq + 1).toNat 0).length ≤ 101
          omega
        · refine hS _ (Ev.step (f := fun k => spec_SureSquares.l0 k t [] 0 sq fc ov l) (fun k => by simp [spec_SureSquares.j0, e]) ?_)
          have := sureS_l hbd (all := all) ht.1 ht.2 hall (sq + 1).toNat 0 [] (by omega) (by omega) (by simp)
          simpa using this
        · refine Ev.congr (f := fun k => impl_SureSquares.l0 k t all [] (sq + 1) 0 sq fc ov l) (fun k => by rw [hI, if_neg e]) ?_
          have := sureI_l hbd (all := all) ht.1 ht.2 (sq + 1).toNat 0 [] (by omega) (by omega) (by simp)
          simpa using this
end
end Go.Proofs.Ytgahigmpcgfbeaa.P
end

section
namespace Go.Proofs.Ytgahigmpcgfbeaa.P
set_option linter.unusedVariables false
set_option linter.unusedSimpArgs false
open Go.RowKit Go.Proofs.YtgahigmpcgfbeaaW.PrintWords Go.Proofs.YtgahigmpcgfbeaaW.PrintLast
theorem wI {x : Int} (h : -9223372036854775808 ≤ x) (h2 : x ≤ 9223372036854775807) : wrap64 x = x := by unfold wrap64; omega
theorem eqIntS_l (l : List Int) (hl : l.length ≤ 4611686018427387904) (d : Nat) : ∀ (k i : Nat), i + d = l.length → d < k → laws_eqIntS.l0 k l l i = some true := by
  induction d with
  | zero =>
    intro k i hi hk
    obtain ⟨k, rfl⟩ : ∃ m, k = m + 1 := ⟨k - 1, by omega⟩
    simp only [laws_eqIntS.l0]
    rw [if_neg (by omega)]
  | succ d ih =>
    intro k i hi hk
    obtain ⟨k, rfl⟩ : ∃ m, k = m + 1 := ⟨k - 1, by omega⟩
    simp only [laws_eqIntS.l0]
    rw [if_pos (by omega), if_pos (by omega), if_pos (by omega)]
    simp only [if_true]
    rw [wI (by omega) (by omega), show ((i : Int) + 1) = ((i + 1 : Nat) : Int) by omega]
    exact ih k (i + 1) (by omega) (by omega)
theorem eqIntS_refl {l : List Int} (hl : l.length ≤ 4611686018427387904) {k : Nat} (hk : l.length < k) : laws_eqIntS.f k l l = some true := by
  unfold laws_eqIntS.f
  rw [if_pos rfl]
  exact eqIntS_l l hl l.length k 0 (by omega) hk
def upFrom : Nat → Int → List Int
  | 0, _ => []
  | n + 1, a => a :: upFrom n (a + 1)
theorem upFrom_len : ∀ (n : Nat) (a : Int), (upFrom n a).length = n
  | 0, _ => rfl
  | n + 1, a => by rw [upFrom, List.length_cons, upFrom_len n]
theorem rd_mid (pre : List Int) (y : Int) (r : List Int) : rd (pre ++ y :: r) (pre.length : Int) = y := by
  unfold rd
  rw [Int.toNat_natCast, List.getD_eq_getElem?_getD, List.getElem?_append_right (Nat.le_refl _)]
  simp
theorem mark_l : ∀ (suf pre : List Int) (k : Nat) (x : Int), suf.length < k → -4611686018427387904 ≤ x → x + suf.length ≤ 4611686018427387904 → pre.length + suf.length ≤ 4611686018427387904 →
    laws_markIntS.l0 k (pre ++ suf) x pre.length = some (x + suf.length, pre ++ upFrom suf.length x)
  | [], pre, k, x, hk, h1, h2, h3 => by
    obtain ⟨k, rfl⟩ : ∃ m, k = m + 1 := ⟨k - 1, by omega⟩
    simp [laws_markIntS.l0, upFrom]
  | y :: suf, pre, k, x, hk, h1, h2, h3 => by
    obtain ⟨k, rfl⟩ : ∃ m, k = m + 1 := ⟨k - 1, by omega⟩
    simp only [List.length_cons] at hk h2 h3
    simp only [laws_markIntS.l0]
    rw [if_pos (by first | (simp; done) | (simp; omega)), if_pos (by omega), wI (by omega) (by omega), wI (by omega) (by omega), Int.toNat_natCast, List.set_append_right _ _ (Nat.le_refl _), Nat.sub_self, List.set_cons_zero]
    have := mark_l suf (pre ++ [x]) k (x + 1) (by omega) (by omega) (by omega) (by simp; omega)
    rw [List.append_assoc, List.singleton_append, show ((pre ++ [x]).length : Int) = (pre.length : Int) + 1 by simp] at this
    rw [this, List.length_cons, upFrom]
    simp
    omega
theorem mark_eq (l : List Int) {k : Nat} (hk : l.length < k) {x : Int} (h1 : -4611686018427387904 ≤ x) (h2 : x + l.length ≤ 4611686018427387904) (h3 : l.length ≤ 4611686018427387904) : laws_markIntS.f k l x = some (x + l.length, upFrom l.length x) := by
  have := mark_l l [] k x hk h1 h2 (by simpa using h3)
  exact this
theorem held_l : ∀ (d : Nat) (pre : List Int) (k : Nat) (x : Int), d < k → -4611686018427387904 ≤ x → x + d ≤ 4611686018427387904 → pre.length + d ≤ 4611686018427387904 →
    laws_heldIntS.l0 k (pre ++ upFrom d x) x pre.length = some (x + d)
  | 0, pre, k, x, hk, h1, h2, h3 => by
    obtain ⟨k, rfl⟩ : ∃ m, k = m + 1 := ⟨k - 1, by omega⟩
    simp [laws_heldIntS.l0, upFrom]
  | d + 1, pre, k, x, hk, h1, h2, h3 => by
    obtain ⟨k, rfl⟩ : ∃ m, k = m + 1 := ⟨k - 1, by omega⟩
    rw [upFrom]
    simp only [laws_heldIntS.l0]
    rw [if_pos (by first | (simp; done) | (simp; omega)), if_pos (by omega), rd_mid, if_pos rfl, wI (by omega) (by omega), wI (by omega) (by omega)]
    have := held_l d (pre ++ [x]) k (x + 1) (by omega) (by omega) (by omega) (by simp; omega)
    rw [List.append_assoc, List.singleton_append, show ((pre ++ [x]).length : Int) = (pre.length : Int) + 1 by simp] at this
    rw [this]
    simp
    omega
theorem held_eq (n : Nat) {k : Nat} (hk : n < k) {x : Int} (h1 : -4611686018427387904 ≤ x) (h2 : x + n ≤ 4611686018427387904) (h3 : n ≤ 4611686018427387904) : laws_heldIntS.f k (upFrom n x) x = some (x + n) :=
  held_l n [] k x hk h1 h2 (by simpa using h3)
end Go.Proofs.Ytgahigmpcgfbeaa.P
end

section
namespace Go.Proofs.Ytgahigmpcgfbeaa.P
set_option linter.unusedVariables false
set_option linter.unusedSimpArgs false
open Go.RowKit Go.Proofs.YtgahigmpcgfbeaaW.PrintWords Go.Proofs.YtgahigmpcgfbeaaW.PrintLast
theorem markJ_l (d : Nat) : ∀ (xs : List S126) (k i : Nat) (x : Int), i + d = xs.length → xs.length ≤ 4611686018427387904 → d < k → 0 ≤ x → x + 2 * d ≤ 9223372036854775806 → ∃ b, laws_markJumpS.l0 k xs x i = some b ∧ 0 ≤ b.1 := by
  induction d with
  | zero =>
    intro xs k i x hi hl hk hx hx2
    obtain ⟨k, rfl⟩ : ∃ m, k = m + 1 := ⟨k - 1, by omega⟩
    simp only [laws_markJumpS.l0]
    rw [if_neg (by omega)]
    exact ⟨_, rfl, hx⟩
  | succ d ih =>
    intro xs k i x hi hl hk hx hx2
    obtain ⟨k, rfl⟩ : ∃ m, k = m + 1 := ⟨k - 1, by omega⟩
    simp only [laws_markJumpS.l0]
    rw [if_pos (by omega), if_pos (by omega)]
    simp only [Option.bind_some]
    rw [w64 (x := x + 1) (by omega) (by omega), w64 (x := x + 1 + 1) (by omega) (by omega), w64 (x := (i : Int) + 1) (by omega) (by omega)]
    exact ih _ k (i + 1) (x + 1 + 1) (by simp; omega) (by simp; omega) (by omega) (by omega) (by omega)
theorem markB_ok {sq fc ov : Int} {l : List S126} (hl : l.length ≤ 17592186044416) {k : Nat} (hk : l.length < k) : ∃ b, laws_markBoard.f k sq fc ov l 1 = some b ∧ 0 ≤ b.1 := by
  obtain ⟨b, h1, h2⟩ := markJ_l l.length l k 0 1 (by omega) (by omega) hk (by omega) (by omega)
  refine ⟨(b.1, b.2), ?_, h2⟩
  unfold laws_markBoard.f laws_markJumpS.f
  rw [show (0 : Int) = ((0 : Nat) : Int) from rfl, h1]
  rfl
end Go.Proofs.Ytgahigmpcgfbeaa.P
namespace Go.Proofs.Ytgahigmpcgfbeaa.Pure
set_option linter.unusedSimpArgs false
set_option linter.unusedVariables false
open Go.RowKit Go.Proofs.Ytgahigmpcgfbeaa.P Go.Proofs.YtgahigmpcgfbeaaW.PrintWords Go.Proofs.YtgahigmpcgfbeaaW.PrintLast
theorem FnExactSureSquares (a0_0 : Int) (a0_1 : Int) (a0_2 : Int) (l0_3 : List (S177)) (a1 : Int) (_h0 : (Lit.int .i64 a0_0).wf = true) (_h1 : (Lit.int .i64 a0_1).wf = true) (_h2 : (Lit.int .i64 a0_2).wf = true) (h3 : l0_3.length ≤ maxLen) (_h4 : (∀ x ∈ l0_3, goodJ x)) (_h5 : (Lit.int .i64 a1).wf = true) : ∃ k, laws_FnExactSureSquares.f k a0_0 a0_1 a0_2 l0_3 a1 = some true := by
  rcases szBoard_eq a0_0 a0_1 a0_2 l0_3 h3 with h | ⟨hl, h⟩
  · exact ⟨0, by unfold laws_FnExactSureSquares.f; rw [h]; rfl⟩
  · obtain ⟨r, hr, ⟨K1, e1⟩, K2, e2⟩ := SureSquares_ev (sq := a0_0) (fc := a0_1) (ov := a0_2) (l := l0_3.map cvJ) a1
    obtain ⟨M, hM⟩ : ∃ M, M = max K1 K2 + l0_3.length + 200 := ⟨_, rfl⟩
    have e1 := fun k (hk : M ≤ k) => e1 k (by omega)
    have e2 := fun k (hk : M ≤ k) => e2 k (by omega)
    refine ⟨M + 3, ?_⟩
    have t1 : ∀ k, M ≤ k → laws_toBoard.f k a0_0 a0_1 a0_2 l0_3 = some (a0_0, a0_1, a0_2, l0_3.map cvJ) := fun k hk => toBoard_eq (by omega) (by omega) _ _ _
    have t2 : ∀ k, M ≤ k → laws_eqIntS.f k r.1 r.1 = some true := fun k hk => eqIntS_refl (by omega) (by omega)
    have t3 : ∀ k, M ≤ k → laws_eqBoard.f k a0_0 a0_1 a0_2 (l0_3.map cvJ) a0_0 a0_1 a0_2 (l0_3.map cvJ) = some true := fun k hk => eqBoard_refl (by simp; omega) (by simp; omega) _ _ _
    dsimp only at e1 e2
    unfold laws_FnExactSureSquares.f
    rw [h, t1 _ (by omega)]
    simp only [Option.bind_some]
    rw [if_neg (by omega), e1 _ (by omega)]
    simp only [Option.bind_some]
    rw [e2 _ (by omega)]
    simp only [Option.bind_some]
    rw [t2 _ (by omega)]
    simp only [Option.bind_some, if_true, bne_self_eq_false, laws_FnExactSureSquares.j0]
    rw [t1 _ (by omega)]
    simp only [Option.bind_some]
    rw [t3 _ (by omega)]
    obtain ⟨b, hb1, hb2⟩ := markB_ok (sq := a0_0) (fc := a0_1) (ov := a0_2) (l := l0_3.map cvJ) (by simp; omega) (k := M + 2) (by simp; omega)
    simp only [Option.bind_some, if_true, Bool.false_eq_true, if_false]
    rw [hb1]
    simp only [Option.bind_some]
    rw [if_neg (by omega), t2 _ (by omega)]
    simp only [Option.bind_some, if_true, bne_self_eq_false, laws_FnExactSureSquares.j1, Bool.false_eq_true, if_false]
    rw [mark_eq r.1 (by omega) (by omega) (by omega) (by omega)]
    simp only [Option.bind_some]
    rw [held_eq r.1.length (by omega) (by omega) (by omega) (by omega)]
    simp only [Option.bind_some]
    rw [if_neg (by omega)]
    first | rw [if_pos rfl] | rw [if_pos trivial]
    rw [t1 _ (by omega)]
    simp only [Option.bind_some]
    rw [e2 _ (by omega)]
    simp only [Option.bind_some]
    rw [t2 _ (by omega)]
    simp only [Option.bind_some, if_true, bne_self_eq_false, laws_FnExactSureSquares.j2, Bool.false_eq_true, if_false]
    rw [held_eq r.1.length (by omega) (by omega) (by omega) (by omega)]
    simp only [Option.bind_some]
    rw [if_neg (by omega)]
    first | rw [if_pos rfl] | rw [if_pos trivial]
end Go.Proofs.Ytgahigmpcgfbeaa.Pure
end
