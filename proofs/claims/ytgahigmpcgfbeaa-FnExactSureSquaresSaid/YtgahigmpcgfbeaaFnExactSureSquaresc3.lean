/- The program's SureSquares returns what the reference's SureSquares returns, for every board and a number of throws, and leaves the board as it was; the list it returns is its own. -/
import Derived.Test.YtgahigmpcgfbeaaFnExactSureSquaresc2
section
namespace Go.Proofs.Ytgahigmpcgfbeaa.P
set_option linter.unusedVariables false
set_option linter.unusedSimpArgs false
open Go.RowKit Go.Proofs.YtgahigmpcgfbeaaW.PrintWords Go.Proofs.YtgahigmpcgfbeaaW.PrintLast
def thr (sq ov : Int) (l : List S126) (s f : Int) : Int :=
  if s = sq then s else if s + f ≤ sq then (jmp l (s + f)).1 else if ov = 1 then sq else if ov = 2 then (if 0 ≤ 2 * sq - (s + f) then (jmp l (2 * sq - (s + f))).1 else s) else s
theorem okJ_mem {sq : Int} {all : List S126} : ∀ {r : List S126} {p : Int}, okJ sq all p r = true → ∀ j ∈ r, (1 ≤ j.f0 ∧ j.f0 ≤ sq - 1) ∧ (0 ≤ j.f1 ∧ j.f1 ≤ sq)
  | j :: r, p, h, i, hi => by
    simp only [okJ, Bool.and_eq_true, inn_iff] at h
    rcases List.mem_cons.1 hi with rfl | hi
    · exact ⟨h.1.1.1.1, h.1.1.1.2⟩
    · exact okJ_mem h.2 i hi
theorem jmp_in {sq fc ov : Int} {l : List S126} (h : bOK sq fc ov l = true) {n : Int} (h0 : 0 ≤ n) (h1 : n ≤ sq) : 0 ≤ (jmp l n).1 ∧ (jmp l n).1 ≤ sq := by
  rcases Bool.eq_false_or_eq_true (jmp l n).2 with e | e
  · obtain ⟨j, hj, _, h3⟩ := jmp_mem e
    have := (okJ_mem (bOK_J h).1 j hj).2
    rw [← h3]; exact this
  · rw [jmp_no e]; exact ⟨h0, h1⟩
theorem jmp_end {sq fc ov : Int} {l : List S126} (h : bOK sq fc ov l = true) {n : Int} (h1 : sq ≤ n) : (jmp l n).1 = n := by
  rcases Bool.eq_false_or_eq_true (jmp l n).2 with e | e
  · obtain ⟨j, hj, h3, _⟩ := jmp_mem e
    have := (okJ_mem (bOK_J h).1 j hj).1
    omega
  · exact jmp_no e
theorem thr_in {sq fc ov : Int} {l : List S126} (h : bOK sq fc ov l = true) {s f : Int} (h0 : 0 ≤ s) (h1 : s ≤ sq) (hf : 1 ≤ f) : 0 ≤ thr sq ov l s f ∧ thr sq ov l s f ≤ sq := by
  have hb := bOK_J h
  unfold thr
  split
  · omega
  · split
    · exact jmp_in h (by omega) (by omega)
    · split
      · omega
      · split
        · split
          · exact jmp_in h (by omega) (by omega)
          · omega
        · omega
theorem spec_thr {sq fc ov : Int} {l : List S126} (h : bOK sq fc ov l = true) {s f : Int} (h0 : 0 ≤ s) (h1 : s ≤ sq) (hf : 1 ≤ f) (hf2 : f ≤ 8) : spec_sqThrow.f sq fc ov l s f = some (thr sq ov l s f) := by
  have hb := bOK_J h
  unfold spec_sqThrow.f thr spec_sqJump.f
  rw [w64 (x := s + f) (by omega) (by omega), w64 (x := 2 * sq) (by omega) (by omega), w64 (x := 2 * sq - (s + f)) (by omega) (by omega)]
  by_cases c1 : s = sq
  · rw [if_pos c1, if_pos c1]
  · rw [if_neg c1, if_neg c1]
    by_cases c2 : s + f ≤ sq
    · rw [if_neg (by omega), if_pos c2]; rfl
    · rw [if_pos (by omega), if_neg c2]
      by_cases c3 : ov = 1
      · rw [if_neg (by omega), if_pos c3, if_pos c3]
      · by_cases c4 : ov = 2
        · rw [if_neg (by omega), if_neg c3, if_neg c3, if_pos c4]
          by_cases c5 : 0 ≤ 2 * sq - (s + f)
          · rw [if_neg (by omega), if_pos c5]; rfl
          · rw [if_pos (by omega), if_neg c5]
        · rw [if_pos (by omega), if_neg c3, if_neg c4]
theorem impl_thr {sq fc ov : Int} {l : List S126} (h : bOK sq fc ov l = true) {s f : Int} (h0 : 0 ≤ s) (h1 : s ≤ sq) (hf : 1 ≤ f) (hf2 : f ≤ 8) : impl_Board_throw.f sq fc ov l s f = some (thr sq ov l s f) := by
  have hb := bOK_J h
  unfold impl_Board_throw.f impl_Board_landing.f thr impl_Board_begins.f
  rw [w64 (x := s + f) (by omega) (by omega), w64 (x := 2 * sq) (by omega) (by omega), w64 (x := 2 * sq - (s + f)) (by omega) (by omega)]
  by_cases c1 : s = sq
  · rw [if_pos c1, if_pos c1]; rfl
  · rw [if_neg c1, if_neg c1]
    by_cases c2 : s + f ≤ sq
    · rw [if_pos c2, if_pos c2]; rfl
    · rw [if_neg c2, if_neg c2]
      by_cases c3 : ov = 1
      · rw [if_pos c3, if_pos c3]
        simp [jmp_end h (Int.le_refl sq)]
      · rw [if_neg c3, if_neg c3]
        by_cases c4 : ov = 2
        · rw [if_pos c4, if_pos c4]
          by_cases c5 : 0 ≤ 2 * sq - (s + f)
          · rw [if_pos c5, if_pos (by omega)]; rfl
          · rw [if_neg c5, if_neg (by omega)]; rfl
        · rw [if_neg c4, if_neg c4]; rfl
def landsN (sq ov : Int) (l : List S126) (s : Int) : Nat → Int → List Int
  | 0, _ => []
  | n + 1, f => thr sq ov l s f :: landsN sq ov l s n (f + 1)
def lands (sq fc ov : Int) (l : List S126) (s : Int) : List Int := landsN sq ov l s fc.toNat 1
theorem landsN_len (sq ov : Int) (l : List S126) (s : Int) : ∀ (n : Nat) (f : Int), (landsN sq ov l s n f).length = n
  | 0, _ => rfl
  | n + 1, f => by rw [landsN, List.length_cons, landsN_len sq ov l s n]
theorem landsN_in {sq fc ov : Int} {l : List S126} (h : bOK sq fc ov l = true) {s : Int} (h0 : 0 ≤ s) (h1 : s ≤ sq) : ∀ (n : Nat) (f : Int), 1 ≤ f → ∀ t ∈ landsN sq ov l s n f, 0 ≤ t ∧ t ≤ sq
  | 0, _, _, t, ht => by cases ht
  | n + 1, f, hf, t, ht => by
    rcases List.mem_cons.1 ht with rfl | ht
    · exact thr_in h h0 h1 hf
    · exact landsN_in h h0 h1 n (f + 1) (by omega) t ht
theorem lands_in {sq fc ov : Int} {l : List S126} (h : bOK sq fc ov l = true) {s : Int} (h0 : 0 ≤ s) (h1 : s ≤ sq) : ∀ t ∈ lands sq fc ov l s, 0 ≤ t ∧ t ≤ sq := landsN_in h h0 h1 _ 1 (by omega)
theorem lands_len {sq fc ov : Int} {l : List S126} (h : bOK sq fc ov l = true) (s : Int) : ((lands sq fc ov l s).length : Int) = fc := by
  have hb := bOK_J h
  rw [lands, landsN_len]; omega
end Go.Proofs.Ytgahigmpcgfbeaa.P
end

section
namespace Go.Proofs.Ytgahigmpcgfbeaa.P
set_option linter.unusedVariables false
set_option linter.unusedSimpArgs false
open Go Go.RowKit Go.Proofs.YtgahigmpcgfbeaaW.PrintWords Go.Proofs.YtgahigmpcgfbeaaW.PrintLast Go.Proofs.YtgahigmpcgfbeaaW.PrintMore
attribute [local go_sem] max2_int min2_int max_two min_two max_three min_three max_four min_four
section
variable (sq fc ov : Int) (l : List S126) (mk : Int × Int → Int → Int)
def sumF (β : Int × Int → Int) (u : Int × Int) : Nat → Int → Int
  | 0, _ => 0
  | n + 1, x => β (thr sq ov l u.1 x, mk u x) + sumF β u n (x + 1)
def opB (β : Int × Int → Int) (u : Int × Int) : Int := if u.1 = sq then 0 else sumF sq ov l mk β u fc.toNat 1
def opI : Nat → (Int × Int → Int) → Int × Int → Int
  | 0, β => β
  | i + 1, β => opI i (opB sq fc ov l mk β)
end
section
variable {sq fc ov : Int} {l : List S126} {mk : Int × Int → Int → Int}
theorem sumF_one (u : Int × Int) : ∀ (n : Nat) (x : Int), sumF sq ov l mk (fun _ => 1) u n x = n
  | 0, _ => rfl
  | n + 1, x => by rw [sumF, sumF_one u n]; omega
theorem opI_mono : ∀ (i : Nat) {β γ : Int × Int → Int}, (∀ u, β u ≤ γ u) → ∀ u, opI sq fc ov l mk i β u ≤ opI sq fc ov l mk i γ u
  | 0, _, _, h, u => h u
  | i + 1, β, γ, h, u => opI_mono i (fun v => by
      unfold opB
      split
      · exact Int.le_refl _
      · have : ∀ (n : Nat) (x : Int), sumF sq ov l mk β v n x ≤ sumF sq ov l mk γ v n x := by
          intro n
          induction n with
          | zero => intro x; exact Int.le_refl _
          | succ n ih => intro x; rw [sumF, sumF]; have := h (thr sq ov l v.1 x, mk v x); have := ih (x + 1); omega
        exact this _ _) u
theorem opI_const (hfc : 0 ≤ fc) : ∀ (i : Nat) (c : Int), 0 ≤ c → ∀ u, opI sq fc ov l mk i (fun _ => c) u ≤ fc ^ i * c
  | 0, c, _, u => by simp [opI]
  | i + 1, c, hc, u => by
    have h1 : ∀ v, opB sq fc ov l mk (fun _ => c) v ≤ fc * c := fun v => by
      unfold opB
      have : ∀ (n : Nat) (x : Int), sumF sq ov l mk (fun _ => c) v n x = n * c := by
        intro n
        induction n with
        | zero => intro x; simp [sumF]
        | succ n ih => intro x; rw [sumF, ih, Int.natCast_add, Int.add_mul]; simp; omega
      split
      · exact Int.mul_nonneg hfc hc
      · rw [this, show ((fc.toNat : Nat) : Int) = fc by omega]
        exact Int.le_refl _
    have h2 := opI_mono (sq := sq) (fc := fc) (ov := ov) (l := l) (mk := mk) i h1 u
    have h3 := opI_const hfc i (fc * c) (Int.mul_nonneg hfc hc) u
    rw [Int.pow_succ, Int.mul_assoc]
    exact Int.le_trans h2 h3
end
theorem p16 {fc : Int} (h1 : 1 ≤ fc) (h8 : fc ≤ 8) {j : Nat} (hj : j ≤ 16) : fc ^ j ≤ 281474976710656 := by
  obtain ⟨n, rfl⟩ : ∃ n : Nat, fc = n := ⟨fc.toNat, by omega⟩
  have ha : n ^ j ≤ 8 ^ j := Nat.pow_le_pow_left (by omega) j
  have hb : 8 ^ j ≤ 8 ^ 16 := Nat.pow_le_pow_right (by omega) hj
  have : ((n : Int)) ^ j = ((n ^ j : Nat) : Int) := by simp
  rw [this]; omega
theorem opB_nn (sq fc ov : Int) (l : List S126) (mk : Int × Int → Int → Int) (u : Int × Int) : 0 ≤ opB sq fc ov l mk (fun _ => 1) u := by
  unfold opB
  split
  · exact Int.le_refl _
  · rw [sumF_one]; omega
theorem upd01 (fr u : Int × Int) : 0 ≤ upd (fun _ => (0 : Int)) fr 1 u := by
  unfold upd
  split
  · decide
  · exact Int.le_refl _
structure GK (sq fc ov : Int) (A : Option Addr) (c : Nat) (l : List S126) (fr : Int × Int) (w W : World) : Prop where
  kb : W.heap[w.heap.size]? = some (.cells #[.int .i64 sq, .int .i64 fc, .int .i64 ov, .slice A l.length c] 31 (0, 0))
  kf : W.heap[w.heap.size + 1]? = some (.cells #[.int .i64 fr.1, .int .i64 fr.2] 181 (0, 0))
  bw : Below w.heap.size w W
section
variable {sq fc ov : Int} {A : Option Addr} {c : Nat} {l : List S126} {fr : Int × Int} {w W W' : World}
theorem GK.below (h : GK sq fc ov A c l fr w W) (hb : Below W.heap.size W W') : GK sq fc ov A c l fr w W' := ⟨blk_below h.kb hb, blk_below h.kf hb, bT h.bw hb⟩
theorem GK.drew (h : GK sq fc ov A c l fr w W) : GK sq fc ov A c l fr w W.drew := h.below (below_drew (Below.refl _ _))
theorem GK.alloc (h : GK sq fc ov A c l fr w W) (o : Obj) : GK sq fc ov A c l fr w (W.alloc o) := h.below (below_alloc (Below.refl _ _) o)
theorem GK.grown (h : GK sq fc ov A c l fr w W) {b : Nat} (hg : W.grownBy W' (some b)) (hb : w.heap.size + 2 ≤ b) : GK sq fc ov A c l fr w W' :=
  ⟨blk_grown h.kb hg (by simp; omega), blk_grown h.kf hg (by simp; omega), h.bw.trans ⟨hg.os, hg.tape, hg.output, hg.size, fun k hk => hg.block k (by have := h.bw.size; omega) (by simp; omega)⟩⟩
end
theorem spots_mark {sq : Int} {m : Nat} {u : Int × Int} (h0 : 0 ≤ sq) (h : u ∈ spots sq m) : u.2 ∈ (List.range (m + 1)).map Int.ofNat := by
  have := (mem_spots h0).1 h
  exact List.mem_map.2 ⟨u.2.toNat, List.mem_range.2 (by omega), by simp; omega⟩
theorem marks_len {m : Nat} (h : m ≤ 17) : ((List.range (m + 1)).map Int.ofNat).length ≤ 18 := by simp; omega
theorem games_bd (sq : Int) (m : Nat) (u : Int × Int) (left : Int × Int → Bool) (g : Int × Int → Int) (h : Int → Int) (hu : u ∈ spots sq m) (hp : ∀ v ∈ spots sq m, 0 ≤ g v)
    (hs : ∀ q, h q = wS (spots sq m) (fun v => if left v = true then 0 else g v * (if v.1 = sq ∧ v.2 = q then 1 else 0)))
    (hst : ∀ F : Int × Int → Int, wS (spots sq m) (fun v => if (left v && !decide (v = u)) = true then 0 else F v) = wS (spots sq m) (fun v => if left v = true then 0 else F v) + F u)
    (hb : wS (spots sq m) (fun v => g v * 1) ≤ 281474976710656) (he : u.1 = sq) : 0 ≤ h u.2 ∧ h u.2 + g u ≤ 281474976710656 := by
  have e1 := hst (fun v => g v * (if v.1 = sq ∧ v.2 = u.2 then 1 else 0))
  have e2 : g u * (if u.1 = sq ∧ u.2 = u.2 then 1 else 0) = g u := by simp [he]
  have e1 : _ = _ + g u * (if u.1 = sq ∧ u.2 = u.2 then 1 else 0) := e1
  rw [e2, ← hs] at e1
  have e3 := wS_le (U := spots sq m) (f := fun v => if (left v && !decide (v = u)) = true then 0 else g v * (if v.1 = sq ∧ v.2 = u.2 then 1 else 0)) (g := fun v => g v * 1) (fun v hv => by
    have := hp v hv
    split
    · omega
    · split <;> simp <;> omega)
  refine ⟨?_, by omega⟩
  rw [hs]
  exact wS_nn (fun v hv => by
    have := hp v hv
    split
    · exact Int.le_refl _
    · split <;> simp <;> omega)
set_option maxHeartbeats 8000000 in
set_option maxRecDepth 100000 in
theorem games_calls (sq fc ov tI : Int) (A : Option Addr) (c : Nat) (l : List S126) (μ : Nat → Nat) (T : Nat) (fr : Int × Int) (mk : Int × Int → Int → Int) (fi : Nat) (fn : Func) (ca : Array Value) (w : World)
    (htI : tI = (T : Int)) (hbd : bOK sq fc ov l = true) (hμ : ∀ i, i ≤ T → μ i ≤ 17) (hT : T ≤ 16) (hfr : fr ∈ spots sq (μ 0)) (hmk : ∀ i u x, i < T → u ∈ spots sq (μ i) → 1 ≤ x → x ≤ fc → 0 ≤ mk u x ∧ mk u x ≤ μ (i + 1))
    (hf : Try.prog.funcs[fi]? = some fn) (hname : (fn.name == "runtime.NumGoroutine") = false) (hbody : fn.body.isSome = true)
    (HC : ∀ i W u x, i < T → Below w.heap.size w W → u ∈ spots sq (μ i) → 1 ≤ x → x ≤ fc → Calls Try.prog fi (#[gv u, .int .i64 x] ++ ca) W fun e w' => e = .returned (.int .i64 (mk u x)) ∧ Below W.heap.size W w')
    (hr : Kd.C k126 w A l.length l) (hc : l.length ≤ c) :
    Calls Try.prog 271 #[.agg #[.int .i64 sq, .int .i64 fc, .int .i64 ov, .slice A l.length c], gv fr, .int .i64 tI, .func (.func fi) #[] ca] w fun e w' =>
      ∃ b, e = .returned (.map (some b)) ∧ cmap Try.prog 3 (Lit.int .i64) ((List.range (μ T + 1)).map Int.ofNat) (fun q => opI sq fc ov l mk T (fun u => if u.1 = sq ∧ u.2 = q then 1 else 0) fr) (μ T + 1) b w' ∧ Below w.heap.size w w' := by
  have hb := bOK_J hbd
  have HTI := Aside0.mk htI
  have HR := Aside0.mk hr
  have HCc := Aside0.mk hc
  have HBD := Aside0.mk hbd
  have HF := Aside0.mk hf
  have HN := Aside0.mk hname
  have HBO := Aside0.mk hbody
  have HCL := Aside0.mk HC
  have HMU := Aside0.mk hμ
  have HMK := Aside0.mk hmk
  have HFR := Aside0.mk hfr
  have hrep : ∀ i, i ≤ T → KeyRep Try.prog 181 gv gkl (spots sq (μ i)) := fun i hi => g_rep (by omega) (by omega) (hμ i hi)
  have HRE := Aside0.mk hrep
  have hsl : ∀ i, i ≤ T → (spots sq (μ i)).length < maxLen := fun i hi => Nat.lt_of_le_of_lt (spots_len (by omega) (hμ i hi)) (by unfold maxLen; omega)
  have HSL := Aside0.mk hsl
  clear htI hr hc hbd hf hname hbody HC hμ hmk hfr hrep hsl
  have hmm := @run_makeMap Try.prog
  have HK := Aside0.mk (⟨blk_alloc (blk_new w _) _, by have h := blk_new (w.alloc (.cells #[.int .i64 sq, .int .i64 fc, .int .i64 ov, .slice A l.length c] 31)) (.cells #[.int .i64 fr.1, .int .i64 fr.2] 181); rw [World.size_alloc] at h; exact h, below_alloc (below_alloc (Below.refl _ _) _) _⟩ :
    GK sq fc ov A c l fr w ((w.alloc (.cells #[.int .i64 sq, .int .i64 fc, .int .i64 ov, .slice A l.length c] 31)).alloc (.cells #[.int .i64 fr.1, .int .i64 fr.2] 181)))
  have HS := Aside0.mk (show ((w.alloc (.cells #[.int .i64 sq, .int .i64 fc, .int .i64 ov, .slice A l.length c] 31)).alloc (.cells #[.int .i64 fr.1, .int .i64 fr.2] 181)).heap.size = w.heap.size + 1 + 1 by rw [World.size_alloc, World.size_alloc])
  have HM0 := Aside0.mk (show cmap Try.prog 181 gkl (spots sq (μ 0)) (fun _ => 0) 0 (w.heap.size + 1 + 1) (((w.alloc (.cells #[.int .i64 sq, .int .i64 fc, .int .i64 ov, .slice A l.length c] 31)).alloc (.cells #[.int .i64 fr.1, .int .i64 fr.2] 181)).alloc (.map #[] 0)) by rw [← HS.out]; exact cmap_made _)
  go_enter Try.func271, Try.ntmps271
  go_wp2_with ((with_reducible refine gate_insert rfl ?_); refine wpList_cmap_put rfl (.tmp 17) (.tmp 18) (.const (.int .i64 1)) 202 (Or.inr rfl) (HRE.out 0 (Nat.zero_le _)) Try.underlying202 (fun _ => 0) 0 (w.heap.size + 1 + 1) (by decide) rfl HM0.out HFR.out rfl rfl (by decide) ?_; intro w1 hm1 hg1)
  have HM := Aside0.mk (hm1.tight (HRE.out 0 (Nat.zero_le _)))
  have HK1 := Aside0.mk ((HK.out.alloc (.map #[] 0)).grown hg1 (Nat.le_refl _))
  have hU := mem_spots (m := μ 0) (u := fr) (show 0 ≤ sq by omega)
  have HS0 := Aside0.mk (show ∀ β, wS (spots sq (μ 0)) (fun u => upd (fun _ => 0) fr 1 u * β u) = opI sq fc ov l mk 0 β fr from fun β => by
    rw [wS_upd (spots_nodup _ _) HFR.out, opI]
    simp [wS_zero])
  have HP0 := Aside0.mk (show ∀ u ∈ spots sq (μ 0), 0 ≤ upd (fun _ => (0 : Int)) fr 1 u from fun u _ => upd01 fr u)
  clear HM0 HS hm1 hg1 HK hU
  go_loopw [9, 21] (fun v9 v21 wr => ∃ (i b : Nat) (g : Int × Int → Int), v9 = .map (some b) ∧ v21 = .int .i64 i ∧ (i : Int) ≤ tI ∧ Aside0 (cmap Try.prog 181 gkl (spots sq (μ i)) g (spots sq (μ i)).length b wr) ∧ Aside0 (∀ u ∈ spots sq (μ i), 0 ≤ g u) ∧ Aside0 (∀ β, wS (spots sq (μ i)) (fun u => g u * β u) = opI sq fc ov l mk i β fr) ∧ Aside0 (GK sq fc ov A c l fr w wr) ∧ Aside0 (w.heap.size + 2 ≤ b)) (fun _ v _ => (tI - intOf v).toNat)
  case atStart => exact ⟨0, w.heap.size + 1 + 1, _, rfl, rfl, by have := HTI.out; omega, HM, HP0, HS0, HK1, ⟨Nat.le_refl _⟩⟩
  case round =>
    clear HM HP0 HS0 HK1
    obtain ⟨i, b, g, rfl, rfl, hi, HM, HP, HS, HK, HBL⟩ := hrel
    by_cases hlt : (i : Int) < tI
    · have hiT : i < T := by have := HTI.out; omega
      have HI := Aside0.mk hiT
      obtain ⟨wA, rfl⟩ : ∃ wA, wA = wr := ⟨_, rfl⟩
      have HRA := Aside0.mk (HRE.out i (by omega))
      have HRB := Aside0.mk (HRE.out (i + 1) (by omega))
      have HMA := Aside0.mk (HM.out.alloc (.map #[] 0))
      go_wp2_with (at_range; refine wpList_cmap_range rfl (.tmp 24) 202 rfl HRA.out Try.underlying202 g _ b rfl HMA.out ?_; intro w2 left cnt hrg hz hg2 hs2)
      go_frame
      obtain ⟨r, hr0⟩ : ∃ r, r = (wA.alloc (.map #[] 0)).heap.size := ⟨_, rfl⟩
      rw [← hr0] at hrg
      rw [← hr0]
      have hbA := HM.out.lt
      have hsA := World.size_alloc wA (.map #[] 0)
      have hrA : r = wA.heap.size + 1 := hr0.trans hsA
      have hBw : Below (wA.alloc (.map #[] 0)).heap.size (wA.alloc (.map #[] 0)) w2 := ⟨hg2.os, hg2.tape, hg2.output, hg2.size, fun k hk => hg2.block k hk (by simp)⟩
      have HRL := Aside0.mk (show w.heap.size + 2 ≤ r by have := HBL.out; omega)
      have HB2L := Aside0.mk (show w.heap.size + 2 ≤ wA.heap.size by have := HBL.out; omega)
      have HN1 := Aside0.mk (show some wA.heap.size ≠ some r by simp; omega)
      have HN2 := Aside0.mk (show some b ≠ some wA.heap.size by simp; omega)
      have HN3 := Aside0.mk (show some r ≠ some wA.heap.size by simp; omega)
      have HX := Aside0.mk hrg
      have HM2 := Aside0.mk (((cmap_made (P := Try.prog) (k := 181) (kl := gkl) (U := spots sq (μ (i + 1))) wA).below hBw).tight HRB.out)
      have HP2 := Aside0.mk (show ∀ u ∈ spots sq (μ (i + 1)), (0 : Int) ≤ (fun _ => 0) u from fun _ _ => by show (0 : Int) ≤ 0; decide)
      have HS2 := Aside0.mk (show ∀ β, wS (spots sq (μ (i + 1))) (fun u => (fun _ => (0 : Int)) u * β u) = wS (spots sq (μ i)) (fun u => if left u = true then 0 else g u * opB sq fc ov l mk β u) from fun β => by
        rw [wS_congr (g := fun _ => 0) (fun u _ => by simp), wS_zero, wS_congr (g := fun _ => 0) (fun u hu => by
          cases hl : left u with
          | true => simp
          | false => simp [hz u hu hl]), wS_zero])
      have HK2 := Aside0.mk ((HK.out.alloc (.map #[] 0)).below hBw)
      clear hr0 hrg hz hg2 hs2 hBw hsA hrA hbA HMA HK HM HBL
      go_loopw [12] (fun _ wr => ∃ (left : Int × Int → Bool) (cnt : Nat) (g2 : Int × Int → Int), Aside0 (crange Try.prog 181 gkl (spots sq (μ i)) g left cnt (spots sq (μ i)).length b r wr) ∧ Aside0 (cmap Try.prog 181 gkl (spots sq (μ (i + 1))) g2 (spots sq (μ (i + 1))).length wA.heap.size wr) ∧ Aside0 (∀ u ∈ spots sq (μ (i + 1)), 0 ≤ g2 u) ∧ Aside0 (∀ β, wS (spots sq (μ (i + 1))) (fun u => g2 u * β u) = wS (spots sq (μ i)) (fun u => if left u = true then 0 else g u * opB sq fc ov l mk β u)) ∧ Aside0 (GK sq fc ov A c l fr w wr)) (fun _ wr => wr.rangeLeft b r)
      case atStart => exact ⟨left, cnt, _, HX, HM2, HP2, HS2, HK2⟩
      case round =>
        clear HX HM2 HP2 HS2 HK2
        obtain ⟨left, cnt, g2, HX, HM2, HP2, HS2, HK2⟩ := hrel
        go_wp2_with (at_next; refine wpList_cmap_next rfl (.tmp 25) rfl HRA.out g left cnt _ b r rfl HX.out ?d ?m; (case' d => intro hdone; have HDN := Aside0.mk hdone; clear hdone); (case' m => intro u hu hl w3 cnt' hrg' hlt' hg3 hs3 hen; have HX3 := Aside0.mk hrg'; have HM3 := Aside0.mk (HM2.out.kept hg3 HN1.out); have HK3 := Aside0.mk (HK2.out.grown hg3 HRL.out); have HU := Aside0.mk hu; have HL := Aside0.mk hl; have HLE := Aside0.mk (show cnt' < cnt from hlt'); have HST := Aside0.mk (fun F => wS_left (spots_nodup sq (μ i)) hu left hl F); have HXE := Aside0.mk HX.out.left_eq; clear hrg' hu hl hlt' hg3 hs3; have z0 : (w3.alloc (.cells #[.int .i64 u.1, .int .i64 u.2] 181)).cell? ⟨w.heap.size, 0, none⟩ = some (.int .i64 sq) := (blk_cell (blk_alloc HK3.out.kb _) 0).trans rfl; have z1 : (w3.alloc (.cells #[.int .i64 u.1, .int .i64 u.2] 181)).cell? ⟨w.heap.size, 1, none⟩ = some (.int .i64 fc) := (blk_cell (blk_alloc HK3.out.kb _) 1).trans rfl))
        · have HE : u.1 = sq := by simpa using (by assumption : (u.1 == sq) = true)
          refine ⟨⟨_, cnt', g2, ⟨HX3.out.alloc _⟩, ⟨HM3.out.alloc _⟩, HP2, ⟨fun β => ?_⟩, ⟨HK3.out.alloc _⟩⟩, ?_⟩
          · rw [HS2.out β]
            have := HST.out (fun v => g v * opB sq fc ov l mk β v)
            have e0 : opB sq fc ov l mk β u = 0 := by unfold opB; rw [if_pos HE]
            rw [e0, Int.mul_zero, Int.add_zero] at this
            exact this.symm
          · have h1 := (HX3.out.alloc (.cells #[.int .i64 u.1, .int .i64 u.2] 181)).left_eq
            have h2 := HXE.out
            have h3 := HLE.out
            omega
        · have HE : ¬ u.1 = sq := by simpa using (by assumption : (u.1 == sq) = false)
          have HE := Aside0.mk HE
          have HBN := Aside0.mk (show wS (spots sq (μ (i + 1))) (fun v => g2 v * 1) + g u * opB sq fc ov l mk (fun _ => 1) u ≤ 281474976710656 by
            have e1 := HS2.out (fun _ => 1)
            have e2 := HST.out (fun v => g v * opB sq fc ov l mk (fun _ => 1) v)
            have e3 := wS_le (U := spots sq (μ i)) (f := fun v => if (left v && !decide (v = u)) = true then 0 else g v * opB sq fc ov l mk (fun _ => 1) v) (g := fun v => g v * opB sq fc ov l mk (fun _ => 1) v) (fun v hv => by
              have := Int.mul_nonneg (HP.out v hv) (opB_nn sq fc ov l mk v)
              split <;> omega)
            have e4 := HS.out (opB sq fc ov l mk (fun _ => 1))
            have e5 := opI_const (sq := sq) (fc := fc) (ov := ov) (l := l) (mk := mk) (by omega) (i + 1) 1 (by omega) fr
            have e6 := p16 (fc := fc) (by omega) (by omega) (show i + 1 ≤ 16 by omega)
            rw [opI] at e5
            omega)
          have HGU := Aside0.mk (HP.out u HU.out)
          have HX4 := Aside0.mk (HX3.out.alloc (.cells #[.int .i64 u.1, .int .i64 u.2] 181))
          have HM4 := Aside0.mk (HM3.out.alloc (.cells #[.int .i64 u.1, .int .i64 u.2] 181))
          have HK4 := Aside0.mk (HK3.out.alloc (.cells #[.int .i64 u.1, .int .i64 u.2] 181))
          have HY4 := Aside0.mk (blk_new w3 (.cells #[.int .i64 u.1, .int .i64 u.2] 181))
          have HNB := Aside0.mk (show some w3.heap.size ≠ some wA.heap.size by have := HM3.out.lt; simp; omega)
          clear z0 z1
          go_loopw [13] (fun v13 wr => ∃ (n : Nat) (x : Int) (g3 : Int × Int → Int), v13 = .int .i64 x ∧ x + n = fc + 1 ∧ 1 ≤ x ∧ Aside0 (crange Try.prog 181 gkl (spots sq (μ i)) g (fun v => left v && !decide (v = u)) cnt' (spots sq (μ i)).length b r wr) ∧ Aside0 (cmap Try.prog 181 gkl (spots sq (μ (i + 1))) g3 (spots sq (μ (i + 1))).length wA.heap.size wr) ∧ Aside0 (∀ v ∈ spots sq (μ (i + 1)), 0 ≤ g3 v) ∧ Aside0 (∀ β, wS (spots sq (μ (i + 1))) (fun v => g3 v * β v) + g u * sumF sq ov l mk β u n x = wS (spots sq (μ (i + 1))) (fun v => g2 v * β v) + g u * opB sq fc ov l mk β u) ∧ Aside0 (GK sq fc ov A c l fr w wr) ∧ Aside0 (wr.heap[w3.heap.size]? = some (.cells #[.int .i64 u.1, .int .i64 u.2] 181 (0, 0)))) (fun v _ => (fc + 1 - intOf v).toNat)
          case atStart => exact ⟨fc.toNat, 1, g2, rfl, by omega, by omega, HX4, HM4, HP2, ⟨fun β => by rw [show opB sq fc ov l mk β u = sumF sq ov l mk β u fc.toNat 1 by unfold opB; rw [if_neg HE.out]]⟩, HK4, HY4⟩
          case round =>
            clear HX4 HM4 HK4 HY4
            obtain ⟨n, x, g3, rfl, hn, hx, HX4, HM4, HP3, HS3, HK4, HY4⟩ := hrel
            have z1 : wr.cell? ⟨w.heap.size, 1, none⟩ = some (.int .i64 fc) := (blk_cell HK4.out.kb 1).trans rfl
            by_cases hle : x ≤ fc
            · obtain ⟨n, rfl⟩ : ∃ q : Nat, n = q + 1 := ⟨n - 1, by omega⟩
              have hU := (mem_spots (show 0 ≤ sq by omega)).1 HU.out
              have hthr := thr_in HBD.out (s := u.1) (f := x) hU.1.1 hU.1.2 hx
              have hmk2 := HMK.out i u x HI.out HU.out hx hle
              have himp := impl_thr HBD.out (s := u.1) (f := x) hU.1.1 hU.1.2 hx (by omega)
              have hcl := fun W hW => HCL.out i W u x HI.out hW HU.out hx hle
              have hs3 := fun β => HS3.out β
              simp only [sumF] at hs3
              obtain ⟨p, hp⟩ : ∃ p, thr sq ov l u.1 x = p := ⟨_, rfl⟩
              obtain ⟨q, hq⟩ : ∃ q, mk u x = q := ⟨_, rfl⟩
              simp only [hp, hq] at hthr hmk2 himp hcl hs3
              have HKY := Aside0.mk (show (p, q) ∈ spots sq (μ (i + 1)) from (mem_spots (by omega)).2 ⟨hthr, hmk2⟩)
              have HIM := Aside0.mk himp
              have HCQ := Aside0.mk hcl
              have HSQ := Aside0.mk hs3
              have HAD := Aside0.mk (show 0 ≤ g3 (p, q) ∧ g3 (p, q) + g u ≤ 281474976710656 by
                have h1 := HP3.out (p, q) HKY.out
                have h2 := wS_ge (spots_nodup sq (μ (i + 1))) HKY.out (f := fun v => g3 v * 1) (fun v hv => by have := HP3.out v hv; simpa using this)
                have h3 := HSQ.out (fun _ => 1)
                have h4 := HBN.out
                have h5 := Int.mul_nonneg HGU.out (show 0 ≤ (n : Int) by omega)
                rw [sumF_one, Int.mul_add, Int.mul_one] at h3
                simp only [Int.mul_one] at h2 h3 h4
                have h6 := HGU.out
                refine ⟨h1, ?_⟩
                omega)
              have sx : IntKind.i64.wrap (g3 (p, q) + g u) = g3 (p, q) + g u := IntWalk.i64_in _ (by have := HAD.out; have := HGU.out; omega)
              clear hthr hmk2 himp hcl hs3 hp hq hU
              go_wp2
              refine start_ (n := 17) (S := fun w' => w'.cell? ⟨w.heap.size, 0, none⟩ = some (.int .i64 sq) ∧ w'.cell? ⟨w.heap.size, 1, none⟩ = some (.int .i64 fc) ∧ w'.cell? ⟨w.heap.size, 2, none⟩ = some (.int .i64 ov) ∧ w'.cell? ⟨w.heap.size, 3, none⟩ = some (.slice A l.length c) ∧ w'.cell? ⟨w3.heap.size, 0, none⟩ = some (.int .i64 u.1) ∧ w'.cell? ⟨w3.heap.size, 1, none⟩ = some (.int .i64 u.2) ∧ (Instr.lookup 202 (.map (some wA.heap.size)) (.agg #[.int .i64 p, .int .i64 q]) false).run Try.prog w' = .ok (.int .i64 (g3 (p, q))) w') (ds := [16]) #[false, false, false, false, false, false, false, false, false, false, false, false, false, false, false, false, false] (by kernel_rfl) rfl rfl ⟨(blk_cell ((HK4.out.drew).kb) 0).trans rfl, (blk_cell ((HK4.out.drew).kb) 1).trans rfl, (blk_cell ((HK4.out.drew).kb) 2).trans rfl, (blk_cell ((HK4.out.drew).kb) 3).trans rfl, (blk_cell (blk_drew HY4.out) 0).trans rfl, (blk_cell (blk_drew HY4.out) 1).trans rfl, (HM4.out.drew).look HRB.out Try.underlying202 HKY.out⟩ (fun hHeld => ?_)
              refine pure_ (i := 0) (N := some 42) (v := ?_) (a' := ?_) #[true, false, false, false, false, false, false, false, false, false, false, false, false, false, false, false, false] rfl rfl (by kernel_rfl) (fun _ _ _ h => h) (Or.inl ⟨by rfl, ?_⟩) ?_ ?_
              rotate_left
              · intro w'
                go_simp
                with_reducible rfl
              rotate_left
              · simp only [Act.put, List.setIfInBounds_toArray, List.set_cons_zero, List.set_cons_succ, i64_w, i32_w]
                rfl
              refine pure_ (i := 2) (N := some 44) (v := ?_) (a' := ?_) #[true, false, true, false, false, false, false, false, false, false, false, false, false, false, false, false, false] rfl rfl (by kernel_rfl) (fun _ _ _ h => h) (Or.inl ⟨by rfl, ?_⟩) ?_ ?_
              rotate_left
              · intro w'
                go_simp
                with_reducible rfl
              rotate_left
              · simp only [Act.put, List.setIfInBounds_toArray, List.set_cons_zero, List.set_cons_succ, i64_w, i32_w]
                rfl
              refine pure_ (i := 4) (N := some 46) (v := ?_) (a' := ?_) #[true, false, true, false, true, false, false, false, false, false, false, false, false, false, false, false, false] rfl rfl (by kernel_rfl) (fun _ _ _ h => h) (Or.inl ⟨by rfl, ?_⟩) ?_ ?_
              rotate_left
              · intro w'
                go_simp
                with_reducible rfl
              rotate_left
              · simp only [Act.put, List.setIfInBounds_toArray, List.set_cons_zero, List.set_cons_succ, i64_w, i32_w]
                rfl
              refine pure_ (i := 6) (N := some 48) (v := ?_) (a' := ?_) #[true, false, true, false, true, false, true, false, false, false, false, false, false, false, false, false, false] rfl rfl (by kernel_rfl) (fun _ _ _ h => h) (Or.inl ⟨by rfl, ?_⟩) ?_ ?_
              rotate_left
              · intro w'
                go_simp
                with_reducible rfl
              rotate_left
              · simp only [Act.put, List.setIfInBounds_toArray, List.set_cons_zero, List.set_cons_succ, i64_w, i32_w]
                rfl
              refine pure_ (i := 8) (N := some 50) (v := ?_) (a' := ?_) #[true, false, true, false, true, false, true, false, true, false, false, false, false, false, false, false, false] rfl rfl (by kernel_rfl) (fun _ _ _ h => h) (Or.inl ⟨by rfl, ?_⟩) ?_ ?_
              rotate_left
              · intro w'
                go_simp
                with_reducible rfl
              rotate_left
              · simp only [Act.put, List.setIfInBounds_toArray, List.set_cons_zero, List.set_cons_succ, i64_w, i32_w]
                rfl
              refine pure_ (i := 12) (N := some 54) (v := ?_) (a' := ?_) #[true, false, true, false, true, false, true, false, true, false, false, false, true, false, false, false, false] rfl rfl (by kernel_rfl) (fun _ _ _ h => h) (Or.inl ⟨by rfl, ?_⟩) ?_ ?_
              rotate_left
              · intro w'
                go_simp
                with_reducible rfl
              rotate_left
              · simp only [Act.put, List.setIfInBounds_toArray, List.set_cons_zero, List.set_cons_succ, i64_w, i32_w]
                rfl
              refine take_ (i := 1) (N := some 43) (v := ?_) (a' := ?_) #[true, true, true, false, true, false, true, false, true, false, false, false, true, false, false, false, false] rfl rfl (by kernel_rfl) (fun _ _ _ h => h) (Or.inl ⟨by rfl, ?_⟩) hHeld ?_ ?_
              rotate_left
              · rintro w' ⟨s0, s1, s2, s3, s4, s5, s6⟩
                go_simp
                with_reducible rfl
              rotate_left
              · simp only [Act.put, List.setIfInBounds_toArray, List.set_cons_zero, List.set_cons_succ, i64_w, i32_w]
                rfl
              refine take_ (i := 3) (N := some 45) (v := ?_) (a' := ?_) #[true, true, true, true, true, false, true, false, true, false, false, false, true, false, false, false, false] rfl rfl (by kernel_rfl) (fun _ _ _ h => h) (Or.inl ⟨by rfl, ?_⟩) hHeld ?_ ?_
              rotate_left
              · rintro w' ⟨s0, s1, s2, s3, s4, s5, s6⟩
                go_simp
                with_reducible rfl
              rotate_left
              · simp only [Act.put, List.setIfInBounds_toArray, List.set_cons_zero, List.set_cons_succ, i64_w, i32_w]
                rfl
              refine take_ (i := 7) (N := some 49) (v := ?_) (a' := ?_) #[true, true, true, true, true, false, true, true, true, false, false, false, true, false, false, false, false] rfl rfl (by kernel_rfl) (fun _ _ _ h => h) (Or.inl ⟨by rfl, ?_⟩) hHeld ?_ ?_
              rotate_left
              · rintro w' ⟨s0, s1, s2, s3, s4, s5, s6⟩
                go_simp
                with_reducible rfl
              rotate_left
              · simp only [Act.put, List.setIfInBounds_toArray, List.set_cons_zero, List.set_cons_succ, i64_w, i32_w]
                rfl
              refine one_ (i := 5) (N := some 47) #[true, true, true, true, true, true, true, true, true, false, false, false, true, false, false, false, false] rfl rfl (by kernel_rfl) (by decide) (fun K hK => ?_)
              refine goes_ Try.func185 (by kernel_rfl) rfl #[.agg #[.int .i64 sq, .int .i64 fc, .int .i64 ov, .slice A l.length c], .int .i64 u.1, .int .i64 x] (by rfl) rfl rfl (by simp only [List.map_toArray, List.map_cons, List.map_nil]; rfl) ?_
              with_reducible refine (impl_Board_throw.calls sq fc ov A c l u.1 x p _ (Kd.C_below HR.out HK4.out.drew.bw) HCc.out HIM.out).mono ?_
              rintro e w5 ⟨rfl, hb5⟩
              refine ⟨_, rfl, ?_⟩
              refine hK.out _ _ ⟨(blk_cell ((HK4.out.drew.below hb5).kb) 0).trans rfl, (blk_cell ((HK4.out.drew.below hb5).kb) 1).trans rfl, (blk_cell ((HK4.out.drew.below hb5).kb) 2).trans rfl, (blk_cell ((HK4.out.drew.below hb5).kb) 3).trans rfl, (blk_cell (blk_below (blk_drew HY4.out) hb5) 0).trans rfl, (blk_cell (blk_below (blk_drew HY4.out) hb5) 1).trans rfl, (HM4.out.drew.below hb5).look HRB.out Try.underlying202 HKY.out⟩ (fun hHeld => ?_)
              clear hK K
              refine norm_ (a' := ?_) ?_ ?_
              rotate_left
              · show Act.put _ (some 47) _ = _
                simp only [Act.put, List.setIfInBounds_toArray, List.set_cons_zero, List.set_cons_succ, i64_w, i32_w]
                rfl
              refine one_ (i := 9) (N := some 51) #[true, true, true, true, true, true, true, true, true, true, false, false, true, false, false, false, false] rfl rfl (by kernel_rfl) (by decide) (fun K hK => ?_)
              refine goesF_ HF.out HN.out HBO.out (#[gv u, .int .i64 x] ++ ca) (by rfl) rfl rfl rfl (by first | rfl | (simp only [List.map_toArray, List.map_cons, List.map_nil]; rfl)) ?_
              with_reducible refine (HCQ.out _ (HK4.out.drew.below hb5).bw).mono ?_
              rintro e w6 ⟨rfl, hb6⟩
              refine ⟨_, rfl, ?_⟩
              refine hK.out _ _ ⟨(blk_cell (((HK4.out.drew.below hb5).below hb6).kb) 0).trans rfl, (blk_cell (((HK4.out.drew.below hb5).below hb6).kb) 1).trans rfl, (blk_cell (((HK4.out.drew.below hb5).below hb6).kb) 2).trans rfl, (blk_cell (((HK4.out.drew.below hb5).below hb6).kb) 3).trans rfl, (blk_cell (blk_below (blk_below (blk_drew HY4.out) hb5) hb6) 0).trans rfl, (blk_cell (blk_below (blk_below (blk_drew HY4.out) hb5) hb6) 1).trans rfl, ((HM4.out.drew.below hb5).below hb6).look HRB.out Try.underlying202 HKY.out⟩ (fun hHeld => ?_)
              clear hK K
              refine norm_ (a' := ?_) ?_ ?_
              rotate_left
              · show Act.put _ (some 51) _ = _
                simp only [Act.put, List.setIfInBounds_toArray, List.set_cons_zero, List.set_cons_succ, i64_w, i32_w]
                rfl
              refine pure_ (i := 10) (N := some 52) (v := ?_) (a' := ?_) #[true, true, true, true, true, true, true, true, true, true, true, false, true, false, false, false, false] rfl rfl (by kernel_rfl) (fun _ _ _ h => h) (Or.inl ⟨by rfl, ?_⟩) ?_ ?_
              rotate_left
              · intro w'
                go_simp
                with_reducible rfl
              rotate_left
              · simp only [Act.put, List.setIfInBounds_toArray, List.set_cons_zero, List.set_cons_succ, i64_w, i32_w]
                rfl
              refine take_ (i := 11) (N := some 53) (v := ?_) (a' := ?_) #[true, true, true, true, true, true, true, true, true, true, true, true, true, false, false, false, false] rfl rfl (by kernel_rfl) (fun _ _ _ h => h) (Or.inl ⟨by rfl, ?_⟩) hHeld ?_ ?_
              rotate_left
              · rintro w' ⟨s0, s1, s2, s3, s4, s5, s6⟩
                go_simp
                with_reducible rfl
              rotate_left
              · simp only [Act.put, List.setIfInBounds_toArray, List.set_cons_zero, List.set_cons_succ, i64_w, i32_w]
                rfl
              refine pure_ (i := 13) (N := some 55) (v := ?_) (a' := ?_) #[true, true, true, true, true, true, true, true, true, true, true, true, true, true, false, false, false] rfl rfl (by kernel_rfl) (fun _ _ _ h => h) (Or.inl ⟨by rfl, ?_⟩) ?_ ?_
              rotate_left
              · intro w'
                go_simp
                with_reducible rfl
              rotate_left
              · simp only [Act.put, List.setIfInBounds_toArray, List.set_cons_zero, List.set_cons_succ, i64_w, i32_w]
                rfl
              refine one_ (i := 14) (N := some 56) #[true, true, true, true, true, true, true, true, true, true, true, true, true, true, true, false, false] rfl rfl (by kernel_rfl) (by decide) (fun K hK => ?_)
              obtain ⟨v0, st, w7, hE1, hE2, hE3, hE4⟩ := ((HM4.out.drew.below hb5).below hb6).entry HRB.out g_law Try.underlying202 (HSL.out (i + 1) (by have := HI.out; omega)) HKY.out
              refine value_ (w1 := w7) (v := .tuple #[v0, goInt st]) (by rfl) rfl ?_ ?_
              · simp [execOp, Act.eval, hE1, Result.andThen]
              refine hK.out _ _ ⟨(blk_cell ((((HK4.out.drew.below hb5).below hb6).grown hE2 HB2L.out).kb) 0).trans rfl, (blk_cell ((((HK4.out.drew.below hb5).below hb6).grown hE2 HB2L.out).kb) 1).trans rfl, (blk_cell ((((HK4.out.drew.below hb5).below hb6).grown hE2 HB2L.out).kb) 2).trans rfl, (blk_cell ((((HK4.out.drew.below hb5).below hb6).grown hE2 HB2L.out).kb) 3).trans rfl, (blk_cell (blk_grown (blk_below (blk_below (blk_drew HY4.out) hb5) hb6) hE2 HNB.out) 0).trans rfl, (blk_cell (blk_grown (blk_below (blk_below (blk_drew HY4.out) hb5) hb6) hE2 HNB.out) 1).trans rfl, hE3⟩ (fun hHeld => ?_)
              clear hK K
              refine norm_ (a' := ?_) ?_ ?_
              rotate_left
              · show Act.put _ (some 56) _ = _
                simp only [Act.put, List.setIfInBounds_toArray, List.set_cons_zero, List.set_cons_succ, i64_w, i32_w]
                rfl
              refine pure_ (i := 15) (N := some 57) (v := ?_) (a' := ?_) #[true, true, true, true, true, true, true, true, true, true, true, true, true, true, true, true, false] rfl rfl (by kernel_rfl) (fun _ _ _ h => h) (Or.inl ⟨by rfl, ?_⟩) ?_ ?_
              rotate_left
              · intro w'
                go_simp
                with_reducible rfl
              rotate_left
              · simp only [Act.put, List.setIfInBounds_toArray, List.set_cons_zero, List.set_cons_succ, i64_w, i32_w]
                rfl
              refine last_ (i := 16) (N := none) #[true, true, true, true, true, true, true, true, true, true, true, true, true, true, true, true, true] rfl rfl (by kernel_rfl) (by decide) (fun K hK => ?_)
              obtain ⟨w9, hE5, hE6, hE7⟩ := hE4 (g3 (p, q) + g u) (WalkArith.wf_i64 (by have := HAD.out; have := HGU.out; omega))
              refine skip_ (w1 := w9) (by rfl) rfl ?_ ?_
              · unfold goInt at hE5
                simp [execOp, Act.eval, hE5, Result.andThen]
              refine hK.out _ _ ?_
              clear hK K
              refine done_ (by kernel_rfl) ?_
              have HM6 := Aside0.mk (hE6.tight HRB.out)
              have HK6 := Aside0.mk ((((HK4.out.drew.below hb5).below hb6).grown hE2 HB2L.out).grown hE7 HB2L.out)
              have HX6 := Aside0.mk ((((HX4.out.drew.below hb5).below hb6).kept hE2 HN2.out HN3.out).kept hE7 HN2.out HN3.out)
              have HY6 := Aside0.mk (blk_grown (blk_grown (blk_below (blk_below (blk_drew HY4.out) hb5) hb6) hE2 HNB.out) hE7 HNB.out)
              clear hE1 hE2 hE3 hE4 hE5 hE6 hE7 hb5 hb6 sx
              go_wp2
              refine ⟨⟨n, x + 1, _, rfl, by omega, by omega, HX6, HM6, ⟨fun v hv => ?_⟩, ⟨fun β => ?_⟩, HK6, HY6⟩, by simp [intOf]; omega⟩
              · unfold upd
                have h1 := HAD.out
                have h2 := HGU.out
                split
                · omega
                · exact HP3.out v hv
              · rw [wS_upd (spots_nodup _ _) HKY.out]
                have h1 := HSQ.out β
                rw [Int.mul_add] at h1
                rw [show g3 (p, q) + g u - g3 (p, q) = g u by omega]
                omega
            · go_wp2
              obtain rfl : n = 0 := by omega
              refine ⟨⟨_, cnt', g3, HX4, HM4, HP3, ⟨fun β => ?_⟩, HK4⟩, ?_⟩
              · have h1 := HS3.out β
                rw [sumF, Int.mul_zero, Int.add_zero] at h1
                rw [h1, HS2.out β]
                exact (HST.out (fun v => g v * opB sq fc ov l mk β v)).symm
              · have h1 := HX4.out.left_eq
                have h2 := HXE.out
                have h3 := HLE.out
                omega
        · refine ⟨⟨i + 1, wA.heap.size, g2, rfl, by go_num, by omega, HM2, HP2, ⟨fun β => ?_⟩, HK2, HB2L⟩, by simp [intOf]; omega⟩
          rw [HS2.out β, wS_congr (g := fun u => g u * opB sq fc ov l mk β u) (fun u hu => by rw [HDN.out u hu]; simp), HS.out]
          rfl
    · obtain ⟨wA, rfl⟩ : ∃ wA, wA = wr := ⟨_, rfl⟩
      obtain rfl : i = T := by have := HTI.out; omega
      have HRA := Aside0.mk (HRE.out i (Nat.le_refl _))
      have HRB := Aside0.mk (i_rep ((List.range (μ i + 1)).map Int.ofNat) (fun u hu => by
        obtain ⟨v, hv, rfl⟩ := List.mem_map.1 hu
        have := List.mem_range.1 hv
        have := HMU.out i (Nat.le_refl _)
        exact WalkArith.wf_i64 (by simp; omega)))
      have HMA := Aside0.mk (HM.out.alloc (.map #[] 0))
      go_wp2_with (at_range; refine wpList_cmap_range rfl (.tmp 61) 202 rfl HRA.out Try.underlying202 g _ b rfl HMA.out ?_; intro w2 left cnt hrg hz hg2 hs2)
      try go_frame
      obtain ⟨r, hr0⟩ : ∃ r, r = (wA.alloc (.map #[] 0)).heap.size := ⟨_, rfl⟩
      rw [← hr0] at hrg
      try rw [← hr0]
      have hbA := HM.out.lt
      have hsA := World.size_alloc wA (.map #[] 0)
      have hrA : r = wA.heap.size + 1 := hr0.trans hsA
      try rw [← hrA]
      have hBw : Below (wA.alloc (.map #[] 0)).heap.size (wA.alloc (.map #[] 0)) w2 := ⟨hg2.os, hg2.tape, hg2.output, hg2.size, fun k hk => hg2.block k hk (by simp)⟩
      have HRL := Aside0.mk (show w.heap.size + 2 ≤ r by have := HBL.out; omega)
      have HB2L := Aside0.mk (show w.heap.size + 2 ≤ wA.heap.size by have := HBL.out; omega)
      have HN1 := Aside0.mk (show some wA.heap.size ≠ some r by simp; omega)
      have HN2 := Aside0.mk (show some b ≠ some wA.heap.size by simp; omega)
      have HN3 := Aside0.mk (show some r ≠ some wA.heap.size by simp; omega)
      have HX := Aside0.mk hrg
      have HM2 := Aside0.mk (((cmap_made (P := Try.prog) (k := 3) (kl := Lit.int .i64) (U := (List.range (μ i + 1)).map Int.ofNat) wA).below hBw).tight HRB.out)
      have HS2 := Aside0.mk (show ∀ q : Int, (fun _ => (0 : Int)) q = wS (spots sq (μ i)) (fun u => if left u = true then 0 else g u * (if u.1 = sq ∧ u.2 = q then 1 else 0)) from fun q => by
        rw [wS_congr (g := fun _ => 0) (fun u hu => by
          cases hl : left u with
          | true => simp
          | false => simp [hz u hu hl]), wS_zero])
      have HK2 := Aside0.mk ((HK.out.alloc (.map #[] 0)).below hBw)
      have HBN := Aside0.mk (show wS (spots sq (μ i)) (fun v => g v * 1) ≤ 281474976710656 by
        have e4 := HS.out (fun _ => 1)
        have e5 := opI_const (sq := sq) (fc := fc) (ov := ov) (l := l) (mk := mk) (by omega) i 1 (by omega) fr
        have e6 := p16 (fc := fc) (by omega) (by omega) hT
        omega)
      clear hr0 hrg hz hg2 hs2 hBw hsA hrA hbA HMA HK HM HBL
      go_loopw [16] (fun _ wr => ∃ (left : Int × Int → Bool) (cnt : Nat) (h : Int → Int), Aside0 (crange Try.prog 181 gkl (spots sq (μ i)) g left cnt (spots sq (μ i)).length b r wr) ∧ Aside0 (cmap Try.prog 3 (Lit.int .i64) ((List.range (μ i + 1)).map Int.ofNat) h ((List.range (μ i + 1)).map Int.ofNat).length wA.heap.size wr) ∧ Aside0 (∀ q, h q = wS (spots sq (μ i)) (fun u => if left u = true then 0 else g u * (if u.1 = sq ∧ u.2 = q then 1 else 0))) ∧ Aside0 (GK sq fc ov A c l fr w wr)) (fun _ wr => wr.rangeLeft b r)
      case atStart => exact ⟨left, cnt, _, HX, HM2, HS2, HK2⟩
      case round =>
        clear HX HM2 HS2 HK2
        obtain ⟨left, cnt, h, HX, HM2, HS2, HK2⟩ := hrel
        go_wp2_with (first
          | (at_next; refine wpList_cmap_next rfl (.tmp 62) rfl HRA.out g left cnt _ b r rfl HX.out ?d2 ?m2; (case' d2 => intro hdone; have HDN := Aside0.mk hdone; clear hdone); (case' m2 => intro u hu hl w3 cnt' hrg' hlt' hg3 hs3 hen; have HX3 := Aside0.mk hrg'; have HM3 := Aside0.mk ((HM2.out.kept hg3 HN1.out).alloc (.cells #[.int .i64 u.1, .int .i64 u.2] 181)); have HK3 := Aside0.mk (HK2.out.grown hg3 HRL.out); have HU := Aside0.mk hu; have HL := Aside0.mk hl; have HLE := Aside0.mk (show cnt' < cnt from hlt'); have HST := Aside0.mk (fun F => wS_left (spots_nodup sq (μ i)) hu left hl F); have HXE := Aside0.mk HX.out.left_eq; clear hrg' hu hl hlt' hg3 hs3; (have z0 : (w3.alloc (.cells #[.int .i64 u.1, .int .i64 u.2] 181)).cell? ⟨w.heap.size, 0, none⟩ = some (.int .i64 sq) := (blk_cell (blk_alloc HK3.out.kb _) 0).trans rfl); (have z1 : (w3.alloc (.cells #[.int .i64 u.1, .int .i64 u.2] 181)).cell? ⟨w.heap.size + 1, 0, none⟩ = some (.int .i64 fr.1) := (blk_cell (blk_alloc HK3.out.kf _) 0).trans rfl); (have HU3 := Aside0.mk (spots_mark (by omega) HU.out)); (have HAD : u.1 = sq → 0 ≤ h u.2 ∧ h u.2 + g u ≤ 281474976710656 := games_bd sq (μ i) u left g h HU.out HP.out HS2.out HST.out HBN.out); (rcases Bool.eq_false_or_eq_true (u.1 == sq) with hq | hq); (focus (obtain ⟨hk1, hk2⟩ := HAD (by simpa using hq); clear HAD; (rcases Bool.eq_false_or_eq_true (decide ((0 : Int) < tI)) with hi0 | hi0); (focus skip); (focus (rcases Bool.eq_false_or_eq_true (fr.1 == sq) with hf0 | hf0))))))
          | (at_lookup; refine wpList_cmap_look rfl (.tmp 84) (.tmp 86) 178 rfl HRB.out Try.underlying178 h _ wA.heap.size rfl HM3.out HU3.out rfl ?_)
          | (at_mapUpdate; have HGU := HP.out u HU.out; have hsx := (i64_w (h u.2 + g u)).symm.trans (IntWalk.i64_in (h u.2 + g u) (by omega)); refine wpList_cmap_put rfl (.tmp 84) (.tmp 86) (.tmp 89) 178 (Or.inl rfl) HRB.out Try.underlying178 h _ wA.heap.size (Nat.lt_of_le_of_lt (marks_len (HMU.out i (Nat.le_refl _))) (by decide)) rfl HM3.out HU3.out rfl (congrArg (Value.int .i64) hsx) (WalkArith.wf_i64 (by omega)) ?_; intro w4 hm4 hg4))
        iterate 3
          · have HE : u.1 = sq := by simpa using hq
            have HM5 := Aside0.mk (hm4.tight HRB.out)
            have HX5 := Aside0.mk ((HX3.out.alloc (.cells #[.int .i64 u.1, .int .i64 u.2] 181)).kept hg4 HN2.out HN3.out)
            have HK5 := Aside0.mk ((HK3.out.alloc (.cells #[.int .i64 u.1, .int .i64 u.2] 181)).grown hg4 HB2L.out)
            clear hm4 hg4
            simp only [Act.put]
            go_big_round
            refine ⟨⟨_, cnt', _, HX5, HM5, ⟨fun q => ?_⟩, HK5⟩, ?_⟩
            · have h1 := HS2.out q
              have h2 := HST.out (fun v => g v * (if v.1 = sq ∧ v.2 = q then 1 else 0))
              refine Eq.trans ?_ h2.symm
              rw [← h1]
              unfold upd
              by_cases hqq : q = u.2
              · subst hqq
                simp [HE]
              · simp [hqq, Ne.symm hqq]
            · have h1 := HX5.out.left_eq
              have h2 := HXE.out
              have h3 := HLE.out
              omega
        · have HE : u.1 = sq := by simpa using hq
          have HF1 : ¬ fr.1 = sq := by simpa using (by assumption : (fr.1 == sq) = false)
          have hi1 : ¬ (0 : Int) < tI := by simpa using hi0
          have hi2 : i = 0 := by have := HTI.out; omega
          have HG0 : g u = 0 := by
            have h1 := HS.out (fun v => if v = u then 1 else 0)
            have h2 := wS_one (spots_nodup sq (μ i)) HU.out (g u)
            rw [wS_congr (g := fun v => if v = u then g u else 0) (fun v _ => by
              by_cases e : v = u
              · simp [e]
              · simp [e]), h2, hi2] at h1
            rw [h1, opI]
            rw [if_neg (fun e => HF1 (by rw [e]; exact HE))]
          refine ⟨⟨_, cnt', h, ⟨HX3.out.alloc _⟩, HM3, ⟨fun q => ?_⟩, ⟨HK3.out.alloc _⟩⟩, ?_⟩
          · have h1 := HS2.out q
            have h2 := HST.out (fun v => g v * (if v.1 = sq ∧ v.2 = q then 1 else 0))
            rw [h1]
            refine Eq.trans ?_ h2.symm
            simp [HG0]
          · have h1 := (HX3.out.alloc (.cells #[.int .i64 u.1, .int .i64 u.2] 181)).left_eq
            have h2 := HXE.out
            have h3 := HLE.out
            omega
        · have HE : ¬ u.1 = sq := by simpa using hq
          refine ⟨⟨_, cnt', h, ⟨HX3.out.alloc _⟩, HM3, ⟨fun q => ?_⟩, ⟨HK3.out.alloc _⟩⟩, ?_⟩
          · have h1 := HS2.out q
            have h2 := HST.out (fun v => g v * (if v.1 = sq ∧ v.2 = q then 1 else 0))
            rw [h1]
            refine Eq.trans ?_ h2.symm
            simp [HE]
          · have h1 := (HX3.out.alloc (.cells #[.int .i64 u.1, .int .i64 u.2] 181)).left_eq
            have h2 := HXE.out
            have h3 := HLE.out
            omega
        · go_ret
          refine ⟨_, rfl, ?_, HK2.out.bw⟩
          have hlen : ((List.range (μ i + 1)).map Int.ofNat).length = μ i + 1 := by simp
          have h9 := HM2.out
          rw [hlen] at h9
          refine h9.congr fun q hq => ?_
          rw [HS2.out q, ← HS.out (fun u => if u.1 = sq ∧ u.2 = q then 1 else 0)]
          exact (wS_congr (fun u hu => by rw [HDN.out u hu]; rfl)).symm
end Go.Proofs.Ytgahigmpcgfbeaa.P
end

section
namespace Go.Proofs.Ytgahigmpcgfbeaa.P
set_option linter.unusedVariables false
set_option linter.unusedSimpArgs false
open Go Go.RowKit Go.Proofs.YtgahigmpcgfbeaaW.PrintWords Go.Proofs.YtgahigmpcgfbeaaW.PrintLast Go.Proofs.YtgahigmpcgfbeaaW.PrintMore
theorem unmarked_mark (u : Int × Int) (x : Int) (w : World) : Calls Try.prog 272 #[gv u, .int .i64 x] w fun e w' => e = .returned (.int .i64 0) ∧ Below w.heap.size w w' := by
  have HB := Aside0.mk (below_alloc (Below.refl w.heap.size w) (.cells #[.int .i64 u.1, .int .i64 u.2] 181))
  go_enter Try.func272, Try.ntmps272
  go_wp2
  go_ret
  first | exact ⟨rfl, Below.refl _ _⟩ | exact ⟨rfl, HB.out⟩
end Go.Proofs.Ytgahigmpcgfbeaa.P
end

section
namespace Go.Proofs.Ytgahigmpcgfbeaa.P
open Go.RowKit Go.Proofs.YtgahigmpcgfbeaaW.PrintWords Go.Proofs.YtgahigmpcgfbeaaW.PrintLast Go.Proofs.YtgahigmpcgfbeaaW.PrintMore
attribute [local go_sem] max2_int min2_int max_two min_two max_three min_three max_four min_four
set_option linter.unusedVariables false
set_option linter.unusedSimpArgs false
def impl_Board_countGames.f (sq fc ov : Int) (l : List S126) (square t : Int) : Option Int :=
  if bOK sq fc ov l = true ∧ 0 ≤ t ∧ t ≤ 16 ∧ 0 ≤ square ∧ square ≤ sq then some (opI sq fc ov l (fun _ _ => 0) t.toNat (fun u => if u.1 = sq ∧ u.2 = 0 then 1 else 0) (square, 0)) else none
set_option maxHeartbeats 4000000 in
set_option maxRecDepth 100000 in
theorem impl_Board_countGames.calls (sq fc ov : Int) (A : Option Addr) (c : Nat) (l : List S126) (square t : Int) (r : Int) (w : World) (hr : Kd.C k126 w A l.length l) (hc : l.length ≤ c) (h : impl_Board_countGames.f sq fc ov l square t = some r) :
    Calls Try.prog 163 #[.agg #[.int .i64 sq, .int .i64 fc, .int .i64 ov, .slice A l.length c], .int .i64 square, .int .i64 t] w fun e w' => e = .returned (.int .i64 r) ∧ Below w.heap.size w w' := by
  unfold impl_Board_countGames.f at h
  split at h
  case isFalse => simp at h
  rename_i hh
  obtain ⟨hbd, ht0, ht1, hs0, hs1⟩ := hh
  have h := Option.some.inj h
  have hb := bOK_J hbd
  obtain ⟨T, rfl⟩ : ∃ T : Nat, t = (T : Int) := ⟨t.toNat, by omega⟩
  obtain ⟨tI, htI⟩ : ∃ tI : Int, tI = (T : Int) := ⟨_, rfl⟩
  rw [← htI]
  rw [show ((T : Int)).toNat = T by omega] at h
  have HH := Aside0.mk h
  have HT := Aside0.mk htI
  have HR := Aside0.mk hr
  have HCc := Aside0.mk hc
  have HT1 := Aside0.mk (show T ≤ 16 by omega)
  have HFR := Aside0.mk (show ((square, 0) : Int × Int) ∈ spots sq 0 from (mem_spots (by omega)).2 ⟨⟨hs0, hs1⟩, ⟨by show (0 : Int) ≤ 0; decide, by show (0 : Int) ≤ ((0 : Nat) : Int); decide⟩⟩)
  have HGC := Aside0.mk (fun (W0 : World) (hbw : Below w.heap.size w W0) =>
    games_calls sq fc ov tI A c l (fun _ => 0) T (square, 0) (fun _ _ => 0) 272 _ #[] W0 htI hbd (fun _ _ => by decide) HT1.out HFR.out
      (fun i u x _ hu _ _ => ⟨by decide, by decide⟩)
      Try.func272 (by kernel_rfl) (by kernel_rfl)
      (fun i W u x _ hW hu hx1 hx2 => unmarked_mark u x W)
      (Kd.C_below HR.out hbw) HCc.out)
  clear h hr hc htI
  have HRB := Aside0.mk (i_rep ((List.range (0 + 1)).map Int.ofNat) (fun u hu => by
    obtain ⟨v, hv, rfl⟩ := List.mem_map.1 hu
    have := List.mem_range.1 hv
    exact WalkArith.wf_i64 (by simp; omega)))
  have HU1 := Aside0.mk (show (0 : Int) ∈ (List.range (0 + 1)).map Int.ofNat by decide)
  have HBW := Aside0.mk (below_alloc (Below.refl w.heap.size w) (.cells #[.int .i64 sq, .int .i64 fc, .int .i64 ov, .slice A l.length c] 31))
  go_enter Try.func163, Try.ntmps163
  go_wp2_with (first
    | (go_at_call 271; refine (HGC.out _ HBW.out).mono ?_; rintro e w1 ⟨b, rfl, hm, hb1⟩; have HM := Aside0.mk hm; have HBE := Aside0.mk (HBW.out.trans (hb1.mono HBW.out.size)); clear hm hb1)
    | (at_lookup; refine wpList_cmap_look rfl _ _ 178 rfl HRB.out Try.underlying178 _ _ b rfl HM.out HU1.out rfl ?_))
  go_ret
  exact ⟨by rw [← HH.out]; rfl, HBE.out⟩
end Go.Proofs.Ytgahigmpcgfbeaa.P
end

section
namespace Go.Proofs.Ytgahigmpcgfbeaa.P
set_option linter.unusedVariables false
set_option linter.unusedSimpArgs false
open Go Go.RowKit Go.Proofs.YtgahigmpcgfbeaaW.PrintWords Go.Proofs.YtgahigmpcgfbeaaW.PrintLast Go.Proofs.YtgahigmpcgfbeaaW.PrintMore
attribute [local go_sem] max2_int min2_int max_two min_two max_three min_three max_four min_four
def mkO (sq ov : Int) (l : List S126) (square : Int) (u : Int × Int) (x : Int) : Int := if thr sq ov l u.1 x = square then 1 else u.2
set_option maxHeartbeats 4000000 in
set_option maxRecDepth 100000 in
theorem over_mark (sq fc ov : Int) (A : Option Addr) (c : Nat) (l : List S126) (square : Int) (u : Int × Int) (x : Int) (bb bs : Nat) (w : World)
    (hbd : bOK sq fc ov l = true) (h0 : 0 ≤ u.1) (h1 : u.1 ≤ sq) (hx : 1 ≤ x) (hx2 : x ≤ fc)
    (hkb : w.heap[bb]? = some (.cells #[.int .i64 sq, .int .i64 fc, .int .i64 ov, .slice A l.length c] 31 (0, 0))) (hks : w.heap[bs]? = some (.cells #[.int .i64 square] 3 (0, 0)))
    (hr : Kd.C k126 w A l.length l) (hc : l.length ≤ c) :
    Calls Try.prog 273 #[gv u, .int .i64 x, .pointer (some ⟨bb, 0, none⟩), .pointer (some ⟨bs, 0, none⟩)] w fun e w' => e = .returned (.int .i64 (mkO sq ov l square u x)) ∧ Below w.heap.size w w' := by
  have hb := bOK_J hbd
  have himp := impl_thr hbd (s := u.1) (f := x) h0 h1 hx (by omega)
  have HGL := Aside0.mk (show mkO sq ov l square u x = if thr sq ov l u.1 x = square then 1 else u.2 from rfl)
  obtain ⟨r, hr1⟩ : ∃ r, mkO sq ov l square u x = r := ⟨_, rfl⟩
  obtain ⟨p, hp⟩ : ∃ p, thr sq ov l u.1 x = p := ⟨_, rfl⟩
  simp only [hr1, hp] at himp HGL
  rw [hr1]
  have HIM := Aside0.mk himp
  have HR := Aside0.mk hr
  have HCc := Aside0.mk hc
  have HB := Aside0.mk (below_alloc (Below.refl w.heap.size w) (.cells #[.int .i64 u.1, .int .i64 u.2] 181))
  have HKB := Aside0.mk (blk_alloc hkb (.cells #[.int .i64 u.1, .int .i64 u.2] 181))
  have HKS := Aside0.mk (blk_alloc hks (.cells #[.int .i64 u.1, .int .i64 u.2] 181))
  have HKU := Aside0.mk (blk_new w (.cells #[.int .i64 u.1, .int .i64 u.2] 181))
  clear hr1 hp himp hr hc hkb hks
  rcases Bool.eq_false_or_eq_true (p == square) with hq | hq
  all_goals
    have HQ := Aside0.mk hq
    go_enter Try.func273, Try.ntmps273
    go_wp2
    refine start_ (n := 7) (S := fun w' => w'.cell? ⟨bb, 0, none⟩ = some (.int .i64 sq) ∧ w'.cell? ⟨bb, 1, none⟩ = some (.int .i64 fc) ∧ w'.cell? ⟨bb, 2, none⟩ = some (.int .i64 ov) ∧ w'.cell? ⟨bb, 3, none⟩ = some (.slice A l.length c) ∧ w'.cell? ⟨bs, 0, none⟩ = some (.int .i64 square) ∧ w'.cell? ⟨w.heap.size, 0, none⟩ = some (.int .i64 u.1) ∧ w'.cell? ⟨w.heap.size, 1, none⟩ = some (.int .i64 u.2)) (ds := []) #[false, false, false, false, false, false, false] (by kernel_rfl) rfl rfl ⟨(blk_cell (blk_drew HKB.out) 0).trans rfl, (blk_cell (blk_drew HKB.out) 1).trans rfl, (blk_cell (blk_drew HKB.out) 2).trans rfl, (blk_cell (blk_drew HKB.out) 3).trans rfl, (blk_cell (blk_drew HKS.out) 0).trans rfl, (blk_cell (blk_drew HKU.out) 0).trans rfl, (blk_cell (blk_drew HKU.out) 1).trans rfl⟩ (fun hHeld => ?_)
    refine pure_ (i := 1) (N := some 8) (v := ?_) (a' := ?_) #[false, true, false, false, false, false, false] rfl rfl (by kernel_rfl) (fun _ _ _ h => h) (Or.inl ⟨by rfl, ?_⟩) ?_ ?_
    rotate_left
    · intro w'
      go_simp
      with_reducible rfl
    rotate_left
    · simp only [Act.put, List.setIfInBounds_toArray, List.set_cons_zero, List.set_cons_succ, i64_w, i32_w]
      rfl
    refine pure_ (i := 3) (N := some 10) (v := ?_) (a' := ?_) #[false, true, false, true, false, false, false] rfl rfl (by kernel_rfl) (fun _ _ _ h => h) (Or.inl ⟨by rfl, ?_⟩) ?_ ?_
    rotate_left
    · intro w'
      go_simp
      with_reducible rfl
    rotate_left
    · simp only [Act.put, List.setIfInBounds_toArray, List.set_cons_zero, List.set_cons_succ, i64_w, i32_w]
      rfl
    refine take_ (i := 0) (N := some 7) (v := ?_) (a' := ?_) #[true, true, false, true, false, false, false] rfl rfl (by kernel_rfl) (fun _ _ _ h => h) (Or.inl ⟨by rfl, ?_⟩) hHeld ?_ ?_
    rotate_left
    · rintro w' ⟨s0, s1, s2, s3, s4, s5, s6⟩
      go_simp
      with_reducible rfl
    rotate_left
    · simp only [Act.put, List.setIfInBounds_toArray, List.set_cons_zero, List.set_cons_succ, i64_w, i32_w]
      rfl
    refine take_ (i := 2) (N := some 9) (v := ?_) (a' := ?_) #[true, true, true, true, false, false, false] rfl rfl (by kernel_rfl) (fun _ _ _ h => h) (Or.inl ⟨by rfl, ?_⟩) hHeld ?_ ?_
    rotate_left
    · rintro w' ⟨s0, s1, s2, s3, s4, s5, s6⟩
      go_simp
      with_reducible rfl
    rotate_left
    · simp only [Act.put, List.setIfInBounds_toArray, List.set_cons_zero, List.set_cons_succ, i64_w, i32_w]
      rfl
    refine take_ (i := 5) (N := some 12) (v := ?_) (a' := ?_) #[true, true, true, true, false, true, false] rfl rfl (by kernel_rfl) (fun _ _ _ h => h) (Or.inl ⟨by rfl, ?_⟩) hHeld ?_ ?_
    rotate_left
    · rintro w' ⟨s0, s1, s2, s3, s4, s5, s6⟩
      go_simp
      with_reducible rfl
    rotate_left
    · simp only [Act.put, List.setIfInBounds_toArray, List.set_cons_zero, List.set_cons_succ, i64_w, i32_w]
      rfl
    refine one_ (i := 4) (N := some 11) #[true, true, true, true, true, true, false] rfl rfl (by kernel_rfl) (by decide) (fun K hK => ?_)
    refine goes_ Try.func185 (by kernel_rfl) rfl #[.agg #[.int .i64 sq, .int .i64 fc, .int .i64 ov, .slice A l.length c], .int .i64 u.1, .int .i64 x] (by rfl) rfl rfl (by simp only [List.map_toArray, List.map_cons, List.map_nil]; rfl) ?_
    with_reducible refine (impl_Board_throw.calls sq fc ov A c l u.1 x p _ (Kd.C_below HR.out (below_drew HB.out)) HCc.out HIM.out).mono ?_
    rintro e w4 ⟨rfl, hb4⟩
    refine ⟨_, rfl, ?_⟩
    refine hK.out _ _ ⟨(blk_cell (blk_below (blk_drew HKB.out) hb4) 0).trans rfl, (blk_cell (blk_below (blk_drew HKB.out) hb4) 1).trans rfl, (blk_cell (blk_below (blk_drew HKB.out) hb4) 2).trans rfl, (blk_cell (blk_below (blk_drew HKB.out) hb4) 3).trans rfl, (blk_cell (blk_below (blk_drew HKS.out) hb4) 0).trans rfl, (blk_cell (blk_below (blk_drew HKU.out) hb4) 0).trans rfl, (blk_cell (blk_below (blk_drew HKU.out) hb4) 1).trans rfl⟩ (fun hHeld => ?_)
    clear hK K
    refine norm_ (a' := ?_) ?_ ?_
    rotate_left
    · show Act.put _ (some 11) _ = _
      simp only [Act.put, List.setIfInBounds_toArray, List.set_cons_zero, List.set_cons_succ, i64_w, i32_w]
      rfl
    refine pure_ (i := 6) (N := some 13) (v := ?_) (a' := ?_) #[true, true, true, true, true, true, true] rfl rfl (by kernel_rfl) (fun _ _ _ h => h) (Or.inl ⟨by rfl, ?_⟩) ?_ ?_
    rotate_left
    · intro w'
      go_simp
      with_reducible rfl
    rotate_left
    · simp only [Act.put, List.setIfInBounds_toArray, List.set_cons_zero, List.set_cons_succ, i64_w, i32_w]
      rfl
    refine done_ (by kernel_rfl) ?_
    have z0 : w4.cell? ⟨w.heap.size, 1, none⟩ = some (.int .i64 u.2) := (blk_cell (blk_below (blk_drew HKU.out) hb4) 1).trans rfl
    have HBE := Aside0.mk ((below_drew HB.out).trans (hb4.mono (below_drew HB.out).size))
    clear hb4
    go_wp2
    go_ret
    refine ⟨?_, HBE.out⟩
    rw [HGL.out]
    first
      | (rw [if_pos (by simpa using HQ.out)]; rfl)
      | (rw [if_neg (by simpa using HQ.out)]; rfl)
end Go.Proofs.Ytgahigmpcgfbeaa.P
end

section
namespace Go.Proofs.Ytgahigmpcgfbeaa.P
open Go.RowKit Go.Proofs.YtgahigmpcgfbeaaW.PrintWords Go.Proofs.YtgahigmpcgfbeaaW.PrintLast Go.Proofs.YtgahigmpcgfbeaaW.PrintMore
attribute [local go_sem] max2_int min2_int max_two min_two max_three min_three max_four min_four
set_option linter.unusedVariables false
set_option linter.unusedSimpArgs false
def impl_Board_over.f (sq fc ov : Int) (l : List S126) (t square : Int) : Option Int :=
  if bOK sq fc ov l = true ∧ 0 ≤ t ∧ t ≤ 16 then some (opI sq fc ov l (mkO sq ov l square) t.toNat (fun u => if u.1 = sq ∧ u.2 = 1 then 1 else 0) (0, if square = 0 then 1 else 0)) else none
set_option maxHeartbeats 4000000 in
set_option maxRecDepth 100000 in
theorem impl_Board_over.calls (sq fc ov : Int) (A : Option Addr) (c : Nat) (l : List S126) (t square : Int) (r : Int) (w : World) (hr : Kd.C k126 w A l.length l) (hc : l.length ≤ c) (h : impl_Board_over.f sq fc ov l t square = some r) :
    Calls Try.prog 165 #[.agg #[.int .i64 sq, .int .i64 fc, .int .i64 ov, .slice A l.length c], .int .i64 t, .int .i64 square] w fun e w' => e = .returned (.int .i64 r) ∧ Below w.heap.size w w' := by
  unfold impl_Board_over.f at h
  split at h
  case isFalse => simp at h
  rename_i hh
  obtain ⟨hbd, ht0, ht1⟩ := hh
  have h := Option.some.inj h
  have hb := bOK_J hbd
  obtain ⟨T, rfl⟩ : ∃ T : Nat, t = (T : Int) := ⟨t.toNat, by omega⟩
  obtain ⟨tI, htI⟩ : ∃ tI : Int, tI = (T : Int) := ⟨_, rfl⟩
  rw [← htI]
  rw [show ((T : Int)).toNat = T by omega] at h
  have HH := Aside0.mk h
  have HT := Aside0.mk htI
  have HR := Aside0.mk hr
  have HCc := Aside0.mk hc
  have HT1 := Aside0.mk (show T ≤ 16 by omega)
  obtain ⟨m0, hm0⟩ : ∃ m0 : Int, m0 = if square = 0 then 1 else 0 := ⟨_, rfl⟩
  have HM0 := Aside0.mk hm0
  have HFR := Aside0.mk (show ((0, m0) : Int × Int) ∈ spots sq 1 from (mem_spots (by omega)).2 ⟨⟨by omega, by show (0 : Int) ≤ sq; omega⟩, ⟨by show (0 : Int) ≤ m0; rw [hm0]; split <;> omega, by show m0 ≤ ((1 : Nat) : Int); rw [hm0]; split <;> omega⟩⟩)
  have HGC := Aside0.mk (fun (bb bs : Nat) (W0 : World) (hkb : W0.heap[bb]? = some (.cells #[.int .i64 sq, .int .i64 fc, .int .i64 ov, .slice A l.length c] 31 (0, 0))) (hks : W0.heap[bs]? = some (.cells #[.int .i64 square] 3 (0, 0))) (hbw : Below w.heap.size w W0) =>
    games_calls sq fc ov tI A c l (fun _ => 1) T (0, m0) (mkO sq ov l square) 273 _ #[.pointer (some ⟨bb, 0, none⟩), .pointer (some ⟨bs, 0, none⟩)] W0 htI hbd (fun _ _ => by decide) HT1.out HFR.out
      (fun i u x _ hu _ _ => by
        have hu := (mem_spots (show 0 ≤ sq by omega)).1 hu
        unfold mkO
        split
        · exact ⟨by decide, by decide⟩
        · exact hu.2)
      Try.func273 (by kernel_rfl) (by kernel_rfl)
      (fun i W u x _ hW hu hx1 hx2 => by
        have hu := (mem_spots (show 0 ≤ sq by omega)).1 hu
        exact over_mark sq fc ov A c l square u x bb bs W hbd hu.1.1 hu.1.2 hx1 hx2 (blk_below hkb hW) (blk_below hks hW) (Kd.C_below HR.out (hbw.trans (hW.mono hbw.size))) HCc.out)
      (Kd.C_below HR.out hbw) HCc.out)
  clear h hr hc htI hm0
  have HRB := Aside0.mk (i_rep ((List.range (1 + 1)).map Int.ofNat) (fun u hu => by
    obtain ⟨v, hv, rfl⟩ := List.mem_map.1 hu
    have := List.mem_range.1 hv
    exact WalkArith.wf_i64 (by simp; omega)))
  have HU1 := Aside0.mk (show (1 : Int) ∈ (List.range (1 + 1)).map Int.ofNat by decide)
  have HKB := Aside0.mk (fun o3 : Obj => blk_alloc (blk_alloc (blk_new w (.cells #[.int .i64 sq, .int .i64 fc, .int .i64 ov, .slice A l.length c] 31)) (.cells #[.int .i64 square] 3)) o3)
  have HKS := Aside0.mk (fun o3 : Obj => show (((w.alloc (.cells #[.int .i64 sq, .int .i64 fc, .int .i64 ov, .slice A l.length c] 31)).alloc (.cells #[.int .i64 square] 3)).alloc o3).heap[w.heap.size + 1]? = some (.cells #[.int .i64 square] 3 (0, 0)) by
    have h1 := blk_alloc (blk_new (w.alloc (.cells #[.int .i64 sq, .int .i64 fc, .int .i64 ov, .slice A l.length c] 31)) (.cells #[.int .i64 square] 3)) o3
    rwa [World.size_alloc] at h1)
  have HBW := Aside0.mk (fun o3 : Obj => below_alloc (below_alloc (below_alloc (Below.refl w.heap.size w) (.cells #[.int .i64 sq, .int .i64 fc, .int .i64 ov, .slice A l.length c] 31)) (.cells #[.int .i64 square] 3)) o3)
  rcases Bool.eq_false_or_eq_true (square == 0) with c1 | c1
  · obtain rfl : m0 = 1 := by have h1 := HM0.out; rwa [if_pos (by simpa using c1)] at h1
    go_enter Try.func165, Try.ntmps165
    go_wp2_with (first
      | (go_at_call 271; refine (HGC.out _ _ _ (HKB.out _) (HKS.out _) (HBW.out _)).mono ?_; rintro e w1 ⟨b, rfl, hm, hb1⟩; have HM := Aside0.mk hm; have HBE := Aside0.mk ((HBW.out _).trans (hb1.mono (HBW.out _).size)); clear hm hb1)
      | (at_lookup; refine wpList_cmap_look rfl _ _ 178 rfl HRB.out Try.underlying178 _ _ b rfl HM.out HU1.out rfl ?_))
    go_ret
    have h1 := HH.out
    rw [← HM0.out] at h1
    exact ⟨by rw [← h1]; rfl, HBE.out⟩
  · obtain rfl : m0 = 0 := by have h1 := HM0.out; rwa [if_neg (by simpa using c1)] at h1
    go_enter Try.func165, Try.ntmps165
    go_wp2_with (first
      | (go_at_call 271; refine (HGC.out _ _ _ (HKB.out _) (HKS.out _) (HBW.out _)).mono ?_; rintro e w1 ⟨b, rfl, hm, hb1⟩; have HM := Aside0.mk hm; have HBE := Aside0.mk ((HBW.out _).trans (hb1.mono (HBW.out _).size)); clear hm hb1)
      | (at_lookup; refine wpList_cmap_look rfl _ _ 178 rfl HRB.out Try.underlying178 _ _ b rfl HM.out HU1.out rfl ?_))
    go_ret
    have h1 := HH.out
    rw [← HM0.out] at h1
    exact ⟨by rw [← h1]; rfl, HBE.out⟩
end Go.Proofs.Ytgahigmpcgfbeaa.P
end

section
namespace Go.Proofs.Ytgahigmpcgfbeaa.P
open Go.RowKit Go.Proofs.YtgahigmpcgfbeaaW.PrintWords Go.Proofs.YtgahigmpcgfbeaaW.PrintLast Go.Proofs.YtgahigmpcgfbeaaW.PrintMore
attribute [local go_sem] max2_int min2_int max_two min_two max_three min_three max_four min_four
set_option linter.unusedVariables false
set_option linter.unusedSimpArgs false
def impl_SureSquares.l0 : Nat → Int → Int → List Int → Int → Int → Int → Int → Int → List (S126) → Option (List Int × Bool)
  | 0, _, _, _, _, _, _, _, _, _ => none
  | k + 1, x1, x6, x7, x21, x22, x180000, x180001, x180002, x180003 => if x22 < x21 then ((impl_Board_isSquare.f x180000 x180001 x180002 x180003 x22).bind fun t185 => (if t185 = true then ((impl_Board_over.f x180000 x180001 x180002 x180003 x1 x22).bind fun t186 => (if t186 = x6 then (if x7.length < 17592186044416 then (impl_SureSquares.l0 k x1 x6 (x7 ++ [x22]) x21 (wrap64 (x22 + 1)) x180000 x180001 x180002 x180003) else (none)) else (impl_SureSquares.l0 k x1 x6 x7 x21 (wrap64 (x22 + 1)) x180000 x180001 x180002 x180003))) else (impl_SureSquares.l0 k x1 x6 x7 x21 (wrap64 (x22 + 1)) x180000 x180001 x180002 x180003))) else (some (x7, true))
def impl_SureSquares.f (k : Nat) (a0_0 : Int) (a0_1 : Int) (a0_2 : Int) (l0_3 : List (S126)) (a1 : Int) : Option (List Int × Bool) := (impl_isGamed.f a0_0 a0_1 a0_2 l0_3 a1).bind fun t180 => (if t180 = true then ((impl_Board_countGames.f a0_0 a0_1 a0_2 l0_3 0 a1).bind fun t181 => (if t181 = 0 then (some (([] : List Int), false)) else (impl_SureSquares.l0 k a1 t181 (([] : List Int)) (wrap64 (a0_0 + 1)) 0 a0_0 a0_1 a0_2 l0_3))) else (some (([] : List Int), false)))
theorem impl_SureSquares.mono_l : ∀ k, (∀ y0 y1 y2 y3 y4 y5 y6 y7 y8, LeO (impl_SureSquares.l0 k y0 y1 y2 y3 y4 y5 y6 y7 y8) (impl_SureSquares.l0 (k + 1) y0 y1 y2 y3 y4 y5 y6 y7 y8))
  | 0 => fun _ _ _ _ _ _ _ _ _ r h => by simp [impl_SureSquares.l0] at h
  | k + 1 => by
    have ih0 := impl_SureSquares.mono_l k
    · intro y0 y1 y2 y3 y4 y5 y6 y7 y8
      unfold impl_SureSquares.l0
      repeat' first
      | (with_reducible exact ih0 _ _ _ _ _ _ _ _ _)
      | (with_reducible exact LeO.refl _)
      | (with_reducible exact LeO.none _)
      | (with_reducible refine LeO.ite ?_ ?_)
      | (with_reducible refine LeO.bind ?_ (fun _ => ?_))
      | exact ih0 _ _ _ _ _ _ _ _ _
      | exact LeO.none _
      | refine LeO.ite ?_ ?_
      | refine LeO.bind ?_ (fun _ => ?_)
theorem impl_SureSquares.mono : ∀ a0 a1 a2 a3 a4 k, LeO (impl_SureSquares.f k a0 a1 a2 a3 a4) (impl_SureSquares.f (k + 1) a0 a1 a2 a3 a4) := by
  intro a0 a1 a2 a3 a4 k
  have ih0 := impl_SureSquares.mono_l k
  unfold impl_SureSquares.f
  repeat' first
      | (with_reducible exact ih0 _ _ _ _ _ _ _ _ _)
      | (with_reducible exact LeO.refl _)
      | (with_reducible exact LeO.none _)
      | (with_reducible refine LeO.ite ?_ ?_)
      | (with_reducible refine LeO.bind ?_ (fun _ => ?_))
      | exact ih0 _ _ _ _ _ _ _ _ _
      | exact LeO.none _
      | refine LeO.ite ?_ ?_
      | refine LeO.bind ?_ (fun _ => ?_)
set_option maxHeartbeats 8000000 in
set_option maxRecDepth 100000 in
theorem impl_SureSquares.calls (k : Nat) (a0_0 : Int) (a0_1 : Int) (a0_2 : Int) (A0_3 : Option Addr) (c0_3 : Nat) (l0_3 : List (S126)) (a1 : Int) (r1 : List Int) (r2 : Bool) (w : World) (hr0_3 : Kd.C k126 w A0_3 l0_3.length l0_3) (hc0_3 : l0_3.length ≤ c0_3) (h : impl_SureSquares.f k a0_0 a0_1 a0_2 l0_3 a1 = some (r1, r2)) :
    Calls Try.prog 16 #[.agg #[.int .i64 a0_0, .int .i64 a0_1, .int .i64 a0_2, .slice A0_3 l0_3.length c0_3], .int .i64 a1] w fun e w' => ∃ v0_ : Value, e = .returned (.tuple #[v0_, .bool r2]) ∧ Kd.R (Kd.int .i64) 3 w' w.heap.size (fun _ => True) v0_ r1 ∧ Below w.heap.size w w' := by
  have hu31 := Try.underlying31
  have HR0_3 := Aside0.mk hr0_3
  have HC0_3 := Aside0.mk hc0_3
  clear hr0_3 hc0_3
  have HB := Aside0.mk (Below.refl w.heap.size w)
  have H : ((impl_isGamed.f a0_0 a0_1 a0_2 l0_3 a1).bind fun t180 => (if t180 = true then ((impl_Board_countGames.f a0_0 a0_1 a0_2 l0_3 0 a1).bind fun t181 => (if t181 = 0 then (some (([] : List Int), false)) else (impl_SureSquares.l0 k a1 t181 (([] : List Int)) (wrap64 (a0_0 + 1)) 0 a0_0 a0_1 a0_2 l0_3))) else (some (([] : List Int), false)))) = some (r1, r2) := h
  clear h
  replace H := Option.bind_eq_some_iff.mp H
  obtain ⟨t180, A30, H⟩ := H
  replace H : (if t180 = true then ((impl_Board_countGames.f a0_0 a0_1 a0_2 l0_3 0 a1).bind fun t181 => (if t181 = 0 then (some (([] : List Int), false)) else (impl_SureSquares.l0 k a1 t181 (([] : List Int)) (wrap64 (a0_0 + 1)) 0 a0_0 a0_1 a0_2 l0_3))) else (some (([] : List Int), false))) = some (r1, r2) := H
  have A3 := Aside0.mk A30
  clear A30
  by_cases c4 : t180 = true
  · subst c4
    have H1 : ((impl_Board_countGames.f a0_0 a0_1 a0_2 l0_3 0 a1).bind fun t181 => (if t181 = 0 then (some (([] : List Int), false)) else (impl_SureSquares.l0 k a1 t181 (([] : List Int)) (wrap64 (a0_0 + 1)) 0 a0_0 a0_1 a0_2 l0_3))) = some (r1, r2) := by rw [if_pos rfl] at H; exact H
    clear H
    have H := H1
    clear H1
    replace H := Option.bind_eq_some_iff.mp H
    obtain ⟨t181, A50, H⟩ := H
    replace H : (if t181 = 0 then (some (([] : List Int), false)) else (impl_SureSquares.l0 k a1 t181 (([] : List Int)) (wrap64 (a0_0 + 1)) 0 a0_0 a0_1 a0_2 l0_3)) = some (r1, r2) := H
    have A5 := Aside0.mk A50
    clear A50
    obtain ⟨y182, hy182⟩ : ∃ y_ : List Int, y_ = (([] : List Int)) := ⟨_, rfl⟩
    replace H : (if t181 = 0 then (some (([] : List Int), false)) else (impl_SureSquares.l0 k a1 t181 y182 (wrap64 (a0_0 + 1)) 0 a0_0 a0_1 a0_2 l0_3)) = some (r1, r2) := by first | (rw [hy182]; with_reducible exact H) | (have H2_ := (Option.bind_some _ _).symm.trans H; rw [hy182]; with_reducible exact H2_) | (have H2_ := (Option.bind_some _ _).symm.trans H; with_reducible exact H2_) | with_reducible exact H | (rw [hy182]; exact H) | exact H
    have Ny182 := Aside0.mk hy182
    clear hy182
    by_cases c6 : t181 = 0
    · rw [if_pos c6] at H
      have c6b0 : (t181 == 0) = true := beq_iff_eq.mpr c6
      have c6b1 : (t181 != 0) = false := bne_eq_false_iff_eq.mpr c6
      clear c6
      simp only [Option.some.injEq, Prod.mk.injEq] at H
      obtain ⟨rfl, rfl⟩ := H
      go_enter Try.func16, Try.ntmps16
      go_wp2_with (first | ((with_reducible refine gate_dst (N := 2) rfl ?_); refine box_event ?hg (N := 2) ?hd (cs := #[.int .i64 a0_0, .int .i64 a0_1, .int .i64 a0_2, .slice A0_3 l0_3.length c0_3]) (t := 31) ?hr ?_; (case hd => rfl); (case hg => rfl); (case hr => first | (go_simp; done) | (go_simp; rfl)); intro gb179 hg w7 hbox hb; have n0_ := Aside0.mk (below_step (by repeat (first | (with_reducible first | exact HB.out | apply below_alloc | apply pw_below_drewN | apply below_drew1) | exact HB.out)) hb); have n1_ := Aside0.mk (hbox); have n2_ := Aside0.mk ((by rw [hg]; exact (below_size (by repeat (first | (with_reducible first | exact HB.out | apply below_alloc | apply pw_below_drewN | apply below_drew1) | exact HB.out))) : w.heap.size ≤ gb179)); have n3_ := Aside0.mk ((by rw [hg]; exact (below_size (by repeat (first | (with_reducible first | exact HB.out | apply below_alloc | apply pw_below_drewN | apply below_drew1) | exact HB.out))) : w.heap.size ≤ gb179)); clear HB; have HB := n0_; have BK179 := n1_; have GW179 := n2_; have GE179 := n3_; clear n0_ n1_ n2_ n3_; clear hb hbox hg; have hcz8_0 : w7.cell? ⟨gb179, 0, none⟩ = some (.int .i64 a0_0) := (blk_cell BK179.out 0).trans rfl; have hcz8_1 : w7.cell? ⟨gb179, 1, none⟩ = some (.int .i64 a0_1) := (blk_cell BK179.out 1).trans rfl; have hcz8_2 : w7.cell? ⟨gb179, 2, none⟩ = some (.int .i64 a0_2) := (blk_cell BK179.out 2).trans rfl; have hcz8_3 : w7.cell? ⟨gb179, 3, none⟩ = some (.slice A0_3 l0_3.length c0_3) := (blk_cell BK179.out 3).trans rfl; have hfz8_0 := blk_frozen BK179.out 0; have hfz8_1 := blk_frozen BK179.out 1; have hfz8_2 := blk_frozen BK179.out 2; have hfz8_3 := blk_frozen BK179.out 3) | ((with_reducible refine gate_callee (f := 162) rfl ?_); refine goesL_ (some 11) rfl rfl Try.func162 (by kernel_rfl) rfl #[.agg #[.int .i64 a0_0, .int .i64 a0_1, .int .i64 a0_2, .slice A0_3 l0_3.length c0_3], .int .i64 a1] rfl (by (try simp only [List.map_toArray, List.map_cons, List.map_nil]); first | done | rfl | (simp only [List.length_drop, List.length_take]; rfl)) ?_; (with_reducible refine (impl_isGamed.calls a0_0 a0_1 a0_2 _ _ l0_3 a1 true _ ?side1 ?side2 A3.out).mono ?_); (case side1 => repeat (first | exact (Kd.C_below HR0_3.out HB.out) | (with_reducible refine Kd.C_alloc ?_ _) | (with_reducible refine Kd.C_drewN ?_ _) | (with_reducible refine Kd.C_drew ?_))); (case side2 => exact HC0_3.out); rintro e w9 ⟨rfl, hb⟩; refine ⟨_, rfl, ?_⟩; have n0_ := Aside0.mk (blk_below (g := gb179) (o := .cells #[.int .i64 a0_0, .int .i64 a0_1, .int .i64 a0_2, .slice A0_3 l0_3.length c0_3] 31 (0, 0)) (by (with_reducible repeat (first | refine blk_drewN ?_ _ | refine blk_drew ?_ | refine blk_alloc ?_ _)); exact BK179.out) hb); have n1_ := Aside0.mk (below_step (by repeat (first | (with_reducible first | exact HB.out | apply below_alloc | apply pw_below_drewN | apply below_drew1 | refine below_set ?_ GE179.out) | exact HB.out)) hb); clear BK179; clear HB; have BK179 := n0_; have HB := n1_; clear n0_ n1_; (try clear hb); (try clear hb2); (try clear hk); (try clear hi); have hcz10_0 : w9.cell? ⟨gb179, 0, none⟩ = some (.int .i64 a0_0) := (blk_cell BK179.out 0).trans rfl; have hcz10_1 : w9.cell? ⟨gb179, 1, none⟩ = some (.int .i64 a0_1) := (blk_cell BK179.out 1).trans rfl; have hcz10_2 : w9.cell? ⟨gb179, 2, none⟩ = some (.int .i64 a0_2) := (blk_cell BK179.out 2).trans rfl; have hcz10_3 : w9.cell? ⟨gb179, 3, none⟩ = some (.slice A0_3 l0_3.length c0_3) := (blk_cell BK179.out 3).trans rfl; have hfz10_0 := blk_frozen BK179.out 0; have hfz10_1 := blk_frozen BK179.out 1; have hfz10_2 := blk_frozen BK179.out 2; have hfz10_3 := blk_frozen BK179.out 3) | ((with_reducible refine gate_callee (f := 163) rfl ?_); refine goesL_ (some 15) rfl rfl Try.func163 (by kernel_rfl) rfl #[.agg #[.int .i64 a0_0, .int .i64 a0_1, .int .i64 a0_2, .slice A0_3 l0_3.length c0_3], .int .i64 0, .int .i64 a1] rfl (by (try simp only [List.map_toArray, List.map_cons, List.map_nil]); first | done | rfl | (simp only [List.length_drop, List.length_take]; rfl)) ?_; (with_reducible refine (impl_Board_countGames.calls a0_0 a0_1 a0_2 _ _ l0_3 0 a1 t181 _ ?side1 ?side2 A5.out).mono ?_); (case side1 => repeat (first | exact (Kd.C_below HR0_3.out HB.out) | (with_reducible refine Kd.C_alloc ?_ _) | (with_reducible refine Kd.C_drewN ?_ _) | (with_reducible refine Kd.C_drew ?_))); (case side2 => exact HC0_3.out); rintro e w11 ⟨rfl, hb⟩; refine ⟨_, rfl, ?_⟩; have n0_ := Aside0.mk (blk_below (g := gb179) (o := .cells #[.int .i64 a0_0, .int .i64 a0_1, .int .i64 a0_2, .slice A0_3 l0_3.length c0_3] 31 (0, 0)) (by (with_reducible repeat (first | refine blk_drewN ?_ _ | refine blk_drew ?_ | refine blk_alloc ?_ _)); exact BK179.out) hb); have n1_ := Aside0.mk (below_step (by repeat (first | (with_reducible first | exact HB.out | apply below_alloc | apply pw_below_drewN | apply below_drew1 | refine below_set ?_ GE179.out) | exact HB.out)) hb); clear BK179; clear HB; have BK179 := n0_; have HB := n1_; clear n0_ n1_; (try clear hb); (try clear hb2); (try clear hk); (try clear hi)) | ((with_reducible refine gate_dst (N := 16) rfl ?_); refine Kd.R_lit (Kd.int .i64) _ 3 ?hg (N := 16) ?hd (xs := ([] : List Int)) (inner := []) (ok := fun _ => True) (okp := fun _ => True) ?hr ?hp (fun _ hk => hk) trivial (Below.refl _ _) (Nat.le_refl _) (by simp) ?_; (case hd => rfl); (case hg => rfl); (case hr => first | (go_simp; done) | (go_simp; rfl)); (case hp => exact (Reps.none _ _)); intro v183 w12 ho13 hb hg_ hnew_; clear hg_ hnew_; (first | rw [← Ny182.out] at ho13 | (simp only [Int.reduceToNat] at ho13; rw [← Ny182.out] at ho13)); have n0_ := Aside0.mk (Kd.R_lower ho13 (below_size (by repeat (first | (with_reducible first | exact HB.out | apply below_alloc | apply pw_below_drewN | apply below_drew1 | refine below_set ?_ GE179.out) | exact HB.out)))); have n1_ := Aside0.mk (blk_below (g := gb179) (o := .cells #[.int .i64 a0_0, .int .i64 a0_1, .int .i64 a0_2, .slice A0_3 l0_3.length c0_3] 31 (0, 0)) (by (with_reducible repeat (first | refine blk_drewN ?_ _ | refine blk_drew ?_ | refine blk_alloc ?_ _)); exact BK179.out) hb); have n2_ := Aside0.mk (below_step (by repeat (first | (with_reducible first | exact HB.out | apply below_alloc | apply pw_below_drewN | apply below_drew1 | refine below_set ?_ GE179.out) | exact HB.out)) hb); clear BK179; clear HB; have HO184 := n0_; have BK179 := n1_; have HB := n2_; clear n0_ n1_ n2_; clear hb ho13))
      go_ret2
      exact ⟨_, by first | rfl | (simp [errW_none, errW_some] <;> rfl) | (simp [*, errW_none, errW_some] <;> rfl), by first | exact Kd.R_nil _ _ _ _ _ | exact Kd.N_nil _ _ _ _ _ | exact Kd.V_nil _ _ _ _ _ | exact Kd.Q_nil _ _ _ _ _ | exact Kd.S_nil _ _ _ _ _, by repeat (first | (with_reducible first | exact HB.out | apply below_alloc | apply pw_below_drewN | apply below_drew1 | refine below_set ?_ GE179.out) | exact HB.out)⟩
    · rw [if_neg c6] at H
      have c6b0 : (t181 == 0) = false := beq_eq_false_iff_ne.mpr c6
      have c6b1 : (t181 != 0) = true := bne_iff_ne.mpr c6
      have H' := Aside0.mk H
      clear H
      go_enter Try.func16, Try.ntmps16
      go_wp2_with (first | ((with_reducible refine gate_dst (N := 2) rfl ?_); refine box_event ?hg (N := 2) ?hd (cs := #[.int .i64 a0_0, .int .i64 a0_1, .int .i64 a0_2, .slice A0_3 l0_3.length c0_3]) (t := 31) ?hr ?_; (case hd => rfl); (case hg => rfl); (case hr => first | (go_simp; done) | (go_simp; rfl)); intro gb179 hg w14 hbox hb; have n0_ := Aside0.mk (below_step (by repeat (first | (with_reducible first | exact HB.out | apply below_alloc | apply pw_below_drewN | apply below_drew1) | exact HB.out)) hb); have n1_ := Aside0.mk (hbox); have n2_ := Aside0.mk ((by rw [hg]; exact (below_size (by repeat (first | (with_reducible first | exact HB.out | apply below_alloc | apply pw_below_drewN | apply below_drew1) | exact HB.out))) : w.heap.size ≤ gb179)); have n3_ := Aside0.mk ((by rw [hg]; exact (below_size (by repeat (first | (with_reducible first | exact HB.out | apply below_alloc | apply pw_below_drewN | apply below_drew1) | exact HB.out))) : w.heap.size ≤ gb179)); clear HB; have HB := n0_; have BK179 := n1_; have GW179 := n2_; have GE179 := n3_; clear n0_ n1_ n2_ n3_; clear hb hbox hg; have hcz15_0 : w14.cell? ⟨gb179, 0, none⟩ = some (.int .i64 a0_0) := (blk_cell BK179.out 0).trans rfl; have hcz15_1 : w14.cell? ⟨gb179, 1, none⟩ = some (.int .i64 a0_1) := (blk_cell BK179.out 1).trans rfl; have hcz15_2 : w14.cell? ⟨gb179, 2, none⟩ = some (.int .i64 a0_2) := (blk_cell BK179.out 2).trans rfl; have hcz15_3 : w14.cell? ⟨gb179, 3, none⟩ = some (.slice A0_3 l0_3.length c0_3) := (blk_cell BK179.out 3).trans rfl; have hfz15_0 := blk_frozen BK179.out 0; have hfz15_1 := blk_frozen BK179.out 1; have hfz15_2 := blk_frozen BK179.out 2; have hfz15_3 := blk_frozen BK179.out 3) | ((with_reducible refine gate_callee (f := 162) rfl ?_); refine goesL_ (some 11) rfl rfl Try.func162 (by kernel_rfl) rfl #[.agg #[.int .i64 a0_0, .int .i64 a0_1, .int .i64 a0_2, .slice A0_3 l0_3.length c0_3], .int .i64 a1] rfl (by (try simp only [List.map_toArray, List.map_cons, List.map_nil]); first | done | rfl | (simp only [List.length_drop, List.length_take]; rfl)) ?_; (with_reducible refine (impl_isGamed.calls a0_0 a0_1 a0_2 _ _ l0_3 a1 true _ ?side1 ?side2 A3.out).mono ?_); (case side1 => repeat (first | exact (Kd.C_below HR0_3.out HB.out) | (with_reducible refine Kd.C_alloc ?_ _) | (with_reducible refine Kd.C_drewN ?_ _) | (with_reducible refine Kd.C_drew ?_))); (case side2 => exact HC0_3.out); rintro e w16 ⟨rfl, hb⟩; refine ⟨_, rfl, ?_⟩; have n0_ := Aside0.mk (blk_below (g := gb179) (o := .cells #[.int .i64 a0_0, .int .i64 a0_1, .int .i64 a0_2, .slice A0_3 l0_3.length c0_3] 31 (0, 0)) (by (with_reducible repeat (first | refine blk_drewN ?_ _ | refine blk_drew ?_ | refine blk_alloc ?_ _)); exact BK179.out) hb); have n1_ := Aside0.mk (below_step (by repeat (first | (with_reducible first | exact HB.out | apply below_alloc | apply pw_below_drewN | apply below_drew1 | refine below_set ?_ GE179.out) | exact HB.out)) hb); clear BK179; clear HB; have BK179 := n0_; have HB := n1_; clear n0_ n1_; (try clear hb); (try clear hb2); (try clear hk); (try clear hi); have hcz17_0 : w16.cell? ⟨gb179, 0, none⟩ = some (.int .i64 a0_0) := (blk_cell BK179.out 0).trans rfl; have hcz17_1 : w16.cell? ⟨gb179, 1, none⟩ = some (.int .i64 a0_1) := (blk_cell BK179.out 1).trans rfl; have hcz17_2 : w16.cell? ⟨gb179, 2, none⟩ = some (.int .i64 a0_2) := (blk_cell BK179.out 2).trans rfl; have hcz17_3 : w16.cell? ⟨gb179, 3, none⟩ = some (.slice A0_3 l0_3.length c0_3) := (blk_cell BK179.out 3).trans rfl; have hfz17_0 := blk_frozen BK179.out 0; have hfz17_1 := blk_frozen BK179.out 1; have hfz17_2 := blk_frozen BK179.out 2; have hfz17_3 := blk_frozen BK179.out 3) | ((with_reducible refine gate_callee (f := 163) rfl ?_); refine goesL_ (some 15) rfl rfl Try.func163 (by kernel_rfl) rfl #[.agg #[.int .i64 a0_0, .int .i64 a0_1, .int .i64 a0_2, .slice A0_3 l0_3.length c0_3], .int .i64 0, .int .i64 a1] rfl (by (try simp only [List.map_toArray, List.map_cons, List.map_nil]); first | done | rfl | (simp only [List.length_drop, List.length_take]; rfl)) ?_; (with_reducible refine (impl_Board_countGames.calls a0_0 a0_1 a0_2 _ _ l0_3 0 a1 t181 _ ?side1 ?side2 A5.out).mono ?_); (case side1 => repeat (first | exact (Kd.C_below HR0_3.out HB.out) | (with_reducible refine Kd.C_alloc ?_ _) | (with_reducible refine Kd.C_drewN ?_ _) | (with_reducible refine Kd.C_drew ?_))); (case side2 => exact HC0_3.out); rintro e w18 ⟨rfl, hb⟩; refine ⟨_, rfl, ?_⟩; have n0_ := Aside0.mk (blk_below (g := gb179) (o := .cells #[.int .i64 a0_0, .int .i64 a0_1, .int .i64 a0_2, .slice A0_3 l0_3.length c0_3] 31 (0, 0)) (by (with_reducible repeat (first | refine blk_drewN ?_ _ | refine blk_drew ?_ | refine blk_alloc ?_ _)); exact BK179.out) hb); have n1_ := Aside0.mk (below_step (by repeat (first | (with_reducible first | exact HB.out | apply below_alloc | apply pw_below_drewN | apply below_drew1 | refine below_set ?_ GE179.out) | exact HB.out)) hb); clear BK179; clear HB; have BK179 := n0_; have HB := n1_; clear n0_ n1_; (try clear hb); (try clear hb2); (try clear hk); (try clear hi)) | ((with_reducible refine gate_dst (N := 16) rfl ?_); refine Kd.R_lit (Kd.int .i64) _ 3 ?hg (N := 16) ?hd (xs := ([] : List Int)) (inner := []) (ok := fun _ => True) (okp := fun _ => True) ?hr ?hp (fun _ hk => hk) trivial (Below.refl _ _) (Nat.le_refl _) (by simp) ?_; (case hd => rfl); (case hg => rfl); (case hr => first | (go_simp; done) | (go_simp; rfl)); (case hp => exact (Reps.none _ _)); intro v183 w19 ho20 hb hg_ hnew_; clear hg_ hnew_; (first | rw [← Ny182.out] at ho20 | (simp only [Int.reduceToNat] at ho20; rw [← Ny182.out] at ho20)); have n0_ := Aside0.mk (Kd.R_lower ho20 (below_size (by repeat (first | (with_reducible first | exact HB.out | apply below_alloc | apply pw_below_drewN | apply below_drew1 | refine below_set ?_ GE179.out) | exact HB.out)))); have n1_ := Aside0.mk (blk_below (g := gb179) (o := .cells #[.int .i64 a0_0, .int .i64 a0_1, .int .i64 a0_2, .slice A0_3 l0_3.length c0_3] 31 (0, 0)) (by (with_reducible repeat (first | refine blk_drewN ?_ _ | refine blk_drew ?_ | refine blk_alloc ?_ _)); exact BK179.out) hb); have n2_ := Aside0.mk (below_step (by repeat (first | (with_reducible first | exact HB.out | apply below_alloc | apply pw_below_drewN | apply below_drew1 | refine below_set ?_ GE179.out) | exact HB.out)) hb); clear BK179; clear HB; have HO184 := n0_; have BK179 := n1_; have HB := n2_; clear n0_ n1_ n2_; clear hb ho20; have hcz21_0 : w19.cell? ⟨gb179, 0, none⟩ = some (.int .i64 a0_0) := (blk_cell BK179.out 0).trans rfl; have hcz21_1 : w19.cell? ⟨gb179, 1, none⟩ = some (.int .i64 a0_1) := (blk_cell BK179.out 1).trans rfl; have hcz21_2 : w19.cell? ⟨gb179, 2, none⟩ = some (.int .i64 a0_2) := (blk_cell BK179.out 2).trans rfl; have hcz21_3 : w19.cell? ⟨gb179, 3, none⟩ = some (.slice A0_3 l0_3.length c0_3) := (blk_cell BK179.out 3).trans rfl; have hfz21_0 := blk_frozen BK179.out 0; have hfz21_1 := blk_frozen BK179.out 1; have hfz21_2 := blk_frozen BK179.out 2; have hfz21_3 := blk_frozen BK179.out 3))
      go_loopg [7, 22] k (fun kq v7 v22 w' => ∃ (x7_1 : List Int) (x22_1 : Int), v22 = .int .i64 x22_1 ∧ Aside0 (impl_SureSquares.l0 kq a1 t181 x7_1 (wrap64 (a0_0 + 1)) x22_1 a0_0 a0_1 a0_2 l0_3 = some (r1, r2)) ∧ Aside0 (kq ≤ k) ∧ Aside0 (Kd.R (Kd.int .i64) 3 w' w.heap.size (fun _ => True) v7 x7_1) ∧ Aside0 (w'.heap[gb179]? = some (.cells #[.int .i64 a0_0, .int .i64 a0_1, .int .i64 a0_2, (.slice A0_3 l0_3.length c0_3)] 31 (0, 0))) ∧ Aside0 (Below w.heap.size w w'))
      case atStart => exact ⟨(y182), (0), (by first | rfl | (simp; done) | (simp [*]; done)), H', ⟨Nat.le_refl _⟩, ⟨by (with_reducible repeat (first | apply Kd.R_alloc | apply Kd.R_drewN | apply Kd.R_drew)); exact HO184.out⟩, ⟨by (with_reducible repeat (first | refine blk_drewN ?_ _ | refine blk_drew ?_ | refine blk_alloc ?_ _)); exact BK179.out⟩, ⟨by repeat (first | (with_reducible first | exact HB.out | apply below_alloc | apply pw_below_drewN | apply below_drew1 | refine below_set ?_ GE179.out) | exact HB.out)⟩⟩
      case round =>
        clear H'
        try clear c1
        try clear p2
        try clear c4
        try clear c6
        try clear c6b0
        try clear c6b1
        try clear p6
        try clear c16
        try clear hcz10_0
        try clear hcz10_1
        try clear hcz10_2
        try clear hcz10_3
        try clear hcz15_0
        try clear hcz15_1
        try clear hcz15_2
        try clear hcz15_3
        try clear hcz17_0
        try clear hcz17_1
        try clear hcz17_2
        try clear hcz17_3
        try clear hcz21_0
        try clear hcz21_1
        try clear hcz21_2
        try clear hcz21_3
        try clear hcz8_0
        try clear hcz8_1
        try clear hcz8_2
        try clear hcz8_3
        try clear hfz10_0
        try clear hfz10_1
        try clear hfz10_2
        try clear hfz10_3
        try clear hfz15_0
        try clear hfz15_1
        try clear hfz15_2
        try clear hfz15_3
        try clear hfz17_0
        try clear hfz17_1
        try clear hfz17_2
        try clear hfz17_3
        try clear hfz21_0
        try clear hfz21_1
        try clear hfz21_2
        try clear hfz21_3
        try clear hfz8_0
        try clear hfz8_1
        try clear hfz8_2
        try clear hfz8_3
        obtain ⟨x7_1, x22_1, rfl, HA, HK1, HO_7, BK179, HB⟩ := hrel
        cases gk with
        | zero => exact absurd HA.out (by simp [impl_SureSquares.l0])
        | succ k1 =>
          have H := HA.out
          clear HA
          simp only [impl_SureSquares.l0] at H
          by_cases c22 : x22_1 < (wrap64 (a0_0 + 1))
          · rw [if_pos c22] at H
            have c22b0 : decide (x22_1 < (wrap64 (a0_0 + 1))) = true := decide_eq_true c22
            clear c22
            replace H := Option.bind_eq_some_iff.mp H
            obtain ⟨t185, A230, H⟩ := H
            replace H : (if t185 = true then ((impl_Board_over.f a0_0 a0_1 a0_2 l0_3 a1 x22_1).bind fun t186 => (if t186 = t181 then (if x7_1.length < 17592186044416 then (impl_SureSquares.l0 k1 a1 t181 (x7_1 ++ [x22_1]) (wrap64 (a0_0 + 1)) (wrap64 (x22_1 + 1)) a0_0 a0_1 a0_2 l0_3) else (none)) else (impl_SureSquares.l0 k1 a1 t181 x7_1 (wrap64 (a0_0 + 1)) (wrap64 (x22_1 + 1)) a0_0 a0_1 a0_2 l0_3))) else (impl_SureSquares.l0 k1 a1 t181 x7_1 (wrap64 (a0_0 + 1)) (wrap64 (x22_1 + 1)) a0_0 a0_1 a0_2 l0_3)) = some (r1, r2) := H
            have A23 := Aside0.mk A230
            clear A230
            by_cases c24 : t185 = true
            · subst c24
              have H1 : ((impl_Board_over.f a0_0 a0_1 a0_2 l0_3 a1 x22_1).bind fun t186 => (if t186 = t181 then (if x7_1.length < 17592186044416 then (impl_SureSquares.l0 k1 a1 t181 (x7_1 ++ [x22_1]) (wrap64 (a0_0 + 1)) (wrap64 (x22_1 + 1)) a0_0 a0_1 a0_2 l0_3) else (none)) else (impl_SureSquares.l0 k1 a1 t181 x7_1 (wrap64 (a0_0 + 1)) (wrap64 (x22_1 + 1)) a0_0 a0_1 a0_2 l0_3))) = some (r1, r2) := by rw [if_pos rfl] at H; exact H
              clear H
              have H := H1
              clear H1
              replace H := Option.bind_eq_some_iff.mp H
              obtain ⟨t186, A250, H⟩ := H
              replace H : (if t186 = t181 then (if x7_1.length < 17592186044416 then (impl_SureSquares.l0 k1 a1 t181 (x7_1 ++ [x22_1]) (wrap64 (a0_0 + 1)) (wrap64 (x22_1 + 1)) a0_0 a0_1 a0_2 l0_3) else (none)) else (impl_SureSquares.l0 k1 a1 t181 x7_1 (wrap64 (a0_0 + 1)) (wrap64 (x22_1 + 1)) a0_0 a0_1 a0_2 l0_3)) = some (r1, r2) := H
              have A25 := Aside0.mk A250
              clear A250
              by_cases c26 : t186 = t181
              · rw [if_pos c26] at H
                have c26b0 : (t186 == t181) = true := beq_iff_eq.mpr c26
                have c26b1 : (t186 != t181) = false := bne_eq_false_iff_eq.mpr c26
                clear c26
                by_cases c27 : x7_1.length < 17592186044416
                · rw [if_pos c27] at H
                  have LMc27 := Aside0.mk c27
                  clear c27
                  obtain ⟨y187, hy187⟩ : ∃ y_ : List Int, y_ = (x7_1 ++ [x22_1]) := ⟨_, rfl⟩
                  replace H : (impl_SureSquares.l0 k1 a1 t181 y187 (wrap64 (a0_0 + 1)) (wrap64 (x22_1 + 1)) a0_0 a0_1 a0_2 l0_3) = some (r1, r2) := by first | (rw [hy187]; with_reducible exact H) | (have H2_ := (Option.bind_some _ _).symm.trans H; rw [hy187]; with_reducible exact H2_) | (have H2_ := (Option.bind_some _ _).symm.trans H; with_reducible exact H2_) | with_reducible exact H | (rw [hy187]; exact H) | exact H
                  have Ny187 := Aside0.mk hy187
                  clear hy187
                  have H' := Aside0.mk H
                  clear H
                  have hcz28_0 : wr.cell? ⟨gb179, 0, none⟩ = some (.int .i64 a0_0) := (blk_cell BK179.out 0).trans rfl
                  have hcz28_1 : wr.cell? ⟨gb179, 1, none⟩ = some (.int .i64 a0_1) := (blk_cell BK179.out 1).trans rfl
                  have hcz28_2 : wr.cell? ⟨gb179, 2, none⟩ = some (.int .i64 a0_2) := (blk_cell BK179.out 2).trans rfl
                  have hcz28_3 : wr.cell? ⟨gb179, 3, none⟩ = some (.slice A0_3 l0_3.length c0_3) := (blk_cell BK179.out 3).trans rfl
                  have hfz28_0 := blk_frozen BK179.out 0
                  have hfz28_1 := blk_frozen BK179.out 1
                  have hfz28_2 := blk_frozen BK179.out 2
                  have hfz28_3 := blk_frozen BK179.out 3
                  go_wp2_with (first | ((with_reducible refine gate_callee (f := 164) rfl ?_); refine goesL_ (some 27) rfl rfl Try.func164 (by kernel_rfl) rfl #[.agg #[.int .i64 a0_0, .int .i64 a0_1, .int .i64 a0_2, .slice A0_3 l0_3.length c0_3], .int .i64 x22_1] rfl (by (try simp only [List.map_toArray, List.map_cons, List.map_nil]); first | done | rfl | (simp only [List.length_drop, List.length_take]; rfl)) ?_; (with_reducible refine (impl_Board_isSquare.calls a0_0 a0_1 a0_2 _ _ l0_3 x22_1 true _ ?side1 ?side2 A23.out).mono ?_); (case side1 => repeat (first | exact (Kd.C_below HR0_3.out HB.out) | (with_reducible refine Kd.C_alloc ?_ _) | (with_reducible refine Kd.C_drewN ?_ _) | (with_reducible refine Kd.C_drew ?_))); (case side2 => exact HC0_3.out); rintro e w29 ⟨rfl, hb⟩; refine ⟨_, rfl, ?_⟩; have n0_ := Aside0.mk (Kd.R_below (by (with_reducible repeat (first | apply Kd.R_alloc | apply Kd.R_drewN | apply Kd.R_drew)); exact HO_7.out) hb); have n1_ := Aside0.mk (blk_below (g := gb179) (o := .cells #[.int .i64 a0_0, .int .i64 a0_1, .int .i64 a0_2, .slice A0_3 l0_3.length c0_3] 31 (0, 0)) (by (with_reducible repeat (first | refine blk_drewN ?_ _ | refine blk_drew ?_ | refine blk_alloc ?_ _)); exact BK179.out) hb); have n2_ := Aside0.mk (below_step (by repeat (first | (with_reducible first | exact HB.out | apply below_alloc | apply pw_below_drewN | apply below_drew1 | refine below_set ?_ GE179.out) | exact HB.out)) hb); clear HO_7; clear BK179; clear HB; have HO_7 := n0_; have BK179 := n1_; have HB := n2_; clear n0_ n1_ n2_; (try clear hb); (try clear hb2); (try clear hk); (try clear hi); have hcz30_0 : w29.cell? ⟨gb179, 0, none⟩ = some (.int .i64 a0_0) := (blk_cell BK179.out 0).trans rfl; have hcz30_1 : w29.cell? ⟨gb179, 1, none⟩ = some (.int .i64 a0_1) := (blk_cell BK179.out 1).trans rfl; have hcz30_2 : w29.cell? ⟨gb179, 2, none⟩ = some (.int .i64 a0_2) := (blk_cell BK179.out 2).trans rfl; have hcz30_3 : w29.cell? ⟨gb179, 3, none⟩ = some (.slice A0_3 l0_3.length c0_3) := (blk_cell BK179.out 3).trans rfl; have hfz30_0 := blk_frozen BK179.out 0; have hfz30_1 := blk_frozen BK179.out 1; have hfz30_2 := blk_frozen BK179.out 2; have hfz30_3 := blk_frozen BK179.out 3) | (go_at_call 165; (with_reducible refine (impl_Board_over.calls a0_0 a0_1 a0_2 _ _ l0_3 a1 x22_1 t186 _ ?side1 ?side2 A25.out).mono ?_); (case side1 => repeat (first | exact (Kd.C_below HR0_3.out HB.out) | (with_reducible refine Kd.C_alloc ?_ _) | (with_reducible refine Kd.C_drewN ?_ _) | (with_reducible refine Kd.C_drew ?_))); (case side2 => exact HC0_3.out); rintro e w31 ⟨rfl, hb⟩; have n0_ := Aside0.mk (Kd.R_below (by (with_reducible repeat (first | apply Kd.R_alloc | apply Kd.R_drewN | apply Kd.R_drew)); exact HO_7.out) hb); have n1_ := Aside0.mk (blk_below (g := gb179) (o := .cells #[.int .i64 a0_0, .int .i64 a0_1, .int .i64 a0_2, .slice A0_3 l0_3.length c0_3] 31 (0, 0)) (by (with_reducible repeat (first | refine blk_drewN ?_ _ | refine blk_drew ?_ | refine blk_alloc ?_ _)); exact BK179.out) hb); have n2_ := Aside0.mk (below_step (by repeat (first | (with_reducible first | exact HB.out | apply below_alloc | apply pw_below_drewN | apply below_drew1 | refine below_set ?_ GE179.out) | exact HB.out)) hb); clear HO_7; clear BK179; clear HB; have HO_7 := n0_; have BK179 := n1_; have HB := n2_; clear n0_ n1_ n2_; (try clear hb); (try clear hb2); (try clear hk); (try clear hi)) | ((with_reducible refine gate_builtin (b := .append) (xs := #[.tmp 36, .tmp 38]) rfl ?_); at_builtin; refine Kd.R_append (Kd.int .i64) (w0 := w) w.heap.size rfl (.tmp 36) (.tmp 38) 26 3 (.int .i64 0) 8 rfl Try.underlying26 info3 rfl (by decide) (by omega) u7 x7_1 x22_1 [.int .i64 x22_1] (fun _ => True) (fun _ => False) rfl rfl ?aP (fun _ hk => hk.elim) ?aF ?aO ?aB ?aS ?aL ?_; (case aP => exact rfl); (case aB => exact (by repeat (first | (with_reducible first | exact HB.out | apply below_alloc | apply pw_below_drewN | apply below_drew1 | refine below_set ?_ GE179.out) | exact HB.out))); (case aF => exact (fun _ _ => trivial)); (case aO => exact (by (with_reducible repeat (first | apply Kd.R_alloc | apply Kd.R_drewN | apply Kd.R_drew)); exact HO_7.out)); (case aS => exact (below_size (by repeat (first | (with_reducible first | exact HB.out | apply below_alloc | apply pw_below_drewN | apply below_drew1 | refine below_set ?_ GE179.out) | exact HB.out)))); (case aL => have := LMc27.out; omega); intro v188 w32 ho hb hg hat; rw [← Ny187.out] at ho; have n0_ := Aside0.mk (blk_grown (g := gb179) (o := .cells #[.int .i64 a0_0, .int .i64 a0_1, .int .i64 a0_2, .slice A0_3 l0_3.length c0_3] 31 (0, 0)) (by (with_reducible repeat (first | refine blk_drewN ?_ _ | refine blk_drew ?_ | refine blk_alloc ?_ _)); exact BK179.out) hg (Kd.R_ne HO_7.out BK179.out (by decide))); have n1_ := Aside0.mk (hb); have n2_ := Aside0.mk (ho); clear BK179; clear HB; clear HO_7; have BK179 := n0_; have HB := n1_; have HO189 := n2_; clear n0_ n1_ n2_; clear ho hb hg hat))
                  go_roundg k1
                  case measure => have := HK1.out; omega
                  case rel => exact ⟨(y187), (wrap64 (x22_1 + 1)), (by first | rfl | (simp; done) | (simp [*]; done)), H', ⟨by have := HK1.out; omega⟩, ⟨by (with_reducible repeat (first | apply Kd.R_alloc | apply Kd.R_drewN | apply Kd.R_drew)); exact HO189.out⟩, ⟨by (with_reducible repeat (first | refine blk_drewN ?_ _ | refine blk_drew ?_ | refine blk_alloc ?_ _)); exact BK179.out⟩, ⟨by repeat (first | (with_reducible first | exact HB.out | apply below_alloc | apply pw_below_drewN | apply below_drew1 | refine below_set ?_ GE179.out) | exact HB.out)⟩⟩
                · rw [if_neg c27] at H
                  exact absurd H (by simp)
              · rw [if_neg c26] at H
                have c26b0 : (t186 == t181) = false := beq_eq_false_iff_ne.mpr c26
                have c26b1 : (t186 != t181) = true := bne_iff_ne.mpr c26
                have H' := Aside0.mk H
                clear H
                have hcz33_0 : wr.cell? ⟨gb179, 0, none⟩ = some (.int .i64 a0_0) := (blk_cell BK179.out 0).trans rfl
                have hcz33_1 : wr.cell? ⟨gb179, 1, none⟩ = some (.int .i64 a0_1) := (blk_cell BK179.out 1).trans rfl
                have hcz33_2 : wr.cell? ⟨gb179, 2, none⟩ = some (.int .i64 a0_2) := (blk_cell BK179.out 2).trans rfl
                have hcz33_3 : wr.cell? ⟨gb179, 3, none⟩ = some (.slice A0_3 l0_3.length c0_3) := (blk_cell BK179.out 3).trans rfl
                have hfz33_0 := blk_frozen BK179.out 0
                have hfz33_1 := blk_frozen BK179.out 1
                have hfz33_2 := blk_frozen BK179.out 2
                have hfz33_3 := blk_frozen BK179.out 3
                go_wp2_with (first | ((with_reducible refine gate_callee (f := 164) rfl ?_); refine goesL_ (some 27) rfl rfl Try.func164 (by kernel_rfl) rfl #[.agg #[.int .i64 a0_0, .int .i64 a0_1, .int .i64 a0_2, .slice A0_3 l0_3.length c0_3], .int .i64 x22_1] rfl (by (try simp only [List.map_toArray, List.map_cons, List.map_nil]); first | done | rfl | (simp only [List.length_drop, List.length_take]; rfl)) ?_; (with_reducible refine (impl_Board_isSquare.calls a0_0 a0_1 a0_2 _ _ l0_3 x22_1 true _ ?side1 ?side2 A23.out).mono ?_); (case side1 => repeat (first | exact (Kd.C_below HR0_3.out HB.out) | (with_reducible refine Kd.C_alloc ?_ _) | (with_reducible refine Kd.C_drewN ?_ _) | (with_reducible refine Kd.C_drew ?_))); (case side2 => exact HC0_3.out); rintro e w34 ⟨rfl, hb⟩; refine ⟨_, rfl, ?_⟩; have n0_ := Aside0.mk (Kd.R_below (by (with_reducible repeat (first | apply Kd.R_alloc | apply Kd.R_drewN | apply Kd.R_drew)); exact HO_7.out) hb); have n1_ := Aside0.mk (blk_below (g := gb179) (o := .cells #[.int .i64 a0_0, .int .i64 a0_1, .int .i64 a0_2, .slice A0_3 l0_3.length c0_3] 31 (0, 0)) (by (with_reducible repeat (first | refine blk_drewN ?_ _ | refine blk_drew ?_ | refine blk_alloc ?_ _)); exact BK179.out) hb); have n2_ := Aside0.mk (below_step (by repeat (first | (with_reducible first | exact HB.out | apply below_alloc | apply pw_below_drewN | apply below_drew1 | refine below_set ?_ GE179.out) | exact HB.out)) hb); clear HO_7; clear BK179; clear HB; have HO_7 := n0_; have BK179 := n1_; have HB := n2_; clear n0_ n1_ n2_; (try clear hb); (try clear hb2); (try clear hk); (try clear hi); have hcz35_0 : w34.cell? ⟨gb179, 0, none⟩ = some (.int .i64 a0_0) := (blk_cell BK179.out 0).trans rfl; have hcz35_1 : w34.cell? ⟨gb179, 1, none⟩ = some (.int .i64 a0_1) := (blk_cell BK179.out 1).trans rfl; have hcz35_2 : w34.cell? ⟨gb179, 2, none⟩ = some (.int .i64 a0_2) := (blk_cell BK179.out 2).trans rfl; have hcz35_3 : w34.cell? ⟨gb179, 3, none⟩ = some (.slice A0_3 l0_3.length c0_3) := (blk_cell BK179.out 3).trans rfl; have hfz35_0 := blk_frozen BK179.out 0; have hfz35_1 := blk_frozen BK179.out 1; have hfz35_2 := blk_frozen BK179.out 2; have hfz35_3 := blk_frozen BK179.out 3) | (go_at_call 165; (with_reducible refine (impl_Board_over.calls a0_0 a0_1 a0_2 _ _ l0_3 a1 x22_1 t186 _ ?side1 ?side2 A25.out).mono ?_); (case side1 => repeat (first | exact (Kd.C_below HR0_3.out HB.out) | (with_reducible refine Kd.C_alloc ?_ _) | (with_reducible refine Kd.C_drewN ?_ _) | (with_reducible refine Kd.C_drew ?_))); (case side2 => exact HC0_3.out); rintro e w36 ⟨rfl, hb⟩; have n0_ := Aside0.mk (Kd.R_below (by (with_reducible repeat (first | apply Kd.R_alloc | apply Kd.R_drewN | apply Kd.R_drew)); exact HO_7.out) hb); have n1_ := Aside0.mk (blk_below (g := gb179) (o := .cells #[.int .i64 a0_0, .int .i64 a0_1, .int .i64 a0_2, .slice A0_3 l0_3.length c0_3] 31 (0, 0)) (by (with_reducible repeat (first | refine blk_drewN ?_ _ | refine blk_drew ?_ | refine blk_alloc ?_ _)); exact BK179.out) hb); have n2_ := Aside0.mk (below_step (by repeat (first | (with_reducible first | exact HB.out | apply below_alloc | apply pw_below_drewN | apply below_drew1 | refine below_set ?_ GE179.out) | exact HB.out)) hb); clear HO_7; clear BK179; clear HB; have HO_7 := n0_; have BK179 := n1_; have HB := n2_; clear n0_ n1_ n2_; (try clear hb); (try clear hb2); (try clear hk); (try clear hi)))
                go_roundg k1
                case measure => have := HK1.out; omega
                case rel => exact ⟨(x7_1), (wrap64 (x22_1 + 1)), (by first | rfl | (simp; done) | (simp [*]; done)), H', ⟨by have := HK1.out; omega⟩, ⟨by (with_reducible repeat (first | apply Kd.R_alloc | apply Kd.R_drewN | apply Kd.R_drew)); exact HO_7.out⟩, ⟨by (with_reducible repeat (first | refine blk_drewN ?_ _ | refine blk_drew ?_ | refine blk_alloc ?_ _)); exact BK179.out⟩, ⟨by repeat (first | (with_reducible first | exact HB.out | apply below_alloc | apply pw_below_drewN | apply below_drew1 | refine below_set ?_ GE179.out) | exact HB.out)⟩⟩
            · replace c24 := Bool.eq_false_iff.mpr c24
              subst c24
              have H1 : (impl_SureSquares.l0 k1 a1 t181 x7_1 (wrap64 (a0_0 + 1)) (wrap64 (x22_1 + 1)) a0_0 a0_1 a0_2 l0_3) = some (r1, r2) := by rw [if_neg (show ¬ (false = true) by decide)] at H; exact H
              clear H
              have H := H1
              clear H1
              have H' := Aside0.mk H
              clear H
              have hcz37_0 : wr.cell? ⟨gb179, 0, none⟩ = some (.int .i64 a0_0) := (blk_cell BK179.out 0).trans rfl
              have hcz37_1 : wr.cell? ⟨gb179, 1, none⟩ = some (.int .i64 a0_1) := (blk_cell BK179.out 1).trans rfl
              have hcz37_2 : wr.cell? ⟨gb179, 2, none⟩ = some (.int .i64 a0_2) := (blk_cell BK179.out 2).trans rfl
              have hcz37_3 : wr.cell? ⟨gb179, 3, none⟩ = some (.slice A0_3 l0_3.length c0_3) := (blk_cell BK179.out 3).trans rfl
              have hfz37_0 := blk_frozen BK179.out 0
              have hfz37_1 := blk_frozen BK179.out 1
              have hfz37_2 := blk_frozen BK179.out 2
              have hfz37_3 := blk_frozen BK179.out 3
              go_wp2_with (first | ((with_reducible refine gate_callee (f := 164) rfl ?_); refine goesL_ (some 27) rfl rfl Try.func164 (by kernel_rfl) rfl #[.agg #[.int .i64 a0_0, .int .i64 a0_1, .int .i64 a0_2, .slice A0_3 l0_3.length c0_3], .int .i64 x22_1] rfl (by (try simp only [List.map_toArray, List.map_cons, List.map_nil]); first | done | rfl | (simp only [List.length_drop, List.length_take]; rfl)) ?_; (with_reducible refine (impl_Board_isSquare.calls a0_0 a0_1 a0_2 _ _ l0_3 x22_1 false _ ?side1 ?side2 A23.out).mono ?_); (case side1 => repeat (first | exact (Kd.C_below HR0_3.out HB.out) | (with_reducible refine Kd.C_alloc ?_ _) | (with_reducible refine Kd.C_drewN ?_ _) | (with_reducible refine Kd.C_drew ?_))); (case side2 => exact HC0_3.out); rintro e w38 ⟨rfl, hb⟩; refine ⟨_, rfl, ?_⟩; have n0_ := Aside0.mk (Kd.R_below (by (with_reducible repeat (first | apply Kd.R_alloc | apply Kd.R_drewN | apply Kd.R_drew)); exact HO_7.out) hb); have n1_ := Aside0.mk (blk_below (g := gb179) (o := .cells #[.int .i64 a0_0, .int .i64 a0_1, .int .i64 a0_2, .slice A0_3 l0_3.length c0_3] 31 (0, 0)) (by (with_reducible repeat (first | refine blk_drewN ?_ _ | refine blk_drew ?_ | refine blk_alloc ?_ _)); exact BK179.out) hb); have n2_ := Aside0.mk (below_step (by repeat (first | (with_reducible first | exact HB.out | apply below_alloc | apply pw_below_drewN | apply below_drew1 | refine below_set ?_ GE179.out) | exact HB.out)) hb); clear HO_7; clear BK179; clear HB; have HO_7 := n0_; have BK179 := n1_; have HB := n2_; clear n0_ n1_ n2_; (try clear hb); (try clear hb2); (try clear hk); (try clear hi)))
              go_roundg k1
              case measure => have := HK1.out; omega
              case rel => exact ⟨(x7_1), (wrap64 (x22_1 + 1)), (by first | rfl | (simp; done) | (simp [*]; done)), H', ⟨by have := HK1.out; omega⟩, ⟨by (with_reducible repeat (first | apply Kd.R_alloc | apply Kd.R_drewN | apply Kd.R_drew)); exact HO_7.out⟩, ⟨by (with_reducible repeat (first | refine blk_drewN ?_ _ | refine blk_drew ?_ | refine blk_alloc ?_ _)); exact BK179.out⟩, ⟨by repeat (first | (with_reducible first | exact HB.out | apply below_alloc | apply pw_below_drewN | apply below_drew1 | refine below_set ?_ GE179.out) | exact HB.out)⟩⟩
          · rw [if_neg c22] at H
            have c22b0 : decide (x22_1 < (wrap64 (a0_0 + 1))) = false := decide_eq_false c22
            clear c22
            simp only [Option.some.injEq, Prod.mk.injEq] at H
            obtain ⟨rfl, rfl⟩ := H
            go_wp2
            go_ret2
            exact ⟨_, by first | rfl | (simp [errW_none, errW_some] <;> rfl) | (simp [*, errW_none, errW_some] <;> rfl), by (with_reducible repeat (first | apply Kd.R_alloc | apply Kd.R_drewN | apply Kd.R_drew)); exact HO_7.out, by repeat (first | (with_reducible first | exact HB.out | apply below_alloc | apply pw_below_drewN | apply below_drew1 | refine below_set ?_ GE179.out) | exact HB.out)⟩
  · replace c4 := Bool.eq_false_iff.mpr c4
    subst c4
    have H1 : (some (([] : List Int), false)) = some (r1, r2) := by rw [if_neg (show ¬ (false = true) by decide)] at H; exact H
    clear H
    have H := H1
    clear H1
    simp only [Option.some.injEq, Prod.mk.injEq] at H
    obtain ⟨rfl, rfl⟩ := H
    go_enter Try.func16, Try.ntmps16
    go_wp2_with (first | ((with_reducible refine gate_dst (N := 2) rfl ?_); refine box_event ?hg (N := 2) ?hd (cs := #[.int .i64 a0_0, .int .i64 a0_1, .int .i64 a0_2, .slice A0_3 l0_3.length c0_3]) (t := 31) ?hr ?_; (case hd => rfl); (case hg => rfl); (case hr => first | (go_simp; done) | (go_simp; rfl)); intro gb179 hg w39 hbox hb; have n0_ := Aside0.mk (below_step (by repeat (first | (with_reducible first | exact HB.out | apply below_alloc | apply pw_below_drewN | apply below_drew1) | exact HB.out)) hb); have n1_ := Aside0.mk (hbox); have n2_ := Aside0.mk ((by rw [hg]; exact (below_size (by repeat (first | (with_reducible first | exact HB.out | apply below_alloc | apply pw_below_drewN | apply below_drew1) | exact HB.out))) : w.heap.size ≤ gb179)); have n3_ := Aside0.mk ((by rw [hg]; exact (below_size (by repeat (first | (with_reducible first | exact HB.out | apply below_alloc | apply pw_below_drewN | apply below_drew1) | exact HB.out))) : w.heap.size ≤ gb179)); clear HB; have HB := n0_; have BK179 := n1_; have GW179 := n2_; have GE179 := n3_; clear n0_ n1_ n2_ n3_; clear hb hbox hg; have hcz40_0 : w39.cell? ⟨gb179, 0, none⟩ = some (.int .i64 a0_0) := (blk_cell BK179.out 0).trans rfl; have hcz40_1 : w39.cell? ⟨gb179, 1, none⟩ = some (.int .i64 a0_1) := (blk_cell BK179.out 1).trans rfl; have hcz40_2 : w39.cell? ⟨gb179, 2, none⟩ = some (.int .i64 a0_2) := (blk_cell BK179.out 2).trans rfl; have hcz40_3 : w39.cell? ⟨gb179, 3, none⟩ = some (.slice A0_3 l0_3.length c0_3) := (blk_cell BK179.out 3).trans rfl; have hfz40_0 := blk_frozen BK179.out 0; have hfz40_1 := blk_frozen BK179.out 1; have hfz40_2 := blk_frozen BK179.out 2; have hfz40_3 := blk_frozen BK179.out 3) | ((with_reducible refine gate_callee (f := 162) rfl ?_); refine goesL_ (some 11) rfl rfl Try.func162 (by kernel_rfl) rfl #[.agg #[.int .i64 a0_0, .int .i64 a0_1, .int .i64 a0_2, .slice A0_3 l0_3.length c0_3], .int .i64 a1] rfl (by (try simp only [List.map_toArray, List.map_cons, List.map_nil]); first | done | rfl | (simp only [List.length_drop, List.length_take]; rfl)) ?_; (with_reducible refine (impl_isGamed.calls a0_0 a0_1 a0_2 _ _ l0_3 a1 false _ ?side1 ?side2 A3.out).mono ?_); (case side1 => repeat (first | exact (Kd.C_below HR0_3.out HB.out) | (with_reducible refine Kd.C_alloc ?_ _) | (with_reducible refine Kd.C_drewN ?_ _) | (with_reducible refine Kd.C_drew ?_))); (case side2 => exact HC0_3.out); rintro e w41 ⟨rfl, hb⟩; refine ⟨_, rfl, ?_⟩; have n0_ := Aside0.mk (blk_below (g := gb179) (o := .cells #[.int .i64 a0_0, .int .i64 a0_1, .int .i64 a0_2, .slice A0_3 l0_3.length c0_3] 31 (0, 0)) (by (with_reducible repeat (first | refine blk_drewN ?_ _ | refine blk_drew ?_ | refine blk_alloc ?_ _)); exact BK179.out) hb); have n1_ := Aside0.mk (below_step (by repeat (first | (with_reducible first | exact HB.out | apply below_alloc | apply pw_below_drewN | apply below_drew1 | refine below_set ?_ GE179.out) | exact HB.out)) hb); clear BK179; clear HB; have BK179 := n0_; have HB := n1_; clear n0_ n1_; (try clear hb); (try clear hb2); (try clear hk); (try clear hi)))
    go_ret2
    exact ⟨_, by first | rfl | (simp [errW_none, errW_some] <;> rfl) | (simp [*, errW_none, errW_some] <;> rfl), by first | exact Kd.R_nil _ _ _ _ _ | exact Kd.N_nil _ _ _ _ _ | exact Kd.V_nil _ _ _ _ _ | exact Kd.Q_nil _ _ _ _ _ | exact Kd.S_nil _ _ _ _ _, by repeat (first | (with_reducible first | exact HB.out | apply below_alloc | apply pw_below_drewN | apply below_drew1 | refine below_set ?_ GE179.out) | exact HB.out)⟩
end Go.Proofs.Ytgahigmpcgfbeaa.P
end

section
namespace Go.Proofs.Ytgahigmpcgfbeaa.P
open Go.RowKit Go.Proofs.YtgahigmpcgfbeaaW.PrintWords Go.Proofs.YtgahigmpcgfbeaaW.PrintLast Go.Proofs.YtgahigmpcgfbeaaW.PrintMore
attribute [local go_sem] max2_int min2_int max_two min_two max_three min_three max_four min_four
set_option linter.unusedVariables false
set_option linter.unusedSimpArgs false
def laws_eqIntS.l0 : Nat → List Int → List Int → Int → Option (Bool)
  | 0, _, _, _ => none
  | k + 1, x0, x1, x5 => if x5 < (x0.length : Int) then (if 0 ≤ x5 then (if x5 < (x1.length : Int) then (if (rd x0 x5) = (rd x1 x5) then (laws_eqIntS.l0 k x0 x1 (wrap64 (x5 + 1))) else (some false)) else (none)) else (none)) else (some true)
def laws_eqIntS.f (k : Nat) (l0 : List Int) (l1 : List Int) : Option (Bool) := if (l0.length : Int) = (l1.length : Int) then (laws_eqIntS.l0 k l0 l1 0) else (some false)
theorem laws_eqIntS.mono_l : ∀ k, (∀ y0 y1 y2, LeO (laws_eqIntS.l0 k y0 y1 y2) (laws_eqIntS.l0 (k + 1) y0 y1 y2))
  | 0 => fun _ _ _ r h => by simp [laws_eqIntS.l0] at h
  | k + 1 => by
    have ih0 := laws_eqIntS.mono_l k
    · intro y0 y1 y2
      unfold laws_eqIntS.l0
      repeat' first
      | (with_reducible exact ih0 _ _ _)
      | (with_reducible exact LeO.refl _)
      | (with_reducible exact LeO.none _)
      | (with_reducible refine LeO.ite ?_ ?_)
      | (with_reducible refine LeO.bind ?_ (fun _ => ?_))
      | exact ih0 _ _ _
      | exact LeO.none _
      | refine LeO.ite ?_ ?_
      | refine LeO.bind ?_ (fun _ => ?_)
theorem laws_eqIntS.mono : ∀ a0 a1 k, LeO (laws_eqIntS.f k a0 a1) (laws_eqIntS.f (k + 1) a0 a1) := by
  intro a0 a1 k
  have ih0 := laws_eqIntS.mono_l k
  unfold laws_eqIntS.f
  repeat' first
      | (with_reducible exact ih0 _ _ _)
      | (with_reducible exact LeO.refl _)
      | (with_reducible exact LeO.none _)
      | (with_reducible refine LeO.ite ?_ ?_)
      | (with_reducible refine LeO.bind ?_ (fun _ => ?_))
      | exact ih0 _ _ _
      | exact LeO.none _
      | refine LeO.ite ?_ ?_
      | refine LeO.bind ?_ (fun _ => ?_)
set_option maxHeartbeats 8000000 in
set_option maxRecDepth 100000 in
theorem laws_eqIntS.calls (k : Nat) (A0 : Option Addr) (c0 : Nat) (l0 : List Int) (A1 : Option Addr) (c1 : Nat) (l1 : List Int) (r : Bool) (w : World) (hr0 : Kd.C (Kd.int .i64) w A0 l0.length l0) (hc0 : l0.length ≤ c0) (hr1 : Kd.C (Kd.int .i64) w A1 l1.length l1) (hc1 : l1.length ≤ c1) (h : laws_eqIntS.f k l0 l1 = some r) :
    Calls Try.prog 17 #[.slice A0 l0.length c0, .slice A1 l1.length c1] w fun e w' => e = .returned (.bool r) ∧ Drawn0 w w' := by
  have HR0 := Aside0.mk hr0
  have HC0 := Aside0.mk hc0
  clear hr0 hc0
  have HR1 := Aside0.mk hr1
  have HC1 := Aside0.mk hc1
  clear hr1 hc1
  have H : (if (l0.length : Int) = (l1.length : Int) then (laws_eqIntS.l0 k l0 l1 0) else (some false)) = some r := h
  clear h
  by_cases c3 : (l0.length : Int) = (l1.length : Int)
  · rw [if_pos c3] at H
    have c3b0 : ((l0.length : Int) == (l1.length : Int)) = true := beq_iff_eq.mpr c3
    have c3b1 : ((l0.length : Int) != (l1.length : Int)) = false := bne_eq_false_iff_eq.mpr c3
    have c3b2 : (l0.length == l1.length) = true := by first | simpa using c3 | (simp at c3 ⊢; omega)
    clear c3
    have H' := Aside0.mk H
    clear H
    go_enter Try.func17, Try.ntmps17
    go_wp2
    repeat (go_quiet (fail); try go_wp2)
    go_loopg [5] k (fun kq v5 w' => ∃ (x5_1 : Int), v5 = .int .i64 x5_1 ∧ Aside0 (laws_eqIntS.l0 kq l0 l1 x5_1 = some r) ∧ Aside0 (kq ≤ k) ∧ Drawn0 w w')
    case atStart => exact ⟨(0), (by first | rfl | (simp; done) | (simp [*]; done)), H', ⟨Nat.le_refl _⟩, by repeat (first | exact Drawn0.refl _ | apply Drawn0.step)⟩
    case round =>
      clear H'
      try clear c1
      try clear p2
      try clear c3
      try clear c3b0
      try clear c3b1
      try clear c3b2
      obtain ⟨x5_1, rfl, HA, HK1, ⟨m1, rfl⟩⟩ := hrel
      cases gk with
      | zero => exact absurd HA.out (by simp [laws_eqIntS.l0])
      | succ k1 =>
        have H := HA.out
        clear HA
        simp only [laws_eqIntS.l0] at H
        by_cases c4 : x5_1 < (l0.length : Int)
        · rw [if_pos c4] at H
          have c4b0 : decide (x5_1 < (l0.length : Int)) = true := decide_eq_true c4
          clear c4
          by_cases c5 : 0 ≤ x5_1
          · rw [if_pos c5] at H
            have c5b0 : decide (0 ≤ x5_1) = true := decide_eq_true c5
            clear c5
            by_cases c6 : x5_1 < (l1.length : Int)
            · rw [if_pos c6] at H
              have c6b0 : decide (x5_1 < (l1.length : Int)) = true := decide_eq_true c6
              clear c6
              by_cases c7 : (rd l0 x5_1) = (rd l1 x5_1)
              · rw [if_pos c7] at H
                have c7b0 : ((rd l0 x5_1) == (rd l1 x5_1)) = true := beq_iff_eq.mpr c7
                have c7b1 : ((rd l0 x5_1) != (rd l1 x5_1)) = false := bne_eq_false_iff_eq.mpr c7
                clear c7
                have H' := Aside0.mk H
                clear H
                have p190 : 0 ≤ (x5_1 : Int) := of_decide_eq_true (by first | (with_reducible assumption) | assumption)
                have q190 : x5_1 < (l0.length : Int) := of_decide_eq_true (by first | (with_reducible assumption) | assumption)
                obtain ⟨ad190, e190, hx190_0⟩ := Kd.at_int HR0.out x5_1 p190 q190
                cases e190
                replace p190 := eq_true p190
                replace q190 := eq_true q190
                have p191 : 0 ≤ (x5_1 : Int) := of_decide_eq_true (by first | (with_reducible assumption) | assumption)
                have q191 : x5_1 < (l1.length : Int) := of_decide_eq_true (by first | (with_reducible assumption) | assumption)
                obtain ⟨ad191, e191, hx191_0⟩ := Kd.at_int HR1.out x5_1 p191 q191
                cases e191
                replace p191 := eq_true p191
                replace q191 := eq_true q191
                go_wp2
                repeat (go_quiet (fail); try go_wp2)
                go_roundg k1
                case measure => have := HK1.out; omega
                case rel => exact ⟨(wrap64 (x5_1 + 1)), (by first | rfl | (simp; done) | (simp [*]; done)), H', ⟨by have := HK1.out; omega⟩, by repeat (first | exact Drawn0.refl _ | apply Drawn0.step)⟩
              · rw [if_neg c7] at H
                have c7b0 : ((rd l0 x5_1) == (rd l1 x5_1)) = false := beq_eq_false_iff_ne.mpr c7
                have c7b1 : ((rd l0 x5_1) != (rd l1 x5_1)) = true := bne_iff_ne.mpr c7
                obtain rfl := Option.some.inj H
                have p190 : 0 ≤ (x5_1 : Int) := of_decide_eq_true (by first | (with_reducible assumption) | assumption)
                have q190 : x5_1 < (l0.length : Int) := of_decide_eq_true (by first | (with_reducible assumption) | assumption)
                obtain ⟨ad190, e190, hx190_0⟩ := Kd.at_int HR0.out x5_1 p190 q190
                cases e190
                replace p190 := eq_true p190
                replace q190 := eq_true q190
                have p191 : 0 ≤ (x5_1 : Int) := of_decide_eq_true (by first | (with_reducible assumption) | assumption)
                have q191 : x5_1 < (l1.length : Int) := of_decide_eq_true (by first | (with_reducible assumption) | assumption)
                obtain ⟨ad191, e191, hx191_0⟩ := Kd.at_int HR1.out x5_1 p191 q191
                cases e191
                replace p191 := eq_true p191
                replace q191 := eq_true q191
                go_wp2
                repeat (go_quiet (fail); try go_wp2)
                go_ret
                exact ⟨by first | rfl | (simp; done) | (simp [*]; done), by repeat (first | exact Drawn0.refl _ | apply Drawn0.step)⟩
            · rw [if_neg c6] at H
              exact absurd H (by simp)
          · rw [if_neg c5] at H
            exact absurd H (by simp)
        · rw [if_neg c4] at H
          have c4b0 : decide (x5_1 < (l0.length : Int)) = false := decide_eq_false c4
          clear c4
          obtain rfl := Option.some.inj H
          go_wp2
          repeat (go_quiet (fail); try go_wp2)
          go_ret
          exact ⟨by first | rfl | (simp; done) | (simp [*]; done), by repeat (first | exact Drawn0.refl _ | apply Drawn0.step)⟩
  · rw [if_neg c3] at H
    have c3b0 : ((l0.length : Int) == (l1.length : Int)) = false := beq_eq_false_iff_ne.mpr c3
    have c3b1 : ((l0.length : Int) != (l1.length : Int)) = true := bne_iff_ne.mpr c3
    have c3b2 : (l0.length == l1.length) = false := by first | simpa using c3 | (simp at c3 ⊢; omega)
    obtain rfl := Option.some.inj H
    go_enter Try.func17, Try.ntmps17
    go_wp2
    repeat (go_quiet (fail); try go_wp2)
    go_ret
    exact ⟨by first | rfl | (simp; done) | (simp [*]; done), by repeat (first | exact Drawn0.refl _ | apply Drawn0.step)⟩
end Go.Proofs.Ytgahigmpcgfbeaa.P
end

section
namespace Go.Proofs.Ytgahigmpcgfbeaa.P
open Go.RowKit Go.Proofs.YtgahigmpcgfbeaaW.PrintWords Go.Proofs.YtgahigmpcgfbeaaW.PrintLast Go.Proofs.YtgahigmpcgfbeaaW.PrintMore
attribute [local go_sem] max2_int min2_int max_two min_two max_three min_three max_four min_four
set_option linter.unusedVariables false
set_option linter.unusedSimpArgs false
def laws_markJumpS.l0 : Nat → List (S126) → Int → Int → Option (Int × (List (S126)))
  | 0, _, _, _ => none
  | k + 1, x0, x1, x5 => if x5 < (x0.length : Int) then (if 0 ≤ x5 then ((some (x0.set (x5 : Int).toNat (⟨x1, (rd_T126 x0 x5).f1⟩ : S126) : List (S126))).bind fun y200 => (laws_markJumpS.l0 k (y200.set (x5 : Int).toNat (⟨(rd_T126 y200 x5).f0, wrap64 (x1 + 1)⟩ : S126)) (wrap64 ((wrap64 (x1 + 1)) + 1)) (wrap64 (x5 + 1)))) else (none)) else (some (x1, x0))
def laws_markJumpS.f (k : Nat) (l0 : List (S126)) (a1 : Int) : Option (Int × (List (S126))) := laws_markJumpS.l0 k l0 a1 0
theorem laws_markJumpS.mono_l : ∀ k, (∀ y0 y1 y2, LeO (laws_markJumpS.l0 k y0 y1 y2) (laws_markJumpS.l0 (k + 1) y0 y1 y2))
  | 0 => fun _ _ _ r h => by simp [laws_markJumpS.l0] at h
  | k + 1 => by
    have ih0 := laws_markJumpS.mono_l k
    · intro y0 y1 y2
      unfold laws_markJumpS.l0
      repeat' first
      | (with_reducible exact ih0 _ _ _)
      | (with_reducible exact LeO.refl _)
      | (with_reducible exact LeO.none _)
      | (with_reducible refine LeO.ite ?_ ?_)
      | (with_reducible refine LeO.bind ?_ (fun _ => ?_))
      | exact ih0 _ _ _
      | exact LeO.none _
      | refine LeO.ite ?_ ?_
      | refine LeO.bind ?_ (fun _ => ?_)
theorem laws_markJumpS.mono : ∀ a0 a1 k, LeO (laws_markJumpS.f k a0 a1) (laws_markJumpS.f (k + 1) a0 a1) := by
  intro a0 a1 k
  have ih0 := laws_markJumpS.mono_l k
  unfold laws_markJumpS.f
  repeat' first
      | (with_reducible exact ih0 _ _ _)
      | (with_reducible exact LeO.refl _)
      | (with_reducible exact LeO.none _)
      | (with_reducible refine LeO.ite ?_ ?_)
      | (with_reducible refine LeO.bind ?_ (fun _ => ?_))
      | exact ih0 _ _ _
      | exact LeO.none _
      | refine LeO.ite ?_ ?_
      | refine LeO.bind ?_ (fun _ => ?_)
set_option maxHeartbeats 8000000 in
set_option maxRecDepth 100000 in
theorem laws_markJumpS.calls (k : Nat) (P0_ : Nat → Prop) (u9000_ : Value) (l0 : List (S126)) (a1 : Int) (r1 : Int) (r2 : List (S126)) (w0 w : World) (hB : Below w0.heap.size w0 w) (ho0 : Kd.R k126 126 w w0.heap.size P0_ u9000_ l0) (h : laws_markJumpS.f k l0 a1 = some (r1, r2)) :
    Calls Try.prog 167 #[u9000_, .int .i64 a1] w fun e w' => e = .returned (.int .i64 r1) ∧ Kd.R k126 126 w' w0.heap.size (fun k_ => (P0_ k_ ∨ w.heap.size ≤ k_)) u9000_ r2 ∧ Below w0.heap.size w0 w' ∧ Kept w w' (fun k_ => P0_ k_) := by
  have HO0 := Aside0.mk (show Kd.R k126 126 w w0.heap.size (fun k_ => (P0_ k_ ∨ w.heap.size ≤ k_)) u9000_ l0 from Kd.R_mono ho0 (fun k_ hk => (.inl hk)))
  have HK := Aside0.mk (Kept.refl w (fun k_ => P0_ k_))
  have HW0 := Aside0.mk hB.size
  have HB := Aside0.mk hB
  clear hB
  have H : (laws_markJumpS.l0 k l0 a1 0) = some (r1, r2) := h
  clear h
  have H' := Aside0.mk H
  clear H
  go_enter Try.func167, Try.ntmps167
  go_wp2
  go_loopg [1, 5] k (fun kq v1 v5 w' => ∃ (x0_1 : List (S126)) (x1_1 : Int) (x5_1 : Int), v1 = .int .i64 x1_1 ∧ v5 = .int .i64 x5_1 ∧ Aside0 (laws_markJumpS.l0 kq x0_1 x1_1 x5_1 = some (r1, r2)) ∧ Aside0 (kq ≤ k) ∧ Aside0 (Kd.R k126 126 w' w0.heap.size (fun k_ => (P0_ k_ ∨ w.heap.size ≤ k_)) u9000_ x0_1) ∧ Aside0 (Kept w w' (fun k_ => P0_ k_)) ∧ Aside0 (Below w0.heap.size w0 w'))
  case atStart => exact ⟨(l0), (a1), (0), (by first | rfl | (simp; done) | (simp [*]; done)), (by first | rfl | (simp; done) | (simp [*]; done)), H', ⟨Nat.le_refl _⟩, ⟨by (with_reducible repeat (first | apply Kd.R_alloc | apply Kd.R_drewN | apply Kd.R_drew)); exact HO0.out⟩, ⟨by repeat (first | (with_reducible first | exact HK.out | apply Kept.alloc | apply Kept.drewN | apply Kept.drew) | exact HK.out)⟩, ⟨by repeat (first | (with_reducible first | exact HB.out | apply below_alloc | apply pw_below_drewN | apply below_drew1) | exact HB.out)⟩⟩
  case round =>
    clear H'
    try clear c1
    try clear p2
    obtain ⟨x0_1, x1_1, x5_1, rfl, rfl, HA, HK1, HO_0, HK, HB⟩ := hrel
    cases gk with
    | zero => exact absurd HA.out (by simp [laws_markJumpS.l0])
    | succ k1 =>
      have H := HA.out
      clear HA
      simp only [laws_markJumpS.l0] at H
      by_cases c3 : x5_1 < (x0_1.length : Int)
      · rw [if_pos c3] at H
        have c3b0 : decide (x5_1 < (x0_1.length : Int)) = true := decide_eq_true c3
        clear c3
        by_cases c4 : 0 ≤ x5_1
        · rw [if_pos c4] at H
          have c4b0 : decide (0 ≤ x5_1) = true := decide_eq_true c4
          clear c4
          obtain ⟨y200, hy200⟩ : ∃ y_ : List (S126), y_ = (x0_1.set (x5_1 : Int).toNat (⟨x1_1, (rd_T126 x0_1 x5_1).f1⟩ : S126)) := ⟨_, rfl⟩
          replace H : (laws_markJumpS.l0 k1 (y200.set (x5_1 : Int).toNat (⟨(rd_T126 y200 x5_1).f0, wrap64 (x1_1 + 1)⟩ : S126)) (wrap64 ((wrap64 (x1_1 + 1)) + 1)) (wrap64 (x5_1 + 1))) = some (r1, r2) := by first | (rw [hy200]; with_reducible exact H) | (have H2_ := (Option.bind_some _ _).symm.trans H; rw [hy200]; with_reducible exact H2_) | (have H2_ := (Option.bind_some _ _).symm.trans H; with_reducible exact H2_) | with_reducible exact H | (rw [hy200]; exact H) | exact H
          have Ny200 := Aside0.mk hy200
          clear hy200
          obtain ⟨y201, hy201⟩ : ∃ y_ : List (S126), y_ = (y200.set (x5_1 : Int).toNat (⟨(rd_T126 y200 x5_1).f0, wrap64 (x1_1 + 1)⟩ : S126)) := ⟨_, rfl⟩
          replace H : (laws_markJumpS.l0 k1 y201 (wrap64 ((wrap64 (x1_1 + 1)) + 1)) (wrap64 (x5_1 + 1))) = some (r1, r2) := by first | (rw [hy201]; with_reducible exact H) | (have H2_ := (Option.bind_some _ _).symm.trans H; rw [hy201]; with_reducible exact H2_) | (have H2_ := (Option.bind_some _ _).symm.trans H; with_reducible exact H2_) | with_reducible exact H | (rw [hy201]; exact H) | exact H
          have Ny201 := Aside0.mk hy201
          clear hy201
          have H' := Aside0.mk H
          clear H
          obtain ⟨Ao7, co7, eo7⟩ := Kd.R_slice HO_0.out
          subst eo7
          have p5 : 0 ≤ (x5_1 : Int) := of_decide_eq_true (by first | (with_reducible assumption) | assumption)
          have q5 : (x5_1 : Int) < ((x0_1.length : Int) : Int) := of_decide_eq_true (by first | (with_reducible assumption) | assumption)
          obtain ⟨go5, co5, eo5, gb5, gl5, cl5, HG5⟩ := Kd.R_form HO_0.out (by omega)
          (first | cases eo5 | (injection eo5 with ea_ en_ ec_; (first | subst ea_ | (injection ea_ with ea_; subst ea_)); subst ec_; clear en_))
          have GB5 := Aside0.mk gb5
          have GG5 := Aside0.mk HG5
          clear gb5 gl5 HG5
          have HMgo5 := Aside0.mk (show (P0_ go5 ∨ w.heap.size ≤ go5) from (HO_0.out.1 _ rfl))
          obtain ⟨ce5, hcl5, hM5, hcc5, hfr5⟩ := Kd.R_elem HO_0.out z126 (x5_1 : Int) p5 q5
          obtain rfl := k126_openM hM5
          have hx5_0 : wr.cell? ⟨go5, (x5_1 : Int).toNat * 2, none⟩ = some (.int .i64 ((rd_T126 x0_1 x5_1).f0)) := hcc5 0 _ rfl
          have hx5_1 : wr.cell? ⟨go5, (x5_1 : Int).toNat * 2 + 1, none⟩ = some (.int .i64 ((rd_T126 x0_1 x5_1).f1)) := hcc5 1 _ rfl
          have hf5_0 : wr.frozen? ⟨go5, (x5_1 : Int).toNat * 2, none⟩ = false := hfr5 0
          have hf5_1 : wr.frozen? ⟨go5, (x5_1 : Int).toNat * 2 + 1, none⟩ = false := hfr5 1
          try clear hM5
          clear hcl5 hcc5 hfr5
          replace p5 := eq_true p5
          replace q5 := eq_true q5
          have HX8 := Aside0.mk (show Kd.R k126 126 wr w0.heap.size (fun k_ => (P0_ k_ ∨ w.heap.size ≤ k_)) (.slice (some ⟨go5, 0, none⟩) x0_1.length co7) x0_1 from (by (with_reducible repeat (first | apply Kd.R_alloc | apply Kd.R_drewN | apply Kd.R_drew)); exact HO_0.out))
          obtain ⟨ce8, hcl8, hM8, hcc8, hfr8⟩ := Kd.R_elem HX8.out z126 (x5_1 : Int) (of_decide_eq_true (by first | (with_reducible assumption) | assumption)) (by have h_ : (x5_1 : Int) < ((x0_1.length : Int) : Int) := of_decide_eq_true (by first | (with_reducible assumption) | assumption); first | exact h_ | (have e_ := (Kd.R_reads' HO_0.out).1; omega) | simpa using h_)
          obtain rfl := k126_openM hM8
          have HP8 := Kd.R_seg HX8.out (x5_1 : Int) (of_decide_eq_true (by first | (with_reducible assumption) | assumption)) (by have h_ : (x5_1 : Int) < ((x0_1.length : Int) : Int) := of_decide_eq_true (by first | (with_reducible assumption) | assumption); first | exact h_ | (have e_ := (Kd.R_reads' HO_0.out).1; omega) | simpa using h_) (seg := [.int .i64 x1_1]) (j := 0) hcl8 hcc8 (show 1 ≤ 2 from by decide) (x' := (⟨x1_1, (rd_T126 x0_1 x5_1).f1⟩ : S126)) (k126_mkM _ _ _ (⟨x1_1, (rd_T126 x0_1 x5_1).f1⟩ : S126) ) (fun _ hk => hk)
          have hx8_0 := hcc8 0 _ rfl
          (try simp only [show (k126).sz = 2 from rfl, Nat.mul_one, Nat.add_zero] at hx8_0)
          have hf8_0 := hfr8 0
          (try simp only [show (k126).sz = 2 from rfl, Nat.mul_one, Nat.add_zero] at hf8_0)
          try clear hM8
          clear hcl8 hcc8 hfr8
          go_wp2_with (first | ((with_reducible refine gate_store (t := 3) (p := 16) rfl ?_); refine store_event (t := 3) (p := 16) (v := ?vo_w9) (w1 := (wr.setCell ⟨go5, (x5_1 : Int).toNat * 2, none⟩ (.int .i64 x1_1))) ?hg ?ho ?hn ?hr ?_; (case ho => rfl); (case hg => rfl); (case hn => rfl); (case hr => first | (go_simp; done) | (go_simp; rfl)); intro w9 hw; have hg : wr.grownBy w9 (some go5) := (by rw [hw]; exact HP8.2); have hp_ : Kd.R k126 126 w9 w0.heap.size (fun k_ => (P0_ k_ ∨ w.heap.size ≤ k_)) (.slice (some ⟨go5, 0, none⟩) x0_1.length co7) y200 := (by rw [hw, Ny200.out]; exact HP8.1); clear HP8; have n0_ := Aside0.mk (hp_); have n1_ := Aside0.mk ((by rw [hw]; exact below_set (HB.out) GB5.out : Below w0.heap.size w0 w9)); have n2_ := Aside0.mk (Kept.of_grown (S := (fun k_ => P0_ k_)) hg (by repeat (first | (with_reducible first | exact HK.out | apply Kept.alloc | apply Kept.drewN | apply Kept.drew) | exact HK.out)) (fun k_ e_ => (HO_0.out.1 k_ e_))); clear HO_0; clear HB; clear HK; have HO_0 := n0_; have HB := n1_; have HK := n2_; clear n0_ n1_ n2_; clear hg hw hp_; have p6 : 0 ≤ (x5_1 : Int) := of_decide_eq_true (by first | (with_reducible assumption) | assumption); have q6 : (x5_1 : Int) < ((x0_1.length : Int) : Int) := of_decide_eq_true (by first | (with_reducible assumption) | assumption); obtain ⟨ce6, hcl6, hM6, hcc6, hfr6⟩ := Kd.R_elem HO_0.out z126 (x5_1 : Int) p6 q6; obtain rfl := k126_openM hM6; have hx6_0 : w9.cell? ⟨go5, (x5_1 : Int).toNat * 2, none⟩ = some (.int .i64 ((rd_T126 y200 x5_1).f0)) := hcc6 0 _ rfl; have hx6_1 : w9.cell? ⟨go5, (x5_1 : Int).toNat * 2 + 1, none⟩ = some (.int .i64 ((rd_T126 y200 x5_1).f1)) := hcc6 1 _ rfl; have hf6_0 : w9.frozen? ⟨go5, (x5_1 : Int).toNat * 2, none⟩ = false := hfr6 0; have hf6_1 : w9.frozen? ⟨go5, (x5_1 : Int).toNat * 2 + 1, none⟩ = false := hfr6 1; clear hcl6 hcc6 hfr6 hM6; replace p6 := eq_true p6; replace q6 := eq_true q6; have HX10 := Aside0.mk (show Kd.R k126 126 w9 w0.heap.size (fun k_ => (P0_ k_ ∨ w.heap.size ≤ k_)) (.slice (some ⟨go5, 0, none⟩) x0_1.length co7) y200 from (by (with_reducible repeat (first | apply Kd.R_alloc | apply Kd.R_drewN | apply Kd.R_drew)); exact HO_0.out)); obtain ⟨ce10, hcl10, hM10, hcc10, hfr10⟩ := Kd.R_elem HX10.out z126 (x5_1 : Int) (of_decide_eq_true (by first | (with_reducible assumption) | assumption)) (by have h_ : (x5_1 : Int) < ((x0_1.length : Int) : Int) := of_decide_eq_true (by first | (with_reducible assumption) | assumption); first | exact h_ | (have e_ := (Kd.R_reads' HO_0.out).1; omega) | simpa using h_); obtain rfl := k126_openM hM10; have HP10 := Kd.R_seg HX10.out (x5_1 : Int) (of_decide_eq_true (by first | (with_reducible assumption) | assumption)) (by have h_ : (x5_1 : Int) < ((x0_1.length : Int) : Int) := of_decide_eq_true (by first | (with_reducible assumption) | assumption); first | exact h_ | (have e_ := (Kd.R_reads' HO_0.out).1; omega) | simpa using h_) (seg := [.int .i64 (wrap64 (x1_1 + 1))]) (j := 1) hcl10 hcc10 (show 2 ≤ 2 from by decide) (x' := (⟨(rd_T126 y200 x5_1).f0, wrap64 (x1_1 + 1)⟩ : S126)) (k126_mkM _ _ _ (⟨(rd_T126 y200 x5_1).f0, wrap64 (x1_1 + 1)⟩ : S126) ) (fun _ hk => hk); have hx10_1 := hcc10 1 _ rfl; (try simp only [show (k126).sz = 2 from rfl, Nat.mul_one, Nat.add_zero] at hx10_1); have hf10_1 := hfr10 1; (try simp only [show (k126).sz = 2 from rfl, Nat.mul_one, Nat.add_zero] at hf10_1); clear hcl10 hcc10 hfr10 hM10) | ((with_reducible refine gate_store (t := 3) (p := 23) rfl ?_); refine store_event (t := 3) (p := 23) (v := ?vo_w11) (w1 := (w9.setCell ⟨go5, (x5_1 : Int).toNat * 2 + 1, none⟩ (.int .i64 (wrap64 (x1_1 + 1))))) ?hg ?ho ?hn ?hr ?_; (case ho => rfl); (case hg => rfl); (case hn => rfl); (case hr => first | (go_simp; done) | (go_simp; rfl)); intro w11 hw; have hg : w9.grownBy w11 (some go5) := (by rw [hw]; exact HP10.2); have hp_ : Kd.R k126 126 w11 w0.heap.size (fun k_ => (P0_ k_ ∨ w.heap.size ≤ k_)) (.slice (some ⟨go5, 0, none⟩) x0_1.length co7) y201 := (by rw [hw, Ny201.out]; exact HP10.1); clear HP10; have n0_ := Aside0.mk (hp_); have n1_ := Aside0.mk ((by rw [hw]; exact below_set (HB.out) GB5.out : Below w0.heap.size w0 w11)); have n2_ := Aside0.mk (Kept.of_grown (S := (fun k_ => P0_ k_)) hg (by repeat (first | (with_reducible first | exact HK.out | apply Kept.alloc | apply Kept.drewN | apply Kept.drew) | exact HK.out)) (fun k_ e_ => (HO_0.out.1 k_ e_))); clear HO_0; clear HB; clear HK; have HO_0 := n0_; have HB := n1_; have HK := n2_; clear n0_ n1_ n2_; clear hg hw hp_))
          go_roundg k1
          case measure => have := HK1.out; omega
          case rel => exact ⟨(y201), (wrap64 ((wrap64 (x1_1 + 1)) + 1)), (wrap64 (x5_1 + 1)), (by first | rfl | (simp; done) | (simp [*]; done)), (by first | rfl | (simp; done) | (simp [*]; done)), H', ⟨by have := HK1.out; omega⟩, ⟨by (with_reducible repeat (first | apply Kd.R_alloc | apply Kd.R_drewN | apply Kd.R_drew)); exact HO_0.out⟩, ⟨by repeat (first | (with_reducible first | exact HK.out | apply Kept.alloc | apply Kept.drewN | apply Kept.drew) | exact HK.out)⟩, ⟨by repeat (first | (with_reducible first | exact HB.out | apply below_alloc | apply pw_below_drewN | apply below_drew1) | exact HB.out)⟩⟩
        · rw [if_neg c4] at H
          exact absurd H (by simp)
      · rw [if_neg c3] at H
        have c3b0 : decide (x5_1 < (x0_1.length : Int)) = false := decide_eq_false c3
        clear c3
        simp only [Option.some.injEq, Prod.mk.injEq] at H
        obtain ⟨rfl, rfl⟩ := H
        obtain ⟨Ao12, co12, eo12⟩ := Kd.R_slice HO_0.out
        subst eo12
        go_wp2
        go_ret
        exact ⟨by first | rfl | (simp [errW_none, errW_some] <;> rfl) | (simp [*, errW_none, errW_some] <;> rfl), by (with_reducible repeat (first | apply Kd.R_alloc | apply Kd.R_drewN | apply Kd.R_drew)); exact HO_0.out, by repeat (first | (with_reducible first | exact HB.out | apply below_alloc | apply pw_below_drewN | apply below_drew1) | exact HB.out), by repeat (first | (with_reducible first | exact HK.out | apply Kept.alloc | apply Kept.drewN | apply Kept.drew) | exact HK.out)⟩
end Go.Proofs.Ytgahigmpcgfbeaa.P
end

section
namespace Go.Proofs.Ytgahigmpcgfbeaa.P
open Go.RowKit Go.Proofs.YtgahigmpcgfbeaaW.PrintWords Go.Proofs.YtgahigmpcgfbeaaW.PrintLast Go.Proofs.YtgahigmpcgfbeaaW.PrintMore
attribute [local go_sem] max2_int min2_int max_two min_two max_three min_three max_four min_four
set_option linter.unusedVariables false
set_option linter.unusedSimpArgs false
def laws_markBoard.f (k : Nat) (a0_0 : Int) (a0_1 : Int) (a0_2 : Int) (l0_3 : List (S126)) (a1 : Int) : Option (Int × (List (S126))) := (laws_markJumpS.f k l0_3 a1).bind fun bt203 => (some (bt203.1, bt203.2))
theorem laws_markBoard.mono : ∀ a0 a1 a2 a3 a4 k, LeO (laws_markBoard.f k a0 a1 a2 a3 a4) (laws_markBoard.f (k + 1) a0 a1 a2 a3 a4) := by
  intro a0 a1 a2 a3 a4 k
  unfold laws_markBoard.f
  repeat' first
      | (with_reducible exact laws_markJumpS.mono _ _ _)
      | (with_reducible exact LeO.refl _)
      | (with_reducible exact LeO.none _)
      | (with_reducible refine LeO.ite ?_ ?_)
      | (with_reducible refine LeO.bind ?_ (fun _ => ?_))
      | exact laws_markJumpS.mono _ _ _
      | exact LeO.none _
      | refine LeO.ite ?_ ?_
      | refine LeO.bind ?_ (fun _ => ?_)
set_option maxHeartbeats 8000000 in
set_option maxRecDepth 100000 in
theorem laws_markBoard.calls (k : Nat) (a0_0 : Int) (a0_1 : Int) (a0_2 : Int) (P0_3_ : Nat → Prop) (u9000_ : Value) (l0_3 : List (S126)) (a1 : Int) (r1 : Int) (r2 : List (S126)) (w0 w : World) (hB : Below w0.heap.size w0 w) (ho0_3 : Kd.R k126 126 w w0.heap.size P0_3_ u9000_ l0_3) (h : laws_markBoard.f k a0_0 a0_1 a0_2 l0_3 a1 = some (r1, r2)) :
    Calls Try.prog 19 #[.agg #[.int .i64 a0_0, .int .i64 a0_1, .int .i64 a0_2, u9000_], .int .i64 a1] w fun e w' => e = .returned (.int .i64 r1) ∧ Kd.R k126 126 w' w0.heap.size (fun k_ => (P0_3_ k_ ∨ w.heap.size ≤ k_)) u9000_ r2 ∧ Below w0.heap.size w0 w' ∧ Kept w w' (fun k_ => P0_3_ k_) := by
  have hu31 := Try.underlying31
  have HO0_3 := Aside0.mk (show Kd.R k126 126 w w0.heap.size (fun k_ => (P0_3_ k_ ∨ w.heap.size ≤ k_)) u9000_ l0_3 from Kd.R_mono ho0_3 (fun k_ hk => (.inl hk)))
  have HK := Aside0.mk (Kept.refl w (fun k_ => P0_3_ k_))
  have HW0 := Aside0.mk hB.size
  have HB := Aside0.mk hB
  clear hB
  have H : ((laws_markJumpS.f k l0_3 a1).bind fun bt203 => (some (bt203.1, bt203.2))) = some (r1, r2) := h
  clear h
  replace H := Option.bind_eq_some_iff.mp H
  obtain ⟨⟨t203, t204⟩, A30, H⟩ := H
  replace H : (some (t203, t204)) = some (r1, r2) := H
  have A3 := Aside0.mk A30
  clear A30
  simp only [Option.some.injEq, Prod.mk.injEq] at H
  obtain ⟨rfl, rfl⟩ := H
  obtain ⟨Ao4, co4, eo4⟩ := Kd.R_slice HO0_3.out
  subst eo4
  go_enter Try.func19, Try.ntmps19
  go_wp2_with (first | ((with_reducible refine gate_dst (N := 2) rfl ?_); refine box_event ?hg (N := 2) ?hd (cs := #[.int .i64 a0_0, .int .i64 a0_1, .int .i64 a0_2, .slice Ao4 l0_3.length co4]) (t := 31) ?hr ?_; (case hd => rfl); (case hg => rfl); (case hr => first | (go_simp; done) | (go_simp; rfl)); intro gb202 hg w5 hbox hb; have n0_ := Aside0.mk (Kd.R_below (by (with_reducible repeat (first | apply Kd.R_alloc | apply Kd.R_drewN | apply Kd.R_drew)); exact HO0_3.out) hb); have n1_ := Aside0.mk (Kept.below (S := (fun k_ => P0_3_ k_)) (by repeat (first | (with_reducible first | exact HK.out | apply Kept.alloc | apply Kept.drewN | apply Kept.drew) | exact HK.out)) hb); have n2_ := Aside0.mk (below_step (by repeat (first | (with_reducible first | exact HB.out | apply below_alloc | apply pw_below_drewN | apply below_drew1) | exact HB.out)) hb); have n3_ := Aside0.mk (hbox); have n4_ := Aside0.mk ((by rw [hg]; exact (by first | exact HK.out.1 | exact (show Kept w _ (fun k_ => P0_3_ k_) from by repeat (first | (with_reducible first | exact HK.out | apply Kept.alloc | apply Kept.drewN | apply Kept.drew) | exact HK.out)).1) : w.heap.size ≤ gb202)); have n5_ := Aside0.mk ((by rw [hg]; exact (below_size (by repeat (first | (with_reducible first | exact HB.out | apply below_alloc | apply pw_below_drewN | apply below_drew1) | exact HB.out))) : w0.heap.size ≤ gb202)); clear HO0_3; clear HK; clear HB; have HO0_3 := n0_; have HK := n1_; have HB := n2_; have BK202 := n3_; have GW202 := n4_; have GE202 := n5_; clear n0_ n1_ n2_ n3_ n4_ n5_; clear hb hbox hg; have hcz6_0 : w5.cell? ⟨gb202, 0, none⟩ = some (.int .i64 a0_0) := (blk_cell BK202.out 0).trans rfl; have hcz6_1 : w5.cell? ⟨gb202, 1, none⟩ = some (.int .i64 a0_1) := (blk_cell BK202.out 1).trans rfl; have hcz6_2 : w5.cell? ⟨gb202, 2, none⟩ = some (.int .i64 a0_2) := (blk_cell BK202.out 2).trans rfl; have hcz6_3 : w5.cell? ⟨gb202, 3, none⟩ = some (.slice Ao4 l0_3.length co4) := (blk_cell BK202.out 3).trans rfl; have hfz6_0 := blk_frozen BK202.out 0; have hfz6_1 := blk_frozen BK202.out 1; have hfz6_2 := blk_frozen BK202.out 2; have hfz6_3 := blk_frozen BK202.out 3) | ((with_reducible refine gate_callee (f := 167) rfl ?_); refine goesL_ (some 8) rfl rfl Try.func167 (by kernel_rfl) rfl #[.slice Ao4 l0_3.length co4, .int .i64 a1] rfl (by (try simp only [List.map_toArray, List.map_cons, List.map_nil]); first | done | rfl | (simp only [List.length_drop, List.length_take]; rfl)) ?_; (with_reducible refine (laws_markJumpS.calls k (fun k_ => some k_ = (.slice Ao4 l0_3.length co4 : Value).ownBlock) (.slice Ao4 l0_3.length co4) l0_3 a1 t203 t204 w0 _ ?side1 ?side2 A3.out).mono ?_); (case side1 => repeat (first | (with_reducible first | exact HB.out | apply below_alloc | apply pw_below_drewN | apply below_drew1 | refine below_set ?_ GE202.out) | exact HB.out)); (case side2 => exact Kd.R_tight rfl HO0_3.out); rintro e w7 ⟨rfl, hy0, hb, hkp⟩; refine ⟨_, rfl, ?_⟩; have n0_ := Aside0.mk (Kd.R_reok rfl hy0 (fun k_ e_ => HO0_3.out.1 k_ e_)); have n1_ := Aside0.mk (blk_kept (by (with_reducible repeat (first | refine blk_drewN ?_ _ | refine blk_drew ?_ | refine blk_alloc ?_ _)); exact BK202.out) hkp (fun hs_ => (fun e_ => (Kd.R_ne HO0_3.out BK202.out (by decide)) e_) hs_)); have n2_ := Aside0.mk (Kept.then_ (S := (fun k_ => P0_3_ k_)) (by repeat (first | (with_reducible first | exact HK.out | apply Kept.alloc | apply Kept.drewN | apply Kept.drew | refine Kept.setCell ?_ (.inr GW202.out) _) | exact HK.out)) hkp (fun k_ hs_ => (fun e_ => (HO0_3.out.1 k_ e_.symm)) hs_)); have n3_ := Aside0.mk (hb); clear HO0_3; clear BK202; clear HK; clear HB; have HO0_3 := n0_; have BK202 := n1_; have HK := n2_; have HB := n3_; clear n0_ n1_ n2_ n3_; (try clear hb); (try clear hkp); (try clear hy0)))
  go_ret
  exact ⟨by first | rfl | (simp [errW_none, errW_some] <;> rfl) | (simp [*, errW_none, errW_some] <;> rfl), by (with_reducible repeat (first | apply Kd.R_alloc | apply Kd.R_drewN | apply Kd.R_drew)); exact HO0_3.out, by repeat (first | (with_reducible first | exact HB.out | apply below_alloc | apply pw_below_drewN | apply below_drew1 | refine below_set ?_ GE202.out) | exact HB.out), by repeat (first | (with_reducible first | exact HK.out | apply Kept.alloc | apply Kept.drewN | apply Kept.drew | refine Kept.setCell ?_ (.inr GW202.out) _) | exact HK.out)⟩
end Go.Proofs.Ytgahigmpcgfbeaa.P
end

section
namespace Go.Proofs.Ytgahigmpcgfbeaa.P
open Go.RowKit Go.Proofs.YtgahigmpcgfbeaaW.PrintWords Go.Proofs.YtgahigmpcgfbeaaW.PrintLast Go.Proofs.YtgahigmpcgfbeaaW.PrintMore
attribute [local go_sem] max2_int min2_int max_two min_two max_three min_three max_four min_four
set_option linter.unusedVariables false
set_option linter.unusedSimpArgs false
def laws_markIntS.l0 : Nat → List Int → Int → Int → Option (Int × List Int)
  | 0, _, _, _ => none
  | k + 1, x0, x1, x5 => if x5 < (x0.length : Int) then (if 0 ≤ x5 then (laws_markIntS.l0 k (x0.set (x5 : Int).toNat x1) (wrap64 (x1 + 1)) (wrap64 (x5 + 1))) else (none)) else (some (x1, x0))
def laws_markIntS.f (k : Nat) (l0 : List Int) (a1 : Int) : Option (Int × List Int) := laws_markIntS.l0 k l0 a1 0
theorem laws_markIntS.mono_l : ∀ k, (∀ y0 y1 y2, LeO (laws_markIntS.l0 k y0 y1 y2) (laws_markIntS.l0 (k + 1) y0 y1 y2))
  | 0 => fun _ _ _ r h => by simp [laws_markIntS.l0] at h
  | k + 1 => by
    have ih0 := laws_markIntS.mono_l k
    · intro y0 y1 y2
      unfold laws_markIntS.l0
      repeat' first
      | (with_reducible exact ih0 _ _ _)
      | (with_reducible exact LeO.refl _)
      | (with_reducible exact LeO.none _)
      | (with_reducible refine LeO.ite ?_ ?_)
      | (with_reducible refine LeO.bind ?_ (fun _ => ?_))
      | exact ih0 _ _ _
      | exact LeO.none _
      | refine LeO.ite ?_ ?_
      | refine LeO.bind ?_ (fun _ => ?_)
theorem laws_markIntS.mono : ∀ a0 a1 k, LeO (laws_markIntS.f k a0 a1) (laws_markIntS.f (k + 1) a0 a1) := by
  intro a0 a1 k
  have ih0 := laws_markIntS.mono_l k
  unfold laws_markIntS.f
  repeat' first
      | (with_reducible exact ih0 _ _ _)
      | (with_reducible exact LeO.refl _)
      | (with_reducible exact LeO.none _)
      | (with_reducible refine LeO.ite ?_ ?_)
      | (with_reducible refine LeO.bind ?_ (fun _ => ?_))
      | exact ih0 _ _ _
      | exact LeO.none _
      | refine LeO.ite ?_ ?_
      | refine LeO.bind ?_ (fun _ => ?_)
set_option maxHeartbeats 8000000 in
set_option maxRecDepth 100000 in
theorem laws_markIntS.calls (k : Nat) (P0_ : Nat → Prop) (u9000_ : Value) (l0 : List Int) (a1 : Int) (r1 : Int) (r2 : List Int) (w0 w : World) (hB : Below w0.heap.size w0 w) (ho0 : Kd.R (Kd.int .i64) 3 w w0.heap.size P0_ u9000_ l0) (h : laws_markIntS.f k l0 a1 = some (r1, r2)) :
    Calls Try.prog 20 #[u9000_, .int .i64 a1] w fun e w' => e = .returned (.int .i64 r1) ∧ Kd.R (Kd.int .i64) 3 w' w0.heap.size (fun k_ => (P0_ k_ ∨ w.heap.size ≤ k_)) u9000_ r2 ∧ Below w0.heap.size w0 w' ∧ Kept w w' (fun k_ => P0_ k_) := by
  have HO0 := Aside0.mk (show Kd.R (Kd.int .i64) 3 w w0.heap.size (fun k_ => (P0_ k_ ∨ w.heap.size ≤ k_)) u9000_ l0 from Kd.R_mono ho0 (fun k_ hk => (.inl hk)))
  have HK := Aside0.mk (Kept.refl w (fun k_ => P0_ k_))
  have HW0 := Aside0.mk hB.size
  have HB := Aside0.mk hB
  clear hB
  have H : (laws_markIntS.l0 k l0 a1 0) = some (r1, r2) := h
  clear h
  have H' := Aside0.mk H
  clear H
  go_enter Try.func20, Try.ntmps20
  go_wp2
  go_loopg [1, 5] k (fun kq v1 v5 w' => ∃ (x0_1 : List Int) (x1_1 : Int) (x5_1 : Int), v1 = .int .i64 x1_1 ∧ v5 = .int .i64 x5_1 ∧ Aside0 (laws_markIntS.l0 kq x0_1 x1_1 x5_1 = some (r1, r2)) ∧ Aside0 (kq ≤ k) ∧ Aside0 (Kd.R (Kd.int .i64) 3 w' w0.heap.size (fun k_ => (P0_ k_ ∨ w.heap.size ≤ k_)) u9000_ x0_1) ∧ Aside0 (Kept w w' (fun k_ => P0_ k_)) ∧ Aside0 (Below w0.heap.size w0 w'))
  case atStart => exact ⟨(l0), (a1), (0), (by first | rfl | (simp; done) | (simp [*]; done)), (by first | rfl | (simp; done) | (simp [*]; done)), H', ⟨Nat.le_refl _⟩, ⟨by (with_reducible repeat (first | apply Kd.R_alloc | apply Kd.R_drewN | apply Kd.R_drew)); exact HO0.out⟩, ⟨by repeat (first | (with_reducible first | exact HK.out | apply Kept.alloc | apply Kept.drewN | apply Kept.drew) | exact HK.out)⟩, ⟨by repeat (first | (with_reducible first | exact HB.out | apply below_alloc | apply pw_below_drewN | apply below_drew1) | exact HB.out)⟩⟩
  case round =>
    clear H'
    try clear c2
    try clear p2
    obtain ⟨x0_1, x1_1, x5_1, rfl, rfl, HA, HK1, HO_0, HK, HB⟩ := hrel
    cases gk with
    | zero => exact absurd HA.out (by simp [laws_markIntS.l0])
    | succ k1 =>
      have H := HA.out
      clear HA
      simp only [laws_markIntS.l0] at H
      by_cases c3 : x5_1 < (x0_1.length : Int)
      · rw [if_pos c3] at H
        have c3b0 : decide (x5_1 < (x0_1.length : Int)) = true := decide_eq_true c3
        clear c3
        by_cases c4 : 0 ≤ x5_1
        · rw [if_pos c4] at H
          have c4b0 : decide (0 ≤ x5_1) = true := decide_eq_true c4
          clear c4
          obtain ⟨y205, hy205⟩ : ∃ y_ : List Int, y_ = (x0_1.set (x5_1 : Int).toNat x1_1) := ⟨_, rfl⟩
          replace H : (laws_markIntS.l0 k1 y205 (wrap64 (x1_1 + 1)) (wrap64 (x5_1 + 1))) = some (r1, r2) := by first | (rw [hy205]; with_reducible exact H) | (have H2_ := (Option.bind_some _ _).symm.trans H; rw [hy205]; with_reducible exact H2_) | (have H2_ := (Option.bind_some _ _).symm.trans H; with_reducible exact H2_) | with_reducible exact H | (rw [hy205]; exact H) | exact H
          have Ny205 := Aside0.mk hy205
          clear hy205
          have H' := Aside0.mk H
          clear H
          obtain ⟨Ao6, co6, eo6⟩ := Kd.R_slice HO_0.out
          subst eo6
          have p5 : 0 ≤ (x5_1 : Int) := of_decide_eq_true (by first | (with_reducible assumption) | assumption)
          have q5 : (x5_1 : Int) < ((x0_1.length : Int) : Int) := of_decide_eq_true (by first | (with_reducible assumption) | assumption)
          obtain ⟨go5, co5, eo5, gb5, gl5, cl5, HG5⟩ := Kd.R_form HO_0.out (by omega)
          (first | cases eo5 | (injection eo5 with ea_ en_ ec_; (first | subst ea_ | (injection ea_ with ea_; subst ea_)); subst ec_; clear en_))
          have GB5 := Aside0.mk gb5
          have GG5 := Aside0.mk HG5
          clear gb5 gl5 HG5
          have HMgo5 := Aside0.mk (show (P0_ go5 ∨ w.heap.size ≤ go5) from (HO_0.out.1 _ rfl))
          obtain ⟨hx5_0, hf5_0⟩ := Kd.R_celln 0 HO_0.out (x5_1 : Int) p5 q5
          replace p5 := eq_true p5
          replace q5 := eq_true q5
          have HP7 := Kd.R_putg HO_0.out (x5_1 : Int) x1_1
          go_wp2_with (first | ((with_reducible refine gate_store (t := 3) (p := 15) rfl ?_); refine store_event (t := 3) (p := 15) (v := ?vo_w8) (w1 := (wr.setCell ⟨go5, (x5_1 : Int).toNat, none⟩ (.int .i64 x1_1))) ?hg ?ho ?hn ?hr ?_; (case ho => rfl); (case hg => rfl); (case hn => rfl); (case hr => first | (go_simp; done) | (go_simp; rfl)); intro w8 hw; have hg : wr.grownBy w8 (some go5) := (by rw [hw]; exact HP7.2); have hp_ : Kd.R (Kd.int .i64) 3 w8 w0.heap.size (fun k_ => (P0_ k_ ∨ w.heap.size ≤ k_)) (.slice (some ⟨go5, 0, none⟩) x0_1.length co6) y205 := (by rw [hw, Ny205.out]; exact HP7.1); clear HP7; have n0_ := Aside0.mk (hp_); have n1_ := Aside0.mk ((by rw [hw]; exact below_set (HB.out) GB5.out : Below w0.heap.size w0 w8)); have n2_ := Aside0.mk (Kept.of_grown (S := (fun k_ => P0_ k_)) hg (by repeat (first | (with_reducible first | exact HK.out | apply Kept.alloc | apply Kept.drewN | apply Kept.drew) | exact HK.out)) (fun k_ e_ => (HO_0.out.1 k_ e_))); clear HO_0; clear HB; clear HK; have HO_0 := n0_; have HB := n1_; have HK := n2_; clear n0_ n1_ n2_; clear hg hw hp_))
          go_roundg k1
          case measure => have := HK1.out; omega
          case rel => exact ⟨(y205), (wrap64 (x1_1 + 1)), (wrap64 (x5_1 + 1)), (by first | rfl | (simp; done) | (simp [*]; done)), (by first | rfl | (simp; done) | (simp [*]; done)), H', ⟨by have := HK1.out; omega⟩, ⟨by (with_reducible repeat (first | apply Kd.R_alloc | apply Kd.R_drewN | apply Kd.R_drew)); exact HO_0.out⟩, ⟨by repeat (first | (with_reducible first | exact HK.out | apply Kept.alloc | apply Kept.drewN | apply Kept.drew) | exact HK.out)⟩, ⟨by repeat (first | (with_reducible first | exact HB.out | apply below_alloc | apply pw_below_drewN | apply below_drew1) | exact HB.out)⟩⟩
        · rw [if_neg c4] at H
          exact absurd H (by simp)
      · rw [if_neg c3] at H
        have c3b0 : decide (x5_1 < (x0_1.length : Int)) = false := decide_eq_false c3
        clear c3
        simp only [Option.some.injEq, Prod.mk.injEq] at H
        obtain ⟨rfl, rfl⟩ := H
        obtain ⟨Ao9, co9, eo9⟩ := Kd.R_slice HO_0.out
        subst eo9
        go_wp2
        go_ret
        exact ⟨by first | rfl | (simp [errW_none, errW_some] <;> rfl) | (simp [*, errW_none, errW_some] <;> rfl), by (with_reducible repeat (first | apply Kd.R_alloc | apply Kd.R_drewN | apply Kd.R_drew)); exact HO_0.out, by repeat (first | (with_reducible first | exact HB.out | apply below_alloc | apply pw_below_drewN | apply below_drew1) | exact HB.out), by repeat (first | (with_reducible first | exact HK.out | apply Kept.alloc | apply Kept.drewN | apply Kept.drew) | exact HK.out)⟩
end Go.Proofs.Ytgahigmpcgfbeaa.P
end

section
namespace Go.Proofs.Ytgahigmpcgfbeaa.P
open Go.RowKit Go.Proofs.YtgahigmpcgfbeaaW.PrintWords Go.Proofs.YtgahigmpcgfbeaaW.PrintLast Go.Proofs.YtgahigmpcgfbeaaW.PrintMore
attribute [local go_sem] max2_int min2_int max_two min_two max_three min_three max_four min_four
set_option linter.unusedVariables false
set_option linter.unusedSimpArgs false
def laws_heldIntS.l0 : Nat → List Int → Int → Int → Option (Int)
  | 0, _, _, _ => none
  | k + 1, x0, x1, x5 => if x5 < (x0.length : Int) then (if 0 ≤ x5 then (if (rd x0 x5) = x1 then (laws_heldIntS.l0 k x0 (wrap64 (x1 + 1)) (wrap64 (x5 + 1))) else (some (-1))) else (none)) else (some x1)
def laws_heldIntS.f (k : Nat) (l0 : List Int) (a1 : Int) : Option (Int) := laws_heldIntS.l0 k l0 a1 0
theorem laws_heldIntS.mono_l : ∀ k, (∀ y0 y1 y2, LeO (laws_heldIntS.l0 k y0 y1 y2) (laws_heldIntS.l0 (k + 1) y0 y1 y2))
  | 0 => fun _ _ _ r h => by simp [laws_heldIntS.l0] at h
  | k + 1 => by
    have ih0 := laws_heldIntS.mono_l k
    · intro y0 y1 y2
      unfold laws_heldIntS.l0
      repeat' first
      | (with_reducible exact ih0 _ _ _)
      | (with_reducible exact LeO.refl _)
      | (with_reducible exact LeO.none _)
      | (with_reducible refine LeO.ite ?_ ?_)
      | (with_reducible refine LeO.bind ?_ (fun _ => ?_))
      | exact ih0 _ _ _
      | exact LeO.none _
      | refine LeO.ite ?_ ?_
      | refine LeO.bind ?_ (fun _ => ?_)
theorem laws_heldIntS.mono : ∀ a0 a1 k, LeO (laws_heldIntS.f k a0 a1) (laws_heldIntS.f (k + 1) a0 a1) := by
  intro a0 a1 k
  have ih0 := laws_heldIntS.mono_l k
  unfold laws_heldIntS.f
  repeat' first
      | (with_reducible exact ih0 _ _ _)
      | (with_reducible exact LeO.refl _)
      | (with_reducible exact LeO.none _)
      | (with_reducible refine LeO.ite ?_ ?_)
      | (with_reducible refine LeO.bind ?_ (fun _ => ?_))
      | exact ih0 _ _ _
      | exact LeO.none _
      | refine LeO.ite ?_ ?_
      | refine LeO.bind ?_ (fun _ => ?_)
set_option maxHeartbeats 8000000 in
set_option maxRecDepth 100000 in
theorem laws_heldIntS.calls (k : Nat) (A0 : Option Addr) (c0 : Nat) (l0 : List Int) (a1 : Int) (r : Int) (w : World) (hr0 : Kd.C (Kd.int .i64) w A0 l0.length l0) (hc0 : l0.length ≤ c0) (h : laws_heldIntS.f k l0 a1 = some r) :
    Calls Try.prog 21 #[.slice A0 l0.length c0, .int .i64 a1] w fun e w' => e = .returned (.int .i64 r) ∧ Drawn0 w w' := by
  have HR0 := Aside0.mk hr0
  have HC0 := Aside0.mk hc0
  clear hr0 hc0
  have H : (laws_heldIntS.l0 k l0 a1 0) = some r := h
  clear h
  have H' := Aside0.mk H
  clear H
  go_enter Try.func21, Try.ntmps21
  go_wp2
  go_loopg [1, 5] k (fun kq v1 v5 w' => ∃ (x1_1 : Int) (x5_1 : Int), v1 = .int .i64 x1_1 ∧ v5 = .int .i64 x5_1 ∧ Aside0 (laws_heldIntS.l0 kq l0 x1_1 x5_1 = some r) ∧ Aside0 (kq ≤ k) ∧ Drawn0 w w')
  case atStart => exact ⟨(a1), (0), (by first | rfl | (simp; done) | (simp [*]; done)), (by first | rfl | (simp; done) | (simp [*]; done)), H', ⟨Nat.le_refl _⟩, by repeat (first | exact Drawn0.refl _ | apply Drawn0.step)⟩
  case round =>
    clear H'
    try clear c2
    try clear p2
    obtain ⟨x1_1, x5_1, rfl, rfl, HA, HK1, ⟨m1, rfl⟩⟩ := hrel
    cases gk with
    | zero => exact absurd HA.out (by simp [laws_heldIntS.l0])
    | succ k1 =>
      have H := HA.out
      clear HA
      simp only [laws_heldIntS.l0] at H
      by_cases c3 : x5_1 < (l0.length : Int)
      · rw [if_pos c3] at H
        have c3b0 : decide (x5_1 < (l0.length : Int)) = true := decide_eq_true c3
        clear c3
        by_cases c4 : 0 ≤ x5_1
        · rw [if_pos c4] at H
          have c4b0 : decide (0 ≤ x5_1) = true := decide_eq_true c4
          clear c4
          by_cases c5 : (rd l0 x5_1) = x1_1
          · rw [if_pos c5] at H
            have c5b0 : ((rd l0 x5_1) == x1_1) = true := beq_iff_eq.mpr c5
            have c5b1 : ((rd l0 x5_1) != x1_1) = false := bne_eq_false_iff_eq.mpr c5
            clear c5
            have H' := Aside0.mk H
            clear H
            have p206 : 0 ≤ (x5_1 : Int) := of_decide_eq_true (by first | (with_reducible assumption) | assumption)
            have q206 : x5_1 < (l0.length : Int) := of_decide_eq_true (by first | (with_reducible assumption) | assumption)
            obtain ⟨ad206, e206, hx206_0⟩ := Kd.at_int HR0.out x5_1 p206 q206
            cases e206
            replace p206 := eq_true p206
            replace q206 := eq_true q206
            go_wp2
            go_roundg k1
            case measure => have := HK1.out; omega
            case rel => exact ⟨(wrap64 (x1_1 + 1)), (wrap64 (x5_1 + 1)), (by first | rfl | (simp; done) | (simp [*]; done)), (by first | rfl | (simp; done) | (simp [*]; done)), H', ⟨by have := HK1.out; omega⟩, by repeat (first | exact Drawn0.refl _ | apply Drawn0.step)⟩
          · rw [if_neg c5] at H
            have c5b0 : ((rd l0 x5_1) == x1_1) = false := beq_eq_false_iff_ne.mpr c5
            have c5b1 : ((rd l0 x5_1) != x1_1) = true := bne_iff_ne.mpr c5
            obtain rfl := Option.some.inj H
            have p206 : 0 ≤ (x5_1 : Int) := of_decide_eq_true (by first | (with_reducible assumption) | assumption)
            have q206 : x5_1 < (l0.length : Int) := of_decide_eq_true (by first | (with_reducible assumption) | assumption)
            obtain ⟨ad206, e206, hx206_0⟩ := Kd.at_int HR0.out x5_1 p206 q206
            cases e206
            replace p206 := eq_true p206
            replace q206 := eq_true q206
            go_wp2
            go_ret
            exact ⟨by first | rfl | (simp; done) | (simp [*]; done), by repeat (first | exact Drawn0.refl _ | apply Drawn0.step)⟩
        · rw [if_neg c4] at H
          exact absurd H (by simp)
      · rw [if_neg c3] at H
        have c3b0 : decide (x5_1 < (l0.length : Int)) = false := decide_eq_false c3
        clear c3
        obtain rfl := Option.some.inj H
        go_wp2
        go_ret
        exact ⟨by first | rfl | (simp; done) | (simp [*]; done), by repeat (first | exact Drawn0.refl _ | apply Drawn0.step)⟩
end Go.Proofs.Ytgahigmpcgfbeaa.P
end

section
namespace Go.Proofs.Ytgahigmpcgfbeaa.P
open Go.RowKit Go.Proofs.YtgahigmpcgfbeaaW.PrintWords Go.Proofs.YtgahigmpcgfbeaaW.PrintLast Go.Proofs.YtgahigmpcgfbeaaW.PrintMore
attribute [local go_sem] max2_int min2_int max_two min_two max_three min_three max_four min_four
set_option linter.unusedVariables false
set_option linter.unusedSimpArgs false
mutual
def laws_FnExactSureSquares.j0 : Nat → Int → List Int → Bool → List Int → Bool → Bool → Int → Int → Int → List (S177) → Int → Int → Int → List (S126) → Option (Bool)
  | 0, _, _, _, _, _, _, _, _, _, _, _, _, _, _ => none
  | k + 1, x1, x6, x7, x9, x10, x44, x208000, x208001, x208002, x208003, x226000, x226001, x226002, x226003 => if x44 = true then (none) else ((laws_toBoard.f k x208000 x208001 x208002 x208003).bind fun bt231 => ((laws_eqBoard.f k x226000 x226001 x226002 x226003 bt231.1 bt231.2.1 bt231.2.2.1 bt231.2.2.2).bind fun t237 => (if t237 = true then ((laws_markBoard.f k x226000 x226001 x226002 x226003 1).bind fun bt238 => (if bt238.1 < 0 then (none) else ((laws_eqIntS.f k x9 x6).bind fun t240 => (if t240 = true then (laws_FnExactSureSquares.j1 k x1 x6 x7 x9 (x10 != x7) x208000 x208001 x208002 x208003) else (none))))) else (none))))
def laws_FnExactSureSquares.j1 : Nat → Int → List Int → Bool → List Int → Bool → Int → Int → Int → List (S177) → Option (Bool)
  | 0, _, _, _, _, _, _, _, _, _ => none
  | k + 1, x1, x6, x7, x9, x65, x208000, x208001, x208002, x208003 => if x65 = true then (none) else ((laws_markIntS.f k x9 1).bind fun bt241 => ((laws_heldIntS.f k bt241.2 1).bind fun t243 => (if t243 < 0 then (none) else (if t243 = bt241.1 then ((laws_toBoard.f k x208000 x208001 x208002 x208003).bind fun bt244 => ((impl_SureSquares.f k bt244.1 bt244.2.1 bt244.2.2.1 bt244.2.2.2 x1).bind fun bt250 => ((laws_eqIntS.f k bt250.1 x6).bind fun t254 => (if t254 = true then (laws_FnExactSureSquares.j2 k bt241.2 bt241.1 (bt250.2 != x7)) else (none))))) else (none)))))
def laws_FnExactSureSquares.j2 : Nat → List Int → Int → Bool → Option (Bool)
  | 0, _, _, _ => none
  | k + 1, x9, x12, x92 => if x92 = true then (none) else ((laws_heldIntS.f k x9 1).bind fun t255 => (if t255 < 0 then (none) else (if t255 = x12 then (some true) else (none))))
end
def laws_FnExactSureSquares.f (k : Nat) (a0_0 : Int) (a0_1 : Int) (a0_2 : Int) (l0_3 : List (S177)) (a1 : Int) : Option (Bool) := (laws_szBoard.f a0_0 a0_1 a0_2 l0_3 1048576).bind fun t208 => (if t208 < 0 then (some true) else ((laws_toBoard.f k a0_0 a0_1 a0_2 l0_3).bind fun bt209 => ((spec_SureSquares.f k bt209.1 bt209.2.1 bt209.2.2.1 bt209.2.2.2 a1).bind fun bt215 => ((laws_toBoard.f k a0_0 a0_1 a0_2 l0_3).bind fun bt219 => ((impl_SureSquares.f k bt219.1 bt219.2.1 bt219.2.2.1 bt219.2.2.2 a1).bind fun bt226 => ((laws_eqIntS.f k bt226.1 bt215.1).bind fun t230 => (if t230 = true then (laws_FnExactSureSquares.j0 k a1 bt215.1 bt215.2 bt226.1 bt226.2 (bt226.2 != bt215.2) a0_0 a0_1 a0_2 l0_3 bt219.1 bt219.2.1 bt219.2.2.1 bt219.2.2.2) else (none))))))))
theorem laws_FnExactSureSquares.mono_l : ∀ k, (∀ y0 y1 y2 y3 y4 y5 y6 y7 y8 y9 y10 y11 y12 y13, LeO (laws_FnExactSureSquares.j0 k y0 y1 y2 y3 y4 y5 y6 y7 y8 y9 y10 y11 y12 y13) (laws_FnExactSureSquares.j0 (k + 1) y0 y1 y2 y3 y4 y5 y6 y7 y8 y9 y10 y11 y12 y13)) ∧ (∀ y0 y1 y2 y3 y4 y5 y6 y7 y8, LeO (laws_FnExactSureSquares.j1 k y0 y1 y2 y3 y4 y5 y6 y7 y8) (laws_FnExactSureSquares.j1 (k + 1) y0 y1 y2 y3 y4 y5 y6 y7 y8)) ∧ (∀ y0 y1 y2, LeO (laws_FnExactSureSquares.j2 k y0 y1 y2) (laws_FnExactSureSquares.j2 (k + 1) y0 y1 y2))
  | 0 => ⟨fun _ _ _ _ _ _ _ _ _ _ _ _ _ _ r h => by simp [laws_FnExactSureSquares.j0] at h, fun _ _ _ _ _ _ _ _ _ r h => by simp [laws_FnExactSureSquares.j1] at h, fun _ _ _ r h => by simp [laws_FnExactSureSquares.j2] at h⟩
  | k + 1 => by
    obtain ⟨ih0, ih1, ih2⟩ := laws_FnExactSureSquares.mono_l k
    refine ⟨?_, ?_, ?_⟩
    · intro y0 y1 y2 y3 y4 y5 y6 y7 y8 y9 y10 y11 y12 y13
      unfold laws_FnExactSureSquares.j0
      repeat' first
      | (with_reducible exact ih0 _ _ _ _ _ _ _ _ _ _ _ _ _ _)
      | (with_reducible exact ih1 _ _ _ _ _ _ _ _ _)
      | (with_reducible exact ih2 _ _ _)
      | (with_reducible exact impl_SureSquares.mono _ _ _ _ _ _)
      | (with_reducible exact laws_eqBoard.mono _ _ _ _ _ _ _ _ _)
      | (with_reducible exact laws_eqIntS.mono _ _ _)
      | (with_reducible exact laws_heldIntS.mono _ _ _)
      | (with_reducible exact laws_markBoard.mono _ _ _ _ _ _)
      | (with_reducible exact laws_markIntS.mono _ _ _)
      | (with_reducible exact laws_toBoard.mono _ _ _ _ _)
      | (with_reducible exact spec_SureSquares.mono _ _ _ _ _ _)
      | (with_reducible exact LeO.refl _)
      | (with_reducible exact LeO.none _)
      | (with_reducible refine LeO.ite ?_ ?_)
      | (with_reducible refine LeO.bind ?_ (fun _ => ?_))
      | exact ih0 _ _ _ _ _ _ _ _ _ _ _ _ _ _
      | exact ih1 _ _ _ _ _ _ _ _ _
      | exact ih2 _ _ _
      | exact impl_SureSquares.mono _ _ _ _ _ _
      | exact laws_eqBoard.mono _ _ _ _ _ _ _ _ _
      | exact laws_eqIntS.mono _ _ _
      | exact laws_heldIntS.mono _ _ _
      | exact laws_markBoard.mono _ _ _ _ _ _
      | exact laws_markIntS.mono _ _ _
      | exact laws_toBoard.mono _ _ _ _ _
      | exact spec_SureSquares.mono _ _ _ _ _ _
      | exact LeO.none _
      | refine LeO.ite ?_ ?_
      | refine LeO.bind ?_ (fun _ => ?_)
    · intro y0 y1 y2 y3 y4 y5 y6 y7 y8
      unfold laws_FnExactSureSquares.j1
      repeat' first
      | (with_reducible exact ih0 _ _ _ _ _ _ _ _ _ _ _ _ _ _)
      | (with_reducible exact ih1 _ _ _ _ _ _ _ _ _)
      | (with_reducible exact ih2 _ _ _)
      | (with_reducible exact impl_SureSquares.mono _ _ _ _ _ _)
      | (with_reducible exact laws_eqBoard.mono _ _ _ _ _ _ _ _ _)
      | (with_reducible exact laws_eqIntS.mono _ _ _)
      | (with_reducible exact laws_heldIntS.mono _ _ _)
      | (with_reducible exact laws_markBoard.mono _ _ _ _ _ _)
      | (with_reducible exact laws_markIntS.mono _ _ _)
      | (with_reducible exact laws_toBoard.mono _ _ _ _ _)
      | (with_reducible exact spec_SureSquares.mono _ _ _ _ _ _)
      | (with_reducible exact LeO.refl _)
      | (with_reducible exact LeO.none _)
      | (with_reducible refine LeO.ite ?_ ?_)
      | (with_reducible refine LeO.bind ?_ (fun _ => ?_))
      | exact ih0 _ _ _ _ _ _ _ _ _ _ _ _ _ _
      | exact ih1 _ _ _ _ _ _ _ _ _
      | exact ih2 _ _ _
      | exact impl_SureSquares.mono _ _ _ _ _ _
      | exact laws_eqBoard.mono _ _ _ _ _ _ _ _ _
      | exact laws_eqIntS.mono _ _ _
      | exact laws_heldIntS.mono _ _ _
      | exact laws_markBoard.mono _ _ _ _ _ _
      | exact laws_markIntS.mono _ _ _
      | exact laws_toBoard.mono _ _ _ _ _
      | exact spec_SureSquares.mono _ _ _ _ _ _
      | exact LeO.none _
      | refine LeO.ite ?_ ?_
      | refine LeO.bind ?_ (fun _ => ?_)
    · intro y0 y1 y2
      unfold laws_FnExactSureSquares.j2
      repeat' first
      | (with_reducible exact ih0 _ _ _ _ _ _ _ _ _ _ _ _ _ _)
      | (with_reducible exact ih1 _ _ _ _ _ _ _ _ _)
      | (with_reducible exact ih2 _ _ _)
      | (with_reducible exact impl_SureSquares.mono _ _ _ _ _ _)
      | (with_reducible exact laws_eqBoard.mono _ _ _ _ _ _ _ _ _)
      | (with_reducible exact laws_eqIntS.mono _ _ _)
      | (with_reducible exact laws_heldIntS.mono _ _ _)
      | (with_reducible exact laws_markBoard.mono _ _ _ _ _ _)
      | (with_reducible exact laws_markIntS.mono _ _ _)
      | (with_reducible exact laws_toBoard.mono _ _ _ _ _)
      | (with_reducible exact spec_SureSquares.mono _ _ _ _ _ _)
      | (with_reducible exact LeO.refl _)
      | (with_reducible exact LeO.none _)
      | (with_reducible refine LeO.ite ?_ ?_)
      | (with_reducible refine LeO.bind ?_ (fun _ => ?_))
      | exact ih0 _ _ _ _ _ _ _ _ _ _ _ _ _ _
      | exact ih1 _ _ _ _ _ _ _ _ _
      | exact ih2 _ _ _
      | exact impl_SureSquares.mono _ _ _ _ _ _
      | exact laws_eqBoard.mono _ _ _ _ _ _ _ _ _
      | exact laws_eqIntS.mono _ _ _
      | exact laws_heldIntS.mono _ _ _
      | exact laws_markBoard.mono _ _ _ _ _ _
      | exact laws_markIntS.mono _ _ _
      | exact laws_toBoard.mono _ _ _ _ _
      | exact spec_SureSquares.mono _ _ _ _ _ _
      | exact LeO.none _
      | refine LeO.ite ?_ ?_
      | refine LeO.bind ?_ (fun _ => ?_)
theorem laws_FnExactSureSquares.mono : ∀ a0 a1 a2 a3 a4 k, LeO (laws_FnExactSureSquares.f k a0 a1 a2 a3 a4) (laws_FnExactSureSquares.f (k + 1) a0 a1 a2 a3 a4) := by
  intro a0 a1 a2 a3 a4 k
  obtain ⟨ih0, ih1, ih2⟩ := laws_FnExactSureSquares.mono_l k
  unfold laws_FnExactSureSquares.f
  repeat' first
      | (with_reducible exact ih0 _ _ _ _ _ _ _ _ _ _ _ _ _ _)
      | (with_reducible exact ih1 _ _ _ _ _ _ _ _ _)
      | (with_reducible exact ih2 _ _ _)
      | (with_reducible exact impl_SureSquares.mono _ _ _ _ _ _)
      | (with_reducible exact laws_eqBoard.mono _ _ _ _ _ _ _ _ _)
      | (with_reducible exact laws_eqIntS.mono _ _ _)
      | (with_reducible exact laws_heldIntS.mono _ _ _)
      | (with_reducible exact laws_markBoard.mono _ _ _ _ _ _)
      | (with_reducible exact laws_markIntS.mono _ _ _)
      | (with_reducible exact laws_toBoard.mono _ _ _ _ _)
      | (with_reducible exact spec_SureSquares.mono _ _ _ _ _ _)
      | (with_reducible exact LeO.refl _)
      | (with_reducible exact LeO.none _)
      | (with_reducible refine LeO.ite ?_ ?_)
      | (with_reducible refine LeO.bind ?_ (fun _ => ?_))
      | exact ih0 _ _ _ _ _ _ _ _ _ _ _ _ _ _
      | exact ih1 _ _ _ _ _ _ _ _ _
      | exact ih2 _ _ _
      | exact impl_SureSquares.mono _ _ _ _ _ _
      | exact laws_eqBoard.mono _ _ _ _ _ _ _ _ _
      | exact laws_eqIntS.mono _ _ _
      | exact laws_heldIntS.mono _ _ _
      | exact laws_markBoard.mono _ _ _ _ _ _
      | exact laws_markIntS.mono _ _ _
      | exact laws_toBoard.mono _ _ _ _ _
      | exact spec_SureSquares.mono _ _ _ _ _ _
      | exact LeO.none _
      | refine LeO.ite ?_ ?_
      | refine LeO.bind ?_ (fun _ => ?_)
set_option maxHeartbeats 8000000 in
set_option maxRecDepth 100000 in
theorem laws_FnExactSureSquares.calls (k : Nat) (a0_0 : Int) (a0_1 : Int) (a0_2 : Int) (A0_3 : Option Addr) (c0_3 : Nat) (l0_3 : List (S177)) (a1 : Int) (r : Bool) (w : World) (hr0_3 : Kd.C k177 w A0_3 l0_3.length l0_3) (hc0_3 : l0_3.length ≤ c0_3) (h : laws_FnExactSureSquares.f k a0_0 a0_1 a0_2 l0_3 a1 = some r) :
    Calls Try.prog 3 #[.agg #[.int .i64 a0_0, .int .i64 a0_1, .int .i64 a0_2, .slice A0_3 l0_3.length c0_3], .int .i64 a1] w fun e w' => e = .returned (.bool r) ∧ Below w.heap.size w w' := by
  have hu24 := Try.underlying24
  have hu31 := Try.underlying31
  have HR0_3 := Aside0.mk hr0_3
  have HC0_3 := Aside0.mk hc0_3
  clear hr0_3 hc0_3
  have HB := Aside0.mk (Below.refl w.heap.size w)
  have H : ((laws_szBoard.f a0_0 a0_1 a0_2 l0_3 1048576).bind fun t208 => (if t208 < 0 then (some true) else ((laws_toBoard.f k a0_0 a0_1 a0_2 l0_3).bind fun bt209 => ((spec_SureSquares.f k bt209.1 bt209.2.1 bt209.2.2.1 bt209.2.2.2 a1).bind fun bt215 => ((laws_toBoard.f k a0_0 a0_1 a0_2 l0_3).bind fun bt219 => ((impl_SureSquares.f k bt219.1 bt219.2.1 bt219.2.2.1 bt219.2.2.2 a1).bind fun bt226 => ((laws_eqIntS.f k bt226.1 bt215.1).bind fun t230 => (if t230 = true then (laws_FnExactSureSquares.j0 k a1 bt215.1 bt215.2 bt226.1 bt226.2 (bt226.2 != bt215.2) a0_0 a0_1 a0_2 l0_3 bt219.1 bt219.2.1 bt219.2.2.1 bt219.2.2.2) else (none))))))))) = some r := h
  clear h
  replace H := Option.bind_eq_some_iff.mp H
  obtain ⟨t208, A30, H⟩ := H
  replace H : (if t208 < 0 then (some true) else ((laws_toBoard.f k a0_0 a0_1 a0_2 l0_3).bind fun bt209 => ((spec_SureSquares.f k bt209.1 bt209.2.1 bt209.2.2.1 bt209.2.2.2 a1).bind fun bt215 => ((laws_toBoard.f k a0_0 a0_1 a0_2 l0_3).bind fun bt219 => ((impl_SureSquares.f k bt219.1 bt219.2.1 bt219.2.2.1 bt219.2.2.2 a1).bind fun bt226 => ((laws_eqIntS.f k bt226.1 bt215.1).bind fun t230 => (if t230 = true then (laws_FnExactSureSquares.j0 k a1 bt215.1 bt215.2 bt226.1 bt226.2 (bt226.2 != bt215.2) a0_0 a0_1 a0_2 l0_3 bt219.1 bt219.2.1 bt219.2.2.1 bt219.2.2.2) else (none)))))))) = some r := H
  have A3 := Aside0.mk A30
  clear A30
  by_cases c4 : t208 < 0
  · rw [if_pos c4] at H
    have c4b0 : decide (t208 < 0) = true := decide_eq_true c4
    clear c4
    obtain rfl := Option.some.inj H
    go_enter Try.func3, Try.ntmps3
    go_wp2_with (first | ((with_reducible refine gate_dst (N := 2) rfl ?_); refine box_event ?hg (N := 2) ?hd (cs := #[.int .i64 a0_0, .int .i64 a0_1, .int .i64 a0_2, .slice A0_3 l0_3.length c0_3]) (t := 24) ?hr ?_; (case hd => rfl); (case hg => rfl); (case hr => first | (go_simp; done) | (go_simp; rfl)); intro gb207 hg w5 hbox hb; have n0_ := Aside0.mk (below_step (by repeat (first | (with_reducible first | exact HB.out | apply below_alloc | apply pw_below_drewN | apply below_drew1) | exact HB.out)) hb); have n1_ := Aside0.mk (hbox); have n2_ := Aside0.mk ((by rw [hg]; exact (below_size (by repeat (first | (with_reducible first | exact HB.out | apply below_alloc | apply pw_below_drewN | apply below_drew1) | exact HB.out))) : w.heap.size ≤ gb207)); have n3_ := Aside0.mk ((by rw [hg]; exact (below_size (by repeat (first | (with_reducible first | exact HB.out | apply below_alloc | apply pw_below_drewN | apply below_drew1) | exact HB.out))) : w.heap.size ≤ gb207)); clear HB; have HB := n0_; have BK207 := n1_; have GW207 := n2_; have GE207 := n3_; clear n0_ n1_ n2_ n3_; clear hb hbox hg; have hcz6_0 : w5.cell? ⟨gb207, 0, none⟩ = some (.int .i64 a0_0) := (blk_cell BK207.out 0).trans rfl; have hcz6_1 : w5.cell? ⟨gb207, 1, none⟩ = some (.int .i64 a0_1) := (blk_cell BK207.out 1).trans rfl; have hcz6_2 : w5.cell? ⟨gb207, 2, none⟩ = some (.int .i64 a0_2) := (blk_cell BK207.out 2).trans rfl; have hcz6_3 : w5.cell? ⟨gb207, 3, none⟩ = some (.slice A0_3 l0_3.length c0_3) := (blk_cell BK207.out 3).trans rfl; have hfz6_0 := blk_frozen BK207.out 0; have hfz6_1 := blk_frozen BK207.out 1; have hfz6_2 := blk_frozen BK207.out 2; have hfz6_3 := blk_frozen BK207.out 3) | ((with_reducible refine gate_callee (f := 13) rfl ?_); refine goesL_ (some 18) rfl rfl Try.func13 (by kernel_rfl) rfl #[.agg #[.int .i64 a0_0, .int .i64 a0_1, .int .i64 a0_2, .slice A0_3 l0_3.length c0_3], .int .i64 1048576] rfl (by (try simp only [List.map_toArray, List.map_cons, List.map_nil]); first | done | rfl | (simp only [List.length_drop, List.length_take]; rfl)) ?_; (with_reducible refine (laws_szBoard.calls a0_0 a0_1 a0_2 _ _ l0_3 1048576 t208 _ ?side1 ?side2 A3.out).mono ?_); (case side1 => repeat (first | exact (Kd.C_below HR0_3.out HB.out) | (with_reducible refine Kd.C_alloc ?_ _) | (with_reducible refine Kd.C_drewN ?_ _) | (with_reducible refine Kd.C_drew ?_))); (case side2 => exact HC0_3.out); rintro e w7 ⟨rfl, hb⟩; refine ⟨_, rfl, ?_⟩; have n0_ := Aside0.mk (blk_below (g := gb207) (o := .cells #[.int .i64 a0_0, .int .i64 a0_1, .int .i64 a0_2, .slice A0_3 l0_3.length c0_3] 24 (0, 0)) (by (with_reducible repeat (first | refine blk_drewN ?_ _ | refine blk_drew ?_ | refine blk_alloc ?_ _)); exact BK207.out) hb); have n1_ := Aside0.mk (below_step (by repeat (first | (with_reducible first | exact HB.out | apply below_alloc | apply pw_below_drewN | apply below_drew1 | refine below_set ?_ GE207.out) | exact HB.out)) hb); clear BK207; clear HB; have BK207 := n0_; have HB := n1_; clear n0_ n1_; (try clear hb); (try clear hb2); (try clear hk); (try clear hi)))
    go_ret
    exact ⟨by first | rfl | (simp [errW_none, errW_some] <;> rfl) | (simp [*, errW_none, errW_some] <;> rfl), by repeat (first | (with_reducible first | exact HB.out | apply below_alloc | apply pw_below_drewN | apply below_drew1 | refine below_set ?_ GE207.out) | exact HB.out)⟩
  · rw [if_neg c4] at H
    have c4b0 : decide (t208 < 0) = false := decide_eq_false c4
    clear c4
    replace H := Option.bind_eq_some_iff.mp H
    obtain ⟨⟨t209, t210, t211, t212⟩, A80, H⟩ := H
    replace H : ((spec_SureSquares.f k t209 t210 t211 t212 a1).bind fun bt215 => ((laws_toBoard.f k a0_0 a0_1 a0_2 l0_3).bind fun bt219 => ((impl_SureSquares.f k bt219.1 bt219.2.1 bt219.2.2.1 bt219.2.2.2 a1).bind fun bt226 => ((laws_eqIntS.f k bt226.1 bt215.1).bind fun t230 => (if t230 = true then (laws_FnExactSureSquares.j0 k a1 bt215.1 bt215.2 bt226.1 bt226.2 (bt226.2 != bt215.2) a0_0 a0_1 a0_2 l0_3 bt219.1 bt219.2.1 bt219.2.2.1 bt219.2.2.2) else (none)))))) = some r := H
    have A8 := Aside0.mk A80
    clear A80
    replace H := Option.bind_eq_some_iff.mp H
    obtain ⟨⟨t215, t218⟩, A90, H⟩ := H
    replace H : ((laws_toBoard.f k a0_0 a0_1 a0_2 l0_3).bind fun bt219 => ((impl_SureSquares.f k bt219.1 bt219.2.1 bt219.2.2.1 bt219.2.2.2 a1).bind fun bt226 => ((laws_eqIntS.f k bt226.1 t215).bind fun t230 => (if t230 = true then (laws_FnExactSureSquares.j0 k a1 t215 t218 bt226.1 bt226.2 (bt226.2 != t218) a0_0 a0_1 a0_2 l0_3 bt219.1 bt219.2.1 bt219.2.2.1 bt219.2.2.2) else (none))))) = some r := H
    have A9 := Aside0.mk A90
    clear A90
    replace H := Option.bind_eq_some_iff.mp H
    obtain ⟨⟨t219, t220, t221, t222⟩, A100, H⟩ := H
    replace H : ((impl_SureSquares.f k t219 t220 t221 t222 a1).bind fun bt226 => ((laws_eqIntS.f k bt226.1 t215).bind fun t230 => (if t230 = true then (laws_FnExactSureSquares.j0 k a1 t215 t218 bt226.1 bt226.2 (bt226.2 != t218) a0_0 a0_1 a0_2 l0_3 t219 t220 t221 t222) else (none)))) = some r := H
    have A10 := Aside0.mk A100
    clear A100
    replace H := Option.bind_eq_some_iff.mp H
    obtain ⟨⟨t226, t229⟩, A110, H⟩ := H
    replace H : ((laws_eqIntS.f k t226 t215).bind fun t230 => (if t230 = true then (laws_FnExactSureSquares.j0 k a1 t215 t218 t226 t229 (t229 != t218) a0_0 a0_1 a0_2 l0_3 t219 t220 t221 t222) else (none))) = some r := H
    have A11 := Aside0.mk A110
    clear A110
    have HC12 := Aside0.mk H
    clear H
    go_enter Try.func3, Try.ntmps3
    go_upto_region 8 with (first | ((with_reducible refine gate_dst (N := 2) rfl ?_); refine box_event ?hg (N := 2) ?hd (cs := #[.int .i64 a0_0, .int .i64 a0_1, .int .i64 a0_2, .slice A0_3 l0_3.length c0_3]) (t := 24) ?hr ?_; (case hd => rfl); (case hg => rfl); (case hr => first | (go_simp; done) | (go_simp; rfl)); intro gb207 hg w13 hbox hb; have n0_ := Aside0.mk (below_step (by repeat (first | (with_reducible first | exact HB.out | apply below_alloc | apply pw_below_drewN | apply below_drew1) | exact HB.out)) hb); have n1_ := Aside0.mk (hbox); have n2_ := Aside0.mk ((by rw [hg]; exact (below_size (by repeat (first | (with_reducible first | exact HB.out | apply below_alloc | apply pw_below_drewN | apply below_drew1) | exact HB.out))) : w.heap.size ≤ gb207)); have n3_ := Aside0.mk ((by rw [hg]; exact (below_size (by repeat (first | (with_reducible first | exact HB.out | apply below_alloc | apply pw_below_drewN | apply below_drew1) | exact HB.out))) : w.heap.size ≤ gb207)); clear HB; have HB := n0_; have BK207 := n1_; have GW207 := n2_; have GE207 := n3_; clear n0_ n1_ n2_ n3_; clear hb hbox hg; have hcz14_0 : w13.cell? ⟨gb207, 0, none⟩ = some (.int .i64 a0_0) := (blk_cell BK207.out 0).trans rfl; have hcz14_1 : w13.cell? ⟨gb207, 1, none⟩ = some (.int .i64 a0_1) := (blk_cell BK207.out 1).trans rfl; have hcz14_2 : w13.cell? ⟨gb207, 2, none⟩ = some (.int .i64 a0_2) := (blk_cell BK207.out 2).trans rfl; have hcz14_3 : w13.cell? ⟨gb207, 3, none⟩ = some (.slice A0_3 l0_3.length c0_3) := (blk_cell BK207.out 3).trans rfl; have hfz14_0 := blk_frozen BK207.out 0; have hfz14_1 := blk_frozen BK207.out 1; have hfz14_2 := blk_frozen BK207.out 2; have hfz14_3 := blk_frozen BK207.out 3) | ((with_reducible refine gate_callee (f := 13) rfl ?_); refine goesL_ (some 18) rfl rfl Try.func13 (by kernel_rfl) rfl #[.agg #[.int .i64 a0_0, .int .i64 a0_1, .int .i64 a0_2, .slice A0_3 l0_3.length c0_3], .int .i64 1048576] rfl (by (try simp only [List.map_toArray, List.map_cons, List.map_nil]); first | done | rfl | (simp only [List.length_drop, List.length_take]; rfl)) ?_; (with_reducible refine (laws_szBoard.calls a0_0 a0_1 a0_2 _ _ l0_3 1048576 t208 _ ?side1 ?side2 A3.out).mono ?_); (case side1 => repeat (first | exact (Kd.C_below HR0_3.out HB.out) | (with_reducible refine Kd.C_alloc ?_ _) | (with_reducible refine Kd.C_drewN ?_ _) | (with_reducible refine Kd.C_drew ?_))); (case side2 => exact HC0_3.out); rintro e w15 ⟨rfl, hb⟩; refine ⟨_, rfl, ?_⟩; have n0_ := Aside0.mk (blk_below (g := gb207) (o := .cells #[.int .i64 a0_0, .int .i64 a0_1, .int .i64 a0_2, .slice A0_3 l0_3.length c0_3] 24 (0, 0)) (by (with_reducible repeat (first | refine blk_drewN ?_ _ | refine blk_drew ?_ | refine blk_alloc ?_ _)); exact BK207.out) hb); have n1_ := Aside0.mk (below_step (by repeat (first | (with_reducible first | exact HB.out | apply below_alloc | apply pw_below_drewN | apply below_drew1 | refine below_set ?_ GE207.out) | exact HB.out)) hb); clear BK207; clear HB; have BK207 := n0_; have HB := n1_; clear n0_ n1_; (try clear hb); (try clear hb2); (try clear hk); (try clear hi); have hcz16_0 : w15.cell? ⟨gb207, 0, none⟩ = some (.int .i64 a0_0) := (blk_cell BK207.out 0).trans rfl; have hcz16_1 : w15.cell? ⟨gb207, 1, none⟩ = some (.int .i64 a0_1) := (blk_cell BK207.out 1).trans rfl; have hcz16_2 : w15.cell? ⟨gb207, 2, none⟩ = some (.int .i64 a0_2) := (blk_cell BK207.out 2).trans rfl; have hcz16_3 : w15.cell? ⟨gb207, 3, none⟩ = some (.slice A0_3 l0_3.length c0_3) := (blk_cell BK207.out 3).trans rfl; have hfz16_0 := blk_frozen BK207.out 0; have hfz16_1 := blk_frozen BK207.out 1; have hfz16_2 := blk_frozen BK207.out 2; have hfz16_3 := blk_frozen BK207.out 3) | ((with_reducible refine gate_callee (f := 15) rfl ?_); refine goesL_ (some 23) rfl rfl Try.func15 (by kernel_rfl) rfl #[.agg #[.int .i64 a0_0, .int .i64 a0_1, .int .i64 a0_2, .slice A0_3 l0_3.length c0_3]] rfl (by (try simp only [List.map_toArray, List.map_cons, List.map_nil]); first | done | rfl | (simp only [List.length_drop, List.length_take]; rfl)) ?_; (with_reducible refine (laws_toBoard.calls k a0_0 a0_1 a0_2 _ _ l0_3 t209 t210 t211 t212 _ ?side1 ?side2 A8.out).mono ?_); (case side1 => repeat (first | exact (Kd.C_below HR0_3.out HB.out) | (with_reducible refine Kd.C_alloc ?_ _) | (with_reducible refine Kd.C_drewN ?_ _) | (with_reducible refine Kd.C_drew ?_))); (case side2 => exact HC0_3.out); rintro e w17 ⟨v213, rfl, ho0, hb⟩; refine ⟨_, rfl, ?_⟩; have n0_ := Aside0.mk (Kd.R_lower ho0 (below_size (by repeat (first | (with_reducible first | exact HB.out | apply below_alloc | apply pw_below_drewN | apply below_drew1 | refine below_set ?_ GE207.out) | exact HB.out)))); have n1_ := Aside0.mk (blk_below (g := gb207) (o := .cells #[.int .i64 a0_0, .int .i64 a0_1, .int .i64 a0_2, .slice A0_3 l0_3.length c0_3] 24 (0, 0)) (by (with_reducible repeat (first | refine blk_drewN ?_ _ | refine blk_drew ?_ | refine blk_alloc ?_ _)); exact BK207.out) hb); have n2_ := Aside0.mk (below_step (by repeat (first | (with_reducible first | exact HB.out | apply below_alloc | apply pw_below_drewN | apply below_drew1 | refine below_set ?_ GE207.out) | exact HB.out)) hb); clear BK207; clear HB; have HO214 := n0_; have BK207 := n1_; have HB := n2_; clear n0_ n1_ n2_; (try clear hb); (try clear hb2); (try clear hk); (try clear hi); (try clear ho0); obtain ⟨Ao18, co18, eo18⟩ := Kd.R_slice HO214.out; subst eo18) | ((with_reducible refine gate_callee (f := 14) rfl ?_); refine goesL_ (some 25) rfl rfl Try.func14 (by kernel_rfl) rfl #[.agg #[.int .i64 t209, .int .i64 t210, .int .i64 t211, .slice Ao18 t212.length co18], .int .i64 a1] rfl (by (try simp only [List.map_toArray, List.map_cons, List.map_nil]); first | done | rfl | (simp only [List.length_drop, List.length_take]; rfl)) ?_; (with_reducible refine (spec_SureSquares.calls k t209 t210 t211 _ _ t212 a1 t215 t218 _ ?side1 ?side2 A9.out).mono ?_); (case side1 => repeat (first | exact (Kd.R_reads' HO214.out).2.2 | (with_reducible refine Kd.C_alloc ?_ _) | (with_reducible refine Kd.C_drewN ?_ _) | (with_reducible refine Kd.C_drew ?_))); (case side2 => exact (Kd.R_reads' HO214.out).2.1); rintro e w19 ⟨v216, rfl, ho0, hb⟩; refine ⟨_, rfl, ?_⟩; have n0_ := Aside0.mk (Kd.R_below (by (with_reducible repeat (first | apply Kd.R_alloc | apply Kd.R_drewN | apply Kd.R_drew)); exact HO214.out) hb); have n1_ := Aside0.mk (Kd.R_lower ho0 (below_size (by repeat (first | (with_reducible first | exact HB.out | apply below_alloc | apply pw_below_drewN | apply below_drew1 | refine below_set ?_ GE207.out) | exact HB.out)))); have n2_ := Aside0.mk (blk_below (g := gb207) (o := .cells #[.int .i64 a0_0, .int .i64 a0_1, .int .i64 a0_2, .slice A0_3 l0_3.length c0_3] 24 (0, 0)) (by (with_reducible repeat (first | refine blk_drewN ?_ _ | refine blk_drew ?_ | refine blk_alloc ?_ _)); exact BK207.out) hb); have n3_ := Aside0.mk (below_step (by repeat (first | (with_reducible first | exact HB.out | apply below_alloc | apply pw_below_drewN | apply below_drew1 | refine below_set ?_ GE207.out) | exact HB.out)) hb); clear HO214; clear BK207; clear HB; have HO214 := n0_; have HO217 := n1_; have BK207 := n2_; have HB := n3_; clear n0_ n1_ n2_ n3_; (try clear hb); (try clear hb2); (try clear hk); (try clear hi); (try clear ho0); have hcz20_0 : w19.cell? ⟨gb207, 0, none⟩ = some (.int .i64 a0_0) := (blk_cell BK207.out 0).trans rfl; have hcz20_1 : w19.cell? ⟨gb207, 1, none⟩ = some (.int .i64 a0_1) := (blk_cell BK207.out 1).trans rfl; have hcz20_2 : w19.cell? ⟨gb207, 2, none⟩ = some (.int .i64 a0_2) := (blk_cell BK207.out 2).trans rfl; have hcz20_3 : w19.cell? ⟨gb207, 3, none⟩ = some (.slice A0_3 l0_3.length c0_3) := (blk_cell BK207.out 3).trans rfl; have hfz20_0 := blk_frozen BK207.out 0; have hfz20_1 := blk_frozen BK207.out 1; have hfz20_2 := blk_frozen BK207.out 2; have hfz20_3 := blk_frozen BK207.out 3) | ((with_reducible refine gate_callee (f := 15) rfl ?_); refine goesL_ (some 29) rfl rfl Try.func15 (by kernel_rfl) rfl #[.agg #[.int .i64 a0_0, .int .i64 a0_1, .int .i64 a0_2, .slice A0_3 l0_3.length c0_3]] rfl (by (try simp only [List.map_toArray, List.map_cons, List.map_nil]); first | done | rfl | (simp only [List.length_drop, List.length_take]; rfl)) ?_; (with_reducible refine (laws_toBoard.calls k a0_0 a0_1 a0_2 _ _ l0_3 t219 t220 t221 t222 _ ?side1 ?side2 A10.out).mono ?_); (case side1 => repeat (first | exact (Kd.C_below HR0_3.out HB.out) | (with_reducible refine Kd.C_alloc ?_ _) | (with_reducible refine Kd.C_drewN ?_ _) | (with_reducible refine Kd.C_drew ?_))); (case side2 => exact HC0_3.out); rintro e w21 ⟨v223, rfl, ho0, hb⟩; refine ⟨_, rfl, ?_⟩; have n0_ := Aside0.mk (Kd.R_elder' (by (with_reducible repeat (first | apply Kd.R_alloc | apply Kd.R_drewN | apply Kd.R_drew)); exact HO214.out) (Kd.R_base ho0) hb); have n1_ := Aside0.mk (Kd.R_below (by (with_reducible repeat (first | apply Kd.R_alloc | apply Kd.R_drewN | apply Kd.R_drew)); exact HO217.out) hb); have n2_ := Aside0.mk (Kd.R_lower (Kd.R_new' ho0 (Kd.R_lt (by (with_reducible repeat (first | apply Kd.R_alloc | apply Kd.R_drewN | apply Kd.R_drew)); exact HO214.out))) (below_size (by repeat (first | (with_reducible first | exact HB.out | apply below_alloc | apply pw_below_drewN | apply below_drew1 | refine below_set ?_ GE207.out) | exact HB.out)))); have n3_ := Aside0.mk (blk_below (g := gb207) (o := .cells #[.int .i64 a0_0, .int .i64 a0_1, .int .i64 a0_2, .slice A0_3 l0_3.length c0_3] 24 (0, 0)) (by (with_reducible repeat (first | refine blk_drewN ?_ _ | refine blk_drew ?_ | refine blk_alloc ?_ _)); exact BK207.out) hb); have n4_ := Aside0.mk (below_step (by repeat (first | (with_reducible first | exact HB.out | apply below_alloc | apply pw_below_drewN | apply below_drew1 | refine below_set ?_ GE207.out) | exact HB.out)) hb); clear HO214; clear HO217; clear BK207; clear HB; have HO214 := n0_; have HO217 := n1_; have HO224 := n2_; have BK207 := n3_; have HB := n4_; clear n0_ n1_ n2_ n3_ n4_; (try clear hb); (try clear hb2); (try clear hk); (try clear hi); (try clear ho0)) | ((with_reducible refine gate_dst (N := 8) rfl ?_); refine box_event ?hg (N := 8) ?hd (cs := #[.int .i64 0, .int .i64 0, .int .i64 0, .slice none 0 0]) (t := 31) ?hr ?_; (case hd => rfl); (case hg => rfl); (case hr => first | (go_simp; done) | (go_simp; rfl)); intro gb225 hg w22 hbox hb; have n0_ := Aside0.mk (Kd.R_below (by (with_reducible repeat (first | apply Kd.R_alloc | apply Kd.R_drewN | apply Kd.R_drew)); exact HO214.out) hb); have n1_ := Aside0.mk (Kd.R_below (by (with_reducible repeat (first | apply Kd.R_alloc | apply Kd.R_drewN | apply Kd.R_drew)); exact HO217.out) hb); have n2_ := Aside0.mk (Kd.R_below (by (with_reducible repeat (first | apply Kd.R_alloc | apply Kd.R_drewN | apply Kd.R_drew)); exact HO224.out) hb); have n3_ := Aside0.mk (blk_below (g := gb207) (o := .cells #[.int .i64 a0_0, .int .i64 a0_1, .int .i64 a0_2, .slice A0_3 l0_3.length c0_3] 24 (0, 0)) (by (with_reducible repeat (first | refine blk_drewN ?_ _ | refine blk_drew ?_ | refine blk_alloc ?_ _)); exact BK207.out) hb); have n4_ := Aside0.mk (below_step (by repeat (first | (with_reducible first | exact HB.out | apply below_alloc | apply pw_below_drewN | apply below_drew1 | refine below_set ?_ GE207.out) | exact HB.out)) hb); have n5_ := Aside0.mk (hbox); have n6_ := Aside0.mk ((by rw [hg]; exact (below_size (by repeat (first | (with_reducible first | exact HB.out | apply below_alloc | apply pw_below_drewN | apply below_drew1 | refine below_set ?_ GE207.out) | exact HB.out))) : w.heap.size ≤ gb225)); have n7_ := Aside0.mk ((by rw [hg]; exact (below_size (by repeat (first | (with_reducible first | exact HB.out | apply below_alloc | apply pw_below_drewN | apply below_drew1 | refine below_set ?_ GE207.out) | exact HB.out))) : w.heap.size ≤ gb225)); have n8_ := Aside0.mk ((by rw [hg]; exact Nat.ne_of_lt (blk_lt (g := gb207) (o := .cells #[.int .i64 a0_0, .int .i64 a0_1, .int .i64 a0_2, .slice A0_3 l0_3.length c0_3] 24 (0, 0)) (by (with_reducible repeat (first | refine blk_drewN ?_ _ | refine blk_drew ?_ | refine blk_alloc ?_ _)); exact BK207.out)) : gb207 ≠ gb225)); have n9_ := Aside0.mk ((by rw [hg]; exact Nat.ne_of_gt (blk_lt (g := gb207) (o := .cells #[.int .i64 a0_0, .int .i64 a0_1, .int .i64 a0_2, .slice A0_3 l0_3.length c0_3] 24 (0, 0)) (by (with_reducible repeat (first | refine blk_drewN ?_ _ | refine blk_drew ?_ | refine blk_alloc ?_ _)); exact BK207.out)) : gb225 ≠ gb207)); clear HO214; clear HO217; clear HO224; clear BK207; clear HB; have HO214 := n0_; have HO217 := n1_; have HO224 := n2_; have BK207 := n3_; have HB := n4_; have BK225 := n5_; have GW225 := n6_; have GE225 := n7_; have NB207_225 := n8_; have NB225_207 := n9_; clear n0_ n1_ n2_ n3_ n4_ n5_ n6_ n7_ n8_ n9_; clear hb hbox hg; have hnb23 := NB225_207.out; have hnc23 := NB207_225.out; have hcz24_0 : w22.cell? ⟨gb225, 0, none⟩ = some (.int .i64 0) := (blk_cell BK225.out 0).trans rfl; have hcz24_1 : w22.cell? ⟨gb225, 1, none⟩ = some (.int .i64 0) := (blk_cell BK225.out 1).trans rfl; have hcz24_2 : w22.cell? ⟨gb225, 2, none⟩ = some (.int .i64 0) := (blk_cell BK225.out 2).trans rfl; have hcz24_3 : w22.cell? ⟨gb225, 3, none⟩ = some (.slice none 0 0) := (blk_cell BK225.out 3).trans rfl; have hfz24_0 := blk_frozen BK225.out 0; have hfz24_1 := blk_frozen BK225.out 1; have hfz24_2 := blk_frozen BK225.out 2; have hfz24_3 := blk_frozen BK225.out 3; obtain ⟨Ao25, co25, eo25⟩ := Kd.R_slice HO224.out; subst eo25) | ((with_reducible refine gate_callee (f := 16) rfl ?_); refine goesL_ (some 33) rfl rfl Try.func16 (by kernel_rfl) rfl #[.agg #[.int .i64 t219, .int .i64 t220, .int .i64 t221, .slice Ao25 t222.length co25], .int .i64 a1] rfl (by (try simp only [List.map_toArray, List.map_cons, List.map_nil]); first | done | rfl | (simp only [List.length_drop, List.length_take]; rfl)) ?_; (with_reducible refine (impl_SureSquares.calls k t219 t220 t221 _ _ t222 a1 t226 t229 _ ?side1 ?side2 A11.out).mono ?_); (case side1 => refine (Kd.R_reads' (e := 126) (base := w.heap.size) (ok := fun k_ => (True ∧ some k_ ≠ (.slice Ao18 t212.length co18 : Value).ownBlock)) (n := t222.length) (c := co25) ?_).2.2; exact (by (with_reducible repeat (first | apply Kd.R_alloc | apply Kd.R_drewN | apply Kd.R_drew)); exact (Kd.R_mono (Kd.R_far (p := ⟨gb225, 3, none⟩) (Kd.R_far (p := ⟨gb225, 2, none⟩) (Kd.R_far (p := ⟨gb225, 1, none⟩) (Kd.R_far (p := ⟨gb225, 0, none⟩) (Kd.R_types HO224.out BK225.out (by decide)) (fun _ hk => hk.2) (.int .i64 t219)) (fun _ hk => hk.2) (.int .i64 t220)) (fun _ hk => hk.2) (.int .i64 t221)) (fun _ hk => hk.2) (.slice Ao25 t222.length co25)) (fun _ h_ => h_.1)))); (case side2 => exact (Kd.R_reads' HO224.out).2.1); rintro e w26 ⟨v227, rfl, ho0, hb⟩; refine ⟨_, rfl, ?_⟩; have n0_ := Aside0.mk (Kd.R_below (by (with_reducible repeat (first | apply Kd.R_alloc | apply Kd.R_drewN | apply Kd.R_drew)); exact (Kd.R_mono (Kd.R_far (p := ⟨gb225, 3, none⟩) (Kd.R_far (p := ⟨gb225, 2, none⟩) (Kd.R_far (p := ⟨gb225, 1, none⟩) (Kd.R_far (p := ⟨gb225, 0, none⟩) (Kd.R_types HO214.out BK225.out (by decide)) (fun _ hk => hk.2) (.int .i64 t219)) (fun _ hk => hk.2) (.int .i64 t220)) (fun _ hk => hk.2) (.int .i64 t221)) (fun _ hk => hk.2) (.slice Ao25 t222.length co25)) (fun _ h_ => h_.1))) hb); have n1_ := Aside0.mk (Kd.R_elder' (by (with_reducible repeat (first | apply Kd.R_alloc | apply Kd.R_drewN | apply Kd.R_drew)); exact (Kd.R_mono (Kd.R_far (p := ⟨gb225, 3, none⟩) (Kd.R_far (p := ⟨gb225, 2, none⟩) (Kd.R_far (p := ⟨gb225, 1, none⟩) (Kd.R_far (p := ⟨gb225, 0, none⟩) (Kd.R_types HO217.out BK225.out (by decide)) (fun _ hk => hk.2) (.int .i64 t219)) (fun _ hk => hk.2) (.int .i64 t220)) (fun _ hk => hk.2) (.int .i64 t221)) (fun _ hk => hk.2) (.slice Ao25 t222.length co25)) (fun _ h_ => h_.1))) (Kd.R_base ho0) hb); have n2_ := Aside0.mk (Kd.R_below (by (with_reducible repeat (first | apply Kd.R_alloc | apply Kd.R_drewN | apply Kd.R_drew)); exact (Kd.R_mono (Kd.R_far (p := ⟨gb225, 3, none⟩) (Kd.R_far (p := ⟨gb225, 2, none⟩) (Kd.R_far (p := ⟨gb225, 1, none⟩) (Kd.R_far (p := ⟨gb225, 0, none⟩) (Kd.R_types HO224.out BK225.out (by decide)) (fun _ hk => hk.2) (.int .i64 t219)) (fun _ hk => hk.2) (.int .i64 t220)) (fun _ hk => hk.2) (.int .i64 t221)) (fun _ hk => hk.2) (.slice Ao25 t222.length co25)) (fun _ h_ => h_.1))) hb); have n3_ := Aside0.mk (Kd.R_lower (Kd.R_new' ho0 (Kd.R_lt (by (with_reducible repeat (first | apply Kd.R_alloc | apply Kd.R_drewN | apply Kd.R_drew)); exact (Kd.R_mono (Kd.R_far (p := ⟨gb225, 3, none⟩) (Kd.R_far (p := ⟨gb225, 2, none⟩) (Kd.R_far (p := ⟨gb225, 1, none⟩) (Kd.R_far (p := ⟨gb225, 0, none⟩) (Kd.R_types HO217.out BK225.out (by decide)) (fun _ hk => hk.2) (.int .i64 t219)) (fun _ hk => hk.2) (.int .i64 t220)) (fun _ hk => hk.2) (.int .i64 t221)) (fun _ hk => hk.2) (.slice Ao25 t222.length co25)) (fun _ h_ => h_.1))))) (below_size (by repeat (first | (with_reducible first | exact HB.out | apply below_alloc | apply pw_below_drewN | apply below_drew1 | refine below_set ?_ GE207.out | refine below_set ?_ GE225.out) | exact HB.out)))); have n4_ := Aside0.mk (blk_below (g := gb207) (o := .cells #[.int .i64 a0_0, .int .i64 a0_1, .int .i64 a0_2, .slice A0_3 l0_3.length c0_3] 24 (0, 0)) (by (with_reducible repeat (first | refine blk_drewN ?_ _ | refine blk_drew ?_ | refine blk_alloc ?_ _)); refine blk_far ?_ NB207_225.out _; (with_reducible repeat (first | refine blk_drewN ?_ _ | refine blk_drew ?_ | refine blk_alloc ?_ _)); refine blk_far ?_ NB207_225.out _; (with_reducible repeat (first | refine blk_drewN ?_ _ | refine blk_drew ?_ | refine blk_alloc ?_ _)); refine blk_far ?_ NB207_225.out _; (with_reducible repeat (first | refine blk_drewN ?_ _ | refine blk_drew ?_ | refine blk_alloc ?_ _)); refine blk_far ?_ NB207_225.out _; (with_reducible repeat (first | refine blk_drewN ?_ _ | refine blk_drew ?_ | refine blk_alloc ?_ _)); exact BK207.out) hb); have n5_ := Aside0.mk (blk_below (g := gb225) (o := .cells #[.int .i64 t219, .int .i64 t220, .int .i64 t221, .slice Ao25 t222.length co25] 31 (0, 0)) (by (with_reducible repeat (first | refine blk_drewN ?_ _ | refine blk_drew ?_ | refine blk_alloc ?_ _)); refine blk_put (cs := #[.int .i64 t219, .int .i64 t220, .int .i64 t221, .slice none 0 0]) ?_ 3 _ rfl; (with_reducible repeat (first | refine blk_drewN ?_ _ | refine blk_drew ?_ | refine blk_alloc ?_ _)); refine blk_put (cs := #[.int .i64 t219, .int .i64 t220, .int .i64 0, .slice none 0 0]) ?_ 2 _ rfl; (with_reducible repeat (first | refine blk_drewN ?_ _ | refine blk_drew ?_ | refine blk_alloc ?_ _)); refine blk_put (cs := #[.int .i64 t219, .int .i64 0, .int .i64 0, .slice none 0 0]) ?_ 1 _ rfl; (with_reducible repeat (first | refine blk_drewN ?_ _ | refine blk_drew ?_ | refine blk_alloc ?_ _)); refine blk_put (cs := #[.int .i64 0, .int .i64 0, .int .i64 0, .slice none 0 0]) ?_ 0 _ rfl; (with_reducible repeat (first | refine blk_drewN ?_ _ | refine blk_drew ?_ | refine blk_alloc ?_ _)); exact BK225.out) hb); have n6_ := Aside0.mk (below_step (by repeat (first | (with_reducible first | exact HB.out | apply below_alloc | apply pw_below_drewN | apply below_drew1 | refine below_set ?_ GE207.out | refine below_set ?_ GE225.out) | exact HB.out)) hb); clear HO214; clear HO217; clear HO224; clear BK207; clear BK225; clear HB; have HO214 := n0_; have HO217 := n1_; have HO224 := n2_; have HO228 := n3_; have BK207 := n4_; have BK225 := n5_; have HB := n6_; clear n0_ n1_ n2_ n3_ n4_ n5_ n6_; (try clear hb); (try clear hb2); (try clear hk); (try clear hi); (try clear ho0)))
    (try simp only [Act.put, List.setIfInBounds_toArray, List.set_cons_zero, List.set_cons_succ])
    go_cut [44] (fun v44 wc => ∃ (kq : Nat) (x44_11 : Bool), v44 = .bool x44_11 ∧ Aside0 (laws_FnExactSureSquares.j0 kq a1 t215 t218 t226 t229 x44_11 a0_0 a0_1 a0_2 l0_3 t219 t220 t221 t222 = some r) ∧ Aside0 (kq ≤ k) ∧ Aside0 (Kd.R (Kd.int .i64) 3 wc w.heap.size (fun k_ => some k_ ≠ (v227 : Value).ownBlock) v216 t215) ∧ Aside0 (Kd.R (Kd.int .i64) 3 wc w.heap.size (fun k_ => some k_ ≠ (v216 : Value).ownBlock) v227 t226) ∧ Aside0 (Kd.R k126 126 wc w.heap.size (fun _ => True) (.slice Ao25 t222.length co25) t222) ∧ Aside0 (wc.heap[gb207]? = some (.cells #[.int .i64 a0_0, .int .i64 a0_1, .int .i64 a0_2, (.slice A0_3 l0_3.length c0_3)] 24 (0, 0))) ∧ Aside0 (wc.heap[gb225]? = some (.cells #[.int .i64 t219, .int .i64 t220, .int .i64 t221, (.slice Ao25 t222.length co25)] 31 (0, 0))) ∧ Aside0 (Below w.heap.size w wc))
    case first =>
      have H := HC12.out
      clear HC12
      replace H := Option.bind_eq_some_iff.mp H
      obtain ⟨t230, A270, H⟩ := H
      replace H : (if t230 = true then (laws_FnExactSureSquares.j0 k a1 t215 t218 t226 t229 (t229 != t218) a0_0 a0_1 a0_2 l0_3 t219 t220 t221 t222) else (none)) = some r := H
      have A27 := Aside0.mk A270
      clear A270
      by_cases c28 : t230 = true
      · subst c28
        have H1 : (laws_FnExactSureSquares.j0 k a1 t215 t218 t226 t229 (t229 != t218) a0_0 a0_1 a0_2 l0_3 t219 t220 t221 t222) = some r := by rw [if_pos rfl] at H; exact H
        clear H
        have H := H1
        clear H1
        have H' := Aside0.mk H
        clear H
        obtain ⟨Ao29, co29, eo29⟩ := Kd.R_slice HO228.out
        subst eo29
        obtain ⟨Ao30, co30, eo30⟩ := Kd.R_slice HO217.out
        subst eo30
        go_wp2_with (first | ((with_reducible refine gate_callee (f := 17) rfl ?_); refine goesL_ (some 38) rfl rfl Try.func17 (by kernel_rfl) rfl #[.slice Ao29 t226.length co29, .slice Ao30 t215.length co30] rfl (by (try simp only [List.map_toArray, List.map_cons, List.map_nil]); first | done | rfl | (simp only [List.length_drop, List.length_take]; rfl)) ?_; (with_reducible refine (laws_eqIntS.calls k _ _ t226 _ _ t215 true _ ?side1 ?side2 ?side3 ?side4 A27.out).mono ?_); (case side1 => repeat (first | exact (Kd.R_reads' HO228.out).2.2 | (with_reducible refine Kd.C_alloc ?_ _) | (with_reducible refine Kd.C_drewN ?_ _) | (with_reducible refine Kd.C_drew ?_))); (case side2 => exact (Kd.R_reads' HO228.out).2.1); (case side3 => repeat (first | exact (Kd.R_reads' HO217.out).2.2 | (with_reducible refine Kd.C_alloc ?_ _) | (with_reducible refine Kd.C_drewN ?_ _) | (with_reducible refine Kd.C_drew ?_))); (case side4 => exact (Kd.R_reads' HO217.out).2.1); rintro e w' ⟨rfl, ⟨nd, rfl⟩⟩; refine ⟨_, rfl, ?_⟩))
        go_meet
        case rel => exact ⟨_, ((t229 != t218)), (by first | rfl | (simp; done) | (simp [*]; done)), H', ⟨by first | omega | exact Nat.le_refl _⟩, ⟨by (with_reducible repeat (first | apply Kd.R_alloc | apply Kd.R_drewN | apply Kd.R_drew)); exact Kd.R_mono HO217.out (fun _ hk => hk.2)⟩, ⟨by (with_reducible repeat (first | apply Kd.R_alloc | apply Kd.R_drewN | apply Kd.R_drew)); exact Kd.R_mono HO228.out (fun _ hk => hk.2)⟩, ⟨by (with_reducible repeat (first | apply Kd.R_alloc | apply Kd.R_drewN | apply Kd.R_drew)); exact Kd.R_mono HO224.out (fun _ hk => trivial)⟩, ⟨by (with_reducible repeat (first | refine blk_drewN ?_ _ | refine blk_drew ?_ | refine blk_alloc ?_ _)); exact BK207.out⟩, ⟨by (with_reducible repeat (first | refine blk_drewN ?_ _ | refine blk_drew ?_ | refine blk_alloc ?_ _)); exact BK225.out⟩, ⟨by repeat (first | (with_reducible first | exact HB.out | apply below_alloc | apply pw_below_drewN | apply below_drew1 | refine below_set ?_ GE207.out | refine below_set ?_ GE225.out) | exact HB.out)⟩⟩
      · replace c28 := Bool.eq_false_iff.mpr c28
        subst c28
        have H1 : (none) = some r := by rw [if_neg (show ¬ (false = true) by decide)] at H; exact H
        clear H
        have H := H1
        clear H1
        exact absurd H (by simp)
    case rest =>
      clear HC12
      try clear c1
      try clear c2
      try clear p2
      try clear c3
      try clear c4
      try clear c4b0
      try clear c13
      try clear c14
      try clear c15
      try clear c16
      try clear c17
      try clear c23
      try clear c28
      try clear hcz14_0
      try clear hcz14_1
      try clear hcz14_2
      try clear hcz14_3
      try clear hcz16_0
      try clear hcz16_1
      try clear hcz16_2
      try clear hcz16_3
      try clear hcz20_0
      try clear hcz20_1
      try clear hcz20_2
      try clear hcz20_3
      try clear hcz24_0
      try clear hcz24_1
      try clear hcz24_2
      try clear hcz24_3
      try clear hcz6_0
      try clear hcz6_1
      try clear hcz6_2
      try clear hcz6_3
      try clear hfz14_0
      try clear hfz14_1
      try clear hfz14_2
      try clear hfz14_3
      try clear hfz16_0
      try clear hfz16_1
      try clear hfz16_2
      try clear hfz16_3
      try clear hfz20_0
      try clear hfz20_1
      try clear hfz20_2
      try clear hfz20_3
      try clear hfz24_0
      try clear hfz24_1
      try clear hfz24_2
      try clear hfz24_3
      try clear hfz6_0
      try clear hfz6_1
      try clear hfz6_2
      try clear hfz6_3
      obtain ⟨kq, x44_11, rfl, HA, HJ11, HO_6, HO_9, HO_226003, BK207, BK225, HB⟩ := hcut
      cases kq with
      | zero => exact absurd HA.out (by simp [laws_FnExactSureSquares.j0])
      | succ kj11 =>
        have H := HA.out
        clear HA
        simp only [laws_FnExactSureSquares.j0] at H
        by_cases c31 : x44_11 = true
        · subst c31
          have H1 : (none) = some r := by rw [if_pos rfl] at H; exact H
          clear H
          have H := H1
          clear H1
          exact absurd H (by simp)
        · replace c31 := Bool.eq_false_iff.mpr c31
          subst c31
          have H1 : ((laws_toBoard.f kj11 a0_0 a0_1 a0_2 l0_3).bind fun bt231 => ((laws_eqBoard.f kj11 t219 t220 t221 t222 bt231.1 bt231.2.1 bt231.2.2.1 bt231.2.2.2).bind fun t237 => (if t237 = true then ((laws_markBoard.f kj11 t219 t220 t221 t222 1).bind fun bt238 => (if bt238.1 < 0 then (none) else ((laws_eqIntS.f kj11 t226 t215).bind fun t240 => (if t240 = true then (laws_FnExactSureSquares.j1 kj11 a1 t215 t218 t226 (t229 != t218) a0_0 a0_1 a0_2 l0_3) else (none))))) else (none)))) = some r := by rw [if_neg (show ¬ (false = true) by decide)] at H; exact H
          clear H
          have H := H1
          clear H1
          replace H := Option.bind_eq_some_iff.mp H
          obtain ⟨⟨t231, t232, t233, t234⟩, A320, H⟩ := H
          replace H : ((laws_eqBoard.f kj11 t219 t220 t221 t222 t231 t232 t233 t234).bind fun t237 => (if t237 = true then ((laws_markBoard.f kj11 t219 t220 t221 t222 1).bind fun bt238 => (if bt238.1 < 0 then (none) else ((laws_eqIntS.f kj11 t226 t215).bind fun t240 => (if t240 = true then (laws_FnExactSureSquares.j1 kj11 a1 t215 t218 t226 (t229 != t218) a0_0 a0_1 a0_2 l0_3) else (none))))) else (none))) = some r := H
          have A32 := Aside0.mk A320
          clear A320
          replace H := Option.bind_eq_some_iff.mp H
          obtain ⟨t237, A330, H⟩ := H
          replace H : (if t237 = true then ((laws_markBoard.f kj11 t219 t220 t221 t222 1).bind fun bt238 => (if bt238.1 < 0 then (none) else ((laws_eqIntS.f kj11 t226 t215).bind fun t240 => (if t240 = true then (laws_FnExactSureSquares.j1 kj11 a1 t215 t218 t226 (t229 != t218) a0_0 a0_1 a0_2 l0_3) else (none))))) else (none)) = some r := H
          have A33 := Aside0.mk A330
          clear A330
          by_cases c34 : t237 = true
          · subst c34
            have H1 : ((laws_markBoard.f kj11 t219 t220 t221 t222 1).bind fun bt238 => (if bt238.1 < 0 then (none) else ((laws_eqIntS.f kj11 t226 t215).bind fun t240 => (if t240 = true then (laws_FnExactSureSquares.j1 kj11 a1 t215 t218 t226 (t229 != t218) a0_0 a0_1 a0_2 l0_3) else (none))))) = some r := by rw [if_pos rfl] at H; exact H
            clear H
            have H := H1
            clear H1
            replace H := Option.bind_eq_some_iff.mp H
            obtain ⟨⟨t238, t239⟩, A350, H⟩ := H
            replace H : (if t238 < 0 then (none) else ((laws_eqIntS.f kj11 t226 t215).bind fun t240 => (if t240 = true then (laws_FnExactSureSquares.j1 kj11 a1 t215 t218 t226 (t229 != t218) a0_0 a0_1 a0_2 l0_3) else (none)))) = some r := H
            have A35 := Aside0.mk A350
            clear A350
            have HC36 := Aside0.mk H
            clear H
            try go_wp2
            have n0_ := Aside0.mk (Kd.R_drew HO_6.out)
            have n1_ := Aside0.mk (Kd.R_drew HO_9.out)
            have n2_ := Aside0.mk (Kd.R_drew HO_226003.out)
            have n3_ := Aside0.mk (blk_drew BK207.out)
            have n4_ := Aside0.mk (blk_drew BK225.out)
            have n5_ := Aside0.mk (below_drew1 HB.out)
            clear HO_6
            clear HO_9
            clear HO_226003
            clear BK207
            clear BK225
            clear HB
            have HO_6 := n0_
            have HO_9 := n1_
            have HO_226003 := n2_
            have BK207 := n3_
            have BK225 := n4_
            have HB := n5_
            clear n0_ n1_ n2_ n3_ n4_ n5_
            refine start_ (n := 5) (S := fun w' => w'.cell? ⟨gb225, 0, none⟩ = some (.int .i64 t219) ∧ w'.cell? ⟨gb225, 1, none⟩ = some (.int .i64 t220) ∧ w'.cell? ⟨gb225, 2, none⟩ = some (.int .i64 t221) ∧ w'.cell? ⟨gb225, 3, none⟩ = some (.slice Ao25 t222.length co25) ∧ w'.cell? ⟨gb207, 0, none⟩ = some (.int .i64 a0_0) ∧ w'.cell? ⟨gb207, 1, none⟩ = some (.int .i64 a0_1) ∧ w'.cell? ⟨gb207, 2, none⟩ = some (.int .i64 a0_2) ∧ w'.cell? ⟨gb207, 3, none⟩ = some (.slice A0_3 l0_3.length c0_3)) (ds := []) #[false, false, false, false, false] (by kernel_rfl) rfl rfl ⟨(blk_cell BK225.out 0).trans rfl, (blk_cell BK225.out 1).trans rfl, (blk_cell BK225.out 2).trans rfl, (blk_cell BK225.out 3).trans rfl, (blk_cell BK207.out 0).trans rfl, (blk_cell BK207.out 1).trans rfl, (blk_cell BK207.out 2).trans rfl, (blk_cell BK207.out 3).trans rfl⟩ (fun hHeld => ?_)
            generalize wc.drew = w37 at HO_6 HO_9 HO_226003 BK207 BK225 HB hHeld ⊢
            refine take_ (i := 0) (N := some 45) (v := ?_) (a' := ?_) #[true, false, false, false, false] rfl rfl (by kernel_rfl) (fun _ _ _ h => h) (Or.inl ⟨by rfl, ?_⟩) hHeld ?_ ?_
            rotate_left
            · rintro w' ⟨s0, s1, s2, s3, s4, s5, s6, s7⟩
              go_simp
              with_reducible rfl
            rotate_left
            · simp only [Act.put, List.setIfInBounds_toArray, List.set_cons_zero, List.set_cons_succ, i64_w, i32_w]
              rfl
            refine take_ (i := 1) (N := some 46) (v := ?_) (a' := ?_) #[true, true, false, false, false] rfl rfl (by kernel_rfl) (fun _ _ _ h => h) (Or.inl ⟨by rfl, ?_⟩) hHeld ?_ ?_
            rotate_left
            · rintro w' ⟨s0, s1, s2, s3, s4, s5, s6, s7⟩
              go_simp
              with_reducible rfl
            rotate_left
            · simp only [Act.put, List.setIfInBounds_toArray, List.set_cons_zero, List.set_cons_succ, i64_w, i32_w]
              rfl
            refine one_ (i := 2) (N := some 47) #[true, true, true, false, false] rfl rfl (by kernel_rfl) (by decide) (fun K hK => ?_)
            refine goes_ Try.func15 (by kernel_rfl) rfl #[.agg #[.int .i64 a0_0, .int .i64 a0_1, .int .i64 a0_2, .slice A0_3 l0_3.length c0_3]] (by rfl) rfl rfl (by (try simp only [List.map_toArray, List.map_cons, List.map_nil]); first | done | rfl | (simp only [List.length_drop, List.length_take]; rfl)) ?_
            with_reducible refine (laws_toBoard.calls kj11 a0_0 a0_1 a0_2 _ _ l0_3 t231 t232 t233 t234 _ ?side1 ?side2 A32.out).mono ?_
            (case side1 => repeat (first | exact (Kd.C_below HR0_3.out HB.out) | (with_reducible refine Kd.C_alloc ?_ _) | (with_reducible refine Kd.C_drewN ?_ _) | (with_reducible refine Kd.C_drew ?_)))
            (case side2 => exact HC0_3.out)
            rintro e w38 ⟨v235, rfl, ho0, hb⟩
            refine ⟨_, rfl, ?_⟩
            have n0_ := Aside0.mk (Kd.R_below (by (with_reducible repeat (first | apply Kd.R_alloc | apply Kd.R_drewN | apply Kd.R_drew)); exact HO_6.out) hb)
            have n1_ := Aside0.mk (Kd.R_below (by (with_reducible repeat (first | apply Kd.R_alloc | apply Kd.R_drewN | apply Kd.R_drew)); exact HO_9.out) hb)
            have n2_ := Aside0.mk (Kd.R_elder' (by (with_reducible repeat (first | apply Kd.R_alloc | apply Kd.R_drewN | apply Kd.R_drew)); exact HO_226003.out) (Kd.R_base ho0) hb)
            have n3_ := Aside0.mk (Kd.R_lower (Kd.R_new' ho0 (Kd.R_lt (by (with_reducible repeat (first | apply Kd.R_alloc | apply Kd.R_drewN | apply Kd.R_drew)); exact HO_226003.out))) (below_size (by repeat (first | (with_reducible first | exact HB.out | apply below_alloc | apply pw_below_drewN | apply below_drew1 | refine below_set ?_ GE207.out | refine below_set ?_ GE225.out) | exact HB.out))))
            have n4_ := Aside0.mk (blk_below (g := gb207) (o := .cells #[.int .i64 a0_0, .int .i64 a0_1, .int .i64 a0_2, .slice A0_3 l0_3.length c0_3] 24 (0, 0)) (by (with_reducible repeat (first | refine blk_drewN ?_ _ | refine blk_drew ?_ | refine blk_alloc ?_ _)); exact BK207.out) hb)
            have n5_ := Aside0.mk (blk_below (g := gb225) (o := .cells #[.int .i64 t219, .int .i64 t220, .int .i64 t221, .slice Ao25 t222.length co25] 31 (0, 0)) (by (with_reducible repeat (first | refine blk_drewN ?_ _ | refine blk_drew ?_ | refine blk_alloc ?_ _)); exact BK225.out) hb)
            have n6_ := Aside0.mk (below_step (by repeat (first | (with_reducible first | exact HB.out | apply below_alloc | apply pw_below_drewN | apply below_drew1 | refine below_set ?_ GE207.out | refine below_set ?_ GE225.out) | exact HB.out)) hb)
            clear HO_6
            clear HO_9
            clear HO_226003
            clear BK207
            clear BK225
            clear HB
            have HO_6 := n0_
            have HO_9 := n1_
            have HO_226003 := n2_
            have HO236 := n3_
            have BK207 := n4_
            have BK225 := n5_
            have HB := n6_
            clear n0_ n1_ n2_ n3_ n4_ n5_ n6_
            (try clear hb)
            (try clear hb2)
            (try clear hk)
            (try clear hi)
            (try clear ho0)
            obtain ⟨Ao39, co39, eo39⟩ := Kd.R_slice HO236.out
            (first | subst eo39 | (injection eo39 with f1_ f2_ f3_; have f4_ := f1_.symm; have f5_ := f3_.symm; clear f1_ f2_ f3_; subst f4_; subst f5_))
            refine hK.out _ _ ⟨(blk_cell BK225.out 0).trans rfl, (blk_cell BK225.out 1).trans rfl, (blk_cell BK225.out 2).trans rfl, (blk_cell BK225.out 3).trans rfl, (blk_cell BK207.out 0).trans rfl, (blk_cell BK207.out 1).trans rfl, (blk_cell BK207.out 2).trans rfl, (blk_cell BK207.out 3).trans rfl⟩ (fun hHeld => ?_)
            clear hK K
            refine norm_ (a' := ?_) ?_ ?_
            rotate_left
            · show Act.put _ (some 47) _ = _
              simp only [Act.put, List.setIfInBounds_toArray, List.set_cons_zero, List.set_cons_succ, i64_w, i32_w]
              rfl
            refine one_ (i := 3) (N := some 48) #[true, true, true, true, false] rfl rfl (by kernel_rfl) (by decide) (fun K hK => ?_)
            refine goes_ Try.func18 (by kernel_rfl) rfl #[.agg #[.int .i64 t219, .int .i64 t220, .int .i64 t221, .slice Ao25 t222.length co25], .agg #[.int .i64 t231, .int .i64 t232, .int .i64 t233, .slice Ao39 t234.length co39]] (by rfl) rfl rfl (by (try simp only [List.map_toArray, List.map_cons, List.map_nil]); first | done | rfl | (simp only [List.length_drop, List.length_take]; rfl)) ?_
            with_reducible refine (laws_eqBoard.calls kj11 t219 t220 t221 _ _ t222 t231 t232 t233 _ _ t234 true _ ?side1 ?side2 ?side3 ?side4 A33.out).mono ?_
            (case side1 => repeat (first | exact (Kd.R_reads' HO_226003.out).2.2 | (with_reducible refine Kd.C_alloc ?_ _) | (with_reducible refine Kd.C_drewN ?_ _) | (with_reducible refine Kd.C_drew ?_)))
            (case side2 => exact (Kd.R_reads' HO_226003.out).2.1)
            (case side3 => repeat (first | exact (Kd.R_reads' HO236.out).2.2 | (with_reducible refine Kd.C_alloc ?_ _) | (with_reducible refine Kd.C_drewN ?_ _) | (with_reducible refine Kd.C_drew ?_)))
            (case side4 => exact (Kd.R_reads' HO236.out).2.1)
            rintro e w40 ⟨rfl, hb⟩
            refine ⟨_, rfl, ?_⟩
            have n0_ := Aside0.mk (Kd.R_below (by (with_reducible repeat (first | apply Kd.R_alloc | apply Kd.R_drewN | apply Kd.R_drew)); exact HO_6.out) hb)
            have n1_ := Aside0.mk (Kd.R_below (by (with_reducible repeat (first | apply Kd.R_alloc | apply Kd.R_drewN | apply Kd.R_drew)); exact HO_9.out) hb)
            have n2_ := Aside0.mk (Kd.R_below (by (with_reducible repeat (first | apply Kd.R_alloc | apply Kd.R_drewN | apply Kd.R_drew)); exact HO_226003.out) hb)
            have n3_ := Aside0.mk (Kd.R_below (by (with_reducible repeat (first | apply Kd.R_alloc | apply Kd.R_drewN | apply Kd.R_drew)); exact HO236.out) hb)
            have n4_ := Aside0.mk (blk_below (g := gb207) (o := .cells #[.int .i64 a0_0, .int .i64 a0_1, .int .i64 a0_2, .slice A0_3 l0_3.length c0_3] 24 (0, 0)) (by (with_reducible repeat (first | refine blk_drewN ?_ _ | refine blk_drew ?_ | refine blk_alloc ?_ _)); exact BK207.out) hb)
            have n5_ := Aside0.mk (blk_below (g := gb225) (o := .cells #[.int .i64 t219, .int .i64 t220, .int .i64 t221, .slice Ao25 t222.length co25] 31 (0, 0)) (by (with_reducible repeat (first | refine blk_drewN ?_ _ | refine blk_drew ?_ | refine blk_alloc ?_ _)); exact BK225.out) hb)
            have n6_ := Aside0.mk (below_step (by repeat (first | (with_reducible first | exact HB.out | apply below_alloc | apply pw_below_drewN | apply below_drew1 | refine below_set ?_ GE207.out | refine below_set ?_ GE225.out) | exact HB.out)) hb)
            clear HO_6
            clear HO_9
            clear HO_226003
            clear HO236
            clear BK207
            clear BK225
            clear HB
            have HO_6 := n0_
            have HO_9 := n1_
            have HO_226003 := n2_
            have HO236 := n3_
            have BK207 := n4_
            have BK225 := n5_
            have HB := n6_
            clear n0_ n1_ n2_ n3_ n4_ n5_ n6_
            (try clear hb)
            (try clear hb2)
            (try clear hk)
            (try clear hi)
            refine hK.out _ _ ⟨(blk_cell BK225.out 0).trans rfl, (blk_cell BK225.out 1).trans rfl, (blk_cell BK225.out 2).trans rfl, (blk_cell BK225.out 3).trans rfl, (blk_cell BK207.out 0).trans rfl, (blk_cell BK207.out 1).trans rfl, (blk_cell BK207.out 2).trans rfl, (blk_cell BK207.out 3).trans rfl⟩ (fun hHeld => ?_)
            clear hK K
            refine norm_ (a' := ?_) ?_ ?_
            rotate_left
            · show Act.put _ (some 48) _ = _
              simp only [Act.put, List.setIfInBounds_toArray, List.set_cons_zero, List.set_cons_succ, i64_w, i32_w]
              rfl
            refine pure_ (i := 4) (N := some 49) (v := ?_) (a' := ?_) #[true, true, true, true, true] rfl rfl (by kernel_rfl) (fun _ _ _ h => h) (Or.inl ⟨by rfl, ?_⟩) ?_ ?_
            rotate_left
            · intro w'
              go_simp
              with_reducible rfl
            rotate_left
            · simp only [Act.put, List.setIfInBounds_toArray, List.set_cons_zero, List.set_cons_succ, i64_w, i32_w]
              rfl
            refine done_ (by kernel_rfl) ?_
            have hnb41 := NB225_207.out
            have hnc41 := NB207_225.out
            have hcz42_0 : w40.cell? ⟨gb225, 0, none⟩ = some (.int .i64 t219) := (blk_cell BK225.out 0).trans rfl
            have hcz42_1 : w40.cell? ⟨gb225, 1, none⟩ = some (.int .i64 t220) := (blk_cell BK225.out 1).trans rfl
            have hcz42_2 : w40.cell? ⟨gb225, 2, none⟩ = some (.int .i64 t221) := (blk_cell BK225.out 2).trans rfl
            have hcz42_3 : w40.cell? ⟨gb225, 3, none⟩ = some (.slice Ao25 t222.length co25) := (blk_cell BK225.out 3).trans rfl
            have hfz42_0 := blk_frozen BK225.out 0
            have hfz42_1 := blk_frozen BK225.out 1
            have hfz42_2 := blk_frozen BK225.out 2
            have hfz42_3 := blk_frozen BK225.out 3
            go_upto_region 14 with (first | ((with_reducible refine gate_callee (f := 19) rfl ?_); refine goesL_ (some 52) rfl rfl Try.func19 (by kernel_rfl) rfl #[.agg #[.int .i64 t219, .int .i64 t220, .int .i64 t221, .slice Ao25 t222.length co25], .int .i64 1] rfl (by (try simp only [List.map_toArray, List.map_cons, List.map_nil]); first | done | rfl | (simp only [List.length_drop, List.length_take]; rfl)) ?_; (with_reducible refine (laws_markBoard.calls kj11 t219 t220 t221 (fun k_ => some k_ = (.slice Ao25 t222.length co25 : Value).ownBlock) (.slice Ao25 t222.length co25) t222 1 t238 t239 w _ ?side1 ?side2 A35.out).mono ?_); (case side1 => repeat (first | (with_reducible first | exact HB.out | apply below_alloc | apply pw_below_drewN | apply below_drew1 | refine below_set ?_ GE207.out | refine below_set ?_ GE225.out) | exact HB.out)); (case side2 => exact Kd.R_tight rfl HO_226003.out); rintro e w43 ⟨rfl, hy0, hb, hkp⟩; refine ⟨_, rfl, ?_⟩; have n0_ := Aside0.mk (Kd.R_mono (ok' := fun k_ => some k_ ≠ (v227 : Value).ownBlock) (Kd.R_keptB ((Kd.R_apart' HO_6.out (Kd.R_typed HO_226003.out) (by decide))) hkp (fun k_ hk_ hs_ => (hk_.2) hs_)) (fun k_ hk_ => hk_.1.1)); have n1_ := Aside0.mk (Kd.R_mono (ok' := fun k_ => some k_ ≠ (v216 : Value).ownBlock) (Kd.R_keptB ((Kd.R_apart' HO_9.out (Kd.R_typed HO_226003.out) (by decide))) hkp (fun k_ hk_ hs_ => (hk_.2) hs_)) (fun k_ hk_ => hk_.1.1)); have n2_ := Aside0.mk (Kd.R_reok rfl hy0 (fun k_ e_ => HO_226003.out.1 k_ e_)); have n3_ := Aside0.mk (blk_kept (by (with_reducible repeat (first | refine blk_drewN ?_ _ | refine blk_drew ?_ | refine blk_alloc ?_ _)); exact BK207.out) hkp (fun hs_ => (fun e_ => (Kd.R_ne HO_226003.out BK207.out (by decide)) e_) hs_)); have n4_ := Aside0.mk (blk_kept (by (with_reducible repeat (first | refine blk_drewN ?_ _ | refine blk_drew ?_ | refine blk_alloc ?_ _)); exact BK225.out) hkp (fun hs_ => (fun e_ => (Kd.R_ne HO_226003.out BK225.out (by decide)) e_) hs_)); have n5_ := Aside0.mk (Kd.R_mono (ok' := fun k_ => some k_ ≠ (.slice Ao25 t222.length co25 : Value).ownBlock) (Kd.R_keptB (HO236.out) hkp (fun k_ hk_ hs_ => (hk_.2) hs_)) (fun k_ hk_ => hk_.1.2)); have n6_ := Aside0.mk (hb); clear HO_6; clear HO_9; clear HO_226003; clear BK207; clear BK225; clear HO236; clear HB; have HO_6 := n0_; have HO_9 := n1_; have HO_226003 := n2_; have BK207 := n3_; have BK225 := n4_; have HO236 := n5_; have HB := n6_; clear n0_ n1_ n2_ n3_ n4_ n5_ n6_; (try clear hb); (try clear hkp); (try clear hy0)))
            (try simp only [Act.put, List.setIfInBounds_toArray, List.set_cons_zero, List.set_cons_succ])
            go_cut [65] (fun v65 wc => ∃ (kq : Nat) (x65_35 : Bool), v65 = .bool x65_35 ∧ Aside0 (laws_FnExactSureSquares.j1 kq a1 t215 t218 t226 x65_35 a0_0 a0_1 a0_2 l0_3 = some r) ∧ Aside0 (kq ≤ kj11) ∧ Aside0 (Kd.R (Kd.int .i64) 3 wc w.heap.size (fun k_ => some k_ ≠ (v227 : Value).ownBlock) v216 t215) ∧ Aside0 (Kd.R (Kd.int .i64) 3 wc w.heap.size (fun k_ => some k_ ≠ (v216 : Value).ownBlock) v227 t226) ∧ Aside0 (Kd.R k126 126 wc w.heap.size (fun _ => True) (.slice Ao25 t222.length co25) t239) ∧ Aside0 (wc.heap[gb207]? = some (.cells #[.int .i64 a0_0, .int .i64 a0_1, .int .i64 a0_2, (.slice A0_3 l0_3.length c0_3)] 24 (0, 0))) ∧ Aside0 (wc.heap[gb225]? = some (.cells #[.int .i64 t219, .int .i64 t220, .int .i64 t221, (.slice Ao25 t222.length co25)] 31 (0, 0))) ∧ Aside0 (Below w.heap.size w wc))
            case first =>
              have H := HC36.out
              clear HC36
              by_cases c44 : t238 < 0
              · rw [if_pos c44] at H
                exact absurd H (by simp)
              · rw [if_neg c44] at H
                have c44b0 : decide (t238 < 0) = false := decide_eq_false c44
                clear c44
                (first | rw [c44b0] | (simp only [i64_w, i32_w]; rw [c44b0]) | skip)
                replace H := Option.bind_eq_some_iff.mp H
                obtain ⟨t240, A450, H⟩ := H
                replace H : (if t240 = true then (laws_FnExactSureSquares.j1 kj11 a1 t215 t218 t226 (t229 != t218) a0_0 a0_1 a0_2 l0_3) else (none)) = some r := H
                have A45 := Aside0.mk A450
                clear A450
                by_cases c46 : t240 = true
                · subst c46
                  have H1 : (laws_FnExactSureSquares.j1 kj11 a1 t215 t218 t226 (t229 != t218) a0_0 a0_1 a0_2 l0_3) = some r := by rw [if_pos rfl] at H; exact H
                  clear H
                  have H := H1
                  clear H1
                  have H' := Aside0.mk H
                  clear H
                  obtain ⟨Ao47, co47, eo47⟩ := Kd.R_slice HO_9.out
                  subst eo47
                  obtain ⟨Ao48, co48, eo48⟩ := Kd.R_slice HO_6.out
                  subst eo48
                  go_wp2_with (first | (go_at_call 17; (with_reducible refine (laws_eqIntS.calls kj11 _ _ t226 _ _ t215 true _ ?side1 ?side2 ?side3 ?side4 A45.out).mono ?_); (case side1 => repeat (first | exact (Kd.R_reads' HO_9.out).2.2 | (with_reducible refine Kd.C_alloc ?_ _) | (with_reducible refine Kd.C_drewN ?_ _) | (with_reducible refine Kd.C_drew ?_))); (case side2 => exact (Kd.R_reads' HO_9.out).2.1); (case side3 => repeat (first | exact (Kd.R_reads' HO_6.out).2.2 | (with_reducible refine Kd.C_alloc ?_ _) | (with_reducible refine Kd.C_drewN ?_ _) | (with_reducible refine Kd.C_drew ?_))); (case side4 => exact (Kd.R_reads' HO_6.out).2.1); rintro e w' ⟨rfl, ⟨nd, rfl⟩⟩))
                  go_meet
                  case rel => exact ⟨_, ((t229 != t218)), (by first | rfl | (simp; done) | (simp [*]; done)), H', ⟨by have := HJ11.out; first | omega | exact Nat.le_refl _⟩, ⟨by (with_reducible repeat (first | apply Kd.R_alloc | apply Kd.R_drewN | apply Kd.R_drew)); exact HO_6.out⟩, ⟨by (with_reducible repeat (first | apply Kd.R_alloc | apply Kd.R_drewN | apply Kd.R_drew)); exact HO_9.out⟩, ⟨by (with_reducible repeat (first | apply Kd.R_alloc | apply Kd.R_drewN | apply Kd.R_drew)); exact Kd.R_mono HO_226003.out (fun _ hk => trivial)⟩, ⟨by (with_reducible repeat (first | refine blk_drewN ?_ _ | refine blk_drew ?_ | refine blk_alloc ?_ _)); exact BK207.out⟩, ⟨by (with_reducible repeat (first | refine blk_drewN ?_ _ | refine blk_drew ?_ | refine blk_alloc ?_ _)); exact BK225.out⟩, ⟨by repeat (first | (with_reducible first | exact HB.out | apply below_alloc | apply pw_below_drewN | apply below_drew1 | refine below_set ?_ GE207.out | refine below_set ?_ GE225.out) | exact HB.out)⟩⟩
                · replace c46 := Bool.eq_false_iff.mpr c46
                  subst c46
                  have H1 : (none) = some r := by rw [if_neg (show ¬ (false = true) by decide)] at H; exact H
                  clear H
                  have H := H1
                  clear H1
                  exact absurd H (by simp)
            case rest =>
              clear HC36
              try clear c1
              try clear c2
              try clear p2
              try clear c3
              try clear c4
              try clear c4b0
              try clear c13
              try clear c14
              try clear c15
              try clear c16
              try clear c17
              try clear c18
              try clear c19
              try clear c23
              try clear c28
              try clear c31
              try clear c34
              try clear c41
              try clear c44
              try clear c44b0
              try clear c46
              try clear hcz14_0
              try clear hcz14_1
              try clear hcz14_2
              try clear hcz14_3
              try clear hcz16_0
              try clear hcz16_1
              try clear hcz16_2
              try clear hcz16_3
              try clear hcz20_0
              try clear hcz20_1
              try clear hcz20_2
              try clear hcz20_3
              try clear hcz24_0
              try clear hcz24_1
              try clear hcz24_2
              try clear hcz24_3
              try clear hcz42_0
              try clear hcz42_1
              try clear hcz42_2
              try clear hcz42_3
              try clear hcz6_0
              try clear hcz6_1
              try clear hcz6_2
              try clear hcz6_3
              try clear hfz14_0
              try clear hfz14_1
              try clear hfz14_2
              try clear hfz14_3
              try clear hfz16_0
              try clear hfz16_1
              try clear hfz16_2
              try clear hfz16_3
              try clear hfz20_0
              try clear hfz20_1
              try clear hfz20_2
              try clear hfz20_3
              try clear hfz24_0
              try clear hfz24_1
              try clear hfz24_2
              try clear hfz24_3
              try clear hfz42_0
              try clear hfz42_1
              try clear hfz42_2
              try clear hfz42_3
              try clear hfz6_0
              try clear hfz6_1
              try clear hfz6_2
              try clear hfz6_3
              try clear p2
              obtain ⟨kq, x65_35, rfl, HA, HJ35, HO_6, HO_9, HO_226003, BK207, BK225, HB⟩ := hcut
              have hl226003_35 := (Kd.R_reads' HO_226003.out).1
              rw [hl226003_35] at HO_226003
              (try simp only [hl226003_35])
              (try simp only [hl226003_35] at BK207)
              (try simp only [hl226003_35] at BK225)
              (try simp only [hl226003_35] at HO_6)
              (try simp only [hl226003_35] at HO_9)
              cases kq with
              | zero => exact absurd HA.out (by simp [laws_FnExactSureSquares.j1])
              | succ kj35 =>
                have H := HA.out
                clear HA
                simp only [laws_FnExactSureSquares.j1] at H
                by_cases c49 : x65_35 = true
                · subst c49
                  have H1 : (none) = some r := by rw [if_pos rfl] at H; exact H
                  clear H
                  have H := H1
                  clear H1
                  exact absurd H (by simp)
                · replace c49 := Bool.eq_false_iff.mpr c49
                  subst c49
                  have H1 : ((laws_markIntS.f kj35 t226 1).bind fun bt241 => ((laws_heldIntS.f kj35 bt241.2 1).bind fun t243 => (if t243 < 0 then (none) else (if t243 = bt241.1 then ((laws_toBoard.f kj35 a0_0 a0_1 a0_2 l0_3).bind fun bt244 => ((impl_SureSquares.f kj35 bt244.1 bt244.2.1 bt244.2.2.1 bt244.2.2.2 a1).bind fun bt250 => ((laws_eqIntS.f kj35 bt250.1 t215).bind fun t254 => (if t254 = true then (laws_FnExactSureSquares.j2 kj35 bt241.2 bt241.1 (bt250.2 != t218)) else (none))))) else (none))))) = some r := by rw [if_neg (show ¬ (false = true) by decide)] at H; exact H
                  clear H
                  have H := H1
                  clear H1
                  replace H := Option.bind_eq_some_iff.mp H
                  obtain ⟨⟨t241, t242⟩, A500, H⟩ := H
                  replace H : ((laws_heldIntS.f kj35 t242 1).bind fun t243 => (if t243 < 0 then (none) else (if t243 = t241 then ((laws_toBoard.f kj35 a0_0 a0_1 a0_2 l0_3).bind fun bt244 => ((impl_SureSquares.f kj35 bt244.1 bt244.2.1 bt244.2.2.1 bt244.2.2.2 a1).bind fun bt250 => ((laws_eqIntS.f kj35 bt250.1 t215).bind fun t254 => (if t254 = true then (laws_FnExactSureSquares.j2 kj35 t242 t241 (bt250.2 != t218)) else (none))))) else (none)))) = some r := H
                  have A50 := Aside0.mk A500
                  clear A500
                  replace H := Option.bind_eq_some_iff.mp H
                  obtain ⟨t243, A510, H⟩ := H
                  replace H : (if t243 < 0 then (none) else (if t243 = t241 then ((laws_toBoard.f kj35 a0_0 a0_1 a0_2 l0_3).bind fun bt244 => ((impl_SureSquares.f kj35 bt244.1 bt244.2.1 bt244.2.2.1 bt244.2.2.2 a1).bind fun bt250 => ((laws_eqIntS.f kj35 bt250.1 t215).bind fun t254 => (if t254 = true then (laws_FnExactSureSquares.j2 kj35 t242 t241 (bt250.2 != t218)) else (none))))) else (none))) = some r := H
                  have A51 := Aside0.mk A510
                  clear A510
                  by_cases c52 : t243 < 0
                  · rw [if_pos c52] at H
                    exact absurd H (by simp)
                  · rw [if_neg c52] at H
                    have c52b0 : decide (t243 < 0) = false := decide_eq_false c52
                    clear c52
                    by_cases c53 : t243 = t241
                    · rw [if_pos c53] at H
                      have c53b0 : (t243 == t241) = true := beq_iff_eq.mpr c53
                      have c53b1 : (t243 != t241) = false := bne_eq_false_iff_eq.mpr c53
                      clear c53
                      replace H := Option.bind_eq_some_iff.mp H
                      obtain ⟨⟨t244, t245, t246, t247⟩, A540, H⟩ := H
                      replace H : ((impl_SureSquares.f kj35 t244 t245 t246 t247 a1).bind fun bt250 => ((laws_eqIntS.f kj35 bt250.1 t215).bind fun t254 => (if t254 = true then (laws_FnExactSureSquares.j2 kj35 t242 t241 (bt250.2 != t218)) else (none)))) = some r := H
                      have A54 := Aside0.mk A540
                      clear A540
                      replace H := Option.bind_eq_some_iff.mp H
                      obtain ⟨⟨t250, t253⟩, A550, H⟩ := H
                      replace H : ((laws_eqIntS.f kj35 t250 t215).bind fun t254 => (if t254 = true then (laws_FnExactSureSquares.j2 kj35 t242 t241 (t253 != t218)) else (none))) = some r := H
                      have A55 := Aside0.mk A550
                      clear A550
                      have HC56 := Aside0.mk H
                      clear H
                      obtain ⟨Ao57, co57, eo57⟩ := Kd.R_slice HO_9.out
                      subst eo57
                      go_upto_region 25 with (first | ((with_reducible refine gate_callee (f := 20) rfl ?_); refine goesL_ (some 68) rfl rfl Try.func20 (by kernel_rfl) rfl #[.slice Ao57 t226.length co57, .int .i64 1] rfl (by (try simp only [List.map_toArray, List.map_cons, List.map_nil]); first | done | rfl | (simp only [List.length_drop, List.length_take]; rfl)) ?_; (with_reducible refine (laws_markIntS.calls kj35 (fun k_ => some k_ = (.slice Ao57 t226.length co57 : Value).ownBlock) (.slice Ao57 t226.length co57) t226 1 t241 t242 w _ ?side1 ?side2 A50.out).mono ?_); (case side1 => repeat (first | (with_reducible first | exact HB.out | apply below_alloc | apply pw_below_drewN | apply below_drew1 | refine below_set ?_ GE207.out | refine below_set ?_ GE225.out) | exact HB.out)); (case side2 => exact Kd.R_tight rfl HO_9.out); rintro e w58 ⟨rfl, hy0, hb, hkp⟩; refine ⟨_, rfl, ?_⟩; have n0_ := Aside0.mk (Kd.R_mono (ok' := fun k_ => some k_ ≠ (.slice Ao57 t226.length co57 : Value).ownBlock) (Kd.R_keptB (HO_6.out) hkp (fun k_ hk_ hs_ => (hk_) hs_)) (fun k_ hk_ => hk_.1)); have n1_ := Aside0.mk (Kd.R_reok rfl hy0 (fun k_ e_ => HO_9.out.1 k_ e_)); have n2_ := Aside0.mk (Kd.R_mono (ok' := fun k_ => True) (Kd.R_keptB ((Kd.R_apart' HO_226003.out (Kd.R_typed HO_9.out) (by decide))) hkp (fun k_ hk_ hs_ => (hk_.2) hs_)) (fun k_ hk_ => trivial)); have n3_ := Aside0.mk (blk_kept (by (with_reducible repeat (first | refine blk_drewN ?_ _ | refine blk_drew ?_ | refine blk_alloc ?_ _)); exact BK207.out) hkp (fun hs_ => (fun e_ => (Kd.R_ne HO_9.out BK207.out (by decide)) e_) hs_)); have n4_ := Aside0.mk (blk_kept (by (with_reducible repeat (first | refine blk_drewN ?_ _ | refine blk_drew ?_ | refine blk_alloc ?_ _)); exact BK225.out) hkp (fun hs_ => (fun e_ => (Kd.R_ne HO_9.out BK225.out (by decide)) e_) hs_)); have n5_ := Aside0.mk (hb); clear HO_6; clear HO_9; clear HO_226003; clear BK207; clear BK225; clear HB; have HO_6 := n0_; have HO_9 := n1_; have HO_226003 := n2_; have BK207 := n3_; have BK225 := n4_; have HB := n5_; clear n0_ n1_ n2_ n3_ n4_ n5_; (try clear hb); (try clear hkp); (try clear hy0)) | ((with_reducible refine gate_callee (f := 21) rfl ?_); refine goesL_ (some 71) rfl rfl Try.func21 (by kernel_rfl) rfl #[.slice Ao57 t242.length co57, .int .i64 1] rfl (by (try simp only [List.map_toArray, List.map_cons, List.map_nil]); first | done | (rw [show t242.length = t226.length from (Kd.R_reads' HO_9.out).1.symm] <;> rfl) | rfl | (simp only [List.length_drop, List.length_take]; rfl)) ?_; (with_reducible refine (laws_heldIntS.calls kj35 _ _ t242 1 t243 _ ?side1 ?side2 A51.out).mono ?_); (case side1 => repeat (first | exact (Kd.R_reads' HO_9.out).2.2 | (with_reducible refine Kd.C_alloc ?_ _) | (with_reducible refine Kd.C_drewN ?_ _) | (with_reducible refine Kd.C_drew ?_))); (case side2 => rw [show t242.length = t226.length from (Kd.R_reads' HO_9.out).1.symm]; exact (Kd.R_reads' HO_9.out).2.1); rintro e w' ⟨rfl, ⟨nd, rfl⟩⟩; refine ⟨_, rfl, ?_⟩; have hnb59 := NB207_225.out; have hnc59 := NB225_207.out; have hcz60_0 : w58.cell? ⟨gb207, 0, none⟩ = some (.int .i64 a0_0) := (blk_cell BK207.out 0).trans rfl; have hcz60_1 : w58.cell? ⟨gb207, 1, none⟩ = some (.int .i64 a0_1) := (blk_cell BK207.out 1).trans rfl; have hcz60_2 : w58.cell? ⟨gb207, 2, none⟩ = some (.int .i64 a0_2) := (blk_cell BK207.out 2).trans rfl; have hcz60_3 : w58.cell? ⟨gb207, 3, none⟩ = some (.slice A0_3 l0_3.length c0_3) := (blk_cell BK207.out 3).trans rfl; have hfz60_0 := blk_frozen BK207.out 0; have hfz60_1 := blk_frozen BK207.out 1; have hfz60_2 := blk_frozen BK207.out 2; have hfz60_3 := blk_frozen BK207.out 3) | ((with_reducible refine gate_callee (f := 15) rfl ?_); refine goesL_ (some 79) rfl rfl Try.func15 (by kernel_rfl) rfl #[.agg #[.int .i64 a0_0, .int .i64 a0_1, .int .i64 a0_2, .slice A0_3 l0_3.length c0_3]] rfl (by (try simp only [List.map_toArray, List.map_cons, List.map_nil]); first | done | rfl | (simp only [List.length_drop, List.length_take]; rfl)) ?_; (with_reducible refine (laws_toBoard.calls kj35 a0_0 a0_1 a0_2 _ _ l0_3 t244 t245 t246 t247 _ ?side1 ?side2 A54.out).mono ?_); (case side1 => repeat (first | exact (Kd.C_below HR0_3.out (by repeat (first | (with_reducible first | exact HB.out | apply below_alloc | apply pw_below_drewN | apply below_drew1 | refine below_set ?_ GE207.out | refine below_set ?_ GE225.out) | exact HB.out))) | (with_reducible refine Kd.C_alloc ?_ _) | (with_reducible refine Kd.C_drewN ?_ _) | (with_reducible refine Kd.C_drew ?_))); (case side2 => exact HC0_3.out); rintro e w61 ⟨v248, rfl, ho0, hb⟩; refine ⟨_, rfl, ?_⟩; have n0_ := Aside0.mk (Kd.R_below (by (with_reducible repeat (first | apply Kd.R_alloc | apply Kd.R_drewN | apply Kd.R_drew)); exact HO_6.out) hb); have n1_ := Aside0.mk (Kd.R_below (by (with_reducible repeat (first | apply Kd.R_alloc | apply Kd.R_drewN | apply Kd.R_drew)); exact HO_9.out) hb); have n2_ := Aside0.mk (Kd.R_elder' (by (with_reducible repeat (first | apply Kd.R_alloc | apply Kd.R_drewN | apply Kd.R_drew)); exact HO_226003.out) (Kd.R_base ho0) hb); have n3_ := Aside0.mk (Kd.R_lower (Kd.R_new' ho0 (Kd.R_lt (by (with_reducible repeat (first | apply Kd.R_alloc | apply Kd.R_drewN | apply Kd.R_drew)); exact HO_226003.out))) (below_size (by repeat (first | (with_reducible first | exact HB.out | apply below_alloc | apply pw_below_drewN | apply below_drew1 | refine below_set ?_ GE207.out | refine below_set ?_ GE225.out) | exact HB.out)))); have n4_ := Aside0.mk (blk_below (g := gb207) (o := .cells #[.int .i64 a0_0, .int .i64 a0_1, .int .i64 a0_2, .slice A0_3 l0_3.length c0_3] 24 (0, 0)) (by (with_reducible repeat (first | refine blk_drewN ?_ _ | refine blk_drew ?_ | refine blk_alloc ?_ _)); exact BK207.out) hb); have n5_ := Aside0.mk (blk_below (g := gb225) (o := .cells #[.int .i64 t219, .int .i64 t220, .int .i64 t221, .slice Ao25 t239.length co25] 31 (0, 0)) (by (with_reducible repeat (first | refine blk_drewN ?_ _ | refine blk_drew ?_ | refine blk_alloc ?_ _)); exact BK225.out) hb); have n6_ := Aside0.mk (below_step (by repeat (first | (with_reducible first | exact HB.out | apply below_alloc | apply pw_below_drewN | apply below_drew1 | refine below_set ?_ GE207.out | refine below_set ?_ GE225.out) | exact HB.out)) hb); clear HO_6; clear HO_9; clear HO_226003; clear BK207; clear BK225; clear HB; have HO_6 := n0_; have HO_9 := n1_; have HO_226003 := n2_; have HO249 := n3_; have BK207 := n4_; have BK225 := n5_; have HB := n6_; clear n0_ n1_ n2_ n3_ n4_ n5_ n6_; (try clear hb); (try clear hb2); (try clear hk); (try clear hi); (try clear ho0); obtain ⟨Ao62, co62, eo62⟩ := Kd.R_slice HO249.out; subst eo62) | ((with_reducible refine gate_callee (f := 16) rfl ?_); refine goesL_ (some 81) rfl rfl Try.func16 (by kernel_rfl) rfl #[.agg #[.int .i64 t244, .int .i64 t245, .int .i64 t246, .slice Ao62 t247.length co62], .int .i64 a1] rfl (by (try simp only [List.map_toArray, List.map_cons, List.map_nil]); first | done | rfl | (simp only [List.length_drop, List.length_take]; rfl)) ?_; (with_reducible refine (impl_SureSquares.calls kj35 t244 t245 t246 _ _ t247 a1 t250 t253 _ ?side1 ?side2 A55.out).mono ?_); (case side1 => repeat (first | exact (Kd.R_reads' HO249.out).2.2 | (with_reducible refine Kd.C_alloc ?_ _) | (with_reducible refine Kd.C_drewN ?_ _) | (with_reducible refine Kd.C_drew ?_))); (case side2 => exact (Kd.R_reads' HO249.out).2.1); rintro e w63 ⟨v251, rfl, ho0, hb⟩; refine ⟨_, rfl, ?_⟩; have n0_ := Aside0.mk (Kd.R_elder' (by (with_reducible repeat (first | apply Kd.R_alloc | apply Kd.R_drewN | apply Kd.R_drew)); exact HO_6.out) (Kd.R_base ho0) hb); have n1_ := Aside0.mk (Kd.R_elder' (by (with_reducible repeat (first | apply Kd.R_alloc | apply Kd.R_drewN | apply Kd.R_drew)); exact HO_9.out) (Kd.R_base ho0) hb); have n2_ := Aside0.mk (Kd.R_below (by (with_reducible repeat (first | apply Kd.R_alloc | apply Kd.R_drewN | apply Kd.R_drew)); exact HO_226003.out) hb); have n3_ := Aside0.mk (Kd.R_below (by (with_reducible repeat (first | apply Kd.R_alloc | apply Kd.R_drewN | apply Kd.R_drew)); exact HO249.out) hb); have n4_ := Aside0.mk (Kd.R_lower (Kd.R_new' (Kd.R_new' ho0 (Kd.R_lt (by (with_reducible repeat (first | apply Kd.R_alloc | apply Kd.R_drewN | apply Kd.R_drew)); exact HO_6.out))) (Kd.R_lt (by (with_reducible repeat (first | apply Kd.R_alloc | apply Kd.R_drewN | apply Kd.R_drew)); exact HO_9.out))) (below_size (by repeat (first | (with_reducible first | exact HB.out | apply below_alloc | apply pw_below_drewN | apply below_drew1 | refine below_set ?_ GE207.out | refine below_set ?_ GE225.out) | exact HB.out)))); have n5_ := Aside0.mk (blk_below (g := gb207) (o := .cells #[.int .i64 a0_0, .int .i64 a0_1, .int .i64 a0_2, .slice A0_3 l0_3.length c0_3] 24 (0, 0)) (by (with_reducible repeat (first | refine blk_drewN ?_ _ | refine blk_drew ?_ | refine blk_alloc ?_ _)); exact BK207.out) hb); have n6_ := Aside0.mk (blk_below (g := gb225) (o := .cells #[.int .i64 t219, .int .i64 t220, .int .i64 t221, .slice Ao25 t239.length co25] 31 (0, 0)) (by (with_reducible repeat (first | refine blk_drewN ?_ _ | refine blk_drew ?_ | refine blk_alloc ?_ _)); exact BK225.out) hb); have n7_ := Aside0.mk (below_step (by repeat (first | (with_reducible first | exact HB.out | apply below_alloc | apply pw_below_drewN | apply below_drew1 | refine below_set ?_ GE207.out | refine below_set ?_ GE225.out) | exact HB.out)) hb); clear HO_6; clear HO_9; clear HO_226003; clear HO249; clear BK207; clear BK225; clear HB; have HO_6 := n0_; have HO_9 := n1_; have HO_226003 := n2_; have HO249 := n3_; have HO252 := n4_; have BK207 := n5_; have BK225 := n6_; have HB := n7_; clear n0_ n1_ n2_ n3_ n4_ n5_ n6_ n7_; (try clear hb); (try clear hb2); (try clear hk); (try clear hi); (try clear ho0)))
                      (try simp only [Act.put, List.setIfInBounds_toArray, List.set_cons_zero, List.set_cons_succ])
                      go_cut [92] (fun v92 wc => ∃ (kq : Nat) (x92_55 : Bool), v92 = .bool x92_55 ∧ Aside0 (laws_FnExactSureSquares.j2 kq t242 t241 x92_55 = some r) ∧ Aside0 (kq ≤ kj35) ∧ Aside0 (Kd.R (Kd.int .i64) 3 wc w.heap.size (fun _ => True) (.slice Ao57 t226.length co57) t242) ∧ Aside0 (Kd.R k126 126 wc w.heap.size (fun _ => True) (.slice Ao25 t239.length co25) t239) ∧ Aside0 (wc.heap[gb207]? = some (.cells #[.int .i64 a0_0, .int .i64 a0_1, .int .i64 a0_2, (.slice A0_3 l0_3.length c0_3)] 24 (0, 0))) ∧ Aside0 (wc.heap[gb225]? = some (.cells #[.int .i64 t219, .int .i64 t220, .int .i64 t221, (.slice Ao25 t239.length co25)] 31 (0, 0))) ∧ Aside0 (Below w.heap.size w wc))
                      case first =>
                        have H := HC56.out
                        clear HC56
                        replace H := Option.bind_eq_some_iff.mp H
                        obtain ⟨t254, A640, H⟩ := H
                        replace H : (if t254 = true then (laws_FnExactSureSquares.j2 kj35 t242 t241 (t253 != t218)) else (none)) = some r := H
                        have A64 := Aside0.mk A640
                        clear A640
                        by_cases c65 : t254 = true
                        · subst c65
                          have H1 : (laws_FnExactSureSquares.j2 kj35 t242 t241 (t253 != t218)) = some r := by rw [if_pos rfl] at H; exact H
                          clear H
                          have H := H1
                          clear H1
                          have H' := Aside0.mk H
                          clear H
                          obtain ⟨Ao66, co66, eo66⟩ := Kd.R_slice HO252.out
                          subst eo66
                          obtain ⟨Ao67, co67, eo67⟩ := Kd.R_slice HO_6.out
                          subst eo67
                          go_wp2_with (first | ((with_reducible refine gate_callee (f := 17) rfl ?_); refine goesL_ (some 86) rfl rfl Try.func17 (by kernel_rfl) rfl #[.slice Ao66 t250.length co66, .slice Ao67 t215.length co67] rfl (by (try simp only [List.map_toArray, List.map_cons, List.map_nil]); first | done | rfl | (simp only [List.length_drop, List.length_take]; rfl)) ?_; (with_reducible refine (laws_eqIntS.calls kj35 _ _ t250 _ _ t215 true _ ?side1 ?side2 ?side3 ?side4 A64.out).mono ?_); (case side1 => repeat (first | exact (Kd.R_reads' HO252.out).2.2 | (with_reducible refine Kd.C_alloc ?_ _) | (with_reducible refine Kd.C_drewN ?_ _) | (with_reducible refine Kd.C_drew ?_))); (case side2 => exact (Kd.R_reads' HO252.out).2.1); (case side3 => repeat (first | exact (Kd.R_reads' HO_6.out).2.2 | (with_reducible refine Kd.C_alloc ?_ _) | (with_reducible refine Kd.C_drewN ?_ _) | (with_reducible refine Kd.C_drew ?_))); (case side4 => exact (Kd.R_reads' HO_6.out).2.1); rintro e w' ⟨rfl, ⟨nd, rfl⟩⟩; refine ⟨_, rfl, ?_⟩))
                          go_meet
                          case rel => exact ⟨_, ((t253 != t218)), (by first | rfl | (simp; done) | (simp [*]; done)), H', ⟨by have := HJ11.out; have := HJ35.out; first | omega | exact Nat.le_refl _⟩, ⟨by (try simp only [hl226003_35]); (with_reducible repeat (first | apply Kd.R_alloc | apply Kd.R_drewN | apply Kd.R_drew)); exact Kd.R_mono HO_9.out (fun _ hk => trivial)⟩, ⟨by (try simp only [hl226003_35]); (with_reducible repeat (first | apply Kd.R_alloc | apply Kd.R_drewN | apply Kd.R_drew)); exact Kd.R_mono HO_226003.out (fun _ hk => trivial)⟩, ⟨by (try simp only [hl226003_35]); (with_reducible repeat (first | refine blk_drewN ?_ _ | refine blk_drew ?_ | refine blk_alloc ?_ _)); exact BK207.out⟩, ⟨by (try simp only [hl226003_35]); (with_reducible repeat (first | refine blk_drewN ?_ _ | refine blk_drew ?_ | refine blk_alloc ?_ _)); exact BK225.out⟩, ⟨by repeat (first | (with_reducible first | exact HB.out | apply below_alloc | apply pw_below_drewN | apply below_drew1 | refine below_set ?_ GE207.out | refine below_set ?_ GE225.out) | exact HB.out)⟩⟩
                        · replace c65 := Bool.eq_false_iff.mpr c65
                          subst c65
                          have H1 : (none) = some r := by rw [if_neg (show ¬ (false = true) by decide)] at H; exact H
                          clear H
                          have H := H1
                          clear H1
                          exact absurd H (by simp)
                      case rest =>
                        clear HC56
                        try clear c1
                        try clear c2
                        try clear p2
                        try clear c3
                        try clear c4
                        try clear c4b0
                        try clear c5
                        try clear c6
                        try clear c13
                        try clear c14
                        try clear c15
                        try clear c16
                        try clear c17
                        try clear c18
                        try clear c19
                        try clear c20
                        try clear c21
                        try clear c23
                        try clear c28
                        try clear c31
                        try clear c34
                        try clear c41
                        try clear c44
                        try clear c44b0
                        try clear c46
                        try clear c49
                        try clear c52
                        try clear c52b0
                        try clear c53
                        try clear c53b0
                        try clear c53b1
                        try clear c59
                        try clear c65
                        try clear hcz14_0
                        try clear hcz14_1
                        try clear hcz14_2
                        try clear hcz14_3
                        try clear hcz16_0
                        try clear hcz16_1
                        try clear hcz16_2
                        try clear hcz16_3
                        try clear hcz20_0
                        try clear hcz20_1
                        try clear hcz20_2
                        try clear hcz20_3
                        try clear hcz24_0
                        try clear hcz24_1
                        try clear hcz24_2
                        try clear hcz24_3
                        try clear hcz42_0
                        try clear hcz42_1
                        try clear hcz42_2
                        try clear hcz42_3
                        try clear hcz60_0
                        try clear hcz60_1
                        try clear hcz60_2
                        try clear hcz60_3
                        try clear hcz6_0
                        try clear hcz6_1
                        try clear hcz6_2
                        try clear hcz6_3
                        try clear hfz14_0
                        try clear hfz14_1
                        try clear hfz14_2
                        try clear hfz14_3
                        try clear hfz16_0
                        try clear hfz16_1
                        try clear hfz16_2
                        try clear hfz16_3
                        try clear hfz20_0
                        try clear hfz20_1
                        try clear hfz20_2
                        try clear hfz20_3
                        try clear hfz24_0
                        try clear hfz24_1
                        try clear hfz24_2
                        try clear hfz24_3
                        try clear hfz42_0
                        try clear hfz42_1
                        try clear hfz42_2
                        try clear hfz42_3
                        try clear hfz60_0
                        try clear hfz60_1
                        try clear hfz60_2
                        try clear hfz60_3
                        try clear hfz6_0
                        try clear hfz6_1
                        try clear hfz6_2
                        try clear hfz6_3
                        try clear p2
                        obtain ⟨kq, x92_55, rfl, HA, HJ55, HO_9, HO_226003, BK207, BK225, HB⟩ := hcut
                        have hl9_55 := (Kd.R_reads' HO_9.out).1
                        rw [hl9_55] at HO_9
                        (try simp only [hl9_55])
                        (try simp only [hl9_55] at BK207)
                        (try simp only [hl9_55] at BK225)
                        (try simp only [hl9_55] at HO_226003)
                        cases kq with
                        | zero => exact absurd HA.out (by simp [laws_FnExactSureSquares.j2])
                        | succ kj55 =>
                          have H := HA.out
                          clear HA
                          simp only [laws_FnExactSureSquares.j2] at H
                          by_cases c68 : x92_55 = true
                          · subst c68
                            have H1 : (none) = some r := by rw [if_pos rfl] at H; exact H
                            clear H
                            have H := H1
                            clear H1
                            exact absurd H (by simp)
                          · replace c68 := Bool.eq_false_iff.mpr c68
                            subst c68
                            have H1 : ((laws_heldIntS.f kj55 t242 1).bind fun t255 => (if t255 < 0 then (none) else (if t255 = t241 then (some true) else (none)))) = some r := by rw [if_neg (show ¬ (false = true) by decide)] at H; exact H
                            clear H
                            have H := H1
                            clear H1
                            replace H := Option.bind_eq_some_iff.mp H
                            obtain ⟨t255, A690, H⟩ := H
                            replace H : (if t255 < 0 then (none) else (if t255 = t241 then (some true) else (none))) = some r := H
                            have A69 := Aside0.mk A690
                            clear A690
                            by_cases c70 : t255 < 0
                            · rw [if_pos c70] at H
                              exact absurd H (by simp)
                            · rw [if_neg c70] at H
                              have c70b0 : decide (t255 < 0) = false := decide_eq_false c70
                              clear c70
                              by_cases c71 : t255 = t241
                              · rw [if_pos c71] at H
                                have c71b0 : (t255 == t241) = true := beq_iff_eq.mpr c71
                                have c71b1 : (t255 != t241) = false := bne_eq_false_iff_eq.mpr c71
                                clear c71
                                obtain rfl := Option.some.inj H
                                go_wp2_with (first | ((with_reducible refine gate_callee (f := 21) rfl ?_); refine goesL_ (some 95) rfl rfl Try.func21 (by kernel_rfl) rfl #[.slice Ao57 t242.length co57, .int .i64 1] rfl (by (try simp only [List.map_toArray, List.map_cons, List.map_nil]); first | done | rfl | (simp only [List.length_drop, List.length_take]; rfl)) ?_; (with_reducible refine (laws_heldIntS.calls kj55 _ _ t242 1 t255 _ ?side1 ?side2 A69.out).mono ?_); (case side1 => repeat (first | exact (Kd.R_reads' HO_9.out).2.2 | (with_reducible refine Kd.C_alloc ?_ _) | (with_reducible refine Kd.C_drewN ?_ _) | (with_reducible refine Kd.C_drew ?_))); (case side2 => exact (Kd.R_reads' HO_9.out).2.1); rintro e w' ⟨rfl, ⟨nd, rfl⟩⟩; refine ⟨_, rfl, ?_⟩))
                                go_ret
                                exact ⟨by first | rfl | (simp [errW_none, errW_some] <;> rfl) | (simp [*, errW_none, errW_some] <;> rfl), by repeat (first | (with_reducible first | exact HB.out | apply below_alloc | apply pw_below_drewN | apply below_drew1 | refine below_set ?_ GE207.out | refine below_set ?_ GE225.out) | exact HB.out)⟩
                              · rw [if_neg c71] at H
                                exact absurd H (by simp)
                    · rw [if_neg c53] at H
                      exact absurd H (by simp)
          · replace c34 := Bool.eq_false_iff.mpr c34
            subst c34
            have H1 : (none) = some r := by rw [if_neg (show ¬ (false = true) by decide)] at H; exact H
            clear H
            have H := H1
            clear H1
            exact absurd H (by simp)
end Go.Proofs.Ytgahigmpcgfbeaa.P
end
