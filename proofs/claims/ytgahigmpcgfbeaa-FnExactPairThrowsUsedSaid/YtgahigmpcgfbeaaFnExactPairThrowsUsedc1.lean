/- The program's PairThrowsUsed returns what the reference's returns, for all pairs and lists of throws, and leaves the throws as they were. -/
import Derived.Test.YtgahigmpcgfbeaaProg
import Derived.Below
import Derived.Deep.Draws
import Derived.Deep.AppendLies
import Derived.Maps.AppendAt
import Derived.OwnWalk
import Derived.Laws.BytesArg
import Derived.Laws.MakeOwn
import Derived.Laws.OwnMore
import Derived.Deep.OwnRows
import Derived.Tactics
import Derived.Lib.ConvBytes
import Derived.Laws.Slices
import Derived.WalkKit
import Derived.KernelRfl
import Derived.RowKit3
import Derived.Deep.LoopGhost
import Derived.Deep.QuietTactic
import Derived.BigQuiet
import Derived.WideLaws
import Derived.Deep.DeepCutAuto
import Derived.Deep.CutBlock
import Derived.Deep.RegionHeld3
import Derived.Laws.Rows
import Derived.Lib.AppendStr
import Derived.ArgAppend
import Derived.Laws.IdiomCopy
import Derived.OrdersHeld
import Derived.Laws.BitsLemmas
import Derived.RowKit
import Derived.Handy
import Derived.Test.YtgahigmpcgfbeaaFnExactPairThrowsUsedc0
section
namespace Go.Proofs.Ytgahigmpcgfbeaa.P
open Go.RowKit Go.Proofs.YtgahigmpcgfbeaaW.PrintWords Go.Proofs.YtgahigmpcgfbeaaW.PrintLast Go.Proofs.YtgahigmpcgfbeaaW.PrintMore
attribute [local go_sem] max2_int min2_int max_two min_two max_three min_three max_four min_four
set_option linter.unusedVariables false
set_option linter.unusedSimpArgs false
theorem info3 : (Try.prog.info? 3).map (fun i => (i.zero, i.size, i.bytes)) = some (some (.int .i64 0), 1, 8) := by kernel_rfl
theorem info26 : (Try.prog.info? 26).map (fun i => (i.zero, i.size, i.bytes)) = some (some (.slice none 0 0), 1, 24) := by kernel_rfl
theorem info126 : (Try.prog.info? 126).map (fun i => (i.zero, i.size, i.bytes)) = some (some (.agg #[(.int .i64 0), (.int .i64 0)]), 2, 16) := by kernel_rfl
theorem info171 : (Try.prog.info? 171).map (fun i => (i.zero, i.size, i.bytes)) = some (some (.agg #[(.int .i64 0), (.int .i64 0)]), 2, 16) := by kernel_rfl
def errW : Option Int → Value
  | none => .nilIface
  | some c => .iface 0 (.int .i64 c)
theorem errW_none : errW none = .nilIface := rfl
theorem errW_some (c : Int) : errW (some c) = .iface 0 (.int .i64 c) := rfl
structure S177 where
  f0 : Int
  f1 : Int
def z177 : S177 := ⟨(0 : Int), (0 : Int)⟩
def k177 : Kd S177 := Kd.iso (Kd.pair (Kd.int .i64) (Kd.int .i64)) (fun x : S177 => (x.f0, x.f1))
theorem k177_open {w : World} {x : S177} {cs : List Value} (h : k177.K w x cs) : cs = [.int .i64 x.f0, .int .i64 x.f1] := by
  obtain ⟨_, _, rfl, rfl, rfl⟩ := h
  exact rfl
theorem k177_openM {w : World} {base : Nat} {ok : Nat → Prop} {x : S177} {cs : List Value} (h : k177.M w base ok x cs) : cs = [.int .i64 x.f0, .int .i64 x.f1] := by
  obtain ⟨_, _, rfl, rfl, rfl⟩ := h
  exact rfl
theorem k177_mk (w : World) (x : S177)  : k177.K w x [.int .i64 x.f0, .int .i64 x.f1] := ⟨[.int .i64 x.f0], [.int .i64 x.f1], rfl, rfl, rfl⟩
theorem k177_mkM (w : World) (base : Nat) (ok : Nat → Prop) (x : S177)  : k177.M w base ok x [.int .i64 x.f0, .int .i64 x.f1] := ⟨[.int .i64 x.f0], [.int .i64 x.f1], rfl, rfl, rfl⟩
theorem k177_mkF (W : World) (ok : Nat → Prop) (x : S177) : Kd.FK k177 W ok x [.int .i64 x.f0, .int .i64 x.f1] := fun W2 _ => k177_mk W2 x
def rd_T177 (xs : List S177) (i : Int) : S177 := xs.getD i.toNat z177
theorem at_T177 {w : World} {A : Option Addr} {n : Nat} {xs : List S177} (h : Kd.C k177 w A n xs) (i : Int) (h0 : 0 ≤ i) (h1 : i < n) : ∃ ad , A = some ad ∧ w.cell? (ad.add (i.toNat * 2)) = some (.int .i64 (rd_T177 xs i).f0) ∧ w.cell? ⟨(ad.add (i.toNat * 2)).block, (ad.add (i.toNat * 2)).off + 1, none⟩ = some (.int .i64 (rd_T177 xs i).f1) := by
  obtain ⟨ad, c, e, _, hK, hc0⟩ := Kd.C_get h z177 i h0 h1
  have hc : ∀ j u, c[j]? = some u → w.cell? (ad.add (i.toNat * 2 + j)) = some u := hc0
  obtain rfl := k177_open hK
  exact ⟨ad, e, hc 0 _ rfl, by rw [← add_field _ _ 1 (by omega)]; exact hc 1 _ rfl⟩
structure S126 where
  f0 : Int
  f1 : Int
def z126 : S126 := ⟨(0 : Int), (0 : Int)⟩
def k126 : Kd S126 := Kd.iso (Kd.pair (Kd.int .i64) (Kd.int .i64)) (fun x : S126 => (x.f0, x.f1))
theorem k126_open {w : World} {x : S126} {cs : List Value} (h : k126.K w x cs) : cs = [.int .i64 x.f0, .int .i64 x.f1] := by
  obtain ⟨_, _, rfl, rfl, rfl⟩ := h
  exact rfl
theorem k126_openM {w : World} {base : Nat} {ok : Nat → Prop} {x : S126} {cs : List Value} (h : k126.M w base ok x cs) : cs = [.int .i64 x.f0, .int .i64 x.f1] := by
  obtain ⟨_, _, rfl, rfl, rfl⟩ := h
  exact rfl
theorem k126_mk (w : World) (x : S126)  : k126.K w x [.int .i64 x.f0, .int .i64 x.f1] := ⟨[.int .i64 x.f0], [.int .i64 x.f1], rfl, rfl, rfl⟩
theorem k126_mkM (w : World) (base : Nat) (ok : Nat → Prop) (x : S126)  : k126.M w base ok x [.int .i64 x.f0, .int .i64 x.f1] := ⟨[.int .i64 x.f0], [.int .i64 x.f1], rfl, rfl, rfl⟩
theorem k126_mkF (W : World) (ok : Nat → Prop) (x : S126) : Kd.FK k126 W ok x [.int .i64 x.f0, .int .i64 x.f1] := fun W2 _ => k126_mk W2 x
def rd_T126 (xs : List S126) (i : Int) : S126 := xs.getD i.toNat z126
theorem at_T126 {w : World} {A : Option Addr} {n : Nat} {xs : List S126} (h : Kd.C k126 w A n xs) (i : Int) (h0 : 0 ≤ i) (h1 : i < n) : ∃ ad , A = some ad ∧ w.cell? (ad.add (i.toNat * 2)) = some (.int .i64 (rd_T126 xs i).f0) ∧ w.cell? ⟨(ad.add (i.toNat * 2)).block, (ad.add (i.toNat * 2)).off + 1, none⟩ = some (.int .i64 (rd_T126 xs i).f1) := by
  obtain ⟨ad, c, e, _, hK, hc0⟩ := Kd.C_get h z126 i h0 h1
  have hc : ∀ j u, c[j]? = some u → w.cell? (ad.add (i.toNat * 2 + j)) = some u := hc0
  obtain rfl := k126_open hK
  exact ⟨ad, e, hc 0 _ rfl, by rw [← add_field _ _ 1 (by omega)]; exact hc 1 _ rfl⟩
def rd_L4 (xs : List (List S126)) (i : Int) : (List S126) := xs.getD i.toNat ([] : List S126)
theorem at_L4 {w : World} {A : Option Addr} {n : Nat} {xs : List (List S126)} (h : Kd.C (Kd.slice 126 k126) w A n xs) (i : Int) (h0 : 0 ≤ i) (h1 : i < n) : ∃ ad A0 c0, A = some ad ∧ w.cell? (ad.add i.toNat) = some (.slice A0 (rd_L4 xs i).length c0) ∧ (rd_L4 xs i).length ≤ c0 ∧ k126.C w A0 (rd_L4 xs i).length (rd_L4 xs i) := by
  obtain ⟨ad, c, e, _, hK, hc0⟩ := Kd.C_get h ([] : List S126) i h0 h1
  have hc : ∀ j u, c[j]? = some u → w.cell? (ad.add (i.toNat * 1 + j)) = some u := hc0
  obtain ⟨A0, c0, rfl, l0, g0⟩ := hK
  exact ⟨ad, A0, c0, e, by have hq := hc 0 _ rfl; rwa [Nat.mul_one, Nat.add_zero] at hq, l0, g0⟩
structure S31 where
  f0 : Int
  f1 : Int
  f2 : Int
  f3 : (List S126)
def z31 : S31 := ⟨(0 : Int), (0 : Int), (0 : Int), ([] : List S126)⟩
def k31 : Kd S31 := Kd.iso (Kd.pair (Kd.int .i64) (Kd.pair (Kd.int .i64) (Kd.pair (Kd.int .i64) (Kd.slice 126 k126)))) (fun x : S31 => (x.f0, x.f1, x.f2, x.f3))
theorem k31_open {w : World} {x : S31} {cs : List Value} (h : k31.K w x cs) : ∃ A3 c3, cs = [.int .i64 x.f0, .int .i64 x.f1, .int .i64 x.f2, .slice A3 x.f3.length c3] ∧ x.f3.length ≤ c3 ∧ k126.C w A3 x.f3.length x.f3 := by
  obtain ⟨_, _, rfl, rfl, ⟨_, _, rfl, rfl, ⟨_, _, rfl, rfl, ⟨A3, c3, rfl, l3, g3⟩⟩⟩⟩ := h
  exact ⟨A3, c3, rfl, l3, g3⟩
theorem k31_openM {w : World} {base : Nat} {ok : Nat → Prop} {x : S31} {cs : List Value} (h : k31.M w base ok x cs) : ∃ v3, cs = [.int .i64 x.f0, .int .i64 x.f1, .int .i64 x.f2, v3] ∧ k126.R 126 w base ok v3 x.f3 := by
  obtain ⟨_, _, rfl, rfl, ⟨_, _, rfl, rfl, ⟨_, _, rfl, rfl, ⟨v3, rfl, g3⟩⟩⟩⟩ := h
  exact ⟨v3, rfl, g3⟩
theorem k31_mk (w : World) (x : S31) {A3 : Option Addr} {c3 : Nat} (l3 : x.f3.length ≤ c3) (g3 : k126.C w A3 x.f3.length x.f3) : k31.K w x [.int .i64 x.f0, .int .i64 x.f1, .int .i64 x.f2, .slice A3 x.f3.length c3] := ⟨[.int .i64 x.f0], [.int .i64 x.f1, .int .i64 x.f2, .slice A3 x.f3.length c3], rfl, rfl, ⟨[.int .i64 x.f1], [.int .i64 x.f2, .slice A3 x.f3.length c3], rfl, rfl, ⟨[.int .i64 x.f2], [.slice A3 x.f3.length c3], rfl, rfl, ⟨A3, c3, rfl, l3, g3⟩⟩⟩⟩
theorem k31_mkM (w : World) (base : Nat) (ok : Nat → Prop) (x : S31) {v3 : Value} (g3 : k126.R 126 w base ok v3 x.f3) : k31.M w base ok x [.int .i64 x.f0, .int .i64 x.f1, .int .i64 x.f2, v3] := ⟨[.int .i64 x.f0], [.int .i64 x.f1, .int .i64 x.f2, v3], rfl, rfl, ⟨[.int .i64 x.f1], [.int .i64 x.f2, v3], rfl, rfl, ⟨[.int .i64 x.f2], [v3], rfl, rfl, ⟨v3, rfl, g3⟩⟩⟩⟩
theorem k31_openF {W : World} {ok : Nat → Prop} {x : S31} {cs : List Value} (h : Kd.FK k31 W ok x cs) : ∃ A3 c3, cs = [.int .i64 x.f0, .int .i64 x.f1, .int .i64 x.f2, .slice A3 x.f3.length c3] ∧ x.f3.length ≤ c3 ∧ Kd.F k126 W ok A3 x.f3.length x.f3 := by
  obtain ⟨A3, c3, rfl, l3, _⟩ := k31_open (Kd.FK_now h)
  exact ⟨A3, c3, rfl, l3, (fun W' hW => by obtain ⟨A3_, c3_, he, l3_, g3_⟩ := k31_open (h W' hW); injection (Option.some.inj (show some (Value.slice A3 x.f3.length c3) = some (Value.slice A3_ x.f3.length c3_) from congrArg (fun l => l[3]?) he)) with ha_ _ _; rw [ha_]; exact g3_)⟩
theorem k31_mkF (W : World) (ok : Nat → Prop) (x : S31) {A3 : Option Addr} {c3 : Nat} (l3 : x.f3.length ≤ c3) (g3 : Kd.F k126 W ok A3 x.f3.length x.f3) : Kd.FK k31 W ok x [.int .i64 x.f0, .int .i64 x.f1, .int .i64 x.f2, .slice A3 x.f3.length c3] := fun W2 hW => k31_mk W2 x l3 (g3 W2 hW)
def rd_T31 (xs : List S31) (i : Int) : S31 := xs.getD i.toNat z31
theorem at_T31 {w : World} {A : Option Addr} {n : Nat} {xs : List S31} (h : Kd.C k31 w A n xs) (i : Int) (h0 : 0 ≤ i) (h1 : i < n) : ∃ ad A3 c3, A = some ad ∧ w.cell? (ad.add (i.toNat * 4)) = some (.int .i64 (rd_T31 xs i).f0) ∧ w.cell? ⟨(ad.add (i.toNat * 4)).block, (ad.add (i.toNat * 4)).off + 1, none⟩ = some (.int .i64 (rd_T31 xs i).f1) ∧ w.cell? ⟨(ad.add (i.toNat * 4)).block, (ad.add (i.toNat * 4)).off + 2, none⟩ = some (.int .i64 (rd_T31 xs i).f2) ∧ w.cell? ⟨(ad.add (i.toNat * 4)).block, (ad.add (i.toNat * 4)).off + 3, none⟩ = some (.slice A3 (rd_T31 xs i).f3.length c3) ∧ (rd_T31 xs i).f3.length ≤ c3 ∧ k126.C w A3 (rd_T31 xs i).f3.length (rd_T31 xs i).f3 := by
  obtain ⟨ad, c, e, _, hK, hc0⟩ := Kd.C_get h z31 i h0 h1
  have hc : ∀ j u, c[j]? = some u → w.cell? (ad.add (i.toNat * 4 + j)) = some u := hc0
  obtain ⟨A3, c3, rfl, l3, g3⟩ := k31_open hK
  exact ⟨ad, A3, c3, e, hc 0 _ rfl, by rw [← add_field _ _ 1 (by omega)]; exact hc 1 _ rfl, by rw [← add_field _ _ 2 (by omega)]; exact hc 2 _ rfl, by rw [← add_field _ _ 3 (by omega)]; exact hc 3 _ rfl, l3, g3⟩
def rd_L7 (xs : List (List Int)) (i : Int) : (List Int) := xs.getD i.toNat ([] : List Int)
theorem at_L7 {w : World} {A : Option Addr} {n : Nat} {xs : List (List Int)} (h : Kd.C (Kd.slice 3 (Kd.int .i64)) w A n xs) (i : Int) (h0 : 0 ≤ i) (h1 : i < n) : ∃ ad A0 c0, A = some ad ∧ w.cell? (ad.add i.toNat) = some (.slice A0 (rd_L7 xs i).length c0) ∧ (rd_L7 xs i).length ≤ c0 ∧ (Kd.int .i64).C w A0 (rd_L7 xs i).length (rd_L7 xs i) := by
  obtain ⟨ad, c, e, _, hK, hc0⟩ := Kd.C_get h ([] : List Int) i h0 h1
  have hc : ∀ j u, c[j]? = some u → w.cell? (ad.add (i.toNat * 1 + j)) = some u := hc0
  obtain ⟨A0, c0, rfl, l0, g0⟩ := hK
  exact ⟨ad, A0, c0, e, by have hq := hc 0 _ rfl; rwa [Nat.mul_one, Nat.add_zero] at hq, l0, g0⟩
structure S171 where
  f0 : Int
  f1 : Int
def z171 : S171 := ⟨(0 : Int), (0 : Int)⟩
def k171 : Kd S171 := Kd.iso (Kd.pair (Kd.int .i64) (Kd.int .i64)) (fun x : S171 => (x.f0, x.f1))
theorem k171_open {w : World} {x : S171} {cs : List Value} (h : k171.K w x cs) : cs = [.int .i64 x.f0, .int .i64 x.f1] := by
  obtain ⟨_, _, rfl, rfl, rfl⟩ := h
  exact rfl
theorem k171_openM {w : World} {base : Nat} {ok : Nat → Prop} {x : S171} {cs : List Value} (h : k171.M w base ok x cs) : cs = [.int .i64 x.f0, .int .i64 x.f1] := by
  obtain ⟨_, _, rfl, rfl, rfl⟩ := h
  exact rfl
theorem k171_mk (w : World) (x : S171)  : k171.K w x [.int .i64 x.f0, .int .i64 x.f1] := ⟨[.int .i64 x.f0], [.int .i64 x.f1], rfl, rfl, rfl⟩
theorem k171_mkM (w : World) (base : Nat) (ok : Nat → Prop) (x : S171)  : k171.M w base ok x [.int .i64 x.f0, .int .i64 x.f1] := ⟨[.int .i64 x.f0], [.int .i64 x.f1], rfl, rfl, rfl⟩
theorem k171_mkF (W : World) (ok : Nat → Prop) (x : S171) : Kd.FK k171 W ok x [.int .i64 x.f0, .int .i64 x.f1] := fun W2 _ => k171_mk W2 x
def rd_T171 (xs : List S171) (i : Int) : S171 := xs.getD i.toNat z171
theorem at_T171 {w : World} {A : Option Addr} {n : Nat} {xs : List S171} (h : Kd.C k171 w A n xs) (i : Int) (h0 : 0 ≤ i) (h1 : i < n) : ∃ ad , A = some ad ∧ w.cell? (ad.add (i.toNat * 2)) = some (.int .i64 (rd_T171 xs i).f0) ∧ w.cell? ⟨(ad.add (i.toNat * 2)).block, (ad.add (i.toNat * 2)).off + 1, none⟩ = some (.int .i64 (rd_T171 xs i).f1) := by
  obtain ⟨ad, c, e, _, hK, hc0⟩ := Kd.C_get h z171 i h0 h1
  have hc : ∀ j u, c[j]? = some u → w.cell? (ad.add (i.toNat * 2 + j)) = some u := hc0
  obtain rfl := k171_open hK
  exact ⟨ad, e, hc 0 _ rfl, by rw [← add_field _ _ 1 (by omega)]; exact hc 1 _ rfl⟩
def rd_L9 (xs : List (List S171)) (i : Int) : (List S171) := xs.getD i.toNat ([] : List S171)
theorem at_L9 {w : World} {A : Option Addr} {n : Nat} {xs : List (List S171)} (h : Kd.C (Kd.slice 171 k171) w A n xs) (i : Int) (h0 : 0 ≤ i) (h1 : i < n) : ∃ ad A0 c0, A = some ad ∧ w.cell? (ad.add i.toNat) = some (.slice A0 (rd_L9 xs i).length c0) ∧ (rd_L9 xs i).length ≤ c0 ∧ k171.C w A0 (rd_L9 xs i).length (rd_L9 xs i) := by
  obtain ⟨ad, c, e, _, hK, hc0⟩ := Kd.C_get h ([] : List S171) i h0 h1
  have hc : ∀ j u, c[j]? = some u → w.cell? (ad.add (i.toNat * 1 + j)) = some u := hc0
  obtain ⟨A0, c0, rfl, l0, g0⟩ := hK
  exact ⟨ad, A0, c0, e, by have hq := hc 0 _ rfl; rwa [Nat.mul_one, Nat.add_zero] at hq, l0, g0⟩
def rd_L10 (xs : List (List (List Int))) (i : Int) : (List (List Int)) := xs.getD i.toNat ([] : List (List Int))
theorem at_L10 {w : World} {A : Option Addr} {n : Nat} {xs : List (List (List Int))} (h : Kd.C (Kd.slice 26 (Kd.slice 3 (Kd.int .i64))) w A n xs) (i : Int) (h0 : 0 ≤ i) (h1 : i < n) : ∃ ad A0 c0, A = some ad ∧ w.cell? (ad.add i.toNat) = some (.slice A0 (rd_L10 xs i).length c0) ∧ (rd_L10 xs i).length ≤ c0 ∧ (Kd.slice 3 (Kd.int .i64)).C w A0 (rd_L10 xs i).length (rd_L10 xs i) := by
  obtain ⟨ad, c, e, _, hK, hc0⟩ := Kd.C_get h ([] : List (List Int)) i h0 h1
  have hc : ∀ j u, c[j]? = some u → w.cell? (ad.add (i.toNat * 1 + j)) = some u := hc0
  obtain ⟨A0, c0, rfl, l0, g0⟩ := hK
  exact ⟨ad, A0, c0, e, by have hq := hc 0 _ rfl; rwa [Nat.mul_one, Nat.add_zero] at hq, l0, g0⟩
end Go.Proofs.Ytgahigmpcgfbeaa.P
end

section
namespace Go.Proofs.Ytgahigmpcgfbeaa.P
open Go.RowKit Go.Proofs.YtgahigmpcgfbeaaW.PrintWords Go.Proofs.YtgahigmpcgfbeaaW.PrintLast Go.Proofs.YtgahigmpcgfbeaaW.PrintMore
attribute [local go_sem] max2_int min2_int max_two min_two max_three min_three max_four min_four
set_option linter.unusedVariables false
set_option linter.unusedSimpArgs false
def laws_eqIntS.l0 : Nat → List Int → List Int → Int → Option (Bool)
  | 0, _, _, _ => none
  | k + 1, x0, x1, x5 => if x5 < (x0.length : Int) then (if 0 ≤ x5 then (if x5 < (x1.length : Int) then (if (rd x0 x5) = (rd x1 x5) then (laws_eqIntS.l0 k x0 x1 (wrap64 (x5 + 1))) else (some false)) else (none)) else (none)) else (some true)
def laws_eqIntS.f (k : Nat) (l0 : List Int) (l1 : List Int) : Option (Bool) := if (l0.length : Int) = (l1.length : Int) then (laws_eqIntS.l0 k l0 l1 0) else (some false)
theorem laws_eqIntS.mono_l : ∀ k, (∀ y0 y1 y2, LeO (laws_eqIntS.l0 k y0 y1 y2) (laws_eqIntS.l0 (k + 1) y0 y1 y2))
  | 0 => fun _ _ _ r h => by simp [laws_eqIntS.l0] at h
  | k + 1 => by
    have ih0 := laws_eqIntS.mono_l k
    · intro y0 y1 y2
      unfold laws_eqIntS.l0
      repeat' first
      | (with_reducible exact ih0 _ _ _)
      | (with_reducible exact LeO.refl _)
      | (with_reducible exact LeO.none _)
      | (with_reducible refine LeO.ite ?_ ?_)
      | (with_reducible refine LeO.bind ?_ (fun _ => ?_))
      | exact ih0 _ _ _
      | exact LeO.none _
      | refine LeO.ite ?_ ?_
      | refine LeO.bind ?_ (fun _ => ?_)
theorem laws_eqIntS.mono : ∀ a0 a1 k, LeO (laws_eqIntS.f k a0 a1) (laws_eqIntS.f (k + 1) a0 a1) := by
  intro a0 a1 k
  have ih0 := laws_eqIntS.mono_l k
  unfold laws_eqIntS.f
  repeat' first
      | (with_reducible exact ih0 _ _ _)
      | (with_reducible exact LeO.refl _)
      | (with_reducible exact LeO.none _)
      | (with_reducible refine LeO.ite ?_ ?_)
      | (with_reducible refine LeO.bind ?_ (fun _ => ?_))
      | exact ih0 _ _ _
      | exact LeO.none _
      | refine LeO.ite ?_ ?_
      | refine LeO.bind ?_ (fun _ => ?_)
set_option maxHeartbeats 8000000 in
set_option maxRecDepth 100000 in
theorem laws_eqIntS.calls (k : Nat) (A0 : Option Addr) (c0 : Nat) (l0 : List Int) (A1 : Option Addr) (c1 : Nat) (l1 : List Int) (r : Bool) (w : World) (hr0 : Kd.C (Kd.int .i64) w A0 l0.length l0) (hc0 : l0.length ≤ c0) (hr1 : Kd.C (Kd.int .i64) w A1 l1.length l1) (hc1 : l1.length ≤ c1) (h : laws_eqIntS.f k l0 l1 = some r) :
    Calls Try.prog 17 #[.slice A0 l0.length c0, .slice A1 l1.length c1] w fun e w' => e = .returned (.bool r) ∧ Drawn0 w w' := by
  have HR0 := Aside0.mk hr0
  have HC0 := Aside0.mk hc0
  clear hr0 hc0
  have HR1 := Aside0.mk hr1
  have HC1 := Aside0.mk hc1
  clear hr1 hc1
  have H : (if (l0.length : Int) = (l1.length : Int) then (laws_eqIntS.l0 k l0 l1 0) else (some false)) = some r := h
  clear h
  by_cases c3 : (l0.length : Int) = (l1.length : Int)
  · rw [if_pos c3] at H
    have c3b0 : ((l0.length : Int) == (l1.length : Int)) = true := beq_iff_eq.mpr c3
    have c3b1 : ((l0.length : Int) != (l1.length : Int)) = false := bne_eq_false_iff_eq.mpr c3
    have c3b2 : (l0.length == l1.length) = true := by first | simpa using c3 | (simp at c3 ⊢; omega)
    clear c3
    have H' := Aside0.mk H
    clear H
    go_enter Try.func17, Try.ntmps17
    go_wp2
    repeat (go_quiet (fail); try go_wp2)
    go_loopg [5] k (fun kq v5 w' => ∃ (x5_1 : Int), v5 = .int .i64 x5_1 ∧ Aside0 (laws_eqIntS.l0 kq l0 l1 x5_1 = some r) ∧ Aside0 (kq ≤ k) ∧ Drawn0 w w')
    case atStart => exact ⟨(0), (by first | rfl | (simp; done) | (simp [*]; done)), H', ⟨Nat.le_refl _⟩, by repeat (first | exact Drawn0.refl _ | apply Drawn0.step)⟩
    case round =>
      clear H'
      try clear c1
      try clear p2
      try clear c3
      try clear c3b0
      try clear c3b1
      try clear c3b2
      obtain ⟨x5_1, rfl, HA, HK1, ⟨m1, rfl⟩⟩ := hrel
      cases gk with
      | zero => exact absurd HA.out (by simp [laws_eqIntS.l0])
      | succ k1 =>
        have H := HA.out
        clear HA
        simp only [laws_eqIntS.l0] at H
        by_cases c4 : x5_1 < (l0.length : Int)
        · rw [if_pos c4] at H
          have c4b0 : decide (x5_1 < (l0.length : Int)) = true := decide_eq_true c4
          clear c4
          by_cases c5 : 0 ≤ x5_1
          · rw [if_pos c5] at H
            have c5b0 : decide (0 ≤ x5_1) = true := decide_eq_true c5
            clear c5
            by_cases c6 : x5_1 < (l1.length : Int)
            · rw [if_pos c6] at H
              have c6b0 : decide (x5_1 < (l1.length : Int)) = true := decide_eq_true c6
              clear c6
              by_cases c7 : (rd l0 x5_1) = (rd l1 x5_1)
              · rw [if_pos c7] at H
                have c7b0 : ((rd l0 x5_1) == (rd l1 x5_1)) = true := beq_iff_eq.mpr c7
                have c7b1 : ((rd l0 x5_1) != (rd l1 x5_1)) = false := bne_eq_false_iff_eq.mpr c7
                clear c7
                have H' := Aside0.mk H
                clear H
                have p190 : 0 ≤ (x5_1 : Int) := of_decide_eq_true (by first | (with_reducible assumption) | assumption)
                have q190 : x5_1 < (l0.length : Int) := of_decide_eq_true (by first | (with_reducible assumption) | assumption)
                obtain ⟨ad190, e190, hx190_0⟩ := Kd.at_int HR0.out x5_1 p190 q190
                cases e190
                replace p190 := eq_true p190
                replace q190 := eq_true q190
                have p191 : 0 ≤ (x5_1 : Int) := of_decide_eq_true (by first | (with_reducible assumption) | assumption)
                have q191 : x5_1 < (l1.length : Int) := of_decide_eq_true (by first | (with_reducible assumption) | assumption)
                obtain ⟨ad191, e191, hx191_0⟩ := Kd.at_int HR1.out x5_1 p191 q191
                cases e191
                replace p191 := eq_true p191
                replace q191 := eq_true q191
                go_wp2
                repeat (go_quiet (fail); try go_wp2)
                go_roundg k1
                case measure => have := HK1.out; omega
                case rel => exact ⟨(wrap64 (x5_1 + 1)), (by first | rfl | (simp; done) | (simp [*]; done)), H', ⟨by have := HK1.out; omega⟩, by repeat (first | exact Drawn0.refl _ | apply Drawn0.step)⟩
              · rw [if_neg c7] at H
                have c7b0 : ((rd l0 x5_1) == (rd l1 x5_1)) = false := beq_eq_false_iff_ne.mpr c7
                have c7b1 : ((rd l0 x5_1) != (rd l1 x5_1)) = true := bne_iff_ne.mpr c7
                obtain rfl := Option.some.inj H
                have p190 : 0 ≤ (x5_1 : Int) := of_decide_eq_true (by first | (with_reducible assumption) | assumption)
                have q190 : x5_1 < (l0.length : Int) := of_decide_eq_true (by first | (with_reducible assumption) | assumption)
                obtain ⟨ad190, e190, hx190_0⟩ := Kd.at_int HR0.out x5_1 p190 q190
                cases e190
                replace p190 := eq_true p190
                replace q190 := eq_true q190
                have p191 : 0 ≤ (x5_1 : Int) := of_decide_eq_true (by first | (with_reducible assumption) | assumption)
                have q191 : x5_1 < (l1.length : Int) := of_decide_eq_true (by first | (with_reducible assumption) | assumption)
                obtain ⟨ad191, e191, hx191_0⟩ := Kd.at_int HR1.out x5_1 p191 q191
                cases e191
                replace p191 := eq_true p191
                replace q191 := eq_true q191
                go_wp2
                repeat (go_quiet (fail); try go_wp2)
                go_ret
                exact ⟨by first | rfl | (simp; done) | (simp [*]; done), by repeat (first | exact Drawn0.refl _ | apply Drawn0.step)⟩
            · rw [if_neg c6] at H
              exact absurd H (by simp)
          · rw [if_neg c5] at H
            exact absurd H (by simp)
        · rw [if_neg c4] at H
          have c4b0 : decide (x5_1 < (l0.length : Int)) = false := decide_eq_false c4
          clear c4
          obtain rfl := Option.some.inj H
          go_wp2
          repeat (go_quiet (fail); try go_wp2)
          go_ret
          exact ⟨by first | rfl | (simp; done) | (simp [*]; done), by repeat (first | exact Drawn0.refl _ | apply Drawn0.step)⟩
  · rw [if_neg c3] at H
    have c3b0 : ((l0.length : Int) == (l1.length : Int)) = false := beq_eq_false_iff_ne.mpr c3
    have c3b1 : ((l0.length : Int) != (l1.length : Int)) = true := bne_iff_ne.mpr c3
    have c3b2 : (l0.length == l1.length) = false := by first | simpa using c3 | (simp at c3 ⊢; omega)
    obtain rfl := Option.some.inj H
    go_enter Try.func17, Try.ntmps17
    go_wp2
    repeat (go_quiet (fail); try go_wp2)
    go_ret
    exact ⟨by first | rfl | (simp; done) | (simp [*]; done), by repeat (first | exact Drawn0.refl _ | apply Drawn0.step)⟩
end Go.Proofs.Ytgahigmpcgfbeaa.P
end

section
namespace Go.Proofs.Ytgahigmpcgfbeaa.P
open Go.RowKit Go.Proofs.YtgahigmpcgfbeaaW.PrintWords Go.Proofs.YtgahigmpcgfbeaaW.PrintLast Go.Proofs.YtgahigmpcgfbeaaW.PrintMore
attribute [local go_sem] max2_int min2_int max_two min_two max_three min_three max_four min_four
set_option linter.unusedVariables false
set_option linter.unusedSimpArgs false
def inn (n a b : Int) : Bool := decide (a ≤ n) && decide (n ≤ b)
theorem within_any (n a b : Int) (w : World) : Calls Try.prog 176 #[.int .i64 n, .int .i64 a, .int .i64 b] w fun e w' => e = .returned (.bool (inn n a b)) ∧ w = w' := by
  by_cases h : a ≤ n
  · have h1 : decide (a ≤ n) = true := by simpa using h
    go_enter Try.func176, Try.ntmps176
    go_wp2
    go_ret
    exact ⟨by simp [inn, h], rfl⟩
  · have h1 : decide (a ≤ n) = false := by simpa using h
    go_enter Try.func176, Try.ntmps176
    go_wp2
    go_ret
    exact ⟨by simp [inn]; omega, rfl⟩
theorem within_q (n a b : Int) (w : World) : Calls Try.prog 176 #[.int .i64 n, .int .i64 a, .int .i64 b] w fun e w' => e = .returned (.bool (inn n a b)) ∧ w' = w := (within_any n a b w).mono fun _ _ ⟨h, e⟩ => ⟨h, e.symm⟩
theorem inn_iff {n a b : Int} : inn n a b = true ↔ a ≤ n ∧ n ≤ b := by simp [inn]
def impl_within.f (n a b : Int) : Option Bool := some (inn n a b)
theorem impl_within.calls (n a b : Int) (r : Bool) (w : World) (h : impl_within.f n a b = some r) : Calls Try.prog 176 #[.int .i64 n, .int .i64 a, .int .i64 b] w fun e w' => e = .returned (.bool r) ∧ Drawn0 w w' := by
  obtain rfl : inn n a b = r := by simpa [impl_within.f] using h
  exact (within_any n a b w).mono fun _ _ ⟨h, e⟩ => ⟨h, e ▸ Drawn0.refl w⟩
end Go.Proofs.Ytgahigmpcgfbeaa.P
end

section
namespace Go.Proofs.Ytgahigmpcgfbeaa.P
open Go.RowKit Go.Proofs.YtgahigmpcgfbeaaW.PrintWords Go.Proofs.YtgahigmpcgfbeaaW.PrintLast Go.Proofs.YtgahigmpcgfbeaaW.PrintMore
attribute [local go_sem] max2_int min2_int max_two min_two max_three min_three max_four min_four
set_option linter.unusedVariables false
set_option linter.unusedSimpArgs false
theorem l1In_any (n a b : Int) (w : World) : Calls Try.prog 180 #[.int .i64 n, .int .i64 a, .int .i64 b] w fun e w' => e = .returned (.bool (inn n a b)) ∧ w = w' := by
  by_cases h : a ≤ n
  · have h1 : decide (a ≤ n) = true := by simpa using h
    go_enter Try.func180, Try.ntmps180
    go_wp2
    go_ret
    exact ⟨by simp [inn, h], rfl⟩
  · have h1 : decide (a ≤ n) = false := by simpa using h
    go_enter Try.func180, Try.ntmps180
    go_wp2
    go_ret
    exact ⟨by simp [inn]; omega, rfl⟩
def spec_l1In.f (n a b : Int) : Option Bool := some (inn n a b)
theorem spec_l1In.calls (n a b : Int) (r : Bool) (w : World) (h : spec_l1In.f n a b = some r) : Calls Try.prog 180 #[.int .i64 n, .int .i64 a, .int .i64 b] w fun e w' => e = .returned (.bool r) ∧ Drawn0 w w' := by
  obtain rfl : inn n a b = r := by simpa [spec_l1In.f] using h
  exact (l1In_any n a b w).mono fun _ _ ⟨h, e⟩ => ⟨h, e ▸ Drawn0.refl w⟩
end Go.Proofs.Ytgahigmpcgfbeaa.P
end

section
namespace Go.Proofs.Ytgahigmpcgfbeaa.P
open Go.RowKit Go.Proofs.YtgahigmpcgfbeaaW.PrintWords Go.Proofs.YtgahigmpcgfbeaaW.PrintLast Go.Proofs.YtgahigmpcgfbeaaW.PrintMore
attribute [local go_sem] max2_int min2_int max_two min_two max_three min_three max_four min_four
set_option linter.unusedVariables false
set_option linter.unusedSimpArgs false
def spec_oiGood.f (a0 : Int) (a1 : Int) (a2 : Int) (a3 : Int) : Option (Bool) := (spec_l1In.f a0 1 6).bind fun t984 => (if t984 = true then ((spec_l1In.f a1 1 4).bind fun t985 => (if t985 = true then ((spec_l1In.f a2 0 a0).bind fun t986 => (if t986 = true then ((spec_l1In.f a3 0 a0).bind fun t987 => (some t987)) else (some false))) else (some false))) else (some false))
set_option maxHeartbeats 8000000 in
set_option maxRecDepth 100000 in
theorem spec_oiGood.calls (a0 : Int) (a1 : Int) (a2 : Int) (a3 : Int) (r : Bool) (w : World) (h : spec_oiGood.f a0 a1 a2 a3 = some r) :
    Calls Try.prog 246 #[.int .i64 a0, .int .i64 a1, .int .i64 a2, .int .i64 a3] w fun e w' => e = .returned (.bool r) ∧ Drawn0 w w' := by
  have H : ((spec_l1In.f a0 1 6).bind fun t984 => (if t984 = true then ((spec_l1In.f a1 1 4).bind fun t985 => (if t985 = true then ((spec_l1In.f a2 0 a0).bind fun t986 => (if t986 = true then ((spec_l1In.f a3 0 a0).bind fun t987 => (some t987)) else (some false))) else (some false))) else (some false))) = some r := h
  clear h
  replace H := Option.bind_eq_some_iff.mp H
  obtain ⟨t984, A50, H⟩ := H
  replace H : (if t984 = true then ((spec_l1In.f a1 1 4).bind fun t985 => (if t985 = true then ((spec_l1In.f a2 0 a0).bind fun t986 => (if t986 = true then ((spec_l1In.f a3 0 a0).bind fun t987 => (some t987)) else (some false))) else (some false))) else (some false)) = some r := H
  have A5 := Aside0.mk A50
  clear A50
  by_cases c6 : t984 = true
  · subst c6
    have H1 : ((spec_l1In.f a1 1 4).bind fun t985 => (if t985 = true then ((spec_l1In.f a2 0 a0).bind fun t986 => (if t986 = true then ((spec_l1In.f a3 0 a0).bind fun t987 => (some t987)) else (some false))) else (some false))) = some r := by rw [if_pos rfl] at H; exact H
    clear H
    have H := H1
    clear H1
    replace H := Option.bind_eq_some_iff.mp H
    obtain ⟨t985, A70, H⟩ := H
    replace H : (if t985 = true then ((spec_l1In.f a2 0 a0).bind fun t986 => (if t986 = true then ((spec_l1In.f a3 0 a0).bind fun t987 => (some t987)) else (some false))) else (some false)) = some r := H
    have A7 := Aside0.mk A70
    clear A70
    by_cases c8 : t985 = true
    · subst c8
      have H1 : ((spec_l1In.f a2 0 a0).bind fun t986 => (if t986 = true then ((spec_l1In.f a3 0 a0).bind fun t987 => (some t987)) else (some false))) = some r := by rw [if_pos rfl] at H; exact H
      clear H
      have H := H1
      clear H1
      replace H := Option.bind_eq_some_iff.mp H
      obtain ⟨t986, A90, H⟩ := H
      replace H : (if t986 = true then ((spec_l1In.f a3 0 a0).bind fun t987 => (some t987)) else (some false)) = some r := H
      have A9 := Aside0.mk A90
      clear A90
      by_cases c10 : t986 = true
      · subst c10
        have H1 : ((spec_l1In.f a3 0 a0).bind fun t987 => (some t987)) = some r := by rw [if_pos rfl] at H; exact H
        clear H
        have H := H1
        clear H1
        replace H := Option.bind_eq_some_iff.mp H
        obtain ⟨t987, A110, H⟩ := H
        replace H : (some t987) = some r := H
        have A11 := Aside0.mk A110
        clear A110
        obtain rfl := Option.some.inj H
        go_enter Try.func246, Try.ntmps246
        go_wp2_with (first | ((with_reducible refine gate_callee (f := 180) rfl ?_); refine goesL_ (some 10) rfl rfl Try.func180 (by kernel_rfl) rfl #[.int .i64 a0, .int .i64 1, .int .i64 6] rfl (by (try simp only [List.map_toArray, List.map_cons, List.map_nil]); first | done | rfl | (simp only [List.length_drop, List.length_take]; rfl)) ?_; (with_reducible refine (spec_l1In.calls a0 1 6 true _ A5.out).mono ?_); rintro e w' ⟨rfl, ⟨nd, rfl⟩⟩; refine ⟨_, rfl, ?_⟩) | (go_at_call 180; (with_reducible refine (spec_l1In.calls a1 1 4 true _ A7.out).mono ?_); rintro e w' ⟨rfl, ⟨nd, rfl⟩⟩) | (go_at_call 180; (with_reducible refine (spec_l1In.calls a2 0 a0 true _ A9.out).mono ?_); rintro e w' ⟨rfl, ⟨nd, rfl⟩⟩) | (go_at_call 180; (with_reducible refine (spec_l1In.calls a3 0 a0 t987 _ A11.out).mono ?_); rintro e w' ⟨rfl, ⟨nd, rfl⟩⟩))
        go_ret
        exact ⟨by first | rfl | (simp; done) | (simp [*]; done), by repeat (first | exact Drawn0.refl _ | apply Drawn0.step)⟩
      · replace c10 := Bool.eq_false_iff.mpr c10
        subst c10
        have H1 : (some false) = some r := by rw [if_neg (show ¬ (false = true) by decide)] at H; exact H
        clear H
        have H := H1
        clear H1
        obtain rfl := Option.some.inj H
        go_enter Try.func246, Try.ntmps246
        go_wp2_with (first | ((with_reducible refine gate_callee (f := 180) rfl ?_); refine goesL_ (some 10) rfl rfl Try.func180 (by kernel_rfl) rfl #[.int .i64 a0, .int .i64 1, .int .i64 6] rfl (by (try simp only [List.map_toArray, List.map_cons, List.map_nil]); first | done | rfl | (simp only [List.length_drop, List.length_take]; rfl)) ?_; (with_reducible refine (spec_l1In.calls a0 1 6 true _ A5.out).mono ?_); rintro e w' ⟨rfl, ⟨nd, rfl⟩⟩; refine ⟨_, rfl, ?_⟩) | (go_at_call 180; (with_reducible refine (spec_l1In.calls a1 1 4 true _ A7.out).mono ?_); rintro e w' ⟨rfl, ⟨nd, rfl⟩⟩) | (go_at_call 180; (with_reducible refine (spec_l1In.calls a2 0 a0 false _ A9.out).mono ?_); rintro e w' ⟨rfl, ⟨nd, rfl⟩⟩))
        go_ret
        exact ⟨by first | rfl | (simp; done) | (simp [*]; done), by repeat (first | exact Drawn0.refl _ | apply Drawn0.step)⟩
    · replace c8 := Bool.eq_false_iff.mpr c8
      subst c8
      have H1 : (some false) = some r := by rw [if_neg (show ¬ (false = true) by decide)] at H; exact H
      clear H
      have H := H1
      clear H1
      obtain rfl := Option.some.inj H
      go_enter Try.func246, Try.ntmps246
      go_wp2_with (first | ((with_reducible refine gate_callee (f := 180) rfl ?_); refine goesL_ (some 10) rfl rfl Try.func180 (by kernel_rfl) rfl #[.int .i64 a0, .int .i64 1, .int .i64 6] rfl (by (try simp only [List.map_toArray, List.map_cons, List.map_nil]); first | done | rfl | (simp only [List.length_drop, List.length_take]; rfl)) ?_; (with_reducible refine (spec_l1In.calls a0 1 6 true _ A5.out).mono ?_); rintro e w' ⟨rfl, ⟨nd, rfl⟩⟩; refine ⟨_, rfl, ?_⟩) | (go_at_call 180; (with_reducible refine (spec_l1In.calls a1 1 4 false _ A7.out).mono ?_); rintro e w' ⟨rfl, ⟨nd, rfl⟩⟩))
      go_ret
      exact ⟨by first | rfl | (simp; done) | (simp [*]; done), by repeat (first | exact Drawn0.refl _ | apply Drawn0.step)⟩
  · replace c6 := Bool.eq_false_iff.mpr c6
    subst c6
    have H1 : (some false) = some r := by rw [if_neg (show ¬ (false = true) by decide)] at H; exact H
    clear H
    have H := H1
    clear H1
    obtain rfl := Option.some.inj H
    go_enter Try.func246, Try.ntmps246
    go_wp2_with (first | ((with_reducible refine gate_callee (f := 180) rfl ?_); refine goesL_ (some 10) rfl rfl Try.func180 (by kernel_rfl) rfl #[.int .i64 a0, .int .i64 1, .int .i64 6] rfl (by (try simp only [List.map_toArray, List.map_cons, List.map_nil]); first | done | rfl | (simp only [List.length_drop, List.length_take]; rfl)) ?_; (with_reducible refine (spec_l1In.calls a0 1 6 false _ A5.out).mono ?_); rintro e w' ⟨rfl, ⟨nd, rfl⟩⟩; refine ⟨_, rfl, ?_⟩))
    go_ret
    exact ⟨by first | rfl | (simp; done) | (simp [*]; done), by repeat (first | exact Drawn0.refl _ | apply Drawn0.step)⟩
end Go.Proofs.Ytgahigmpcgfbeaa.P
end

section
namespace Go.Proofs.Ytgahigmpcgfbeaa.P
open Go.RowKit Go.Proofs.YtgahigmpcgfbeaaW.PrintWords Go.Proofs.YtgahigmpcgfbeaaW.PrintLast Go.Proofs.YtgahigmpcgfbeaaW.PrintMore
attribute [local go_sem] max2_int min2_int max_two min_two max_three min_three max_four min_four
set_option linter.unusedVariables false
set_option linter.unusedSimpArgs false
def spec_l1All.l0 : Nat → Int → Int → List Int → Int → Int → Option (Bool)
  | 0, _, _, _, _, _ => none
  | k + 1, x1, x2, x9, x10, x11 => if x11 < x10 then (if 0 ≤ x11 then (if x11 < (x9.length : Int) then ((spec_l1In.f (rd x9 x11) x1 x2).bind fun t813 => (if t813 = true then (spec_l1All.l0 k x1 x2 x9 x10 (wrap64 (x11 + 1))) else (some false))) else (none)) else (none)) else (some true)
def spec_l1All.f (k : Nat) (l0 : List Int) (a1 : Int) (a2 : Int) : Option (Bool) := spec_l1All.l0 k a1 a2 l0 (l0.length : Int) 0
theorem spec_l1All.mono_l : ∀ k, (∀ y0 y1 y2 y3 y4, LeO (spec_l1All.l0 k y0 y1 y2 y3 y4) (spec_l1All.l0 (k + 1) y0 y1 y2 y3 y4))
  | 0 => fun _ _ _ _ _ r h => by simp [spec_l1All.l0] at h
  | k + 1 => by
    have ih0 := spec_l1All.mono_l k
    · intro y0 y1 y2 y3 y4
      unfold spec_l1All.l0
      repeat' first
      | (with_reducible exact ih0 _ _ _ _ _)
      | (with_reducible exact LeO.refl _)
      | (with_reducible exact LeO.none _)
      | (with_reducible refine LeO.ite ?_ ?_)
      | (with_reducible refine LeO.bind ?_ (fun _ => ?_))
      | exact ih0 _ _ _ _ _
      | exact LeO.none _
      | refine LeO.ite ?_ ?_
      | refine LeO.bind ?_ (fun _ => ?_)
theorem spec_l1All.mono : ∀ a0 a1 a2 k, LeO (spec_l1All.f k a0 a1 a2) (spec_l1All.f (k + 1) a0 a1 a2) := by
  intro a0 a1 a2 k
  have ih0 := spec_l1All.mono_l k
  unfold spec_l1All.f
  repeat' first
      | (with_reducible exact ih0 _ _ _ _ _)
      | (with_reducible exact LeO.refl _)
      | (with_reducible exact LeO.none _)
      | (with_reducible refine LeO.ite ?_ ?_)
      | (with_reducible refine LeO.bind ?_ (fun _ => ?_))
      | exact ih0 _ _ _ _ _
      | exact LeO.none _
      | refine LeO.ite ?_ ?_
      | refine LeO.bind ?_ (fun _ => ?_)
set_option maxHeartbeats 8000000 in
set_option maxRecDepth 100000 in
theorem spec_l1All.calls (k : Nat) (A0 : Option Addr) (c0 : Nat) (l0 : List Int) (a1 : Int) (a2 : Int) (r : Bool) (w : World) (hr0 : Kd.C (Kd.int .i64) w A0 l0.length l0) (hc0 : l0.length ≤ c0) (h : spec_l1All.f k l0 a1 a2 = some r) :
    Calls Try.prog 281 #[.slice A0 l0.length c0, .int .i64 a1, .int .i64 a2] w fun e w' => e = .returned (.bool r) ∧ Drawn0 w w' := by
  have HR0 := Aside0.mk hr0
  have HC0 := Aside0.mk hc0
  clear hr0 hc0
  have H : (spec_l1All.l0 k a1 a2 l0 (l0.length : Int) 0) = some r := h
  clear h
  have H' := Aside0.mk H
  clear H
  go_enter Try.func281, Try.ntmps281
  go_wp2
  go_loopg [11] k (fun kq v11 w' => ∃ (x11_1 : Int), v11 = .int .i64 x11_1 ∧ Aside0 (spec_l1All.l0 kq a1 a2 l0 (l0.length : Int) x11_1 = some r) ∧ Aside0 (kq ≤ k) ∧ Drawn0 w w')
  case atStart => exact ⟨(0), (by first | rfl | (simp; done) | (simp [*]; done)), H', ⟨Nat.le_refl _⟩, by repeat (first | exact Drawn0.refl _ | apply Drawn0.step)⟩
  case round =>
    clear H'
    try clear c2
    try clear p2
    obtain ⟨x11_1, rfl, HA, HK1, ⟨m1, rfl⟩⟩ := hrel
    cases gk with
    | zero => exact absurd HA.out (by simp [spec_l1All.l0])
    | succ k1 =>
      have H := HA.out
      clear HA
      simp only [spec_l1All.l0] at H
      by_cases c4 : x11_1 < (l0.length : Int)
      · rw [if_pos c4] at H
        have c4b0 : decide (x11_1 < (l0.length : Int)) = true := decide_eq_true c4
        clear c4
        by_cases c5 : 0 ≤ x11_1
        · rw [if_pos c5] at H
          have c5b0 : decide (0 ≤ x11_1) = true := decide_eq_true c5
          clear c5
          by_cases c6 : x11_1 < (l0.length : Int)
          · rw [if_pos c6] at H
            have c6b0 : decide (x11_1 < (l0.length : Int)) = true := decide_eq_true c6
            clear c6
            replace H := Option.bind_eq_some_iff.mp H
            obtain ⟨t813, A70, H⟩ := H
            replace H : (if t813 = true then (spec_l1All.l0 k1 a1 a2 l0 (l0.length : Int) (wrap64 (x11_1 + 1))) else (some false)) = some r := H
            have A7 := Aside0.mk A70
            clear A70
            by_cases c8 : t813 = true
            · subst c8
              have H1 : (spec_l1All.l0 k1 a1 a2 l0 (l0.length : Int) (wrap64 (x11_1 + 1))) = some r := by rw [if_pos rfl] at H; exact H
              clear H
              have H := H1
              clear H1
              have H' := Aside0.mk H
              clear H
              have p812 : 0 ≤ (x11_1 : Int) := of_decide_eq_true (by first | (with_reducible assumption) | assumption)
              have q812 : x11_1 < (l0.length : Int) := of_decide_eq_true (by first | (with_reducible assumption) | assumption)
              obtain ⟨ad812, e812, hx812_0⟩ := Kd.at_int HR0.out x11_1 p812 q812
              cases e812
              replace p812 := eq_true p812
              replace q812 := eq_true q812
              go_wp2_with (first | ((with_reducible refine gate_callee (f := 180) rfl ?_); refine goesL_ (some 18) rfl rfl Try.func180 (by kernel_rfl) rfl #[.int .i64 (rd l0 x11_1), .int .i64 a1, .int .i64 a2] rfl (by (try simp only [List.map_toArray, List.map_cons, List.map_nil]); first | done | rfl | (simp only [List.length_drop, List.length_take]; rfl)) ?_; (with_reducible refine (spec_l1In.calls (rd l0 x11_1) a1 a2 true _ A7.out).mono ?_); rintro e w' ⟨rfl, ⟨nd, rfl⟩⟩; refine ⟨_, rfl, ?_⟩))
              go_roundg k1
              case measure => have := HK1.out; omega
              case rel => exact ⟨(wrap64 (x11_1 + 1)), (by first | rfl | (simp; done) | (simp [*]; done)), H', ⟨by have := HK1.out; omega⟩, by repeat (first | exact Drawn0.refl _ | apply Drawn0.step)⟩
            · replace c8 := Bool.eq_false_iff.mpr c8
              subst c8
              have H1 : (some false) = some r := by rw [if_neg (show ¬ (false = true) by decide)] at H; exact H
              clear H
              have H := H1
              clear H1
              obtain rfl := Option.some.inj H
              have p812 : 0 ≤ (x11_1 : Int) := of_decide_eq_true (by first | (with_reducible assumption) | assumption)
              have q812 : x11_1 < (l0.length : Int) := of_decide_eq_true (by first | (with_reducible assumption) | assumption)
              obtain ⟨ad812, e812, hx812_0⟩ := Kd.at_int HR0.out x11_1 p812 q812
              cases e812
              replace p812 := eq_true p812
              replace q812 := eq_true q812
              go_wp2_with (first | ((with_reducible refine gate_callee (f := 180) rfl ?_); refine goesL_ (some 18) rfl rfl Try.func180 (by kernel_rfl) rfl #[.int .i64 (rd l0 x11_1), .int .i64 a1, .int .i64 a2] rfl (by (try simp only [List.map_toArray, List.map_cons, List.map_nil]); first | done | rfl | (simp only [List.length_drop, List.length_take]; rfl)) ?_; (with_reducible refine (spec_l1In.calls (rd l0 x11_1) a1 a2 false _ A7.out).mono ?_); rintro e w' ⟨rfl, ⟨nd, rfl⟩⟩; refine ⟨_, rfl, ?_⟩))
              go_ret
              exact ⟨by first | rfl | (simp; done) | (simp [*]; done), by repeat (first | exact Drawn0.refl _ | apply Drawn0.step)⟩
          · rw [if_neg c6] at H
            exact absurd H (by simp)
        · rw [if_neg c5] at H
          exact absurd H (by simp)
      · rw [if_neg c4] at H
        have c4b0 : decide (x11_1 < (l0.length : Int)) = false := decide_eq_false c4
        clear c4
        obtain rfl := Option.some.inj H
        go_wp2
        go_ret
        exact ⟨by first | rfl | (simp; done) | (simp [*]; done), by repeat (first | exact Drawn0.refl _ | apply Drawn0.step)⟩
end Go.Proofs.Ytgahigmpcgfbeaa.P
end

section
namespace Go.Proofs.Ytgahigmpcgfbeaa.P
open Go.RowKit Go.Proofs.YtgahigmpcgfbeaaW.PrintWords Go.Proofs.YtgahigmpcgfbeaaW.PrintLast Go.Proofs.YtgahigmpcgfbeaaW.PrintMore
attribute [local go_sem] max2_int min2_int max_two min_two max_three min_three max_four min_four
set_option linter.unusedVariables false
set_option linter.unusedSimpArgs false
def spec_oiThrows.f (k : Nat) (a0 : Int) (a1 : Int) (a2 : Int) (a3 : Int) (l4 : List Int) : Option (Bool) := (spec_oiGood.f a0 a1 a2 a3).bind fun t988 => (if t988 = true then (if (l4.length : Int) ≤ 60 then ((spec_l1All.f k l4 1 a1).bind fun t989 => (some t989)) else (some false)) else (some false))
theorem spec_oiThrows.mono : ∀ a0 a1 a2 a3 a4 k, LeO (spec_oiThrows.f k a0 a1 a2 a3 a4) (spec_oiThrows.f (k + 1) a0 a1 a2 a3 a4) := by
  intro a0 a1 a2 a3 a4 k
  unfold spec_oiThrows.f
  repeat' first
      | (with_reducible exact spec_l1All.mono _ _ _ _)
      | (with_reducible exact LeO.refl _)
      | (with_reducible exact LeO.none _)
      | (with_reducible refine LeO.ite ?_ ?_)
      | (with_reducible refine LeO.bind ?_ (fun _ => ?_))
      | exact spec_l1All.mono _ _ _ _
      | exact LeO.none _
      | refine LeO.ite ?_ ?_
      | refine LeO.bind ?_ (fun _ => ?_)
set_option maxHeartbeats 8000000 in
set_option maxRecDepth 100000 in
theorem spec_oiThrows.calls (k : Nat) (a0 : Int) (a1 : Int) (a2 : Int) (a3 : Int) (A4 : Option Addr) (c4 : Nat) (l4 : List Int) (r : Bool) (w : World) (hr4 : Kd.C (Kd.int .i64) w A4 l4.length l4) (hc4 : l4.length ≤ c4) (h : spec_oiThrows.f k a0 a1 a2 a3 l4 = some r) :
    Calls Try.prog 196 #[.int .i64 a0, .int .i64 a1, .int .i64 a2, .int .i64 a3, .slice A4 l4.length c4] w fun e w' => e = .returned (.bool r) ∧ Drawn0 w w' := by
  have HR4 := Aside0.mk hr4
  have HC4 := Aside0.mk hc4
  clear hr4 hc4
  have H : ((spec_oiGood.f a0 a1 a2 a3).bind fun t988 => (if t988 = true then (if (l4.length : Int) ≤ 60 then ((spec_l1All.f k l4 1 a1).bind fun t989 => (some t989)) else (some false)) else (some false))) = some r := h
  clear h
  replace H := Option.bind_eq_some_iff.mp H
  obtain ⟨t988, A60, H⟩ := H
  replace H : (if t988 = true then (if (l4.length : Int) ≤ 60 then ((spec_l1All.f k l4 1 a1).bind fun t989 => (some t989)) else (some false)) else (some false)) = some r := H
  have A6 := Aside0.mk A60
  clear A60
  by_cases c7 : t988 = true
  · subst c7
    have H1 : (if (l4.length : Int) ≤ 60 then ((spec_l1All.f k l4 1 a1).bind fun t989 => (some t989)) else (some false)) = some r := by rw [if_pos rfl] at H; exact H
    clear H
    have H := H1
    clear H1
    by_cases c8 : (l4.length : Int) ≤ 60
    · rw [if_pos c8] at H
      have c8b0 : decide ((l4.length : Int) ≤ 60) = true := decide_eq_true c8
      have c8b1 : decide (l4.length ≤ 60) = true := decide_eq_true (by omega)
      clear c8
      replace H := Option.bind_eq_some_iff.mp H
      obtain ⟨t989, A90, H⟩ := H
      replace H : (some t989) = some r := H
      have A9 := Aside0.mk A90
      clear A90
      obtain rfl := Option.some.inj H
      go_enter Try.func196, Try.ntmps196
      go_wp2_with (first | ((with_reducible refine gate_callee (f := 246) rfl ?_); refine goesL_ (some 15) rfl rfl Try.func246 (by kernel_rfl) rfl #[.int .i64 a0, .int .i64 a1, .int .i64 a2, .int .i64 a3] rfl (by (try simp only [List.map_toArray, List.map_cons, List.map_nil]); first | done | rfl | (simp only [List.length_drop, List.length_take]; rfl)) ?_; (with_reducible refine (spec_oiGood.calls a0 a1 a2 a3 true _ A6.out).mono ?_); rintro e w' ⟨rfl, ⟨nd, rfl⟩⟩; refine ⟨_, rfl, ?_⟩) | (go_at_call 281; (with_reducible refine (spec_l1All.calls k _ _ l4 1 a1 t989 _ ?side1 ?side2 A9.out).mono ?_); (case side1 => repeat (first | exact HR4.out | (with_reducible refine Kd.C_alloc ?_ _) | (with_reducible refine Kd.C_drewN ?_ _) | (with_reducible refine Kd.C_drew ?_))); (case side2 => exact HC4.out); rintro e w' ⟨rfl, ⟨nd, rfl⟩⟩))
      go_ret
      exact ⟨by first | rfl | (simp; done) | (simp [*]; done), by repeat (first | exact Drawn0.refl _ | apply Drawn0.step)⟩
    · rw [if_neg c8] at H
      have c8b0 : decide ((l4.length : Int) ≤ 60) = false := decide_eq_false c8
      have c8b1 : decide (l4.length ≤ 60) = false := decide_eq_false (by omega)
      clear c8
      obtain rfl := Option.some.inj H
      go_enter Try.func196, Try.ntmps196
      go_wp2_with (first | ((with_reducible refine gate_callee (f := 246) rfl ?_); refine goesL_ (some 15) rfl rfl Try.func246 (by kernel_rfl) rfl #[.int .i64 a0, .int .i64 a1, .int .i64 a2, .int .i64 a3] rfl (by (try simp only [List.map_toArray, List.map_cons, List.map_nil]); first | done | rfl | (simp only [List.length_drop, List.length_take]; rfl)) ?_; (with_reducible refine (spec_oiGood.calls a0 a1 a2 a3 true _ A6.out).mono ?_); rintro e w' ⟨rfl, ⟨nd, rfl⟩⟩; refine ⟨_, rfl, ?_⟩))
      go_ret
      exact ⟨by first | rfl | (simp; done) | (simp [*]; done), by repeat (first | exact Drawn0.refl _ | apply Drawn0.step)⟩
  · replace c7 := Bool.eq_false_iff.mpr c7
    subst c7
    have H1 : (some false) = some r := by rw [if_neg (show ¬ (false = true) by decide)] at H; exact H
    clear H
    have H := H1
    clear H1
    obtain rfl := Option.some.inj H
    go_enter Try.func196, Try.ntmps196
    go_wp2_with (first | ((with_reducible refine gate_callee (f := 246) rfl ?_); refine goesL_ (some 15) rfl rfl Try.func246 (by kernel_rfl) rfl #[.int .i64 a0, .int .i64 a1, .int .i64 a2, .int .i64 a3] rfl (by (try simp only [List.map_toArray, List.map_cons, List.map_nil]); first | done | rfl | (simp only [List.length_drop, List.length_take]; rfl)) ?_; (with_reducible refine (spec_oiGood.calls a0 a1 a2 a3 false _ A6.out).mono ?_); rintro e w' ⟨rfl, ⟨nd, rfl⟩⟩; refine ⟨_, rfl, ?_⟩))
    go_ret
    exact ⟨by first | rfl | (simp; done) | (simp [*]; done), by repeat (first | exact Drawn0.refl _ | apply Drawn0.step)⟩
end Go.Proofs.Ytgahigmpcgfbeaa.P
end

section
namespace Go.Proofs.Ytgahigmpcgfbeaa.P
open Go.RowKit Go.Proofs.YtgahigmpcgfbeaaW.PrintWords Go.Proofs.YtgahigmpcgfbeaaW.PrintLast Go.Proofs.YtgahigmpcgfbeaaW.PrintMore
attribute [local go_sem] max2_int min2_int max_two min_two max_three min_three max_four min_four
set_option linter.unusedVariables false
set_option linter.unusedSimpArgs false
def spec_oiNext.f (a0 : Int) (a1 : Int) (a2 : Int) (a3 : Int) : Option (Int × Int) := if a2 = 0 then (some (wrap64 (a0 + a3), a1)) else (some (a0, wrap64 (a1 + a3)))
set_option maxHeartbeats 8000000 in
set_option maxRecDepth 100000 in
theorem spec_oiNext.calls (a0 : Int) (a1 : Int) (a2 : Int) (a3 : Int) (r1 : Int) (r2 : Int) (w : World) (h : spec_oiNext.f a0 a1 a2 a3 = some (r1, r2)) :
    Calls Try.prog 284 #[.int .i64 a0, .int .i64 a1, .int .i64 a2, .int .i64 a3] w fun e w' => e = .returned (.tuple #[.int .i64 r1, .int .i64 r2]) ∧ Drawn0 w w' := by
  have H : (if a2 = 0 then (some (wrap64 (a0 + a3), a1)) else (some (a0, wrap64 (a1 + a3)))) = some (r1, r2) := h
  clear h
  by_cases c5 : a2 = 0
  · rw [if_pos c5] at H
    have c5b0 : (a2 == 0) = true := beq_iff_eq.mpr c5
    have c5b1 : (a2 != 0) = false := bne_eq_false_iff_eq.mpr c5
    clear c5
    simp only [Option.some.injEq, Prod.mk.injEq] at H
    obtain ⟨rfl, rfl⟩ := H
    go_enter Try.func284, Try.ntmps284
    go_wp2
    go_ret2
    exact ⟨by first | rfl | (simp; done) | (simp [*]; done), by repeat (first | exact Drawn0.refl _ | apply Drawn0.step)⟩
  · rw [if_neg c5] at H
    have c5b0 : (a2 == 0) = false := beq_eq_false_iff_ne.mpr c5
    have c5b1 : (a2 != 0) = true := bne_iff_ne.mpr c5
    simp only [Option.some.injEq, Prod.mk.injEq] at H
    obtain ⟨rfl, rfl⟩ := H
    go_enter Try.func284, Try.ntmps284
    go_wp2
    go_ret2
    exact ⟨by first | rfl | (simp; done) | (simp [*]; done), by repeat (first | exact Drawn0.refl _ | apply Drawn0.step)⟩
end Go.Proofs.Ytgahigmpcgfbeaa.P
end

section
namespace Go.Proofs.Ytgahigmpcgfbeaa.P
open Go.RowKit Go.Proofs.YtgahigmpcgfbeaaW.PrintWords Go.Proofs.YtgahigmpcgfbeaaW.PrintLast Go.Proofs.YtgahigmpcgfbeaaW.PrintMore
attribute [local go_sem] max2_int min2_int max_two min_two max_three min_three max_four min_four
set_option linter.unusedVariables false
set_option linter.unusedSimpArgs false
def spec_meLess.l0 : Nat → Int → Int → Int → Int → Option (Bool)
  | 0, _, _, _, _ => none
  | k + 1, x0, x1, x2, x3 => if x1 = 0 then (none) else (if x3 = 0 then (none) else (if (wrap64 (Int.tdiv x0 x1)) = (wrap64 (Int.tdiv x2 x3)) then (if (Int.tmod x0 x1) = 0 then (some (decide ((Int.tmod x2 x3) > 0))) else (if (Int.tmod x2 x3) = 0 then (some false) else (spec_meLess.l0 k x3 (Int.tmod x2 x3) x1 (Int.tmod x0 x1)))) else (some (decide ((wrap64 (Int.tdiv x0 x1)) < (wrap64 (Int.tdiv x2 x3)))))))
def spec_meLess.f (k : Nat) (a0 : Int) (a1 : Int) (a2 : Int) (a3 : Int) : Option (Bool) := spec_meLess.l0 k a0 a1 a2 a3
theorem spec_meLess.mono_l : ∀ k, (∀ y0 y1 y2 y3, LeO (spec_meLess.l0 k y0 y1 y2 y3) (spec_meLess.l0 (k + 1) y0 y1 y2 y3))
  | 0 => fun _ _ _ _ r h => by simp [spec_meLess.l0] at h
  | k + 1 => by
    have ih0 := spec_meLess.mono_l k
    · intro y0 y1 y2 y3
      unfold spec_meLess.l0
      repeat' first
      | (with_reducible exact ih0 _ _ _ _)
      | (with_reducible exact LeO.refl _)
      | (with_reducible exact LeO.none _)
      | (with_reducible refine LeO.ite ?_ ?_)
      | (with_reducible refine LeO.bind ?_ (fun _ => ?_))
      | exact ih0 _ _ _ _
      | exact LeO.none _
      | refine LeO.ite ?_ ?_
      | refine LeO.bind ?_ (fun _ => ?_)
theorem spec_meLess.mono : ∀ a0 a1 a2 a3 k, LeO (spec_meLess.f k a0 a1 a2 a3) (spec_meLess.f (k + 1) a0 a1 a2 a3) := by
  intro a0 a1 a2 a3 k
  have ih0 := spec_meLess.mono_l k
  unfold spec_meLess.f
  repeat' first
      | (with_reducible exact ih0 _ _ _ _)
      | (with_reducible exact LeO.refl _)
      | (with_reducible exact LeO.none _)
      | (with_reducible refine LeO.ite ?_ ?_)
      | (with_reducible refine LeO.bind ?_ (fun _ => ?_))
      | exact ih0 _ _ _ _
      | exact LeO.none _
      | refine LeO.ite ?_ ?_
      | refine LeO.bind ?_ (fun _ => ?_)
set_option maxHeartbeats 8000000 in
set_option maxRecDepth 100000 in
theorem spec_meLess.calls (k : Nat) (a0 : Int) (a1 : Int) (a2 : Int) (a3 : Int) (r : Bool) (w : World) (h : spec_meLess.f k a0 a1 a2 a3 = some r) :
    Calls Try.prog 302 #[.int .i64 a0, .int .i64 a1, .int .i64 a2, .int .i64 a3] w fun e w' => e = .returned (.bool r) ∧ Drawn0 w w' := by
  have H : (spec_meLess.l0 k a0 a1 a2 a3) = some r := h
  clear h
  have H' := Aside0.mk H
  clear H
  go_enter Try.func302, Try.ntmps302
  go_wp2
  repeat (go_quiet (fail); try go_wp2)
  go_loopg [0, 1, 2, 3] k (fun kq v0 v1 v2 v3 w' => ∃ (x0_1 : Int) (x1_1 : Int) (x2_1 : Int) (x3_1 : Int), v0 = .int .i64 x0_1 ∧ v1 = .int .i64 x1_1 ∧ v2 = .int .i64 x2_1 ∧ v3 = .int .i64 x3_1 ∧ Aside0 (spec_meLess.l0 kq x0_1 x1_1 x2_1 x3_1 = some r) ∧ Aside0 (kq ≤ k) ∧ Drawn0 w w')
  case atStart => exact ⟨(a0), (a1), (a2), (a3), (by first | rfl | (simp; done) | (simp [*]; done)), (by first | rfl | (simp; done) | (simp [*]; done)), (by first | rfl | (simp; done) | (simp [*]; done)), (by first | rfl | (simp; done) | (simp [*]; done)), H', ⟨Nat.le_refl _⟩, by repeat (first | exact Drawn0.refl _ | apply Drawn0.step)⟩
  case round =>
    clear H'
    try clear p2
    try clear c3
    obtain ⟨x0_1, x1_1, x2_1, x3_1, rfl, rfl, rfl, rfl, HA, HK1, ⟨m1, rfl⟩⟩ := hrel
    cases gk with
    | zero => exact absurd HA.out (by simp [spec_meLess.l0])
    | succ k1 =>
      have H := HA.out
      clear HA
      simp only [spec_meLess.l0] at H
      by_cases c5 : x1_1 = 0
      · rw [if_pos c5] at H
        exact absurd H (by simp)
      · rw [if_neg c5] at H
        have c5b0 : (x1_1 == 0) = false := beq_eq_false_iff_ne.mpr c5
        have c5b1 : (x1_1 != 0) = true := bne_iff_ne.mpr c5
        by_cases c6 : x3_1 = 0
        · rw [if_pos c6] at H
          exact absurd H (by simp)
        · rw [if_neg c6] at H
          have c6b0 : (x3_1 == 0) = false := beq_eq_false_iff_ne.mpr c6
          have c6b1 : (x3_1 != 0) = true := bne_iff_ne.mpr c6
          by_cases c7 : (wrap64 (Int.tdiv x0_1 x1_1)) = (wrap64 (Int.tdiv x2_1 x3_1))
          · rw [if_pos c7] at H
            have c7b0 : ((wrap64 (Int.tdiv x0_1 x1_1)) == (wrap64 (Int.tdiv x2_1 x3_1))) = true := beq_iff_eq.mpr c7
            have c7b1 : ((wrap64 (Int.tdiv x0_1 x1_1)) != (wrap64 (Int.tdiv x2_1 x3_1))) = false := bne_eq_false_iff_eq.mpr c7
            clear c7
            by_cases c8 : (Int.tmod x0_1 x1_1) = 0
            · rw [if_pos c8] at H
              have c8b0 : ((Int.tmod x0_1 x1_1) == 0) = true := beq_iff_eq.mpr c8
              have c8b1 : ((Int.tmod x0_1 x1_1) != 0) = false := bne_eq_false_iff_eq.mpr c8
              clear c8
              obtain rfl := Option.some.inj H
              go_wp2
              repeat (go_quiet (fail); try go_wp2)
              go_ret
              exact ⟨by first | rfl | (simp; done) | (simp [*]; done), by repeat (first | exact Drawn0.refl _ | apply Drawn0.step)⟩
            · rw [if_neg c8] at H
              have c8b0 : ((Int.tmod x0_1 x1_1) == 0) = false := beq_eq_false_iff_ne.mpr c8
              have c8b1 : ((Int.tmod x0_1 x1_1) != 0) = true := bne_iff_ne.mpr c8
              by_cases c9 : (Int.tmod x2_1 x3_1) = 0
              · rw [if_pos c9] at H
                have c9b0 : ((Int.tmod x2_1 x3_1) == 0) = true := beq_iff_eq.mpr c9
                have c9b1 : ((Int.tmod x2_1 x3_1) != 0) = false := bne_eq_false_iff_eq.mpr c9
                clear c9
                obtain rfl := Option.some.inj H
                go_wp2
                repeat (go_quiet (fail); try go_wp2)
                go_ret
                exact ⟨by first | rfl | (simp; done) | (simp [*]; done), by repeat (first | exact Drawn0.refl _ | apply Drawn0.step)⟩
              · rw [if_neg c9] at H
                have c9b0 : ((Int.tmod x2_1 x3_1) == 0) = false := beq_eq_false_iff_ne.mpr c9
                have c9b1 : ((Int.tmod x2_1 x3_1) != 0) = true := bne_iff_ne.mpr c9
                have H' := Aside0.mk H
                clear H
                go_wp2
                repeat (go_quiet (fail); try go_wp2)
                go_roundg k1
                case measure => have := HK1.out; omega
                case rel => exact ⟨(x3_1), (Int.tmod x2_1 x3_1), (x1_1), (Int.tmod x0_1 x1_1), (by first | rfl | (simp; done) | (simp [*]; done)), (by first | rfl | (simp; done) | (simp [*]; done)), (by first | rfl | (simp; done) | (simp [*]; done)), (by first | rfl | (simp; done) | (simp [*]; done)), H', ⟨by have := HK1.out; omega⟩, by repeat (first | exact Drawn0.refl _ | apply Drawn0.step)⟩
          · rw [if_neg c7] at H
            have c7b0 : ((wrap64 (Int.tdiv x0_1 x1_1)) == (wrap64 (Int.tdiv x2_1 x3_1))) = false := beq_eq_false_iff_ne.mpr c7
            have c7b1 : ((wrap64 (Int.tdiv x0_1 x1_1)) != (wrap64 (Int.tdiv x2_1 x3_1))) = true := bne_iff_ne.mpr c7
            obtain rfl := Option.some.inj H
            go_wp2
            repeat (go_quiet (fail); try go_wp2)
            go_ret
            exact ⟨by first | rfl | (simp; done) | (simp [*]; done), by repeat (first | exact Drawn0.refl _ | apply Drawn0.step)⟩
end Go.Proofs.Ytgahigmpcgfbeaa.P
end

section
namespace Go.Proofs.Ytgahigmpcgfbeaa.P
open Go.RowKit Go.Proofs.YtgahigmpcgfbeaaW.PrintWords Go.Proofs.YtgahigmpcgfbeaaW.PrintLast Go.Proofs.YtgahigmpcgfbeaaW.PrintMore
attribute [local go_sem] max2_int min2_int max_two min_two max_three min_three max_four min_four
set_option linter.unusedVariables false
set_option linter.unusedSimpArgs false
def whoOk (n : Nat) (s ru a b x : Int) : Bool := decide (1 ≤ s) && decide (s ≤ 6) && decide (0 ≤ ru) && decide (ru ≤ 3) && decide (0 ≤ a) && decide (a ≤ s) && decide (0 ≤ b) && decide (b ≤ s) && decide (1 ≤ x) && decide (x ≤ 4) && decide (((s + 1) * (s + 1) : Int) ≤ (n : Int))
def whoO (l : List S171) (s ru a b x : Int) : Option Bool :=
  if ru = 0 then spec_meLess.f 99 (rd_T171 l (a * (s + 1) + b + x)).f0 (rd_T171 l (a * (s + 1) + b + x)).f1 (rd_T171 l ((a + x) * (s + 1) + b)).f0 (rd_T171 l ((a + x) * (s + 1) + b)).f1
  else if ru = 1 then spec_meLess.f 99 (rd_T171 l ((a + x) * (s + 1) + b)).f0 (rd_T171 l ((a + x) * (s + 1) + b)).f1 (rd_T171 l (a * (s + 1) + b + x)).f0 (rd_T171 l (a * (s + 1) + b + x)).f1
  else if ru = 2 then some (decide (a < b)) else some (decide (b ≤ a))
def spec_oiWho.f (l : List S171) (s ru a b x : Int) : Option Int :=
  if whoOk l.length s ru a b x = true then
    (if a + x ≤ s then (if b + x ≤ s then (whoO l s ru a b x).map (fun o => if o = true then 1 else 0) else some 0) else (if b + x ≤ s then some 1 else some (-1)))
  else none
theorem who_sq {s : Int} (h1 : 1 ≤ s) (h2 : s ≤ 6) {a b : Int} (ha : 0 ≤ a ∧ a ≤ s) (hb : 0 ≤ b ∧ b ≤ s) {n : Nat} (hn : (s + 1) * (s + 1) ≤ (n : Int)) : 0 ≤ a * (s + 1) + b ∧ a * (s + 1) + b < (n : Int) ∧ a * (s + 1) ≤ 42 ∧ 0 ≤ a * (s + 1) := by
  have e1 : 0 ≤ a * (s + 1) := Int.mul_nonneg ha.1 (by omega)
  have e2 : a * (s + 1) ≤ s * (s + 1) := Int.mul_le_mul_of_nonneg_right ha.2 (by omega)
  have e3 : (s + 1) * (s + 1) = s * (s + 1) + (s + 1) := by rw [Int.add_mul s 1, Int.one_mul]
  have e4 : s * (s + 1) ≤ 6 * (s + 1) := Int.mul_le_mul_of_nonneg_right h2 (by omega)
  omega
set_option maxHeartbeats 4000000 in
set_option maxRecDepth 100000 in
theorem spec_oiWho.calls (A0 : Option Addr) (c0 : Nat) (l0 : List S171) (s ru a b x : Int) (r : Int) (w : World) (hr0 : Kd.C k171 w A0 l0.length l0) (hc0 : l0.length ≤ c0) (h : spec_oiWho.f l0 s ru a b x = some r) :
    Calls Try.prog 292 #[.slice A0 l0.length c0, .int .i64 s, .int .i64 ru, .int .i64 a, .int .i64 b, .int .i64 x] w fun e w' => e = .returned (.int .i64 r) ∧ Below w.heap.size w w' := by
  unfold spec_oiWho.f at h
  by_cases hok : whoOk l0.length s ru a b x = true
  · rw [if_pos hok] at h
    simp only [whoOk, Bool.and_eq_true, decide_eq_true_eq] at hok
    obtain ⟨⟨⟨⟨⟨⟨⟨⟨⟨⟨g1, g2⟩, g3⟩, g4⟩, g5⟩, g6⟩, g7⟩, g8⟩, g9⟩, g10⟩, g11⟩ := hok
    have s1 : IntKind.i64.wrap (a + x) = a + x := IntWalk.i64_in _ (by omega)
    have s2 : IntKind.i64.wrap (b + x) = b + x := IntWalk.i64_in _ (by omega)
    have s3 : IntKind.i64.wrap (s + 1) = s + 1 := IntWalk.i64_in _ (by omega)
    have HR := Aside0.mk hr0
    have HN := Aside0.mk g11
    clear hr0 g11
    have HB := Aside0.mk (Below.refl w.heap.size w)
    go_enter Try.func292, Try.ntmps292
    by_cases c1 : a + x ≤ s
    · by_cases c2 : b + x ≤ s
      · rw [if_pos c1, if_pos c2] at h
        have k1 := who_sq g1 g2 (a := a + x) (b := b) ⟨by omega, c1⟩ ⟨g7, g8⟩ HN.out
        have k2 := who_sq g1 g2 (a := a) (b := b + x) ⟨g5, g6⟩ ⟨by omega, c2⟩ HN.out
        have e2 : a * (s + 1) + (b + x) = a * (s + 1) + b + x := by omega
        rw [e2] at k2
        obtain ⟨p1, q1, k1a, k1b⟩ := k1
        obtain ⟨p2, q2, k2a, k2b⟩ := k2
        have m1 : IntKind.i64.wrap ((a + x) * (s + 1)) = (a + x) * (s + 1) := IntWalk.i64_in _ (by omega)
        have m2 : IntKind.i64.wrap ((a + x) * (s + 1) + b) = (a + x) * (s + 1) + b := IntWalk.i64_in _ (by omega)
        have m3 : IntKind.i64.wrap (a * (s + 1)) = a * (s + 1) := IntWalk.i64_in _ (by omega)
        have m4 : IntKind.i64.wrap (a * (s + 1) + b) = a * (s + 1) + b := IntWalk.i64_in _ (by omega)
        have m5 : IntKind.i64.wrap (a * (s + 1) + b + x) = a * (s + 1) + b + x := IntWalk.i64_in _ (by omega)
        obtain ⟨ad, e, h0, h1⟩ := at_T171 HR.out ((a + x) * (s + 1) + b) p1 q1
        obtain rfl := e
        obtain ⟨ad', e, h2, h3⟩ := at_T171 HR.out (a * (s + 1) + b + x) p2 q2
        obtain rfl : ad = ad' := Option.some.inj e
        clear e e2 k1a k1b k2a k2b g1 g2 g5 g6 g7 g8 g9 g10
        replace p1 := eq_true p1
        replace q1 := eq_true q1
        replace p2 := eq_true p2
        replace q2 := eq_true q2
        obtain ⟨o, ho, hor⟩ := Option.map_eq_some_iff.1 h
        clear h
        unfold whoO at ho
        obtain rfl | rfl | rfl | rfl : ru = 0 ∨ ru = 1 ∨ ru = 2 ∨ ru = 3 := by omega
        · rw [if_pos rfl] at ho
          have HO := Aside0.mk ho
          clear ho
          cases o with
          | true =>
            obtain rfl := hor
            go_wp2
            go_region_held3 (fun W => W.cell? (ad.add (((a + x) * (s + 1) + b).toNat * 2)) = some (.int .i64 (rd_T171 l0 ((a + x) * (s + 1) + b)).f0) ∧ W.cell? ⟨(ad.add (((a + x) * (s + 1) + b).toNat * 2)).block, (ad.add (((a + x) * (s + 1) + b).toNat * 2)).off + 1, none⟩ = some (.int .i64 (rd_T171 l0 ((a + x) * (s + 1) + b)).f1) ∧ W.cell? (ad.add ((a * (s + 1) + b + x).toNat * 2)) = some (.int .i64 (rd_T171 l0 (a * (s + 1) + b + x)).f0) ∧ W.cell? ⟨(ad.add ((a * (s + 1) + b + x).toNat * 2)).block, (ad.add ((a * (s + 1) + b + x).toNat * 2)).off + 1, none⟩ = some (.int .i64 (rd_T171 l0 (a * (s + 1) + b + x)).f1)) (go_keep) (fail)
            all_goals go_wp2_with (go_at_call 302; (with_reducible refine (spec_meLess.calls 99 _ _ _ _ _ _ HO.out).mono ?_); rintro e w1 ⟨rfl, ⟨nd, rfl⟩⟩)
            all_goals go_ret
            all_goals exact ⟨rfl, by repeat (first | exact HB.out | apply below_alloc | apply pw_below_drewN | apply Below.drew)⟩
          | false =>
            obtain rfl := hor
            go_wp2
            go_region_held3 (fun W => W.cell? (ad.add (((a + x) * (s + 1) + b).toNat * 2)) = some (.int .i64 (rd_T171 l0 ((a + x) * (s + 1) + b)).f0) ∧ W.cell? ⟨(ad.add (((a + x) * (s + 1) + b).toNat * 2)).block, (ad.add (((a + x) * (s + 1) + b).toNat * 2)).off + 1, none⟩ = some (.int .i64 (rd_T171 l0 ((a + x) * (s + 1) + b)).f1) ∧ W.cell? (ad.add ((a * (s + 1) + b + x).toNat * 2)) = some (.int .i64 (rd_T171 l0 (a * (s + 1) + b + x)).f0) ∧ W.cell? ⟨(ad.add ((a * (s + 1) + b + x).toNat * 2)).block, (ad.add ((a * (s + 1) + b + x).toNat * 2)).off + 1, none⟩ = some (.int .i64 (rd_T171 l0 (a * (s + 1) + b + x)).f1)) (go_keep) (fail)
            all_goals go_wp2_with (go_at_call 302; (with_reducible refine (spec_meLess.calls 99 _ _ _ _ _ _ HO.out).mono ?_); rintro e w1 ⟨rfl, ⟨nd, rfl⟩⟩)
            all_goals go_ret
            all_goals exact ⟨rfl, by repeat (first | exact HB.out | apply below_alloc | apply pw_below_drewN | apply Below.drew)⟩
        · rw [if_neg (by decide), if_pos rfl] at ho
          have HO := Aside0.mk ho
          clear ho
          cases o with
          | true =>
            obtain rfl := hor
            go_wp2
            go_region_held3 (fun W => W.cell? (ad.add (((a + x) * (s + 1) + b).toNat * 2)) = some (.int .i64 (rd_T171 l0 ((a + x) * (s + 1) + b)).f0) ∧ W.cell? ⟨(ad.add (((a + x) * (s + 1) + b).toNat * 2)).block, (ad.add (((a + x) * (s + 1) + b).toNat * 2)).off + 1, none⟩ = some (.int .i64 (rd_T171 l0 ((a + x) * (s + 1) + b)).f1) ∧ W.cell? (ad.add ((a * (s + 1) + b + x).toNat * 2)) = some (.int .i64 (rd_T171 l0 (a * (s + 1) + b + x)).f0) ∧ W.cell? ⟨(ad.add ((a * (s + 1) + b + x).toNat * 2)).block, (ad.add ((a * (s + 1) + b + x).toNat * 2)).off + 1, none⟩ = some (.int .i64 (rd_T171 l0 (a * (s + 1) + b + x)).f1)) (go_keep) (fail)
            all_goals go_wp2_with (go_at_call 302; (with_reducible refine (spec_meLess.calls 99 _ _ _ _ _ _ HO.out).mono ?_); rintro e w1 ⟨rfl, ⟨nd, rfl⟩⟩)
            all_goals go_ret
            all_goals exact ⟨rfl, by repeat (first | exact HB.out | apply below_alloc | apply pw_below_drewN | apply Below.drew)⟩
          | false =>
            obtain rfl := hor
            go_wp2
            go_region_held3 (fun W => W.cell? (ad.add (((a + x) * (s + 1) + b).toNat * 2)) = some (.int .i64 (rd_T171 l0 ((a + x) * (s + 1) + b)).f0) ∧ W.cell? ⟨(ad.add (((a + x) * (s + 1) + b).toNat * 2)).block, (ad.add (((a + x) * (s + 1) + b).toNat * 2)).off + 1, none⟩ = some (.int .i64 (rd_T171 l0 ((a + x) * (s + 1) + b)).f1) ∧ W.cell? (ad.add ((a * (s + 1) + b + x).toNat * 2)) = some (.int .i64 (rd_T171 l0 (a * (s + 1) + b + x)).f0) ∧ W.cell? ⟨(ad.add ((a * (s + 1) + b + x).toNat * 2)).block, (ad.add ((a * (s + 1) + b + x).toNat * 2)).off + 1, none⟩ = some (.int .i64 (rd_T171 l0 (a * (s + 1) + b + x)).f1)) (go_keep) (fail)
            all_goals go_wp2_with (go_at_call 302; (with_reducible refine (spec_meLess.calls 99 _ _ _ _ _ _ HO.out).mono ?_); rintro e w1 ⟨rfl, ⟨nd, rfl⟩⟩)
            all_goals go_ret
            all_goals exact ⟨rfl, by repeat (first | exact HB.out | apply below_alloc | apply pw_below_drewN | apply Below.drew)⟩
        · rw [if_neg (by decide), if_neg (by decide), if_pos rfl] at ho
          obtain rfl := Option.some.inj ho
          clear ho
          by_cases c3 : a < b
          · simp only [c3, decide_true, decide_false, if_true, if_false, Bool.false_eq_true, reduceIte] at hor
            obtain rfl := hor
            go_wp2
            go_region_held3 (fun W => W.cell? (ad.add (((a + x) * (s + 1) + b).toNat * 2)) = some (.int .i64 (rd_T171 l0 ((a + x) * (s + 1) + b)).f0) ∧ W.cell? ⟨(ad.add (((a + x) * (s + 1) + b).toNat * 2)).block, (ad.add (((a + x) * (s + 1) + b).toNat * 2)).off + 1, none⟩ = some (.int .i64 (rd_T171 l0 ((a + x) * (s + 1) + b)).f1) ∧ W.cell? (ad.add ((a * (s + 1) + b + x).toNat * 2)) = some (.int .i64 (rd_T171 l0 (a * (s + 1) + b + x)).f0) ∧ W.cell? ⟨(ad.add ((a * (s + 1) + b + x).toNat * 2)).block, (ad.add ((a * (s + 1) + b + x).toNat * 2)).off + 1, none⟩ = some (.int .i64 (rd_T171 l0 (a * (s + 1) + b + x)).f1)) (go_keep) (fail)
            all_goals go_wp2
            all_goals go_ret
            all_goals exact ⟨rfl, by repeat (first | exact HB.out | apply below_alloc | apply pw_below_drewN | apply Below.drew)⟩
          · simp only [c3, decide_true, decide_false, if_true, if_false, Bool.false_eq_true, reduceIte] at hor
            obtain rfl := hor
            go_wp2
            go_region_held3 (fun W => W.cell? (ad.add (((a + x) * (s + 1) + b).toNat * 2)) = some (.int .i64 (rd_T171 l0 ((a + x) * (s + 1) + b)).f0) ∧ W.cell? ⟨(ad.add (((a + x) * (s + 1) + b).toNat * 2)).block, (ad.add (((a + x) * (s + 1) + b).toNat * 2)).off + 1, none⟩ = some (.int .i64 (rd_T171 l0 ((a + x) * (s + 1) + b)).f1) ∧ W.cell? (ad.add ((a * (s + 1) + b + x).toNat * 2)) = some (.int .i64 (rd_T171 l0 (a * (s + 1) + b + x)).f0) ∧ W.cell? ⟨(ad.add ((a * (s + 1) + b + x).toNat * 2)).block, (ad.add ((a * (s + 1) + b + x).toNat * 2)).off + 1, none⟩ = some (.int .i64 (rd_T171 l0 (a * (s + 1) + b + x)).f1)) (go_keep) (fail)
            all_goals go_wp2
            all_goals go_ret
            all_goals exact ⟨rfl, by repeat (first | exact HB.out | apply below_alloc | apply pw_below_drewN | apply Below.drew)⟩
        · rw [if_neg (by decide), if_neg (by decide), if_neg (by decide)] at ho
          obtain rfl := Option.some.inj ho
          clear ho
          by_cases c3 : b ≤ a
          · simp only [c3, decide_true, decide_false, if_true, if_false, Bool.false_eq_true, reduceIte] at hor
            obtain rfl := hor
            go_wp2
            go_region_held3 (fun W => W.cell? (ad.add (((a + x) * (s + 1) + b).toNat * 2)) = some (.int .i64 (rd_T171 l0 ((a + x) * (s + 1) + b)).f0) ∧ W.cell? ⟨(ad.add (((a + x) * (s + 1) + b).toNat * 2)).block, (ad.add (((a + x) * (s + 1) + b).toNat * 2)).off + 1, none⟩ = some (.int .i64 (rd_T171 l0 ((a + x) * (s + 1) + b)).f1) ∧ W.cell? (ad.add ((a * (s + 1) + b + x).toNat * 2)) = some (.int .i64 (rd_T171 l0 (a * (s + 1) + b + x)).f0) ∧ W.cell? ⟨(ad.add ((a * (s + 1) + b + x).toNat * 2)).block, (ad.add ((a * (s + 1) + b + x).toNat * 2)).off + 1, none⟩ = some (.int .i64 (rd_T171 l0 (a * (s + 1) + b + x)).f1)) (go_keep) (fail)
            all_goals go_wp2
            all_goals go_ret
            all_goals exact ⟨rfl, by repeat (first | exact HB.out | apply below_alloc | apply pw_below_drewN | apply Below.drew)⟩
          · simp only [c3, decide_true, decide_false, if_true, if_false, Bool.false_eq_true, reduceIte] at hor
            obtain rfl := hor
            go_wp2
            go_region_held3 (fun W => W.cell? (ad.add (((a + x) * (s + 1) + b).toNat * 2)) = some (.int .i64 (rd_T171 l0 ((a + x) * (s + 1) + b)).f0) ∧ W.cell? ⟨(ad.add (((a + x) * (s + 1) + b).toNat * 2)).block, (ad.add (((a + x) * (s + 1) + b).toNat * 2)).off + 1, none⟩ = some (.int .i64 (rd_T171 l0 ((a + x) * (s + 1) + b)).f1) ∧ W.cell? (ad.add ((a * (s + 1) + b + x).toNat * 2)) = some (.int .i64 (rd_T171 l0 (a * (s + 1) + b + x)).f0) ∧ W.cell? ⟨(ad.add ((a * (s + 1) + b + x).toNat * 2)).block, (ad.add ((a * (s + 1) + b + x).toNat * 2)).off + 1, none⟩ = some (.int .i64 (rd_T171 l0 (a * (s + 1) + b + x)).f1)) (go_keep) (fail)
            all_goals go_wp2
            all_goals go_ret
            all_goals exact ⟨rfl, by repeat (first | exact HB.out | apply below_alloc | apply pw_below_drewN | apply Below.drew)⟩
      · rw [if_pos c1, if_neg c2] at h
        obtain rfl := Option.some.inj h
        go_wp2
        repeat (go_quiet (fail); try go_wp2)
        go_ret
        exact ⟨rfl, by first | exact HB.out | (repeat (first | exact HB.out | apply pw_below_drewN))⟩
    · by_cases c2 : b + x ≤ s
      · rw [if_neg c1, if_pos c2] at h
        obtain rfl := Option.some.inj h
        go_wp2
        repeat (go_quiet (fail); try go_wp2)
        go_ret
        exact ⟨rfl, by first | exact HB.out | (repeat (first | exact HB.out | apply pw_below_drewN))⟩
      · rw [if_neg c1, if_neg c2] at h
        obtain rfl := Option.some.inj h
        go_wp2
        repeat (go_quiet (fail); try go_wp2)
        go_ret
        exact ⟨rfl, by first | exact HB.out | (repeat (first | exact HB.out | apply pw_below_drewN))⟩
  · rw [if_neg hok] at h
    cases h
end Go.Proofs.Ytgahigmpcgfbeaa.P
end

section
namespace Go.Proofs.Ytgahigmpcgfbeaa.P
open Go.RowKit Go.Proofs.YtgahigmpcgfbeaaW.PrintWords Go.Proofs.YtgahigmpcgfbeaaW.PrintLast Go.Proofs.YtgahigmpcgfbeaaW.PrintMore
attribute [local go_sem] max2_int min2_int max_two min_two max_three min_three max_four min_four
set_option linter.unusedVariables false
set_option linter.unusedSimpArgs false
def spec_meLow.l0 : Nat → Int → Int → Int → Int → Option (Int × Int)
  | 0, _, _, _, _ => none
  | k + 1, x0, x1, x6, x7 => if x7 > 0 then (if x7 = 0 then (none) else (spec_meLow.l0 k x0 x1 x7 (Int.tmod x6 x7))) else (if x6 = 0 then (none) else (some (wrap64 (Int.tdiv x0 x6), wrap64 (Int.tdiv x1 x6))))
def spec_meLow.f (k : Nat) (a0 : Int) (a1 : Int) : Option (Int × Int) := spec_meLow.l0 k a0 a1 a0 a1
theorem spec_meLow.mono_l : ∀ k, (∀ y0 y1 y2 y3, LeO (spec_meLow.l0 k y0 y1 y2 y3) (spec_meLow.l0 (k + 1) y0 y1 y2 y3))
  | 0 => fun _ _ _ _ r h => by simp [spec_meLow.l0] at h
  | k + 1 => by
    have ih0 := spec_meLow.mono_l k
    · intro y0 y1 y2 y3
      unfold spec_meLow.l0
      repeat' first
      | (with_reducible exact ih0 _ _ _ _)
      | (with_reducible exact LeO.refl _)
      | (with_reducible exact LeO.none _)
      | (with_reducible refine LeO.ite ?_ ?_)
      | (with_reducible refine LeO.bind ?_ (fun _ => ?_))
      | exact ih0 _ _ _ _
      | exact LeO.none _
      | refine LeO.ite ?_ ?_
      | refine LeO.bind ?_ (fun _ => ?_)
theorem spec_meLow.mono : ∀ a0 a1 k, LeO (spec_meLow.f k a0 a1) (spec_meLow.f (k + 1) a0 a1) := by
  intro a0 a1 k
  have ih0 := spec_meLow.mono_l k
  unfold spec_meLow.f
  repeat' first
      | (with_reducible exact ih0 _ _ _ _)
      | (with_reducible exact LeO.refl _)
      | (with_reducible exact LeO.none _)
      | (with_reducible refine LeO.ite ?_ ?_)
      | (with_reducible refine LeO.bind ?_ (fun _ => ?_))
      | exact ih0 _ _ _ _
      | exact LeO.none _
      | refine LeO.ite ?_ ?_
      | refine LeO.bind ?_ (fun _ => ?_)
set_option maxHeartbeats 8000000 in
set_option maxRecDepth 100000 in
theorem spec_meLow.calls (k : Nat) (a0 : Int) (a1 : Int) (r1 : Int) (r2 : Int) (w : World) (h : spec_meLow.f k a0 a1 = some (r1, r2)) :
    Calls Try.prog 303 #[.int .i64 a0, .int .i64 a1] w fun e w' => e = .returned (.tuple #[.int .i64 r1, .int .i64 r2]) ∧ Drawn0 w w' := by
  have H : (spec_meLow.l0 k a0 a1 a0 a1) = some (r1, r2) := h
  clear h
  have H' := Aside0.mk H
  clear H
  go_enter Try.func303, Try.ntmps303
  go_wp2
  repeat (go_quiet (fail); try go_wp2)
  go_loopg [6, 7] k (fun kq v6 v7 w' => ∃ (x6_1 : Int) (x7_1 : Int), v6 = .int .i64 x6_1 ∧ v7 = .int .i64 x7_1 ∧ Aside0 (spec_meLow.l0 kq a0 a1 x6_1 x7_1 = some (r1, r2)) ∧ Aside0 (kq ≤ k) ∧ Drawn0 w w')
  case atStart => exact ⟨(a0), (a1), (by first | rfl | (simp; done) | (simp [*]; done)), (by first | rfl | (simp; done) | (simp [*]; done)), H', ⟨Nat.le_refl _⟩, by repeat (first | exact Drawn0.refl _ | apply Drawn0.step)⟩
  case round =>
    clear H'
    try clear p2
    obtain ⟨x6_1, x7_1, rfl, rfl, HA, HK1, ⟨m1, rfl⟩⟩ := hrel
    cases gk with
    | zero => exact absurd HA.out (by simp [spec_meLow.l0])
    | succ k1 =>
      have H := HA.out
      clear HA
      simp only [spec_meLow.l0] at H
      by_cases c3 : x7_1 > 0
      · rw [if_pos c3] at H
        have c3b0 : decide (0 < x7_1) = true := decide_eq_true c3
        clear c3
        by_cases c4 : x7_1 = 0
        · rw [if_pos c4] at H
          exact absurd H (by simp)
        · rw [if_neg c4] at H
          have c4b0 : (x7_1 == 0) = false := beq_eq_false_iff_ne.mpr c4
          have c4b1 : (x7_1 != 0) = true := bne_iff_ne.mpr c4
          have H' := Aside0.mk H
          clear H
          go_wp2
          repeat (go_quiet (fail); try go_wp2)
          go_roundg k1
          case measure => have := HK1.out; omega
          case rel => exact ⟨(x7_1), (Int.tmod x6_1 x7_1), (by first | rfl | (simp; done) | (simp [*]; done)), (by first | rfl | (simp; done) | (simp [*]; done)), H', ⟨by have := HK1.out; omega⟩, by repeat (first | exact Drawn0.refl _ | apply Drawn0.step)⟩
      · rw [if_neg c3] at H
        have c3b0 : decide (0 < x7_1) = false := decide_eq_false c3
        clear c3
        by_cases c5 : x6_1 = 0
        · rw [if_pos c5] at H
          exact absurd H (by simp)
        · rw [if_neg c5] at H
          have c5b0 : (x6_1 == 0) = false := beq_eq_false_iff_ne.mpr c5
          have c5b1 : (x6_1 != 0) = true := bne_iff_ne.mpr c5
          simp only [Option.some.injEq, Prod.mk.injEq] at H
          obtain ⟨rfl, rfl⟩ := H
          go_wp2
          repeat (go_quiet (fail); try go_wp2)
          go_ret2
          exact ⟨by first | rfl | (simp; done) | (simp [*]; done), by repeat (first | exact Drawn0.refl _ | apply Drawn0.step)⟩
end Go.Proofs.Ytgahigmpcgfbeaa.P
end

section
namespace Go.Proofs.Ytgahigmpcgfbeaa.P
open Go.RowKit Go.Proofs.YtgahigmpcgfbeaaW.PrintWords Go.Proofs.YtgahigmpcgfbeaaW.PrintLast Go.Proofs.YtgahigmpcgfbeaaW.PrintMore
attribute [local go_sem] max2_int min2_int max_two min_two max_three min_three max_four min_four
set_option linter.unusedVariables false
set_option linter.unusedSimpArgs false
def spec_oiAdd.l0 : Nat → Int → Int → Int → Int → Int → Int → Option (Int × Int)
  | 0, _, _, _, _, _, _ => none
  | k + 1, x5, x6, x991000, x991001, x992000, x992001 => if x6 > 0 then (if x6 = 0 then (none) else (spec_oiAdd.l0 k x6 (Int.tmod x5 x6) x991000 x991001 x992000 x992001)) else (if x5 = 0 then (none) else (if x991001 = 0 then (none) else (if x992001 = 0 then (none) else ((spec_meLow.f k (wrap64 ((wrap64 (x991000 * (wrap64 (Int.tdiv (wrap64 ((wrap64 (Int.tdiv x991001 x5)) * x992001)) x991001)))) + (wrap64 (x992000 * (wrap64 (Int.tdiv (wrap64 ((wrap64 (Int.tdiv x991001 x5)) * x992001)) x992001)))))) (wrap64 ((wrap64 (Int.tdiv x991001 x5)) * x992001))).bind fun bt993 => (some (bt993.1, bt993.2))))))
def spec_oiAdd.f (k : Nat) (a0_0 : Int) (a0_1 : Int) (a1_0 : Int) (a1_1 : Int) : Option (Int × Int) := spec_oiAdd.l0 k a0_1 a1_1 a0_0 a0_1 a1_0 a1_1
theorem spec_oiAdd.mono_l : ∀ k, (∀ y0 y1 y2 y3 y4 y5, LeO (spec_oiAdd.l0 k y0 y1 y2 y3 y4 y5) (spec_oiAdd.l0 (k + 1) y0 y1 y2 y3 y4 y5))
  | 0 => fun _ _ _ _ _ _ r h => by simp [spec_oiAdd.l0] at h
  | k + 1 => by
    have ih0 := spec_oiAdd.mono_l k
    · intro y0 y1 y2 y3 y4 y5
      unfold spec_oiAdd.l0
      repeat' first
      | (with_reducible exact ih0 _ _ _ _ _ _)
      | (with_reducible exact spec_meLow.mono _ _ _)
      | (with_reducible exact LeO.refl _)
      | (with_reducible exact LeO.none _)
      | (with_reducible refine LeO.ite ?_ ?_)
      | (with_reducible refine LeO.bind ?_ (fun _ => ?_))
      | exact ih0 _ _ _ _ _ _
      | exact spec_meLow.mono _ _ _
      | exact LeO.none _
      | refine LeO.ite ?_ ?_
      | refine LeO.bind ?_ (fun _ => ?_)
theorem spec_oiAdd.mono : ∀ a0 a1 a2 a3 k, LeO (spec_oiAdd.f k a0 a1 a2 a3) (spec_oiAdd.f (k + 1) a0 a1 a2 a3) := by
  intro a0 a1 a2 a3 k
  have ih0 := spec_oiAdd.mono_l k
  unfold spec_oiAdd.f
  repeat' first
      | (with_reducible exact ih0 _ _ _ _ _ _)
      | (with_reducible exact spec_meLow.mono _ _ _)
      | (with_reducible exact LeO.refl _)
      | (with_reducible exact LeO.none _)
      | (with_reducible refine LeO.ite ?_ ?_)
      | (with_reducible refine LeO.bind ?_ (fun _ => ?_))
      | exact ih0 _ _ _ _ _ _
      | exact spec_meLow.mono _ _ _
      | exact LeO.none _
      | refine LeO.ite ?_ ?_
      | refine LeO.bind ?_ (fun _ => ?_)
set_option maxHeartbeats 8000000 in
set_option maxRecDepth 100000 in
theorem spec_oiAdd.calls (k : Nat) (a0_0 : Int) (a0_1 : Int) (a1_0 : Int) (a1_1 : Int) (r1 : Int) (r2 : Int) (w : World) (h : spec_oiAdd.f k a0_0 a0_1 a1_0 a1_1 = some (r1, r2)) :
    Calls Try.prog 293 #[.agg #[.int .i64 a0_0, .int .i64 a0_1], .agg #[.int .i64 a1_0, .int .i64 a1_1]] w fun e w' => e = .returned (.agg #[.int .i64 r1, .int .i64 r2]) ∧ Below w.heap.size w w' := by
  have hu171 := Try.underlying171
  have HB := Aside0.mk (Below.refl w.heap.size w)
  have H : (spec_oiAdd.l0 k a0_1 a1_1 a0_0 a0_1 a1_0 a1_1) = some (r1, r2) := h
  clear h
  have H' := Aside0.mk H
  clear H
  go_enter Try.func293, Try.ntmps293
  go_wp2_with (first | ((with_reducible refine gate_dst (N := 2) rfl ?_); refine box_event ?hg (N := 2) ?hd (cs := #[.int .i64 a0_0, .int .i64 a0_1]) (t := 171) ?hr ?_; (case hd => rfl); (case hg => rfl); (case hr => first | (go_simp; done) | (go_simp; rfl)); intro gb990 hg w3 hbox hb; have n0_ := Aside0.mk (below_step (by repeat (first | (with_reducible first | exact HB.out | apply below_alloc | apply pw_below_drewN | apply below_drew1) | exact HB.out)) hb); have n1_ := Aside0.mk (hbox); have n2_ := Aside0.mk ((by rw [hg]; exact (below_size (by repeat (first | (with_reducible first | exact HB.out | apply below_alloc | apply pw_below_drewN | apply below_drew1) | exact HB.out))) : w.heap.size ≤ gb990)); have n3_ := Aside0.mk ((by rw [hg]; exact (below_size (by repeat (first | (with_reducible first | exact HB.out | apply below_alloc | apply pw_below_drewN | apply below_drew1) | exact HB.out))) : w.heap.size ≤ gb990)); clear HB; have HB := n0_; have BK990 := n1_; have GW990 := n2_; have GE990 := n3_; clear n0_ n1_ n2_ n3_; clear hb hbox hg) | ((with_reducible refine gate_dst (N := 3) rfl ?_); refine box_event ?hg (N := 3) ?hd (cs := #[.int .i64 a1_0, .int .i64 a1_1]) (t := 171) ?hr ?_; (case hd => rfl); (case hg => rfl); (case hr => first | (go_simp; done) | (go_simp; rfl)); intro gb991 hg w4 hbox hb; have n0_ := Aside0.mk (blk_below (g := gb990) (o := .cells #[.int .i64 a0_0, .int .i64 a0_1] 171 (0, 0)) (by (with_reducible repeat (first | refine blk_drewN ?_ _ | refine blk_drew ?_ | refine blk_alloc ?_ _)); exact BK990.out) hb); have n1_ := Aside0.mk (below_step (by repeat (first | (with_reducible first | exact HB.out | apply below_alloc | apply pw_below_drewN | apply below_drew1 | refine below_set ?_ GE990.out) | exact HB.out)) hb); have n2_ := Aside0.mk (hbox); have n3_ := Aside0.mk ((by rw [hg]; exact (below_size (by repeat (first | (with_reducible first | exact HB.out | apply below_alloc | apply pw_below_drewN | apply below_drew1 | refine below_set ?_ GE990.out) | exact HB.out))) : w.heap.size ≤ gb991)); have n4_ := Aside0.mk ((by rw [hg]; exact (below_size (by repeat (first | (with_reducible first | exact HB.out | apply below_alloc | apply pw_below_drewN | apply below_drew1 | refine below_set ?_ GE990.out) | exact HB.out))) : w.heap.size ≤ gb991)); have n5_ := Aside0.mk ((by rw [hg]; exact Nat.ne_of_lt (blk_lt (g := gb990) (o := .cells #[.int .i64 a0_0, .int .i64 a0_1] 171 (0, 0)) (by (with_reducible repeat (first | refine blk_drewN ?_ _ | refine blk_drew ?_ | refine blk_alloc ?_ _)); exact BK990.out)) : gb990 ≠ gb991)); have n6_ := Aside0.mk ((by rw [hg]; exact Nat.ne_of_gt (blk_lt (g := gb990) (o := .cells #[.int .i64 a0_0, .int .i64 a0_1] 171 (0, 0)) (by (with_reducible repeat (first | refine blk_drewN ?_ _ | refine blk_drew ?_ | refine blk_alloc ?_ _)); exact BK990.out)) : gb991 ≠ gb990)); clear BK990; clear HB; have BK990 := n0_; have HB := n1_; have BK991 := n2_; have GW991 := n3_; have GE991 := n4_; have NB990_991 := n5_; have NB991_990 := n6_; clear n0_ n1_ n2_ n3_ n4_ n5_ n6_; clear hb hbox hg) | ((with_reducible refine gate_dst (N := 4) rfl ?_); refine box_event ?hg (N := 4) ?hd (cs := #[.int .i64 0, .int .i64 0]) (t := 171) ?hr ?_; (case hd => rfl); (case hg => rfl); (case hr => first | (go_simp; done) | (go_simp; rfl)); intro gb992 hg w5 hbox hb; have n0_ := Aside0.mk (blk_below (g := gb990) (o := .cells #[.int .i64 a0_0, .int .i64 a0_1] 171 (0, 0)) (by (with_reducible repeat (first | refine blk_drewN ?_ _ | refine blk_drew ?_ | refine blk_alloc ?_ _)); exact BK990.out) hb); have n1_ := Aside0.mk (blk_below (g := gb991) (o := .cells #[.int .i64 a1_0, .int .i64 a1_1] 171 (0, 0)) (by (with_reducible repeat (first | refine blk_drewN ?_ _ | refine blk_drew ?_ | refine blk_alloc ?_ _)); exact BK991.out) hb); have n2_ := Aside0.mk (below_step (by repeat (first | (with_reducible first | exact HB.out | apply below_alloc | apply pw_below_drewN | apply below_drew1 | refine below_set ?_ GE990.out | refine below_set ?_ GE991.out) | exact HB.out)) hb); have n3_ := Aside0.mk (hbox); have n4_ := Aside0.mk ((by rw [hg]; exact (below_size (by repeat (first | (with_reducible first | exact HB.out | apply below_alloc | apply pw_below_drewN | apply below_drew1 | refine below_set ?_ GE990.out | refine below_set ?_ GE991.out) | exact HB.out))) : w.heap.size ≤ gb992)); have n5_ := Aside0.mk ((by rw [hg]; exact (below_size (by repeat (first | (with_reducible first | exact HB.out | apply below_alloc | apply pw_below_drewN | apply below_drew1 | refine below_set ?_ GE990.out | refine below_set ?_ GE991.out) | exact HB.out))) : w.heap.size ≤ gb992)); have n6_ := Aside0.mk ((by rw [hg]; exact Nat.ne_of_lt (blk_lt (g := gb990) (o := .cells #[.int .i64 a0_0, .int .i64 a0_1] 171 (0, 0)) (by (with_reducible repeat (first | refine blk_drewN ?_ _ | refine blk_drew ?_ | refine blk_alloc ?_ _)); exact BK990.out)) : gb990 ≠ gb992)); have n7_ := Aside0.mk ((by rw [hg]; exact Nat.ne_of_gt (blk_lt (g := gb990) (o := .cells #[.int .i64 a0_0, .int .i64 a0_1] 171 (0, 0)) (by (with_reducible repeat (first | refine blk_drewN ?_ _ | refine blk_drew ?_ | refine blk_alloc ?_ _)); exact BK990.out)) : gb992 ≠ gb990)); have n8_ := Aside0.mk ((by rw [hg]; exact Nat.ne_of_lt (blk_lt (g := gb991) (o := .cells #[.int .i64 a1_0, .int .i64 a1_1] 171 (0, 0)) (by (with_reducible repeat (first | refine blk_drewN ?_ _ | refine blk_drew ?_ | refine blk_alloc ?_ _)); exact BK991.out)) : gb991 ≠ gb992)); have n9_ := Aside0.mk ((by rw [hg]; exact Nat.ne_of_gt (blk_lt (g := gb991) (o := .cells #[.int .i64 a1_0, .int .i64 a1_1] 171 (0, 0)) (by (with_reducible repeat (first | refine blk_drewN ?_ _ | refine blk_drew ?_ | refine blk_alloc ?_ _)); exact BK991.out)) : gb992 ≠ gb991)); clear BK990; clear BK991; clear HB; have BK990 := n0_; have BK991 := n1_; have HB := n2_; have BK992 := n3_; have GW992 := n4_; have GE992 := n5_; have NB990_992 := n6_; have NB992_990 := n7_; have NB991_992 := n8_; have NB992_991 := n9_; clear n0_ n1_ n2_ n3_ n4_ n5_ n6_ n7_ n8_ n9_; clear hb hbox hg; have hnb6 := NB990_991.out; have hnc6 := NB991_990.out; have hnb7 := NB990_992.out; have hnc7 := NB992_990.out; have hcz8_0 : w5.cell? ⟨gb990, 0, none⟩ = some (.int .i64 a0_0) := (blk_cell BK990.out 0).trans rfl; have hcz8_1 : w5.cell? ⟨gb990, 1, none⟩ = some (.int .i64 a0_1) := (blk_cell BK990.out 1).trans rfl; have hfz8_0 := blk_frozen BK990.out 0; have hfz8_1 := blk_frozen BK990.out 1; have hnb9 := NB991_992.out; have hnc9 := NB992_991.out; have hcz10_0 : w5.cell? ⟨gb991, 0, none⟩ = some (.int .i64 a1_0) := (blk_cell BK991.out 0).trans rfl; have hcz10_1 : w5.cell? ⟨gb991, 1, none⟩ = some (.int .i64 a1_1) := (blk_cell BK991.out 1).trans rfl; have hfz10_0 := blk_frozen BK991.out 0; have hfz10_1 := blk_frozen BK991.out 1))
  repeat (go_quiet (first | ((with_reducible refine gate_dst (N := 2) rfl ?_); refine box_event ?hg (N := 2) ?hd (cs := #[.int .i64 a0_0, .int .i64 a0_1]) (t := 171) ?hr ?_; (case hd => rfl); (case hg => rfl); (case hr => first | (go_simp; done) | (go_simp; rfl)); intro gb990 hg w3 hbox hb; have n0_ := Aside0.mk (below_step (by repeat (first | (with_reducible first | exact HB.out | apply below_alloc | apply pw_below_drewN | apply below_drew1) | exact HB.out)) hb); have n1_ := Aside0.mk (hbox); have n2_ := Aside0.mk ((by rw [hg]; exact (below_size (by repeat (first | (with_reducible first | exact HB.out | apply below_alloc | apply pw_below_drewN | apply below_drew1) | exact HB.out))) : w.heap.size ≤ gb990)); have n3_ := Aside0.mk ((by rw [hg]; exact (below_size (by repeat (first | (with_reducible first | exact HB.out | apply below_alloc | apply pw_below_drewN | apply below_drew1) | exact HB.out))) : w.heap.size ≤ gb990)); clear HB; have HB := n0_; have BK990 := n1_; have GW990 := n2_; have GE990 := n3_; clear n0_ n1_ n2_ n3_; clear hb hbox hg) | ((with_reducible refine gate_dst (N := 3) rfl ?_); refine box_event ?hg (N := 3) ?hd (cs := #[.int .i64 a1_0, .int .i64 a1_1]) (t := 171) ?hr ?_; (case hd => rfl); (case hg => rfl); (case hr => first | (go_simp; done) | (go_simp; rfl)); intro gb991 hg w4 hbox hb; have n0_ := Aside0.mk (blk_below (g := gb990) (o := .cells #[.int .i64 a0_0, .int .i64 a0_1] 171 (0, 0)) (by (with_reducible repeat (first | refine blk_drewN ?_ _ | refine blk_drew ?_ | refine blk_alloc ?_ _)); exact BK990.out) hb); have n1_ := Aside0.mk (below_step (by repeat (first | (with_reducible first | exact HB.out | apply below_alloc | apply pw_below_drewN | apply below_drew1 | refine below_set ?_ GE990.out) | exact HB.out)) hb); have n2_ := Aside0.mk (hbox); have n3_ := Aside0.mk ((by rw [hg]; exact (below_size (by repeat (first | (with_reducible first | exact HB.out | apply below_alloc | apply pw_below_drewN | apply below_drew1 | refine below_set ?_ GE990.out) | exact HB.out))) : w.heap.size ≤ gb991)); have n4_ := Aside0.mk ((by rw [hg]; exact (below_size (by repeat (first | (with_reducible first | exact HB.out | apply below_alloc | apply pw_below_drewN | apply below_drew1 | refine below_set ?_ GE990.out) | exact HB.out))) : w.heap.size ≤ gb991)); have n5_ := Aside0.mk ((by rw [hg]; exact Nat.ne_of_lt (blk_lt (g := gb990) (o := .cells #[.int .i64 a0_0, .int .i64 a0_1] 171 (0, 0)) (by (with_reducible repeat (first | refine blk_drewN ?_ _ | refine blk_drew ?_ | refine blk_alloc ?_ _)); exact BK990.out)) : gb990 ≠ gb991)); have n6_ := Aside0.mk ((by rw [hg]; exact Nat.ne_of_gt (blk_lt (g := gb990) (o := .cells #[.int .i64 a0_0, .int .i64 a0_1] 171 (0, 0)) (by (with_reducible repeat (first | refine blk_drewN ?_ _ | refine blk_drew ?_ | refine blk_alloc ?_ _)); exact BK990.out)) : gb991 ≠ gb990)); clear BK990; clear HB; have BK990 := n0_; have HB := n1_; have BK991 := n2_; have GW991 := n3_; have GE991 := n4_; have NB990_991 := n5_; have NB991_990 := n6_; clear n0_ n1_ n2_ n3_ n4_ n5_ n6_; clear hb hbox hg) | ((with_reducible refine gate_dst (N := 4) rfl ?_); refine box_event ?hg (N := 4) ?hd (cs := #[.int .i64 0, .int .i64 0]) (t := 171) ?hr ?_; (case hd => rfl); (case hg => rfl); (case hr => first | (go_simp; done) | (go_simp; rfl)); intro gb992 hg w5 hbox hb; have n0_ := Aside0.mk (blk_below (g := gb990) (o := .cells #[.int .i64 a0_0, .int .i64 a0_1] 171 (0, 0)) (by (with_reducible repeat (first | refine blk_drewN ?_ _ | refine blk_drew ?_ | refine blk_alloc ?_ _)); exact BK990.out) hb); have n1_ := Aside0.mk (blk_below (g := gb991) (o := .cells #[.int .i64 a1_0, .int .i64 a1_1] 171 (0, 0)) (by (with_reducible repeat (first | refine blk_drewN ?_ _ | refine blk_drew ?_ | refine blk_alloc ?_ _)); exact BK991.out) hb); have n2_ := Aside0.mk (below_step (by repeat (first | (with_reducible first | exact HB.out | apply below_alloc | apply pw_below_drewN | apply below_drew1 | refine below_set ?_ GE990.out | refine below_set ?_ GE991.out) | exact HB.out)) hb); have n3_ := Aside0.mk (hbox); have n4_ := Aside0.mk ((by rw [hg]; exact (below_size (by repeat (first | (with_reducible first | exact HB.out | apply below_alloc | apply pw_below_drewN | apply below_drew1 | refine below_set ?_ GE990.out | refine below_set ?_ GE991.out) | exact HB.out))) : w.heap.size ≤ gb992)); have n5_ := Aside0.mk ((by rw [hg]; exact (below_size (by repeat (first | (with_reducible first | exact HB.out | apply below_alloc | apply pw_below_drewN | apply below_drew1 | refine below_set ?_ GE990.out | refine below_set ?_ GE991.out) | exact HB.out))) : w.heap.size ≤ gb992)); have n6_ := Aside0.mk ((by rw [hg]; exact Nat.ne_of_lt (blk_lt (g := gb990) (o := .cells #[.int .i64 a0_0, .int .i64 a0_1] 171 (0, 0)) (by (with_reducible repeat (first | refine blk_drewN ?_ _ | refine blk_drew ?_ | refine blk_alloc ?_ _)); exact BK990.out)) : gb990 ≠ gb992)); have n7_ := Aside0.mk ((by rw [hg]; exact Nat.ne_of_gt (blk_lt (g := gb990) (o := .cells #[.int .i64 a0_0, .int .i64 a0_1] 171 (0, 0)) (by (with_reducible repeat (first | refine blk_drewN ?_ _ | refine blk_drew ?_ | refine blk_alloc ?_ _)); exact BK990.out)) : gb992 ≠ gb990)); have n8_ := Aside0.mk ((by rw [hg]; exact Nat.ne_of_lt (blk_lt (g := gb991) (o := .cells #[.int .i64 a1_0, .int .i64 a1_1] 171 (0, 0)) (by (with_reducible repeat (first | refine blk_drewN ?_ _ | refine blk_drew ?_ | refine blk_alloc ?_ _)); exact BK991.out)) : gb991 ≠ gb992)); have n9_ := Aside0.mk ((by rw [hg]; exact Nat.ne_of_gt (blk_lt (g := gb991) (o := .cells #[.int .i64 a1_0, .int .i64 a1_1] 171 (0, 0)) (by (with_reducible repeat (first | refine blk_drewN ?_ _ | refine blk_drew ?_ | refine blk_alloc ?_ _)); exact BK991.out)) : gb992 ≠ gb991)); clear BK990; clear BK991; clear HB; have BK990 := n0_; have BK991 := n1_; have HB := n2_; have BK992 := n3_; have GW992 := n4_; have GE992 := n5_; have NB990_992 := n6_; have NB992_990 := n7_; have NB991_992 := n8_; have NB992_991 := n9_; clear n0_ n1_ n2_ n3_ n4_ n5_ n6_ n7_ n8_ n9_; clear hb hbox hg; have hnb6 := NB990_991.out; have hnc6 := NB991_990.out; have hnb7 := NB990_992.out; have hnc7 := NB992_990.out; have hcz8_0 : w5.cell? ⟨gb990, 0, none⟩ = some (.int .i64 a0_0) := (blk_cell BK990.out 0).trans rfl; have hcz8_1 : w5.cell? ⟨gb990, 1, none⟩ = some (.int .i64 a0_1) := (blk_cell BK990.out 1).trans rfl; have hfz8_0 := blk_frozen BK990.out 0; have hfz8_1 := blk_frozen BK990.out 1; have hnb9 := NB991_992.out; have hnc9 := NB992_991.out; have hcz10_0 : w5.cell? ⟨gb991, 0, none⟩ = some (.int .i64 a1_0) := (blk_cell BK991.out 0).trans rfl; have hcz10_1 : w5.cell? ⟨gb991, 1, none⟩ = some (.int .i64 a1_1) := (blk_cell BK991.out 1).trans rfl; have hfz10_0 := blk_frozen BK991.out 0; have hfz10_1 := blk_frozen BK991.out 1)); try go_wp2_with (first | ((with_reducible refine gate_dst (N := 2) rfl ?_); refine box_event ?hg (N := 2) ?hd (cs := #[.int .i64 a0_0, .int .i64 a0_1]) (t := 171) ?hr ?_; (case hd => rfl); (case hg => rfl); (case hr => first | (go_simp; done) | (go_simp; rfl)); intro gb990 hg w3 hbox hb; have n0_ := Aside0.mk (below_step (by repeat (first | (with_reducible first | exact HB.out | apply below_alloc | apply pw_below_drewN | apply below_drew1) | exact HB.out)) hb); have n1_ := Aside0.mk (hbox); have n2_ := Aside0.mk ((by rw [hg]; exact (below_size (by repeat (first | (with_reducible first | exact HB.out | apply below_alloc | apply pw_below_drewN | apply below_drew1) | exact HB.out))) : w.heap.size ≤ gb990)); have n3_ := Aside0.mk ((by rw [hg]; exact (below_size (by repeat (first | (with_reducible first | exact HB.out | apply below_alloc | apply pw_below_drewN | apply below_drew1) | exact HB.out))) : w.heap.size ≤ gb990)); clear HB; have HB := n0_; have BK990 := n1_; have GW990 := n2_; have GE990 := n3_; clear n0_ n1_ n2_ n3_; clear hb hbox hg) | ((with_reducible refine gate_dst (N := 3) rfl ?_); refine box_event ?hg (N := 3) ?hd (cs := #[.int .i64 a1_0, .int .i64 a1_1]) (t := 171) ?hr ?_; (case hd => rfl); (case hg => rfl); (case hr => first | (go_simp; done) | (go_simp; rfl)); intro gb991 hg w4 hbox hb; have n0_ := Aside0.mk (blk_below (g := gb990) (o := .cells #[.int .i64 a0_0, .int .i64 a0_1] 171 (0, 0)) (by (with_reducible repeat (first | refine blk_drewN ?_ _ | refine blk_drew ?_ | refine blk_alloc ?_ _)); exact BK990.out) hb); have n1_ := Aside0.mk (below_step (by repeat (first | (with_reducible first | exact HB.out | apply below_alloc | apply pw_below_drewN | apply below_drew1 | refine below_set ?_ GE990.out) | exact HB.out)) hb); have n2_ := Aside0.mk (hbox); have n3_ := Aside0.mk ((by rw [hg]; exact (below_size (by repeat (first | (with_reducible first | exact HB.out | apply below_alloc | apply pw_below_drewN | apply below_drew1 | refine below_set ?_ GE990.out) | exact HB.out))) : w.heap.size ≤ gb991)); have n4_ := Aside0.mk ((by rw [hg]; exact (below_size (by repeat (first | (with_reducible first | exact HB.out | apply below_alloc | apply pw_below_drewN | apply below_drew1 | refine below_set ?_ GE990.out) | exact HB.out))) : w.heap.size ≤ gb991)); have n5_ := Aside0.mk ((by rw [hg]; exact Nat.ne_of_lt (blk_lt (g := gb990) (o := .cells #[.int .i64 a0_0, .int .i64 a0_1] 171 (0, 0)) (by (with_reducible repeat (first | refine blk_drewN ?_ _ | refine blk_drew ?_ | refine blk_alloc ?_ _)); exact BK990.out)) : gb990 ≠ gb991)); have n6_ := Aside0.mk ((by rw [hg]; exact Nat.ne_of_gt (blk_lt (g := gb990) (o := .cells #[.int .i64 a0_0, .int .i64 a0_1] 171 (0, 0)) (by (with_reducible repeat (first | refine blk_drewN ?_ _ | refine blk_drew ?_ | refine blk_alloc ?_ _)); exact BK990.out)) : gb991 ≠ gb990)); clear BK990; clear HB; have BK990 := n0_; have HB := n1_; have BK991 := n2_; have GW991 := n3_; have GE991 := n4_; have NB990_991 := n5_; have NB991_990 := n6_; clear n0_ n1_ n2_ n3_ n4_ n5_ n6_; clear hb hbox hg) | ((with_reducible refine gate_dst (N := 4) rfl ?_); refine box_event ?hg (N := 4) ?hd (cs := #[.int .i64 0, .int .i64 0]) (t := 171) ?hr ?_; (case hd => rfl); (case hg => rfl); (case hr => first | (go_simp; done) | (go_simp; rfl)); intro gb992 hg w5 hbox hb; have n0_ := Aside0.mk (blk_below (g := gb990) (o := .cells #[.int .i64 a0_0, .int .i64 a0_1] 171 (0, 0)) (by (with_reducible repeat (first | refine blk_drewN ?_ _ | refine blk_drew ?_ | refine blk_alloc ?_ _)); exact BK990.out) hb); have n1_ := Aside0.mk (blk_below (g := gb991) (o := .cells #[.int .i64 a1_0, .int .i64 a1_1] 171 (0, 0)) (by (with_reducible repeat (first | refine blk_drewN ?_ _ | refine blk_drew ?_ | refine blk_alloc ?_ _)); exact BK991.out) hb); have n2_ := Aside0.mk (below_step (by repeat (first | (with_reducible first | exact HB.out | apply below_alloc | apply pw_below_drewN | apply below_drew1 | refine below_set ?_ GE990.out | refine below_set ?_ GE991.out) | exact HB.out)) hb); have n3_ := Aside0.mk (hbox); have n4_ := Aside0.mk ((by rw [hg]; exact (below_size (by repeat (first | (with_reducible first | exact HB.out | apply below_alloc | apply pw_below_drewN | apply below_drew1 | refine below_set ?_ GE990.out | refine below_set ?_ GE991.out) | exact HB.out))) : w.heap.size ≤ gb992)); have n5_ := Aside0.mk ((by rw [hg]; exact (below_size (by repeat (first | (with_reducible first | exact HB.out | apply below_alloc | apply pw_below_drewN | apply below_drew1 | refine below_set ?_ GE990.out | refine below_set ?_ GE991.out) | exact HB.out))) : w.heap.size ≤ gb992)); have n6_ := Aside0.mk ((by rw [hg]; exact Nat.ne_of_lt (blk_lt (g := gb990) (o := .cells #[.int .i64 a0_0, .int .i64 a0_1] 171 (0, 0)) (by (with_reducible repeat (first | refine blk_drewN ?_ _ | refine blk_drew ?_ | refine blk_alloc ?_ _)); exact BK990.out)) : gb990 ≠ gb992)); have n7_ := Aside0.mk ((by rw [hg]; exact Nat.ne_of_gt (blk_lt (g := gb990) (o := .cells #[.int .i64 a0_0, .int .i64 a0_1] 171 (0, 0)) (by (with_reducible repeat (first | refine blk_drewN ?_ _ | refine blk_drew ?_ | refine blk_alloc ?_ _)); exact BK990.out)) : gb992 ≠ gb990)); have n8_ := Aside0.mk ((by rw [hg]; exact Nat.ne_of_lt (blk_lt (g := gb991) (o := .cells #[.int .i64 a1_0, .int .i64 a1_1] 171 (0, 0)) (by (with_reducible repeat (first | refine blk_drewN ?_ _ | refine blk_drew ?_ | refine blk_alloc ?_ _)); exact BK991.out)) : gb991 ≠ gb992)); have n9_ := Aside0.mk ((by rw [hg]; exact Nat.ne_of_gt (blk_lt (g := gb991) (o := .cells #[.int .i64 a1_0, .int .i64 a1_1] 171 (0, 0)) (by (with_reducible repeat (first | refine blk_drewN ?_ _ | refine blk_drew ?_ | refine blk_alloc ?_ _)); exact BK991.out)) : gb992 ≠ gb991)); clear BK990; clear BK991; clear HB; have BK990 := n0_; have BK991 := n1_; have HB := n2_; have BK992 := n3_; have GW992 := n4_; have GE992 := n5_; have NB990_992 := n6_; have NB992_990 := n7_; have NB991_992 := n8_; have NB992_991 := n9_; clear n0_ n1_ n2_ n3_ n4_ n5_ n6_ n7_ n8_ n9_; clear hb hbox hg; have hnb6 := NB990_991.out; have hnc6 := NB991_990.out; have hnb7 := NB990_992.out; have hnc7 := NB992_990.out; have hcz8_0 : w5.cell? ⟨gb990, 0, none⟩ = some (.int .i64 a0_0) := (blk_cell BK990.out 0).trans rfl; have hcz8_1 : w5.cell? ⟨gb990, 1, none⟩ = some (.int .i64 a0_1) := (blk_cell BK990.out 1).trans rfl; have hfz8_0 := blk_frozen BK990.out 0; have hfz8_1 := blk_frozen BK990.out 1; have hnb9 := NB991_992.out; have hnc9 := NB992_991.out; have hcz10_0 : w5.cell? ⟨gb991, 0, none⟩ = some (.int .i64 a1_0) := (blk_cell BK991.out 0).trans rfl; have hcz10_1 : w5.cell? ⟨gb991, 1, none⟩ = some (.int .i64 a1_1) := (blk_cell BK991.out 1).trans rfl; have hfz10_0 := blk_frozen BK991.out 0; have hfz10_1 := blk_frozen BK991.out 1)))
  go_loopg [5, 6] k (fun kq v5 v6 w' => ∃ (x5_1 : Int) (x6_1 : Int), v5 = .int .i64 x5_1 ∧ v6 = .int .i64 x6_1 ∧ Aside0 (spec_oiAdd.l0 kq x5_1 x6_1 a0_0 a0_1 a1_0 a1_1 = some (r1, r2)) ∧ Aside0 (kq ≤ k) ∧ Aside0 (w'.heap[gb990]? = some (.cells #[.int .i64 a0_0, .int .i64 a0_1] 171 (0, 0))) ∧ Aside0 (w'.heap[gb991]? = some (.cells #[.int .i64 a1_0, .int .i64 a1_1] 171 (0, 0))) ∧ Aside0 (w'.heap[gb992]? = some (.cells #[.int .i64 0, .int .i64 0] 171 (0, 0))) ∧ Aside0 (Below w.heap.size w w'))
  case atStart => exact ⟨(a0_1), (a1_1), (by first | rfl | (simp; done) | (simp [*]; done)), (by first | rfl | (simp; done) | (simp [*]; done)), H', ⟨Nat.le_refl _⟩, ⟨by (with_reducible repeat (first | refine blk_drewN ?_ _ | refine blk_drew ?_ | refine blk_alloc ?_ _)); exact BK990.out⟩, ⟨by (with_reducible repeat (first | refine blk_drewN ?_ _ | refine blk_drew ?_ | refine blk_alloc ?_ _)); exact BK991.out⟩, ⟨by (with_reducible repeat (first | refine blk_drewN ?_ _ | refine blk_drew ?_ | refine blk_alloc ?_ _)); exact BK992.out⟩, ⟨by repeat (first | (with_reducible first | exact HB.out | apply below_alloc | apply pw_below_drewN | apply below_drew1 | refine below_set ?_ GE990.out | refine below_set ?_ GE991.out | refine below_set ?_ GE992.out) | exact HB.out)⟩⟩
  case round =>
    clear H'
    try clear c2
    try clear p2
    try clear c6
    try clear c7
    try clear c9
    try clear hcz10_0
    try clear hcz10_1
    try clear hcz8_0
    try clear hcz8_1
    try clear hfz10_0
    try clear hfz10_1
    try clear hfz8_0
    try clear hfz8_1
    obtain ⟨x5_1, x6_1, rfl, rfl, HA, HK1, BK990, BK991, BK992, HB⟩ := hrel
    cases gk with
    | zero => exact absurd HA.out (by simp [spec_oiAdd.l0])
    | succ k1 =>
      have H := HA.out
      clear HA
      simp only [spec_oiAdd.l0] at H
      by_cases c11 : x6_1 > 0
      · rw [if_pos c11] at H
        have c11b0 : decide (0 < x6_1) = true := decide_eq_true c11
        clear c11
        by_cases c12 : x6_1 = 0
        · rw [if_pos c12] at H
          exact absurd H (by simp)
        · rw [if_neg c12] at H
          have c12b0 : (x6_1 == 0) = false := beq_eq_false_iff_ne.mpr c12
          have c12b1 : (x6_1 != 0) = true := bne_iff_ne.mpr c12
          have H' := Aside0.mk H
          clear H
          go_wp2
          repeat (go_quiet (fail); try go_wp2)
          go_roundg k1
          case measure => have := HK1.out; omega
          case rel => exact ⟨(x6_1), (Int.tmod x5_1 x6_1), (by first | rfl | (simp; done) | (simp [*]; done)), (by first | rfl | (simp; done) | (simp [*]; done)), H', ⟨by have := HK1.out; omega⟩, ⟨by (with_reducible repeat (first | refine blk_drewN ?_ _ | refine blk_drew ?_ | refine blk_alloc ?_ _)); exact BK990.out⟩, ⟨by (with_reducible repeat (first | refine blk_drewN ?_ _ | refine blk_drew ?_ | refine blk_alloc ?_ _)); exact BK991.out⟩, ⟨by (with_reducible repeat (first | refine blk_drewN ?_ _ | refine blk_drew ?_ | refine blk_alloc ?_ _)); exact BK992.out⟩, ⟨by repeat (first | (with_reducible first | exact HB.out | apply below_alloc | apply pw_below_drewN | apply below_drew1 | refine below_set ?_ GE990.out | refine below_set ?_ GE991.out | refine below_set ?_ GE992.out) | exact HB.out)⟩⟩
      · rw [if_neg c11] at H
        have c11b0 : decide (0 < x6_1) = false := decide_eq_false c11
        clear c11
        by_cases c13 : x5_1 = 0
        · rw [if_pos c13] at H
          exact absurd H (by simp)
        · rw [if_neg c13] at H
          have c13b0 : (x5_1 == 0) = false := beq_eq_false_iff_ne.mpr c13
          have c13b1 : (x5_1 != 0) = true := bne_iff_ne.mpr c13
          by_cases c14 : a0_1 = 0
          · rw [if_pos c14] at H
            exact absurd H (by simp)
          · rw [if_neg c14] at H
            have c14b0 : (a0_1 == 0) = false := beq_eq_false_iff_ne.mpr c14
            have c14b1 : (a0_1 != 0) = true := bne_iff_ne.mpr c14
            by_cases c15 : a1_1 = 0
            · rw [if_pos c15] at H
              exact absurd H (by simp)
            · rw [if_neg c15] at H
              have c15b0 : (a1_1 == 0) = false := beq_eq_false_iff_ne.mpr c15
              have c15b1 : (a1_1 != 0) = true := bne_iff_ne.mpr c15
              replace H := Option.bind_eq_some_iff.mp H
              obtain ⟨⟨t993, t994⟩, A160, H⟩ := H
              replace H : (some (t993, t994)) = some (r1, r2) := H
              have A16 := Aside0.mk A160
              clear A160
              simp only [Option.some.injEq, Prod.mk.injEq] at H
              obtain ⟨rfl, rfl⟩ := H
              have hnb17 := NB990_991.out
              have hnc17 := NB991_990.out
              have hnb18 := NB990_992.out
              have hnc18 := NB992_990.out
              have hcz19_0 : wr.cell? ⟨gb990, 0, none⟩ = some (.int .i64 a0_0) := (blk_cell BK990.out 0).trans rfl
              have hcz19_1 : wr.cell? ⟨gb990, 1, none⟩ = some (.int .i64 a0_1) := (blk_cell BK990.out 1).trans rfl
              have hfz19_0 := blk_frozen BK990.out 0
              have hfz19_1 := blk_frozen BK990.out 1
              have hnb20 := NB991_992.out
              have hnc20 := NB992_991.out
              have hcz21_0 : wr.cell? ⟨gb991, 0, none⟩ = some (.int .i64 a1_0) := (blk_cell BK991.out 0).trans rfl
              have hcz21_1 : wr.cell? ⟨gb991, 1, none⟩ = some (.int .i64 a1_1) := (blk_cell BK991.out 1).trans rfl
              have hfz21_0 := blk_frozen BK991.out 0
              have hfz21_1 := blk_frozen BK991.out 1
              try have hcz22_0 : wr.cell? ⟨gb992, 0, none⟩ = some (.int .i64 0) := (blk_cell BK992.out 0).trans rfl
              try have hcz22_1 : wr.cell? ⟨gb992, 1, none⟩ = some (.int .i64 0) := (blk_cell BK992.out 1).trans rfl
              try have hfz22_0 := blk_frozen BK992.out 0
              try have hfz22_1 := blk_frozen BK992.out 1
              go_wp2_with (first | (go_at_call 303; (with_reducible refine (spec_meLow.calls k1 (wrap64 ((wrap64 (a0_0 * (wrap64 (Int.tdiv (wrap64 ((wrap64 (Int.tdiv a0_1 x5_1)) * a1_1)) a0_1)))) + (wrap64 (a1_0 * (wrap64 (Int.tdiv (wrap64 ((wrap64 (Int.tdiv a0_1 x5_1)) * a1_1)) a1_1)))))) (wrap64 ((wrap64 (Int.tdiv a0_1 x5_1)) * a1_1)) t993 t994 _ A16.out).mono ?_); rintro e w' ⟨rfl, ⟨nd, rfl⟩⟩; (try first | exact ⟨rfl, _, World.drewN_drewN _ _ _⟩ | exact ⟨rfl, _, Eq.trans (World.drewN_drewN _ _ _) (congrArg (World.drewN _) (Nat.add_assoc _ _ _))⟩); have hcz22_0 : wr.cell? ⟨gb992, 0, none⟩ = some (.int .i64 0) := (blk_cell BK992.out 0).trans rfl; have hcz22_1 : wr.cell? ⟨gb992, 1, none⟩ = some (.int .i64 0) := (blk_cell BK992.out 1).trans rfl; have hfz22_0 := blk_frozen BK992.out 0; have hfz22_1 := blk_frozen BK992.out 1))
              repeat (go_quiet (first | (go_at_call 303; (with_reducible refine (spec_meLow.calls k1 (wrap64 ((wrap64 (a0_0 * (wrap64 (Int.tdiv (wrap64 ((wrap64 (Int.tdiv a0_1 x5_1)) * a1_1)) a0_1)))) + (wrap64 (a1_0 * (wrap64 (Int.tdiv (wrap64 ((wrap64 (Int.tdiv a0_1 x5_1)) * a1_1)) a1_1)))))) (wrap64 ((wrap64 (Int.tdiv a0_1 x5_1)) * a1_1)) t993 t994 _ A16.out).mono ?_); rintro e w' ⟨rfl, ⟨nd, rfl⟩⟩; have hcz22_0 : wr.cell? ⟨gb992, 0, none⟩ = some (.int .i64 0) := (blk_cell BK992.out 0).trans rfl; have hcz22_1 : wr.cell? ⟨gb992, 1, none⟩ = some (.int .i64 0) := (blk_cell BK992.out 1).trans rfl; have hfz22_0 := blk_frozen BK992.out 0; have hfz22_1 := blk_frozen BK992.out 1; (try first | exact ⟨rfl, _, World.drewN_drewN _ _ _⟩ | exact ⟨rfl, _, Eq.trans (World.drewN_drewN _ _ _) (congrArg (World.drewN _) (Nat.add_assoc _ _ _))⟩))); try go_wp2_with (first | (go_at_call 303; (with_reducible refine (spec_meLow.calls k1 (wrap64 ((wrap64 (a0_0 * (wrap64 (Int.tdiv (wrap64 ((wrap64 (Int.tdiv a0_1 x5_1)) * a1_1)) a0_1)))) + (wrap64 (a1_0 * (wrap64 (Int.tdiv (wrap64 ((wrap64 (Int.tdiv a0_1 x5_1)) * a1_1)) a1_1)))))) (wrap64 ((wrap64 (Int.tdiv a0_1 x5_1)) * a1_1)) t993 t994 _ A16.out).mono ?_); rintro e w' ⟨rfl, ⟨nd, rfl⟩⟩; have hcz22_0 : wr.cell? ⟨gb992, 0, none⟩ = some (.int .i64 0) := (blk_cell BK992.out 0).trans rfl; have hcz22_1 : wr.cell? ⟨gb992, 1, none⟩ = some (.int .i64 0) := (blk_cell BK992.out 1).trans rfl; have hfz22_0 := blk_frozen BK992.out 0; have hfz22_1 := blk_frozen BK992.out 1; (try first | exact ⟨rfl, _, World.drewN_drewN _ _ _⟩ | exact ⟨rfl, _, Eq.trans (World.drewN_drewN _ _ _) (congrArg (World.drewN _) (Nat.add_assoc _ _ _))⟩))))
              refine bodyPost_ret (results_cell_row rfl _ _ gb992 171 #[.int .i64 t993, .int .i64 t994] (0, 0) _ rfl (by (with_reducible repeat (first | refine blk_drewN ?_ _ | refine blk_drew ?_ | refine blk_alloc ?_ _)); refine blk_put (cs := #[.int .i64 t993, .int .i64 0]) ?_ 1 _ rfl; (with_reducible repeat (first | refine blk_drewN ?_ _ | refine blk_drew ?_ | refine blk_alloc ?_ _)); refine blk_put (cs := #[.int .i64 0, .int .i64 0]) ?_ 0 _ rfl; (with_reducible repeat (first | refine blk_drewN ?_ _ | refine blk_drew ?_ | refine blk_alloc ?_ _)); exact BK992.out) Try.underlying171 rfl (by kernel_rfl)) rfl ?_
              exact ⟨by first | rfl | (simp [errW_none, errW_some] <;> rfl) | (simp [*, errW_none, errW_some] <;> rfl), by repeat (first | (with_reducible first | exact HB.out | apply below_alloc | apply pw_below_drewN | apply below_drew1 | refine below_set ?_ GE990.out | refine below_set ?_ GE991.out | refine below_set ?_ GE992.out) | exact HB.out)⟩
end Go.Proofs.Ytgahigmpcgfbeaa.P
end

section
namespace Go.Proofs.Ytgahigmpcgfbeaa.P
open Go.RowKit Go.Proofs.YtgahigmpcgfbeaaW.PrintWords Go.Proofs.YtgahigmpcgfbeaaW.PrintLast Go.Proofs.YtgahigmpcgfbeaaW.PrintMore
attribute [local go_sem] max2_int min2_int max_two min_two max_three min_three max_four min_four
set_option linter.unusedVariables false
set_option linter.unusedSimpArgs false
def spec_oiOver.f (k : Nat) (a0_0 : Int) (a0_1 : Int) (a1 : Int) : Option (Int × Int) := (spec_meLow.f k a0_0 a1).bind fun bt997 => (some (bt997.1, wrap64 (bt997.2 * a0_1)))
theorem spec_oiOver.mono : ∀ a0 a1 a2 k, LeO (spec_oiOver.f k a0 a1 a2) (spec_oiOver.f (k + 1) a0 a1 a2) := by
  intro a0 a1 a2 k
  unfold spec_oiOver.f
  repeat' first
      | (with_reducible exact spec_meLow.mono _ _ _)
      | (with_reducible exact LeO.refl _)
      | (with_reducible exact LeO.none _)
      | (with_reducible refine LeO.ite ?_ ?_)
      | (with_reducible refine LeO.bind ?_ (fun _ => ?_))
      | exact spec_meLow.mono _ _ _
      | exact LeO.none _
      | refine LeO.ite ?_ ?_
      | refine LeO.bind ?_ (fun _ => ?_)
set_option maxHeartbeats 8000000 in
set_option maxRecDepth 100000 in
theorem spec_oiOver.calls (k : Nat) (a0_0 : Int) (a0_1 : Int) (a1 : Int) (r1 : Int) (r2 : Int) (w : World) (h : spec_oiOver.f k a0_0 a0_1 a1 = some (r1, r2)) :
    Calls Try.prog 294 #[.agg #[.int .i64 a0_0, .int .i64 a0_1], .int .i64 a1] w fun e w' => e = .returned (.agg #[.int .i64 r1, .int .i64 r2]) ∧ Below w.heap.size w w' := by
  have hu171 := Try.underlying171
  have HB := Aside0.mk (Below.refl w.heap.size w)
  have H : ((spec_meLow.f k a0_0 a1).bind fun bt997 => (some (bt997.1, wrap64 (bt997.2 * a0_1)))) = some (r1, r2) := h
  clear h
  replace H := Option.bind_eq_some_iff.mp H
  obtain ⟨⟨t997, t998⟩, A30, H⟩ := H
  replace H : (some (t997, wrap64 (t998 * a0_1))) = some (r1, r2) := H
  have A3 := Aside0.mk A30
  clear A30
  simp only [Option.some.injEq, Prod.mk.injEq] at H
  obtain ⟨rfl, rfl⟩ := H
  go_enter Try.func294, Try.ntmps294
  go_wp2_with (first | ((with_reducible refine gate_dst (N := 2) rfl ?_); refine box_event ?hg (N := 2) ?hd (cs := #[.int .i64 a0_0, .int .i64 a0_1]) (t := 171) ?hr ?_; (case hd => rfl); (case hg => rfl); (case hr => first | (go_simp; done) | (go_simp; rfl)); intro gb995 hg w4 hbox hb; have n0_ := Aside0.mk (below_step (by repeat (first | (with_reducible first | exact HB.out | apply below_alloc | apply pw_below_drewN | apply below_drew1) | exact HB.out)) hb); have n1_ := Aside0.mk (hbox); have n2_ := Aside0.mk ((by rw [hg]; exact (below_size (by repeat (first | (with_reducible first | exact HB.out | apply below_alloc | apply pw_below_drewN | apply below_drew1) | exact HB.out))) : w.heap.size ≤ gb995)); have n3_ := Aside0.mk ((by rw [hg]; exact (below_size (by repeat (first | (with_reducible first | exact HB.out | apply below_alloc | apply pw_below_drewN | apply below_drew1) | exact HB.out))) : w.heap.size ≤ gb995)); clear HB; have HB := n0_; have BK995 := n1_; have GW995 := n2_; have GE995 := n3_; clear n0_ n1_ n2_ n3_; clear hb hbox hg) | ((with_reducible refine gate_dst (N := 4) rfl ?_); refine box_event ?hg (N := 4) ?hd (cs := #[.int .i64 0, .int .i64 0]) (t := 171) ?hr ?_; (case hd => rfl); (case hg => rfl); (case hr => first | (go_simp; done) | (go_simp; rfl)); intro gb996 hg w5 hbox hb; have n0_ := Aside0.mk (blk_below (g := gb995) (o := .cells #[.int .i64 a0_0, .int .i64 a0_1] 171 (0, 0)) (by (with_reducible repeat (first | refine blk_drewN ?_ _ | refine blk_drew ?_ | refine blk_alloc ?_ _)); exact BK995.out) hb); have n1_ := Aside0.mk (below_step (by repeat (first | (with_reducible first | exact HB.out | apply below_alloc | apply pw_below_drewN | apply below_drew1 | refine below_set ?_ GE995.out) | exact HB.out)) hb); have n2_ := Aside0.mk (hbox); have n3_ := Aside0.mk ((by rw [hg]; exact (below_size (by repeat (first | (with_reducible first | exact HB.out | apply below_alloc | apply pw_below_drewN | apply below_drew1 | refine below_set ?_ GE995.out) | exact HB.out))) : w.heap.size ≤ gb996)); have n4_ := Aside0.mk ((by rw [hg]; exact (below_size (by repeat (first | (with_reducible first | exact HB.out | apply below_alloc | apply pw_below_drewN | apply below_drew1 | refine below_set ?_ GE995.out) | exact HB.out))) : w.heap.size ≤ gb996)); have n5_ := Aside0.mk ((by rw [hg]; exact Nat.ne_of_lt (blk_lt (g := gb995) (o := .cells #[.int .i64 a0_0, .int .i64 a0_1] 171 (0, 0)) (by (with_reducible repeat (first | refine blk_drewN ?_ _ | refine blk_drew ?_ | refine blk_alloc ?_ _)); exact BK995.out)) : gb995 ≠ gb996)); have n6_ := Aside0.mk ((by rw [hg]; exact Nat.ne_of_gt (blk_lt (g := gb995) (o := .cells #[.int .i64 a0_0, .int .i64 a0_1] 171 (0, 0)) (by (with_reducible repeat (first | refine blk_drewN ?_ _ | refine blk_drew ?_ | refine blk_alloc ?_ _)); exact BK995.out)) : gb996 ≠ gb995)); clear BK995; clear HB; have BK995 := n0_; have HB := n1_; have BK996 := n2_; have GW996 := n3_; have GE996 := n4_; have NB995_996 := n5_; have NB996_995 := n6_; clear n0_ n1_ n2_ n3_ n4_ n5_ n6_; clear hb hbox hg; have hnb6 := NB995_996.out; have hnc6 := NB996_995.out; have hcz7_0 : w5.cell? ⟨gb995, 0, none⟩ = some (.int .i64 a0_0) := (blk_cell BK995.out 0).trans rfl; have hcz7_1 : w5.cell? ⟨gb995, 1, none⟩ = some (.int .i64 a0_1) := (blk_cell BK995.out 1).trans rfl; have hfz7_0 := blk_frozen BK995.out 0; have hfz7_1 := blk_frozen BK995.out 1) | ((with_reducible refine gate_callee (f := 303) rfl ?_); refine goesL_ (some 11) rfl rfl Try.func303 (by kernel_rfl) rfl #[.int .i64 a0_0, .int .i64 a1] rfl (by (try simp only [List.map_toArray, List.map_cons, List.map_nil]); first | done | rfl | (simp only [List.length_drop, List.length_take]; rfl)) ?_; (with_reducible refine (spec_meLow.calls k a0_0 a1 t997 t998 _ A3.out).mono ?_); rintro e w' ⟨rfl, ⟨nd, rfl⟩⟩; refine ⟨_, rfl, ?_⟩; (try (rw [drewN_self w5]; generalize hq_ : World.drewN w5 _ = w5; have n0_ : Aside0 (w5.heap[gb995]? = some (.cells #[.int .i64 a0_0, .int .i64 a0_1] 171 (0, 0))) := ⟨by rw [← hq_]; exact (by (with_reducible repeat (first | refine blk_drewN ?_ _ | refine blk_drew ?_ | refine blk_alloc ?_ _)); exact BK995.out)⟩; have n1_ : Aside0 (w5.heap[gb996]? = some (.cells #[.int .i64 0, .int .i64 0] 171 (0, 0))) := ⟨by rw [← hq_]; exact (by (with_reducible repeat (first | refine blk_drewN ?_ _ | refine blk_drew ?_ | refine blk_alloc ?_ _)); exact BK996.out)⟩; have n2_ : Aside0 (Below w.heap.size w w5) := ⟨by rw [← hq_]; exact (by repeat (first | (with_reducible first | exact HB.out | apply below_alloc | apply pw_below_drewN | apply below_drew1 | refine below_set ?_ GE995.out | refine below_set ?_ GE996.out) | exact HB.out))⟩; clear BK995 BK996 HB hq_; have BK995 := n0_; have BK996 := n1_; have HB := n2_; clear n0_ n1_ n2_)); have hcq1_ : w5.cell? ⟨gb995, 0, none⟩ = some (.int .i64 a0_0) := (blk_cell BK995.out 0).trans rfl; have hcq2_ : w5.cell? ⟨gb995, 1, none⟩ = some (.int .i64 a0_1) := (blk_cell BK995.out 1).trans rfl; have hcz8_0 : w5.cell? ⟨gb996, 0, none⟩ = some (.int .i64 0) := (blk_cell BK996.out 0).trans rfl; have hcz8_1 : w5.cell? ⟨gb996, 1, none⟩ = some (.int .i64 0) := (blk_cell BK996.out 1).trans rfl; have hfz8_0 := blk_frozen BK996.out 0; have hfz8_1 := blk_frozen BK996.out 1))
  refine bodyPost_ret (results_cell_row rfl _ _ gb996 171 #[.int .i64 t997, .int .i64 (wrap64 (t998 * a0_1))] (0, 0) _ rfl (by (with_reducible repeat (first | refine blk_drewN ?_ _ | refine blk_drew ?_ | refine blk_alloc ?_ _)); refine blk_put (cs := #[.int .i64 t997, .int .i64 0]) ?_ 1 _ rfl; (with_reducible repeat (first | refine blk_drewN ?_ _ | refine blk_drew ?_ | refine blk_alloc ?_ _)); refine blk_put (cs := #[.int .i64 0, .int .i64 0]) ?_ 0 _ rfl; (with_reducible repeat (first | refine blk_drewN ?_ _ | refine blk_drew ?_ | refine blk_alloc ?_ _)); exact BK996.out) Try.underlying171 rfl (by kernel_rfl)) rfl ?_
  exact ⟨by first | rfl | (simp [errW_none, errW_some] <;> rfl) | (simp [*, errW_none, errW_some] <;> rfl), by repeat (first | (with_reducible first | exact HB.out | apply below_alloc | apply pw_below_drewN | apply below_drew1 | refine below_set ?_ GE995.out | refine below_set ?_ GE996.out) | exact HB.out)⟩
end Go.Proofs.Ytgahigmpcgfbeaa.P
end

section
namespace Go.Proofs.Ytgahigmpcgfbeaa.P
open Go.RowKit Go.Proofs.YtgahigmpcgfbeaaW.PrintWords Go.Proofs.YtgahigmpcgfbeaaW.PrintLast Go.Proofs.YtgahigmpcgfbeaaW.PrintMore
attribute [local go_sem] max2_int min2_int max_two min_two max_three min_three max_four min_four
set_option linter.unusedVariables false
set_option linter.unusedSimpArgs false
mutual
def spec_oiTable.l0 : Nat → Int → Int → Int → Int → List (S171) → List (List Int) → Int → Option ((List (S171)) × (List (List Int)))
  | 0, _, _, _, _, _, _, _ => none
  | k + 1, x0, x1, x2, x8, x9, x10, x11 => if x11 ≥ 0 then (spec_oiTable.l1 k x0 x1 x2 x8 x9 x10 x11 0) else (some (x9, x10))
def spec_oiTable.l1 : Nat → Int → Int → Int → Int → List (S171) → List (List Int) → Int → Int → Option ((List (S171)) × (List (List Int)))
  | 0, _, _, _, _, _, _, _, _ => none
  | k + 1, x0, x1, x2, x8, x9, x10, x11, x12 => if x12 ≤ x0 then ((spec_l1In.f (wrap64 (x11 - x12)) 0 x0).bind fun t1005 => (if t1005 = true then (if 0 ≤ x1 then (if (x1 : Int).toNat ≤ 35184372088832 then (spec_oiTable.l2 k x0 x1 x2 x8 x9 x10 x11 x12 (wrap64 (x11 - x12)) (wrap64 ((wrap64 (x12 * x8)) + (wrap64 (x11 - x12)))) 0 (List.replicate (x1 : Int).toNat 0) 1 x1 1) else (none)) else (none)) else (spec_oiTable.l1 k x0 x1 x2 x8 x9 x10 x11 (wrap64 (x12 + 1))))) else (spec_oiTable.l0 k x0 x1 x2 x8 x9 x10 (wrap64 (x11 - 1)))
def spec_oiTable.l2 : Nat → Int → Int → Int → Int → List (S171) → List (List Int) → Int → Int → Int → Int → Int → List Int → Int → Int → Int → Option ((List (S171)) × (List (List Int)))
  | 0, _, _, _, _, _, _, _, _, _, _, _, _, _, _, _ => none
  | k + 1, x0, x1, x2, x8, x9, x10, x11, x12, x13, x14, x16, x17, x18, x1007000, x1007001 => if x18 ≤ x1 then ((spec_oiWho.f x9 x0 x2 x12 x13 x18).bind fun t1015 => (if 0 ≤ (wrap64 (x18 - 1)) then (if (wrap64 (x18 - 1)) < (x17.length : Int) then ((some (x17.set ((wrap64 (x18 - 1)) : Int).toNat t1015 : List Int)).bind fun y1016 => (if t1015 < 0 then (spec_oiTable.l2 k x0 x1 x2 x8 x9 x10 x11 x12 x13 x14 x16 y1016 (wrap64 (x18 + 1)) x1007000 x1007001) else ((spec_oiNext.f x12 x13 t1015 x18).bind fun bt1017 => (if 0 ≤ (wrap64 ((wrap64 (bt1017.1 * x8)) + bt1017.2)) then (if (wrap64 ((wrap64 (bt1017.1 * x8)) + bt1017.2)) < (x9.length : Int) then ((spec_oiAdd.f k x1007000 x1007001 ((rd_T171 x9 (wrap64 ((wrap64 (bt1017.1 * x8)) + bt1017.2))).f0) ((rd_T171 x9 (wrap64 ((wrap64 (bt1017.1 * x8)) + bt1017.2))).f1)).bind fun bt1020 => (spec_oiTable.l2 k x0 x1 x2 x8 x9 x10 x11 x12 x13 x14 (wrap64 (x16 + 1)) y1016 (wrap64 (x18 + 1)) bt1020.1 bt1020.2)) else (none)) else (none))))) else (none)) else (none))) else (if 0 ≤ x14 then (if x14 < (x10.length : Int) then ((some (x10.set (x14 : Int).toNat x17 : List (List Int))).bind fun y1010 => (if x14 < (x9.length : Int) then ((some (x9.set (x14 : Int).toNat (⟨0, 1⟩ : S171) : List (S171))).bind fun y1011 => (if x11 < (wrap64 (2 * x0)) then ((spec_oiOver.f k x1007000 x1007001 x16).bind fun bt1012 => (spec_oiTable.l1 k x0 x1 x2 x8 (y1011.set (x14 : Int).toNat (⟨bt1012.1, bt1012.2⟩ : S171)) y1010 x11 (wrap64 (x12 + 1)))) else (spec_oiTable.l1 k x0 x1 x2 x8 y1011 y1010 x11 (wrap64 (x12 + 1))))) else (none))) else (none)) else (none))
end
def spec_oiTable.f (k : Nat) (a0 : Int) (a1 : Int) (a2 : Int) : Option ((List (S171)) × (List (List Int))) := if 0 ≤ (wrap64 ((wrap64 (a0 + 1)) * (wrap64 (a0 + 1)))) then (if (wrap64 ((wrap64 (a0 + 1)) * (wrap64 (a0 + 1))) : Int).toNat ≤ 17592186044416 then (if (wrap64 ((wrap64 (a0 + 1)) * (wrap64 (a0 + 1))) : Int).toNat ≤ 11728124029610 then (spec_oiTable.l0 k a0 a1 a2 (wrap64 (a0 + 1)) (List.replicate (wrap64 ((wrap64 (a0 + 1)) * (wrap64 (a0 + 1))) : Int).toNat z171) (List.replicate (wrap64 ((wrap64 (a0 + 1)) * (wrap64 (a0 + 1))) : Int).toNat []) (wrap64 (2 * a0))) else (none)) else (none)) else (none)
theorem spec_oiTable.mono_l : ∀ k, (∀ y0 y1 y2 y3 y4 y5 y6, LeO (spec_oiTable.l0 k y0 y1 y2 y3 y4 y5 y6) (spec_oiTable.l0 (k + 1) y0 y1 y2 y3 y4 y5 y6)) ∧ (∀ y0 y1 y2 y3 y4 y5 y6 y7, LeO (spec_oiTable.l1 k y0 y1 y2 y3 y4 y5 y6 y7) (spec_oiTable.l1 (k + 1) y0 y1 y2 y3 y4 y5 y6 y7)) ∧ (∀ y0 y1 y2 y3 y4 y5 y6 y7 y8 y9 y10 y11 y12 y13 y14, LeO (spec_oiTable.l2 k y0 y1 y2 y3 y4 y5 y6 y7 y8 y9 y10 y11 y12 y13 y14) (spec_oiTable.l2 (k + 1) y0 y1 y2 y3 y4 y5 y6 y7 y8 y9 y10 y11 y12 y13 y14))
  | 0 => ⟨fun _ _ _ _ _ _ _ r h => by simp [spec_oiTable.l0] at h, fun _ _ _ _ _ _ _ _ r h => by simp [spec_oiTable.l1] at h, fun _ _ _ _ _ _ _ _ _ _ _ _ _ _ _ r h => by simp [spec_oiTable.l2] at h⟩
  | k + 1 => by
    obtain ⟨ih0, ih1, ih2⟩ := spec_oiTable.mono_l k
    refine ⟨?_, ?_, ?_⟩
    · intro y0 y1 y2 y3 y4 y5 y6
      unfold spec_oiTable.l0
      repeat' first
      | (with_reducible exact ih0 _ _ _ _ _ _ _)
      | (with_reducible exact ih1 _ _ _ _ _ _ _ _)
      | (with_reducible exact ih2 _ _ _ _ _ _ _ _ _ _ _ _ _ _ _)
      | (with_reducible exact spec_oiAdd.mono _ _ _ _ _)
      | (with_reducible exact spec_oiOver.mono _ _ _ _)
      | (with_reducible exact LeO.refl _)
      | (with_reducible exact LeO.none _)
      | (with_reducible refine LeO.ite ?_ ?_)
      | (with_reducible refine LeO.bind ?_ (fun _ => ?_))
      | exact ih0 _ _ _ _ _ _ _
      | exact ih1 _ _ _ _ _ _ _ _
      | exact ih2 _ _ _ _ _ _ _ _ _ _ _ _ _ _ _
      | exact spec_oiAdd.mono _ _ _ _ _
      | exact spec_oiOver.mono _ _ _ _
      | exact LeO.none _
      | refine LeO.ite ?_ ?_
      | refine LeO.bind ?_ (fun _ => ?_)
    · intro y0 y1 y2 y3 y4 y5 y6 y7
      unfold spec_oiTable.l1
      repeat' first
      | (with_reducible exact ih0 _ _ _ _ _ _ _)
      | (with_reducible exact ih1 _ _ _ _ _ _ _ _)
      | (with_reducible exact ih2 _ _ _ _ _ _ _ _ _ _ _ _ _ _ _)
      | (with_reducible exact spec_oiAdd.mono _ _ _ _ _)
      | (with_reducible exact spec_oiOver.mono _ _ _ _)
      | (with_reducible exact LeO.refl _)
      | (with_reducible exact LeO.none _)
      | (with_reducible refine LeO.ite ?_ ?_)
      | (with_reducible refine LeO.bind ?_ (fun _ => ?_))
      | exact ih0 _ _ _ _ _ _ _
      | exact ih1 _ _ _ _ _ _ _ _
      | exact ih2 _ _ _ _ _ _ _ _ _ _ _ _ _ _ _
      | exact spec_oiAdd.mono _ _ _ _ _
      | exact spec_oiOver.mono _ _ _ _
      | exact LeO.none _
      | refine LeO.ite ?_ ?_
      | refine LeO.bind ?_ (fun _ => ?_)
    · intro y0 y1 y2 y3 y4 y5 y6 y7 y8 y9 y10 y11 y12 y13 y14
      unfold spec_oiTable.l2
      repeat' first
      | (with_reducible exact ih0 _ _ _ _ _ _ _)
      | (with_reducible exact ih1 _ _ _ _ _ _ _ _)
      | (with_reducible exact ih2 _ _ _ _ _ _ _ _ _ _ _ _ _ _ _)
      | (with_reducible exact spec_oiAdd.mono _ _ _ _ _)
      | (with_reducible exact spec_oiOver.mono _ _ _ _)
      | (with_reducible exact LeO.refl _)
      | (with_reducible exact LeO.none _)
      | (with_reducible refine LeO.ite ?_ ?_)
      | (with_reducible refine LeO.bind ?_ (fun _ => ?_))
      | exact ih0 _ _ _ _ _ _ _
      | exact ih1 _ _ _ _ _ _ _ _
      | exact ih2 _ _ _ _ _ _ _ _ _ _ _ _ _ _ _
      | exact spec_oiAdd.mono _ _ _ _ _
      | exact spec_oiOver.mono _ _ _ _
      | exact LeO.none _
      | refine LeO.ite ?_ ?_
      | refine LeO.bind ?_ (fun _ => ?_)
theorem spec_oiTable.mono : ∀ a0 a1 a2 k, LeO (spec_oiTable.f k a0 a1 a2) (spec_oiTable.f (k + 1) a0 a1 a2) := by
  intro a0 a1 a2 k
  obtain ⟨ih0, ih1, ih2⟩ := spec_oiTable.mono_l k
  unfold spec_oiTable.f
  repeat' first
      | (with_reducible exact ih0 _ _ _ _ _ _ _)
      | (with_reducible exact ih1 _ _ _ _ _ _ _ _)
      | (with_reducible exact ih2 _ _ _ _ _ _ _ _ _ _ _ _ _ _ _)
      | (with_reducible exact spec_oiAdd.mono _ _ _ _ _)
      | (with_reducible exact spec_oiOver.mono _ _ _ _)
      | (with_reducible exact LeO.refl _)
      | (with_reducible exact LeO.none _)
      | (with_reducible refine LeO.ite ?_ ?_)
      | (with_reducible refine LeO.bind ?_ (fun _ => ?_))
      | exact ih0 _ _ _ _ _ _ _
      | exact ih1 _ _ _ _ _ _ _ _
      | exact ih2 _ _ _ _ _ _ _ _ _ _ _ _ _ _ _
      | exact spec_oiAdd.mono _ _ _ _ _
      | exact spec_oiOver.mono _ _ _ _
      | exact LeO.none _
      | refine LeO.ite ?_ ?_
      | refine LeO.bind ?_ (fun _ => ?_)
def spec_oiTable.T22 : Bool × List (List Nat × List Nat) := (true, [([], []), ([], []), ([], []), ([], []), ([2, 3], [2, 3]), ([], []), ([4, 5], [4, 5]), ([1, 6], [1, 6]), ([7], [7]), ([0, 8], [0, 8]), ([9, 9, 0, 1, 2, 3, 4, 5, 6, 7, 8, 9], [9])])
def spec_oiTable.B22 : List Nat := [0, 0, 0, 0, 12, 0, 60, 126, 254, 511, 1023]
theorem spec_oiTable.tab22 : rtab .any (opsOf Try.f253 22) = spec_oiTable.T22 := by kernel_rfl
theorem spec_oiTable.bits22 : waitsOk spec_oiTable.T22.2 spec_oiTable.B22 = true := by kernel_rfl
set_option maxHeartbeats 8000000 in
set_option maxRecDepth 100000 in
theorem spec_oiTable.calls (k : Nat) (a0 : Int) (a1 : Int) (a2 : Int) (r1 : List (S171)) (r2 : List (List Int)) (w : World) (h : spec_oiTable.f k a0 a1 a2 = some (r1, r2)) :
    Calls Try.prog 253 #[.int .i64 a0, .int .i64 a1, .int .i64 a2] w fun e w' => ∃ v0_ v1_ : Value, e = .returned (.tuple #[v0_, v1_]) ∧ Kd.R k171 171 w' w.heap.size (fun _ => True) v0_ r1 ∧ Kd.S (Kd.slice 3 (Kd.int .i64)) 26 w' w.heap.size (fun _ => True) v1_ r2 ∧ Below w.heap.size w w' := by
  have hu171 := Try.underlying171
  have HB := Aside0.mk (Below.refl w.heap.size w)
  have H : (if 0 ≤ (wrap64 ((wrap64 (a0 + 1)) * (wrap64 (a0 + 1)))) then (if (wrap64 ((wrap64 (a0 + 1)) * (wrap64 (a0 + 1))) : Int).toNat ≤ 17592186044416 then (if (wrap64 ((wrap64 (a0 + 1)) * (wrap64 (a0 + 1))) : Int).toNat ≤ 11728124029610 then (spec_oiTable.l0 k a0 a1 a2 (wrap64 (a0 + 1)) (List.replicate (wrap64 ((wrap64 (a0 + 1)) * (wrap64 (a0 + 1))) : Int).toNat z171) (List.replicate (wrap64 ((wrap64 (a0 + 1)) * (wrap64 (a0 + 1))) : Int).toNat []) (wrap64 (2 * a0))) else (none)) else (none)) else (none)) = some (r1, r2) := h
  clear h
  obtain ⟨ji4, hji4⟩ : ∃ j_ : Int, (wrap64 ((wrap64 (a0 + 1)) * (wrap64 (a0 + 1)))) = j_ := ⟨_, rfl⟩
  replace H : (if 0 ≤ (ji4) then (if (ji4 : Int).toNat ≤ 17592186044416 then (if (ji4 : Int).toNat ≤ 11728124029610 then (spec_oiTable.l0 k a0 a1 a2 (wrap64 (a0 + 1)) (List.replicate (ji4 : Int).toNat z171) (List.replicate (ji4 : Int).toNat []) (wrap64 (2 * a0))) else (none)) else (none)) else (none)) = some (r1, r2) := by first | (rw [hji4] at H; exact H) | (simp only [hji4] at H ⊢; exact H)
  have hji4w : (IntKind.i64.wrap ((wrap64 (a0 + 1)) * (wrap64 (a0 + 1)))) = ji4 := (i64_w _).trans hji4
  by_cases c5 : 0 ≤ (ji4)
  · rw [if_pos c5] at H
    have c5b0 := eq_true c5
    have c5b1 : decide (0 ≤ (ji4)) = true := decide_eq_true c5
    clear c5
    by_cases c6 : (ji4 : Int).toNat ≤ 17592186044416
    · rw [if_pos c6] at H
      have c6b0 := eq_true c6
      have c6b1 : decide ((ji4 : Int).toNat ≤ 17592186044416) = true := decide_eq_true c6
      clear c6
      obtain ⟨y999, hy999⟩ : ∃ y_ : List (S171), y_ = (List.replicate (ji4 : Int).toNat z171) := ⟨_, rfl⟩
      replace H : (if (ji4 : Int).toNat ≤ 11728124029610 then (spec_oiTable.l0 k a0 a1 a2 (wrap64 (a0 + 1)) y999 (List.replicate (ji4 : Int).toNat []) (wrap64 (2 * a0))) else (none)) = some (r1, r2) := by first | (rw [hy999]; with_reducible exact H) | (have H2_ := (Option.bind_some _ _).symm.trans H; rw [hy999]; with_reducible exact H2_) | (have H2_ := (Option.bind_some _ _).symm.trans H; with_reducible exact H2_) | with_reducible exact H | (rw [hy999]; exact H) | exact H
      have Ny999 := Aside0.mk hy999
      clear hy999
      by_cases c7 : (ji4 : Int).toNat ≤ 11728124029610
      · rw [if_pos c7] at H
        have c7b0 := eq_true c7
        have c7b1 : decide ((ji4 : Int).toNat ≤ 11728124029610) = true := decide_eq_true c7
        clear c7
        obtain ⟨y1002, hy1002⟩ : ∃ y_ : List (List Int), y_ = (List.replicate (ji4 : Int).toNat []) := ⟨_, rfl⟩
        replace H : (spec_oiTable.l0 k a0 a1 a2 (wrap64 (a0 + 1)) y999 y1002 (wrap64 (2 * a0))) = some (r1, r2) := by first | (rw [hy1002]; with_reducible exact H) | (have H2_ := (Option.bind_some _ _).symm.trans H; rw [hy1002]; with_reducible exact H2_) | (have H2_ := (Option.bind_some _ _).symm.trans H; with_reducible exact H2_) | with_reducible exact H | (rw [hy1002]; exact H) | exact H
        have Ny1002 := Aside0.mk hy1002
        clear hy1002
        have H' := Aside0.mk H
        clear H
        go_enter Try.func253, Try.ntmps253
        go_wp2_with (first | ((with_reducible refine gate_dst (N := 27) rfl ?_); refine Kd.R_make k171 _ 171 rfl (N := 27) rfl 167 _ _ rfl ji4 rfl rfl Try.underlying167 (.agg #[(.int .i64 0), (.int .i64 0)]) 16 info171 rfl (by decide) (by omega) z171 (ok := fun _ => True) (okp := fun _ => True) (k171_mkM _ _ _ z171 ) (fun _ hk => hk) trivial (of_decide_eq_true (by first | (with_reducible assumption) | assumption)) (Nat.le_trans (Nat.mul_le_mul_right _ (of_decide_eq_true (by first | (with_reducible assumption) | assumption) : ji4.toNat ≤ 17592186044416)) (by omega)) (Below.refl _ _) (Nat.le_refl _) ?_; intro v1000 w8 ho9 hb hg_ hnew_; clear hg_ hnew_; (first | rw [← Ny999.out] at ho9 | (simp only [Int.reduceToNat] at ho9; rw [← Ny999.out] at ho9)); have n0_ := Aside0.mk (Kd.R_lower ho9 (below_size (by repeat (first | (with_reducible first | exact HB.out | apply below_alloc | apply pw_below_drewN | apply below_drew1) | exact HB.out)))); have n1_ := Aside0.mk (below_step (by repeat (first | (with_reducible first | exact HB.out | apply below_alloc | apply pw_below_drewN | apply below_drew1) | exact HB.out)) hb); clear HB; have HO1001 := n0_; have HB := n1_; clear n0_ n1_; clear hb ho9) | ((with_reducible refine gate_dst (N := 31) rfl ?_); refine Kd.S_make (Kd.slice 3 (Kd.int .i64)) _ 26 rfl (N := 31) rfl 64 _ _ rfl ji4 rfl rfl Try.underlying64 (.slice none 0 0) 24 info26 rfl (by decide) (by omega) [] (ok := fun _ => True) (okp := fun _ => True) ⟨_, rfl, Kd.R_nil _ _ _ _ _⟩ (fun _ hk => hk) trivial (of_decide_eq_true (by first | (with_reducible assumption) | assumption)) (Nat.le_trans (Nat.mul_le_mul_right _ (of_decide_eq_true (by first | (with_reducible assumption) | assumption) : ji4.toNat ≤ 11728124029610)) (by omega)) (Below.refl _ _) (Nat.le_refl _) ?_; intro v1003 w10 ho11 hb hg_ hnew_; clear hg_ hnew_; (first | rw [← Ny1002.out] at ho11 | (simp only [Int.reduceToNat] at ho11; rw [← Ny1002.out] at ho11)); have n0_ := Aside0.mk (Kd.R_below (by (with_reducible repeat (first | apply Kd.R_alloc | apply Kd.R_drewN | apply Kd.R_drew)); exact HO1001.out) hb); have n1_ := Aside0.mk (Kd.S_lower ho11 (below_size (by repeat (first | (with_reducible first | exact HB.out | apply below_alloc | apply pw_below_drewN | apply below_drew1) | exact HB.out)))); have n2_ := Aside0.mk (below_step (by repeat (first | (with_reducible first | exact HB.out | apply below_alloc | apply pw_below_drewN | apply below_drew1) | exact HB.out)) hb); clear HO1001; clear HB; have HO1001 := n0_; have HO1004 := n1_; have HB := n2_; clear n0_ n1_ n2_; clear hb ho11))
        go_loopg [11] k (fun kq v11 w' => ∃ (x9_1 : List (S171)) (x10_1 : List (List Int)) (x11_1 : Int), v11 = .int .i64 x11_1 ∧ Aside0 (spec_oiTable.l0 kq a0 a1 a2 (wrap64 (a0 + 1)) x9_1 x10_1 x11_1 = some (r1, r2)) ∧ Aside0 (kq ≤ k) ∧ Aside0 (Kd.R k171 171 w' w.heap.size (fun _ => True) v1000 x9_1) ∧ Aside0 (Kd.S (Kd.slice 3 (Kd.int .i64)) 26 w' w.heap.size (fun _ => True) v1003 x10_1) ∧ Aside0 (Below w.heap.size w w'))
        case atStart => exact ⟨(y999), (y1002), (wrap64 (2 * a0)), (by first | rfl | (simp; done) | (simp [*]; done)), H', ⟨Nat.le_refl _⟩, ⟨by (with_reducible repeat (first | apply Kd.R_alloc | apply Kd.R_drewN | apply Kd.R_drew)); exact HO1001.out⟩, ⟨by (with_reducible repeat (first | apply Kd.S_alloc | apply Kd.S_drewN | apply Kd.S_drew)); exact HO1004.out⟩, ⟨by repeat (first | (with_reducible first | exact HB.out | apply below_alloc | apply pw_below_drewN | apply below_drew1) | exact HB.out)⟩⟩
        case round =>
          clear H'
          try clear c2
          try clear p2
          try clear c5
          try clear c5b0
          try clear c5b1
          try clear c6
          try clear c6b0
          try clear c6b1
          try clear p6
          try clear c7
          try clear c7b0
          try clear c7b1
          obtain ⟨x9_1, x10_1, x11_1, rfl, HA, HK1, HO_9, HO_10, HB⟩ := hrel
          cases gk with
          | zero => exact absurd HA.out (by simp [spec_oiTable.l0])
          | succ k1 =>
            have H := HA.out
            clear HA
            simp only [spec_oiTable.l0] at H
            by_cases c12 : x11_1 ≥ 0
            · rw [if_pos c12] at H
              have c12b0 : decide (0 ≤ x11_1) = true := decide_eq_true c12
              clear c12
              have H' := Aside0.mk H
              clear H
              go_wp2
              go_loopg [12] k1 (fun kq v12 w' => ∃ (x9_2 : List (S171)) (x10_2 : List (List Int)) (x12_2 : Int), v12 = .int .i64 x12_2 ∧ Aside0 (spec_oiTable.l1 kq a0 a1 a2 (wrap64 (a0 + 1)) x9_2 x10_2 x11_1 x12_2 = some (r1, r2)) ∧ Aside0 (kq ≤ k1) ∧ Aside0 (Kd.R k171 171 w' w.heap.size (fun _ => True) v1000 x9_2) ∧ Aside0 (Kd.S (Kd.slice 3 (Kd.int .i64)) 26 w' w.heap.size (fun _ => True) v1003 x10_2) ∧ Aside0 (Below w.heap.size w w'))
              case atStart => exact ⟨(x9_1), (x10_1), (0), (by first | rfl | (simp; done) | (simp [*]; done)), H', ⟨Nat.le_refl _⟩, ⟨by (with_reducible repeat (first | apply Kd.R_alloc | apply Kd.R_drewN | apply Kd.R_drew)); exact HO_9.out⟩, ⟨by (with_reducible repeat (first | apply Kd.S_alloc | apply Kd.S_drewN | apply Kd.S_drew)); exact HO_10.out⟩, ⟨by repeat (first | (with_reducible first | exact HB.out | apply below_alloc | apply pw_below_drewN | apply below_drew1) | exact HB.out)⟩⟩
              case round =>
                clear H'
                try clear c1
                try clear c2
                try clear p2
                try clear c5
                try clear c5b0
                try clear c5b1
                try clear c6
                try clear c6b0
                try clear c6b1
                try clear p6
                try clear c7
                try clear c7b0
                try clear c7b1
                try clear c12
                try clear c12b0
                try clear p2
                try clear p6
                obtain ⟨x9_2, x10_2, x12_2, rfl, HA, HK2, HO_9, HO_10, HB⟩ := hrel
                cases gk with
                | zero => exact absurd HA.out (by simp [spec_oiTable.l1])
                | succ k2 =>
                  have H := HA.out
                  clear HA
                  simp only [spec_oiTable.l1] at H
                  by_cases c13 : x12_2 ≤ a0
                  · rw [if_pos c13] at H
                    have c13b0 : decide (x12_2 ≤ a0) = true := decide_eq_true c13
                    clear c13
                    replace H := Option.bind_eq_some_iff.mp H
                    obtain ⟨t1005, A140, H⟩ := H
                    replace H : (if t1005 = true then (if 0 ≤ a1 then (if (a1 : Int).toNat ≤ 35184372088832 then (spec_oiTable.l2 k2 a0 a1 a2 (wrap64 (a0 + 1)) x9_2 x10_2 x11_1 x12_2 (wrap64 (x11_1 - x12_2)) (wrap64 ((wrap64 (x12_2 * (wrap64 (a0 + 1)))) + (wrap64 (x11_1 - x12_2)))) 0 (List.replicate (a1 : Int).toNat 0) 1 a1 1) else (none)) else (none)) else (spec_oiTable.l1 k2 a0 a1 a2 (wrap64 (a0 + 1)) x9_2 x10_2 x11_1 (wrap64 (x12_2 + 1)))) = some (r1, r2) := H
                    have A14 := Aside0.mk A140
                    clear A140
                    by_cases c15 : t1005 = true
                    · subst c15
                      have H1 : (if 0 ≤ a1 then (if (a1 : Int).toNat ≤ 35184372088832 then (spec_oiTable.l2 k2 a0 a1 a2 (wrap64 (a0 + 1)) x9_2 x10_2 x11_1 x12_2 (wrap64 (x11_1 - x12_2)) (wrap64 ((wrap64 (x12_2 * (wrap64 (a0 + 1)))) + (wrap64 (x11_1 - x12_2)))) 0 (List.replicate (a1 : Int).toNat 0) 1 a1 1) else (none)) else (none)) = some (r1, r2) := by rw [if_pos rfl] at H; exact H
                      clear H
                      have H := H1
                      clear H1
                      by_cases c16 : 0 ≤ a1
                      · rw [if_pos c16] at H
                        have c16b0 := eq_true c16
                        have c16b1 : decide (0 ≤ a1) = true := decide_eq_true c16
                        clear c16
                        by_cases c17 : (a1 : Int).toNat ≤ 35184372088832
                        · rw [if_pos c17] at H
                          have c17b0 := eq_true c17
                          have c17b1 : decide ((a1 : Int).toNat ≤ 35184372088832) = true := decide_eq_true c17
                          clear c17
                          obtain ⟨y1007, hy1007⟩ : ∃ y_ : List Int, y_ = (List.replicate (a1 : Int).toNat 0) := ⟨_, rfl⟩
                          replace H : (spec_oiTable.l2 k2 a0 a1 a2 (wrap64 (a0 + 1)) x9_2 x10_2 x11_1 x12_2 (wrap64 (x11_1 - x12_2)) (wrap64 ((wrap64 (x12_2 * (wrap64 (a0 + 1)))) + (wrap64 (x11_1 - x12_2)))) 0 y1007 1 a1 1) = some (r1, r2) := by first | (rw [hy1007]; with_reducible exact H) | (have H2_ := (Option.bind_some _ _).symm.trans H; rw [hy1007]; with_reducible exact H2_) | (have H2_ := (Option.bind_some _ _).symm.trans H; with_reducible exact H2_) | with_reducible exact H | (rw [hy1007]; exact H) | exact H
                          have Ny1007 := Aside0.mk hy1007
                          clear hy1007
                          have H' := Aside0.mk H
                          clear H
                          go_wp2_with (first | ((with_reducible refine gate_callee (f := 180) rfl ?_); refine goesL_ (some 48) rfl rfl Try.func180 (by kernel_rfl) rfl #[.int .i64 (wrap64 (x11_1 - x12_2)), .int .i64 0, .int .i64 a0] rfl (by (try simp only [List.map_toArray, List.map_cons, List.map_nil]); first | done | rfl | (simp only [List.length_drop, List.length_take]; rfl)) ?_; (with_reducible refine (spec_l1In.calls (wrap64 (x11_1 - x12_2)) 0 a0 true _ A14.out).mono ?_); rintro e w' ⟨rfl, ⟨nd, rfl⟩⟩; refine ⟨_, rfl, ?_⟩; (try (rw [drewN_self wr]; generalize hq_ : World.drewN wr _ = wr; have n0_ : Aside0 (Kd.S (Kd.slice 3 (Kd.int .i64)) 26 wr w.heap.size (fun _ => True) v1003 x10_2) := ⟨by rw [← hq_]; exact (by (with_reducible repeat (first | apply Kd.S_alloc | apply Kd.S_drewN | apply Kd.S_drew)); exact HO_10.out)⟩; have n1_ : Aside0 (Kd.R k171 171 wr w.heap.size (fun _ => True) v1000 x9_2) := ⟨by rw [← hq_]; exact (by (with_reducible repeat (first | apply Kd.R_alloc | apply Kd.R_drewN | apply Kd.R_drew)); exact HO_9.out)⟩; have n2_ : Aside0 (Below w.heap.size w wr) := ⟨by rw [← hq_]; exact (by repeat (first | (with_reducible first | exact HB.out | apply below_alloc | apply pw_below_drewN | apply below_drew1) | exact HB.out))⟩; clear HO_10 HO_9 HB hq_; have HO_10 := n0_; have HO_9 := n1_; have HB := n2_; clear n0_ n1_ n2_))) | ((with_reducible refine gate_dst (N := 15) rfl ?_); refine box_event ?hg (N := 15) ?hd (cs := #[.int .i64 0, .int .i64 0]) (t := 171) ?hr ?_; (case hd => rfl); (case hg => rfl); (case hr => first | (go_simp; done) | (go_simp; rfl)); intro gb1006 hg w18 hbox hb; have n0_ := Aside0.mk (Kd.R_below (Kd.R_elderB (by (with_reducible repeat (first | apply Kd.R_alloc | apply Kd.R_drewN | apply Kd.R_drew)); exact HO_9.out) gb1006 (Nat.le_of_eq hg.symm)) hb); have n1_ := Aside0.mk (Kd.S_below (by (with_reducible repeat (first | apply Kd.S_alloc | apply Kd.S_drewN | apply Kd.S_drew)); exact HO_10.out) hb); have n2_ := Aside0.mk (below_step (by repeat (first | (with_reducible first | exact HB.out | apply below_alloc | apply pw_below_drewN | apply below_drew1) | exact HB.out)) hb); have n3_ := Aside0.mk (hbox); have n4_ := Aside0.mk ((by rw [hg]; exact (below_size (by repeat (first | (with_reducible first | exact HB.out | apply below_alloc | apply pw_below_drewN | apply below_drew1) | exact HB.out))) : w.heap.size ≤ gb1006)); have n5_ := Aside0.mk ((by rw [hg]; exact (below_size (by repeat (first | (with_reducible first | exact HB.out | apply below_alloc | apply pw_below_drewN | apply below_drew1) | exact HB.out))) : w.heap.size ≤ gb1006)); clear HO_9; clear HO_10; clear HB; have HO_9 := n0_; have HO_10 := n1_; have HB := n2_; have BK1006 := n3_; have GW1006 := n4_; have GE1006 := n5_; clear n0_ n1_ n2_ n3_ n4_ n5_; clear hb hbox hg; have hcz19_0 : w18.cell? ⟨gb1006, 0, none⟩ = some (.int .i64 0) := (blk_cell BK1006.out 0).trans rfl; have hcz19_1 : w18.cell? ⟨gb1006, 1, none⟩ = some (.int .i64 0) := (blk_cell BK1006.out 1).trans rfl; have hfz19_0 := blk_frozen BK1006.out 0; have hfz19_1 := blk_frozen BK1006.out 1) | ((with_reducible refine gate_dst (N := 58) rfl ?_); refine Kd.R_make (Kd.int .i64) _ 3 rfl (N := 58) rfl 26 _ _ rfl a1 rfl rfl Try.underlying26 (.int .i64 0) 8 info3 rfl (by decide) (by omega) 0 (ok := fun _ => True) (okp := fun _ => True) rfl (fun _ hk => hk) trivial (of_decide_eq_true (by first | (with_reducible assumption) | assumption)) (Nat.le_trans (Nat.mul_le_mul_right _ (of_decide_eq_true (by first | (with_reducible assumption) | assumption) : a1.toNat ≤ 35184372088832)) (by omega)) (Below.refl _ _) (Nat.le_refl _) ?_; intro v1008 w20 ho21 hb hg_ hnew_; clear hg_ hnew_; (first | rw [← Ny1007.out] at ho21 | (simp only [Int.reduceToNat] at ho21; rw [← Ny1007.out] at ho21)); have n0_ := Aside0.mk (Kd.R_below (by (with_reducible repeat (first | apply Kd.R_alloc | apply Kd.R_drewN | apply Kd.R_drew)); exact (Kd.R_mono (Kd.R_far (p := ⟨gb1006, 1, none⟩) (Kd.R_far (p := ⟨gb1006, 0, none⟩) (Kd.R_mono HO_9.out (fun k_ hk => (⟨hk, hk.2⟩ : _ ∧ k_ ≠ gb1006))) (fun _ hk => hk.2) (.int .i64 a1)) (fun _ hk => hk.2) (.int .i64 1)) (fun _ h_ => h_.1))) hb); have n1_ := Aside0.mk (Kd.S_elder' (by (with_reducible repeat (first | apply Kd.S_alloc | apply Kd.S_drewN | apply Kd.S_drew)); exact (Kd.S_mono (Kd.S_far (p := ⟨gb1006, 1, none⟩) (Kd.S_far (p := ⟨gb1006, 0, none⟩) (Kd.S_types HO_10.out BK1006.out (by decide)) (fun _ hk => hk.2) (.int .i64 a1)) (fun _ hk => hk.2) (.int .i64 1)) (fun _ h_ => h_.1))) (Kd.R_base ho21) hb); have n2_ := Aside0.mk (Kd.R_lower ho21 (below_size (by repeat (first | (with_reducible first | exact HB.out | apply below_alloc | apply pw_below_drewN | apply below_drew1 | refine below_set ?_ GE1006.out) | exact HB.out)))); have n3_ := Aside0.mk (blk_below (g := gb1006) (o := .cells #[.int .i64 a1, .int .i64 1] 171 (0, 0)) (by (with_reducible repeat (first | refine blk_drewN ?_ _ | refine blk_drew ?_ | refine blk_alloc ?_ _)); refine blk_put (cs := #[.int .i64 a1, .int .i64 0]) ?_ 1 _ rfl; (with_reducible repeat (first | refine blk_drewN ?_ _ | refine blk_drew ?_ | refine blk_alloc ?_ _)); refine blk_put (cs := #[.int .i64 0, .int .i64 0]) ?_ 0 _ rfl; (with_reducible repeat (first | refine blk_drewN ?_ _ | refine blk_drew ?_ | refine blk_alloc ?_ _)); exact BK1006.out) hb); have n4_ := Aside0.mk (below_step (by repeat (first | (with_reducible first | exact HB.out | apply below_alloc | apply pw_below_drewN | apply below_drew1 | refine below_set ?_ GE1006.out) | exact HB.out)) hb); clear HO_9; clear HO_10; clear BK1006; clear HB; have HO_9 := n0_; have HO_10 := n1_; have HO1009 := n2_; have BK1006 := n3_; have HB := n4_; clear n0_ n1_ n2_ n3_ n4_; clear hb ho21))
                          go_loopg [16, 18] k2 (fun kq v16 v18 w' => ∃ (x16_3 : Int) (x17_3 : List Int) (x18_3 : Int) (x1007000_3 : Int) (x1007001_3 : Int), v16 = .int .i64 x16_3 ∧ v18 = .int .i64 x18_3 ∧ Aside0 (spec_oiTable.l2 kq a0 a1 a2 (wrap64 (a0 + 1)) x9_2 x10_2 x11_1 x12_2 (wrap64 (x11_1 - x12_2)) (wrap64 ((wrap64 (x12_2 * (wrap64 (a0 + 1)))) + (wrap64 (x11_1 - x12_2)))) x16_3 x17_3 x18_3 x1007000_3 x1007001_3 = some (r1, r2)) ∧ Aside0 (kq ≤ k2) ∧ Aside0 (Kd.R k171 171 w' w.heap.size (fun k_ => k_ ≠ gb1006) v1000 x9_2) ∧ Aside0 (Kd.S (Kd.slice 3 (Kd.int .i64)) 26 w' w.heap.size (fun k_ => some k_ ≠ (v1008 : Value).ownBlock) v1003 x10_2) ∧ Aside0 (Kd.R (Kd.int .i64) 3 w' w.heap.size (fun _ => True) v1008 x17_3) ∧ Aside0 (w'.heap[gb1006]? = some (.cells #[.int .i64 x1007000_3, .int .i64 x1007001_3] 171 (0, 0))) ∧ Aside0 (Below w.heap.size w w'))
                          case atStart => exact ⟨(0), (y1007), (1), (a1), (1), (by first | rfl | (simp; done) | (simp [*]; done)), (by first | rfl | (simp; done) | (simp [*]; done)), H', ⟨Nat.le_refl _⟩, ⟨by (with_reducible repeat (first | apply Kd.R_alloc | apply Kd.R_drewN | apply Kd.R_drew)); exact Kd.R_mono HO_9.out (fun _ hk => hk.2)⟩, ⟨by (with_reducible repeat (first | apply Kd.S_alloc | apply Kd.S_drewN | apply Kd.S_drew)); exact Kd.S_mono HO_10.out (fun _ hk => hk.2)⟩, ⟨by (with_reducible repeat (first | apply Kd.R_alloc | apply Kd.R_drewN | apply Kd.R_drew)); exact HO1009.out⟩, ⟨by (with_reducible repeat (first | refine blk_drewN ?_ _ | refine blk_drew ?_ | refine blk_alloc ?_ _)); exact BK1006.out⟩, ⟨by repeat (first | (with_reducible first | exact HB.out | apply below_alloc | apply pw_below_drewN | apply below_drew1 | refine below_set ?_ GE1006.out) | exact HB.out)⟩⟩
                          case round =>
                            clear H'
                            try clear c1
                            try clear c2
                            try clear p2
                            try clear c5
                            try clear c5b0
                            try clear c5b1
                            try clear c6
                            try clear c6b0
                            try clear c6b1
                            try clear p6
                            try clear c7
                            try clear c7b0
                            try clear c7b1
                            try clear c12
                            try clear c12b0
                            try clear c13
                            try clear c13b0
                            try clear c15
                            try clear c16
                            try clear c16b0
                            try clear c16b1
                            try clear c17
                            try clear c17b0
                            try clear c17b1
                            try clear c18
                            try clear hcz19_0
                            try clear hcz19_1
                            try clear hfz19_0
                            try clear hfz19_1
                            try clear p2
                            try clear p6
                            obtain ⟨x16_3, x17_3, x18_3, x1007000_3, x1007001_3, rfl, rfl, HA, HK3, HO_9, HO_10, HO_17, BK1006, HB⟩ := hrel
                            cases gk with
                            | zero => exact absurd HA.out (by simp [spec_oiTable.l2])
                            | succ k3 =>
                              have H := HA.out
                              clear HA
                              simp only [spec_oiTable.l2] at H
                              by_cases c22 : x18_3 ≤ a1
                              · rw [if_pos c22] at H
                                have c22b0 : decide (x18_3 ≤ a1) = true := decide_eq_true c22
                                clear c22
                                replace H := Option.bind_eq_some_iff.mp H
                                obtain ⟨t1015, A230, H⟩ := H
                                replace H : (if 0 ≤ (wrap64 (x18_3 - 1)) then (if (wrap64 (x18_3 - 1)) < (x17_3.length : Int) then ((some (x17_3.set ((wrap64 (x18_3 - 1)) : Int).toNat t1015 : List Int)).bind fun y1016 => (if t1015 < 0 then (spec_oiTable.l2 k3 a0 a1 a2 (wrap64 (a0 + 1)) x9_2 x10_2 x11_1 x12_2 (wrap64 (x11_1 - x12_2)) (wrap64 ((wrap64 (x12_2 * (wrap64 (a0 + 1)))) + (wrap64 (x11_1 - x12_2)))) x16_3 y1016 (wrap64 (x18_3 + 1)) x1007000_3 x1007001_3) else ((spec_oiNext.f x12_2 (wrap64 (x11_1 - x12_2)) t1015 x18_3).bind fun bt1017 => (if 0 ≤ (wrap64 ((wrap64 (bt1017.1 * (wrap64 (a0 + 1)))) + bt1017.2)) then (if (wrap64 ((wrap64 (bt1017.1 * (wrap64 (a0 + 1)))) + bt1017.2)) < (x9_2.length : Int) then ((spec_oiAdd.f k3 x1007000_3 x1007001_3 ((rd_T171 x9_2 (wrap64 ((wrap64 (bt1017.1 * (wrap64 (a0 + 1)))) + bt1017.2))).f0) ((rd_T171 x9_2 (wrap64 ((wrap64 (bt1017.1 * (wrap64 (a0 + 1)))) + bt1017.2))).f1)).bind fun bt1020 => (spec_oiTable.l2 k3 a0 a1 a2 (wrap64 (a0 + 1)) x9_2 x10_2 x11_1 x12_2 (wrap64 (x11_1 - x12_2)) (wrap64 ((wrap64 (x12_2 * (wrap64 (a0 + 1)))) + (wrap64 (x11_1 - x12_2)))) (wrap64 (x16_3 + 1)) y1016 (wrap64 (x18_3 + 1)) bt1020.1 bt1020.2)) else (none)) else (none))))) else (none)) else (none)) = some (r1, r2) := H
                                have A23 := Aside0.mk A230
                                clear A230
                                obtain ⟨ji24, hji24⟩ : ∃ j_ : Int, (wrap64 (x18_3 - 1)) = j_ := ⟨_, rfl⟩
                                replace H : (if 0 ≤ (ji24) then (if (ji24) < (x17_3.length : Int) then ((some (x17_3.set ((ji24) : Int).toNat t1015 : List Int)).bind fun y1016 => (if t1015 < 0 then (spec_oiTable.l2 k3 a0 a1 a2 (wrap64 (a0 + 1)) x9_2 x10_2 x11_1 x12_2 (wrap64 (x11_1 - x12_2)) (wrap64 ((wrap64 (x12_2 * (wrap64 (a0 + 1)))) + (wrap64 (x11_1 - x12_2)))) x16_3 y1016 (wrap64 (x18_3 + 1)) x1007000_3 x1007001_3) else ((spec_oiNext.f x12_2 (wrap64 (x11_1 - x12_2)) t1015 x18_3).bind fun bt1017 => (if 0 ≤ (wrap64 ((wrap64 (bt1017.1 * (wrap64 (a0 + 1)))) + bt1017.2)) then (if (wrap64 ((wrap64 (bt1017.1 * (wrap64 (a0 + 1)))) + bt1017.2)) < (x9_2.length : Int) then ((spec_oiAdd.f k3 x1007000_3 x1007001_3 ((rd_T171 x9_2 (wrap64 ((wrap64 (bt1017.1 * (wrap64 (a0 + 1)))) + bt1017.2))).f0) ((rd_T171 x9_2 (wrap64 ((wrap64 (bt1017.1 * (wrap64 (a0 + 1)))) + bt1017.2))).f1)).bind fun bt1020 => (spec_oiTable.l2 k3 a0 a1 a2 (wrap64 (a0 + 1)) x9_2 x10_2 x11_1 x12_2 (wrap64 (x11_1 - x12_2)) (wrap64 ((wrap64 (x12_2 * (wrap64 (a0 + 1)))) + (wrap64 (x11_1 - x12_2)))) (wrap64 (x16_3 + 1)) y1016 (wrap64 (x18_3 + 1)) bt1020.1 bt1020.2)) else (none)) else (none))))) else (none)) else (none)) = some (r1, r2) := by first | (rw [hji24] at H; exact H) | (simp only [hji24] at H ⊢; exact H)
                                (try rw [hji24] at A23)
                                have hji24w : (IntKind.i64.wrap (x18_3 - 1)) = ji24 := (i64_w _).trans hji24
                                by_cases c25 : 0 ≤ (ji24)
                                · rw [if_pos c25] at H
                                  have c25b0 : decide (0 ≤ (ji24)) = true := decide_eq_true c25
                                  clear c25
                                  by_cases c26 : (ji24) < (x17_3.length : Int)
                                  · rw [if_pos c26] at H
                                    have c26b0 : decide ((ji24) < (x17_3.length : Int)) = true := decide_eq_true c26
                                    clear c26
                                    obtain ⟨y1016, hy1016⟩ : ∃ y_ : List Int, y_ = (x17_3.set ((ji24) : Int).toNat t1015) := ⟨_, rfl⟩
                                    replace H : (if t1015 < 0 then (spec_oiTable.l2 k3 a0 a1 a2 (wrap64 (a0 + 1)) x9_2 x10_2 x11_1 x12_2 (wrap64 (x11_1 - x12_2)) (wrap64 ((wrap64 (x12_2 * (wrap64 (a0 + 1)))) + (wrap64 (x11_1 - x12_2)))) x16_3 y1016 (wrap64 (x18_3 + 1)) x1007000_3 x1007001_3) else ((spec_oiNext.f x12_2 (wrap64 (x11_1 - x12_2)) t1015 x18_3).bind fun bt1017 => (if 0 ≤ (wrap64 ((wrap64 (bt1017.1 * (wrap64 (a0 + 1)))) + bt1017.2)) then (if (wrap64 ((wrap64 (bt1017.1 * (wrap64 (a0 + 1)))) + bt1017.2)) < (x9_2.length : Int) then ((spec_oiAdd.f k3 x1007000_3 x1007001_3 ((rd_T171 x9_2 (wrap64 ((wrap64 (bt1017.1 * (wrap64 (a0 + 1)))) + bt1017.2))).f0) ((rd_T171 x9_2 (wrap64 ((wrap64 (bt1017.1 * (wrap64 (a0 + 1)))) + bt1017.2))).f1)).bind fun bt1020 => (spec_oiTable.l2 k3 a0 a1 a2 (wrap64 (a0 + 1)) x9_2 x10_2 x11_1 x12_2 (wrap64 (x11_1 - x12_2)) (wrap64 ((wrap64 (x12_2 * (wrap64 (a0 + 1)))) + (wrap64 (x11_1 - x12_2)))) (wrap64 (x16_3 + 1)) y1016 (wrap64 (x18_3 + 1)) bt1020.1 bt1020.2)) else (none)) else (none)))) = some (r1, r2) := by first | (rw [hy1016]; with_reducible exact H) | (have H2_ := (Option.bind_some _ _).symm.trans H; rw [hy1016]; with_reducible exact H2_) | (have H2_ := (Option.bind_some _ _).symm.trans H; with_reducible exact H2_) | with_reducible exact H | (rw [hy1016]; exact H) | exact H
                                    have Ny1016 := Aside0.mk hy1016
                                    clear hy1016
                                    by_cases c28 : t1015 < 0
                                    · rw [if_pos c28] at H
                                      have c28b0 : decide (t1015 < 0) = true := decide_eq_true c28
                                      clear c28
                                      have H' := Aside0.mk H
                                      clear H
                                      obtain ⟨Ao29, co29, eo29⟩ := Kd.R_slice HO_9.out
                                      subst eo29
                                      go_wp2_with (first | ((with_reducible refine gate_callee (f := 292) rfl ?_); refine goesL_ (some 70) rfl rfl Try.func292 (by kernel_rfl) rfl #[.slice Ao29 x9_2.length co29, .int .i64 a0, .int .i64 a2, .int .i64 x12_2, .int .i64 (wrap64 (x11_1 - x12_2)), .int .i64 x18_3] rfl (by (try simp only [List.map_toArray, List.map_cons, List.map_nil]); first | done | rfl | (simp only [List.length_drop, List.length_take]; rfl)) ?_; (with_reducible refine (spec_oiWho.calls _ _ x9_2 a0 a2 x12_2 (wrap64 (x11_1 - x12_2)) x18_3 t1015 _ ?side1 ?side2 A23.out).mono ?_); (case side1 => repeat (first | exact (Kd.R_reads' HO_9.out).2.2 | (with_reducible refine Kd.C_alloc ?_ _) | (with_reducible refine Kd.C_drewN ?_ _) | (with_reducible refine Kd.C_drew ?_))); (case side2 => exact (Kd.R_reads' HO_9.out).2.1); rintro e w30 ⟨rfl, hb⟩; refine ⟨_, rfl, ?_⟩; have n0_ := Aside0.mk (Kd.R_below (by (with_reducible repeat (first | apply Kd.R_alloc | apply Kd.R_drewN | apply Kd.R_drew)); exact HO_9.out) hb); have n1_ := Aside0.mk (Kd.S_below (by (with_reducible repeat (first | apply Kd.S_alloc | apply Kd.S_drewN | apply Kd.S_drew)); exact HO_10.out) hb); have n2_ := Aside0.mk (Kd.R_below (by (with_reducible repeat (first | apply Kd.R_alloc | apply Kd.R_drewN | apply Kd.R_drew)); exact HO_17.out) hb); have n3_ := Aside0.mk (blk_below (g := gb1006) (o := .cells #[.int .i64 x1007000_3, .int .i64 x1007001_3] 171 (0, 0)) (by (with_reducible repeat (first | refine blk_drewN ?_ _ | refine blk_drew ?_ | refine blk_alloc ?_ _)); exact BK1006.out) hb); have n4_ := Aside0.mk (below_step (by repeat (first | (with_reducible first | exact HB.out | apply below_alloc | apply pw_below_drewN | apply below_drew1 | refine below_set ?_ GE1006.out) | exact HB.out)) hb); clear HO_9; clear HO_10; clear HO_17; clear BK1006; clear HB; have HO_9 := n0_; have HO_10 := n1_; have HO_17 := n2_; have BK1006 := n3_; have HB := n4_; clear n0_ n1_ n2_ n3_ n4_; (try clear hb); (try clear hb2); (try clear hk); (try clear hi); have p27 : 0 ≤ ((ji24) : Int) := of_decide_eq_true (by first | (with_reducible assumption) | assumption); have q27 : ((ji24) : Int) < ((x17_3.length : Int) : Int) := of_decide_eq_true (by first | (with_reducible assumption) | assumption); obtain ⟨go27, co27, eo27, gb27, gl27, cl27, HG27⟩ := Kd.R_form HO_17.out (by omega); (first | cases eo27 | (injection eo27 with ea_ en_ ec_; (first | subst ea_ | (injection ea_ with ea_; subst ea_)); subst ec_; clear en_)); have GB27 := Aside0.mk gb27; have GG27 := Aside0.mk HG27; clear gb27 gl27 HG27; obtain ⟨hx27_0, hf27_0⟩ := Kd.R_celln 0 HO_17.out ((ji24) : Int) p27 q27; replace p27 := eq_true p27; replace q27 := eq_true q27; obtain ⟨hy31_, hz31_⟩ := Kd.R_celln 0 HO_17.out ((ji24) : Int) (of_decide_eq_true (by first | (with_reducible assumption) | assumption)) (of_decide_eq_true (by first | (with_reducible assumption) | assumption)); have HP31 := Kd.R_putg HO_17.out ((ji24) : Int) t1015) | ((with_reducible refine gate_store (t := 3) (p := 75) rfl ?_); refine store_event (t := 3) (p := 75) (v := ?vo_w32) (w1 := (w30.setCell ⟨go27, ((ji24) : Int).toNat, none⟩ (.int .i64 t1015))) ?hg ?ho ?hn ?hr ?_; (case ho => rfl); (case hg => rfl); (case hn => rfl); (case hr => first | (go_simp; done) | (go_simp; rfl)); intro w32 hw; have hg : w30.grownBy w32 (some go27) := (by rw [hw]; exact HP31.2); have hp_ : Kd.R (Kd.int .i64) 3 w32 w.heap.size (fun _ => True) (.slice (some ⟨go27, 0, none⟩) x17_3.length co27) y1016 := (by rw [hw, Ny1016.out]; exact HP31.1); clear HP31; have n0_ := Aside0.mk (Kd.R_over' (v := (.slice (some ⟨go27, 0, none⟩) x17_3.length co27)) (by (with_reducible repeat (first | apply Kd.R_alloc | apply Kd.R_drewN | apply Kd.R_drew)); exact HO_9.out) (Kd.R_typed HO_17.out) (by decide) hg); have n1_ := Aside0.mk (Kd.S_after (v := (.slice (some ⟨go27, 0, none⟩) x17_3.length co27)) (v1 := (.slice (some ⟨go27, 0, none⟩) x17_3.length co27)) (ok := (fun _ => True)) (by (with_reducible repeat (first | apply Kd.S_alloc | apply Kd.S_drewN | apply Kd.S_drew)); exact Kd.S_mono HO_10.out (fun _ hk => ⟨trivial, hk⟩)) hg (.inl rfl)); have n2_ := Aside0.mk (hp_); have n3_ := Aside0.mk (blk_grown (g := gb1006) (o := .cells #[.int .i64 x1007000_3, .int .i64 x1007001_3] 171 (0, 0)) (by (with_reducible repeat (first | refine blk_drewN ?_ _ | refine blk_drew ?_ | refine blk_alloc ?_ _)); exact BK1006.out) hg (Kd.R_ne HO_17.out BK1006.out (by decide))); have n4_ := Aside0.mk ((by rw [hw]; exact below_set (HB.out) GB27.out : Below w.heap.size w w32)); clear HO_9; clear HO_10; clear HO_17; clear BK1006; clear HB; have HO_9 := n0_; have HO_10 := n1_; have HO_17 := n2_; have BK1006 := n3_; have HB := n4_; clear n0_ n1_ n2_ n3_ n4_; clear hg hw hp_))
                                      go_roundg k3
                                      case measure => have := HK1.out; have := HK2.out; have := HK3.out; omega
                                      case rel => exact ⟨(x16_3), (y1016), (wrap64 (x18_3 + 1)), (x1007000_3), (x1007001_3), (by first | rfl | (simp; done) | (simp [*]; done)), (by first | rfl | (simp; done) | (simp [*]; done)), H', ⟨by have := HK1.out; have := HK2.out; have := HK3.out; omega⟩, ⟨by (with_reducible repeat (first | apply Kd.R_alloc | apply Kd.R_drewN | apply Kd.R_drew)); exact HO_9.out⟩, ⟨by (with_reducible repeat (first | apply Kd.S_alloc | apply Kd.S_drewN | apply Kd.S_drew)); exact Kd.S_mono HO_10.out (fun _ hk => hk.2)⟩, ⟨by (with_reducible repeat (first | apply Kd.R_alloc | apply Kd.R_drewN | apply Kd.R_drew)); exact HO_17.out⟩, ⟨by (with_reducible repeat (first | refine blk_drewN ?_ _ | refine blk_drew ?_ | refine blk_alloc ?_ _)); exact BK1006.out⟩, ⟨by repeat (first | (with_reducible first | exact HB.out | apply below_alloc | apply pw_below_drewN | apply below_drew1 | refine below_set ?_ GE1006.out) | exact HB.out)⟩⟩
                                    · rw [if_neg c28] at H
                                      have c28b0 : decide (t1015 < 0) = false := decide_eq_false c28
                                      clear c28
                                      replace H := Option.bind_eq_some_iff.mp H
                                      obtain ⟨⟨t1017, t1018⟩, A330, H⟩ := H
                                      replace H : (if 0 ≤ (wrap64 ((wrap64 (t1017 * (wrap64 (a0 + 1)))) + t1018)) then (if (wrap64 ((wrap64 (t1017 * (wrap64 (a0 + 1)))) + t1018)) < (x9_2.length : Int) then ((spec_oiAdd.f k3 x1007000_3 x1007001_3 ((rd_T171 x9_2 (wrap64 ((wrap64 (t1017 * (wrap64 (a0 + 1)))) + t1018))).f0) ((rd_T171 x9_2 (wrap64 ((wrap64 (t1017 * (wrap64 (a0 + 1)))) + t1018))).f1)).bind fun bt1020 => (spec_oiTable.l2 k3 a0 a1 a2 (wrap64 (a0 + 1)) x9_2 x10_2 x11_1 x12_2 (wrap64 (x11_1 - x12_2)) (wrap64 ((wrap64 (x12_2 * (wrap64 (a0 + 1)))) + (wrap64 (x11_1 - x12_2)))) (wrap64 (x16_3 + 1)) y1016 (wrap64 (x18_3 + 1)) bt1020.1 bt1020.2)) else (none)) else (none)) = some (r1, r2) := H
                                      have A33 := Aside0.mk A330
                                      clear A330
                                      obtain ⟨ji34, hji34⟩ : ∃ j_ : Int, (wrap64 ((wrap64 (t1017 * (wrap64 (a0 + 1)))) + t1018)) = j_ := ⟨_, rfl⟩
                                      replace H : (if 0 ≤ (ji34) then (if (ji34) < (x9_2.length : Int) then ((spec_oiAdd.f k3 x1007000_3 x1007001_3 ((rd_T171 x9_2 (ji34)).f0) ((rd_T171 x9_2 (ji34)).f1)).bind fun bt1020 => (spec_oiTable.l2 k3 a0 a1 a2 (wrap64 (a0 + 1)) x9_2 x10_2 x11_1 x12_2 (wrap64 (x11_1 - x12_2)) (wrap64 ((wrap64 (x12_2 * (wrap64 (a0 + 1)))) + (wrap64 (x11_1 - x12_2)))) (wrap64 (x16_3 + 1)) y1016 (wrap64 (x18_3 + 1)) bt1020.1 bt1020.2)) else (none)) else (none)) = some (r1, r2) := by first | (rw [hji34] at H; exact H) | (simp only [hji34] at H ⊢; exact H)
                                      (try rw [hji34] at A23)
                                      (try rw [hji34] at A33)
                                      have hji34w : (IntKind.i64.wrap ((wrap64 (t1017 * (wrap64 (a0 + 1)))) + t1018)) = ji34 := (i64_w _).trans hji34
                                      by_cases c35 : 0 ≤ (ji34)
                                      · rw [if_pos c35] at H
                                        have c35b0 : decide (0 ≤ (ji34)) = true := decide_eq_true c35
                                        clear c35
                                        by_cases c36 : (ji34) < (x9_2.length : Int)
                                        · rw [if_pos c36] at H
                                          have c36b0 : decide ((ji34) < (x9_2.length : Int)) = true := decide_eq_true c36
                                          clear c36
                                          replace H := Option.bind_eq_some_iff.mp H
                                          obtain ⟨⟨t1020, t1021⟩, A370, H⟩ := H
                                          replace H : (spec_oiTable.l2 k3 a0 a1 a2 (wrap64 (a0 + 1)) x9_2 x10_2 x11_1 x12_2 (wrap64 (x11_1 - x12_2)) (wrap64 ((wrap64 (x12_2 * (wrap64 (a0 + 1)))) + (wrap64 (x11_1 - x12_2)))) (wrap64 (x16_3 + 1)) y1016 (wrap64 (x18_3 + 1)) t1020 t1021) = some (r1, r2) := H
                                          have A37 := Aside0.mk A370
                                          clear A370
                                          have H' := Aside0.mk H
                                          clear H
                                          obtain ⟨Ao38, co38, eo38⟩ := Kd.R_slice HO_9.out
                                          subst eo38
                                          try go_wp2_with (first | ((with_reducible refine gate_callee (f := 292) rfl ?_); refine goesL_ (some 70) rfl rfl Try.func292 (by kernel_rfl) rfl #[.slice Ao38 x9_2.length co38, .int .i64 a0, .int .i64 a2, .int .i64 x12_2, .int .i64 (wrap64 (x11_1 - x12_2)), .int .i64 x18_3] rfl (by (try simp only [List.map_toArray, List.map_cons, List.map_nil]); first | done | rfl | (simp only [List.length_drop, List.length_take]; rfl)) ?_; (with_reducible refine (spec_oiWho.calls _ _ x9_2 a0 a2 x12_2 (wrap64 (x11_1 - x12_2)) x18_3 t1015 _ ?side1 ?side2 A23.out).mono ?_); (case side1 => repeat (first | exact (Kd.R_reads' HO_9.out).2.2 | (with_reducible refine Kd.C_alloc ?_ _) | (with_reducible refine Kd.C_drewN ?_ _) | (with_reducible refine Kd.C_drew ?_))); (case side2 => exact (Kd.R_reads' HO_9.out).2.1); rintro e w39 ⟨rfl, hb⟩; refine ⟨_, rfl, ?_⟩; have n0_ := Aside0.mk (Kd.R_below (by (with_reducible repeat (first | apply Kd.R_alloc | apply Kd.R_drewN | apply Kd.R_drew)); exact HO_9.out) hb); have n1_ := Aside0.mk (Kd.S_below (by (with_reducible repeat (first | apply Kd.S_alloc | apply Kd.S_drewN | apply Kd.S_drew)); exact HO_10.out) hb); have n2_ := Aside0.mk (Kd.R_below (by (with_reducible repeat (first | apply Kd.R_alloc | apply Kd.R_drewN | apply Kd.R_drew)); exact HO_17.out) hb); have n3_ := Aside0.mk (blk_below (g := gb1006) (o := .cells #[.int .i64 x1007000_3, .int .i64 x1007001_3] 171 (0, 0)) (by (with_reducible repeat (first | refine blk_drewN ?_ _ | refine blk_drew ?_ | refine blk_alloc ?_ _)); exact BK1006.out) hb); have n4_ := Aside0.mk (below_step (by repeat (first | (with_reducible first | exact HB.out | apply below_alloc | apply pw_below_drewN | apply below_drew1 | refine below_set ?_ GE1006.out) | exact HB.out)) hb); clear HO_9; clear HO_10; clear HO_17; clear BK1006; clear HB; have HO_9 := n0_; have HO_10 := n1_; have HO_17 := n2_; have BK1006 := n3_; have HB := n4_; clear n0_ n1_ n2_ n3_ n4_; (try clear hb); (try clear hb2); (try clear hk); (try clear hi); have p27 : 0 ≤ ((ji24) : Int) := of_decide_eq_true (by first | (with_reducible assumption) | assumption); have q27 : ((ji24) : Int) < ((x17_3.length : Int) : Int) := of_decide_eq_true (by first | (with_reducible assumption) | assumption); obtain ⟨go27, co27, eo27, gb27, gl27, cl27, HG27⟩ := Kd.R_form HO_17.out (by omega); (first | cases eo27 | (injection eo27 with ea_ en_ ec_; (first | subst ea_ | (injection ea_ with ea_; subst ea_)); subst ec_; clear en_)); have GB27 := Aside0.mk gb27; have GG27 := Aside0.mk HG27; clear gb27 gl27 HG27; obtain ⟨hx27_0, hf27_0⟩ := Kd.R_celln 0 HO_17.out ((ji24) : Int) p27 q27; replace p27 := eq_true p27; replace q27 := eq_true q27; obtain ⟨hy40_, hz40_⟩ := Kd.R_celln 0 HO_17.out ((ji24) : Int) (of_decide_eq_true (by first | (with_reducible assumption) | assumption)) (of_decide_eq_true (by first | (with_reducible assumption) | assumption)); have HP40 := Kd.R_putg HO_17.out ((ji24) : Int) t1015) | ((with_reducible refine gate_store (t := 3) (p := 75) rfl ?_); refine store_event (t := 3) (p := 75) (v := ?vo_w41) (w1 := (w39.setCell ⟨go27, ((ji24) : Int).toNat, none⟩ (.int .i64 t1015))) ?hg ?ho ?hn ?hr ?_; (case ho => rfl); (case hg => rfl); (case hn => rfl); (case hr => first | (go_simp; done) | (go_simp; rfl)); intro w41 hw; have hg : w39.grownBy w41 (some go27) := (by rw [hw]; exact HP40.2); have hp_ : Kd.R (Kd.int .i64) 3 w41 w.heap.size (fun _ => True) (.slice (some ⟨go27, 0, none⟩) x17_3.length co27) y1016 := (by rw [hw, Ny1016.out]; exact HP40.1); clear HP40; have n0_ := Aside0.mk (Kd.R_over' (v := (.slice (some ⟨go27, 0, none⟩) x17_3.length co27)) (by (with_reducible repeat (first | apply Kd.R_alloc | apply Kd.R_drewN | apply Kd.R_drew)); exact HO_9.out) (Kd.R_typed HO_17.out) (by decide) hg); have n1_ := Aside0.mk (Kd.S_after (v := (.slice (some ⟨go27, 0, none⟩) x17_3.length co27)) (v1 := (.slice (some ⟨go27, 0, none⟩) x17_3.length co27)) (ok := (fun _ => True)) (by (with_reducible repeat (first | apply Kd.S_alloc | apply Kd.S_drewN | apply Kd.S_drew)); exact Kd.S_mono HO_10.out (fun _ hk => ⟨trivial, hk⟩)) hg (.inl rfl)); have n2_ := Aside0.mk (hp_); have n3_ := Aside0.mk (blk_grown (g := gb1006) (o := .cells #[.int .i64 x1007000_3, .int .i64 x1007001_3] 171 (0, 0)) (by (with_reducible repeat (first | refine blk_drewN ?_ _ | refine blk_drew ?_ | refine blk_alloc ?_ _)); exact BK1006.out) hg (Kd.R_ne HO_17.out BK1006.out (by decide))); have n4_ := Aside0.mk ((by rw [hw]; exact below_set (HB.out) GB27.out : Below w.heap.size w w41)); clear HO_9; clear HO_10; clear HO_17; clear BK1006; clear HB; have HO_9 := n0_; have HO_10 := n1_; have HO_17 := n2_; have BK1006 := n3_; have HB := n4_; clear n0_ n1_ n2_ n3_ n4_; clear hg hw hp_) | ((with_reducible refine gate_callee (f := 284) rfl ?_); refine goesL_ (some 83) rfl rfl Try.func284 (by kernel_rfl) rfl #[.int .i64 x12_2, .int .i64 (wrap64 (x11_1 - x12_2)), .int .i64 t1015, .int .i64 x18_3] rfl (by (try simp only [List.map_toArray, List.map_cons, List.map_nil]); first | done | rfl | (simp only [List.length_drop, List.length_take]; rfl)) ?_; (with_reducible refine (spec_oiNext.calls x12_2 (wrap64 (x11_1 - x12_2)) t1015 x18_3 t1017 t1018 _ A33.out).mono ?_); rintro e w' ⟨rfl, ⟨nd, rfl⟩⟩; refine ⟨_, rfl, ?_⟩; (try (rw [drewN_self w41]; generalize hq_ : World.drewN w41 _ = w41; have n0_ : Aside0 (Kd.S (Kd.slice 3 (Kd.int .i64)) 26 w41 w.heap.size (fun k_ => some k_ ≠ (.slice (some ⟨go27, 0, none⟩) x17_3.length co27 : Value).ownBlock) v1003 x10_2) := ⟨by rw [← hq_]; exact (by (with_reducible repeat (first | apply Kd.S_alloc | apply Kd.S_drewN | apply Kd.S_drew)); exact Kd.S_mono HO_10.out (fun _ hk => hk.2))⟩; have n1_ : Aside0 (Kd.R (Kd.int .i64) 3 w41 w.heap.size (fun _ => True) (.slice (some ⟨go27, 0, none⟩) x17_3.length co27) y1016) := ⟨by rw [← hq_]; exact (by (with_reducible repeat (first | apply Kd.R_alloc | apply Kd.R_drewN | apply Kd.R_drew)); exact HO_17.out)⟩; have n2_ : Aside0 (Kd.R k171 171 w41 w.heap.size (fun k_ => k_ ≠ gb1006) (.slice Ao38 x9_2.length co38) x9_2) := ⟨by rw [← hq_]; exact (by (with_reducible repeat (first | apply Kd.R_alloc | apply Kd.R_drewN | apply Kd.R_drew)); exact HO_9.out)⟩; have n3_ : Aside0 (w41.heap[gb1006]? = some (.cells #[.int .i64 x1007000_3, .int .i64 x1007001_3] 171 (0, 0))) := ⟨by rw [← hq_]; exact (by (with_reducible repeat (first | refine blk_drewN ?_ _ | refine blk_drew ?_ | refine blk_alloc ?_ _)); exact BK1006.out)⟩; have n4_ : Aside0 (Below w.heap.size w w41) := ⟨by rw [← hq_]; exact (by repeat (first | (with_reducible first | exact HB.out | apply below_alloc | apply pw_below_drewN | apply below_drew1 | refine below_set ?_ GE1006.out) | exact HB.out))⟩; clear HO_10 HO_17 HO_9 BK1006 HB hq_; have HO_10 := n0_; have HO_17 := n1_; have HO_9 := n2_; have BK1006 := n3_; have HB := n4_; clear n0_ n1_ n2_ n3_ n4_))))
                                          have n0_ := Aside0.mk (Kd.R_drew HO_9.out)
                                          have n1_ := Aside0.mk (Kd.S_drew HO_10.out)
                                          have n2_ := Aside0.mk (Kd.R_drew HO_17.out)
                                          have n3_ := Aside0.mk (blk_drew BK1006.out)
                                          have n4_ := Aside0.mk (below_drew1 HB.out)
                                          clear HO_9
                                          clear HO_10
                                          clear HO_17
                                          clear BK1006
                                          clear HB
                                          have HO_9 := n0_
                                          have HO_10 := n1_
                                          have HO_17 := n2_
                                          have BK1006 := n3_
                                          have HB := n4_
                                          clear n0_ n1_ n2_ n3_ n4_
                                          have p1019 : 0 ≤ ((ji34) : Int) := of_decide_eq_true (by first | (with_reducible assumption) | assumption)
                                          have q1019 : (ji34) < (x9_2.length : Int) := of_decide_eq_true (by first | (with_reducible assumption) | assumption)
                                          obtain ⟨ad1019, e1019, hx1019_0, hx1019_1⟩ := at_T171 (Kd.R_reads' HO_9.out).2.2 (ji34) p1019 q1019
                                          cases e1019
                                          replace p1019 := eq_true p1019
                                          replace q1019 := eq_true q1019
                                          refine start_ (n := 11) (S := fun w' => w'.cell? ⟨gb1006, 0, none⟩ = some (.int .i64 x1007000_3) ∧ w'.cell? ⟨gb1006, 1, none⟩ = some (.int .i64 x1007001_3) ∧ w'.cell? (ad1019.add (((ji34)).toNat * 2)) = some (.int .i64 ((rd_T171 x9_2 (ji34)).f0)) ∧ w'.cell? ⟨(ad1019.add (((ji34)).toNat * 2)).block, (ad1019.add (((ji34)).toNat * 2)).off + 1, none⟩ = some (.int .i64 ((rd_T171 x9_2 (ji34)).f1))) (ds := [10]) #[false, false, false, false, false, false, false, false, false, false, false] (by kernel_rfl) rfl rfl ⟨(blk_cell BK1006.out 0).trans rfl, (blk_cell BK1006.out 1).trans rfl, hx1019_0, hx1019_1⟩ (fun hHeld => ?_); refine with_tabW spec_oiTable.tab22 spec_oiTable.bits22 (fun HT_ HW_ => ?_)
                                          generalize w41.drew = w42 at HO_9 HO_10 HO_17 BK1006 HB hx1019_0 hx1019_1 hHeld ⊢
                                          refine pure_ (i := 1) (N := some 87) (v := ?_) (a' := ?_) #[false, true, false, false, false, false, false, false, false, false, false] rfl rfl (any_of HT_.out (by kernel_rfl)) (fun _ _ _ h => h) (Or.inl ⟨by rfl, ?_⟩) ?_ ?_
                                          rotate_left
                                          · intro w'
                                            go_simp
                                            with_reducible rfl
                                          rotate_left
                                          · simp only [Act.put, List.setIfInBounds_toArray, List.set_cons_zero, List.set_cons_succ, i64_w, i32_w]
                                            rfl
                                          refine pure_ (i := 2) (N := some 88) (v := ?_) (a' := ?_) #[false, true, true, false, false, false, false, false, false, false, false] rfl rfl (any_of HT_.out (by kernel_rfl)) (fun _ _ _ h => h) (Or.inl ⟨by rfl, ?_⟩) ?_ ?_
                                          rotate_left
                                          · intro w'
                                            go_simp
                                            with_reducible rfl
                                          rotate_left
                                          · simp only [Act.put, List.setIfInBounds_toArray, List.set_cons_zero, List.set_cons_succ, i64_w, i32_w]
                                            rfl
                                          refine pure_ (i := 3) (N := some 89) (v := ?_) (a' := ?_) #[false, true, true, true, false, false, false, false, false, false, false] rfl rfl (any_of HT_.out (by kernel_rfl)) (fun _ _ _ h => h) (Or.inl ⟨by rfl, ?_⟩) ?_ ?_
                                          rotate_left
                                          · intro w'
                                            go_simp
                                            with_reducible rfl
                                          rotate_left
                                          · simp only [Act.put, List.setIfInBounds_toArray, List.set_cons_zero, List.set_cons_succ, i64_w, i32_w]
                                            rfl
                                          refine pure_ (i := 4) (N := some 90) (v := ?_) (a' := ?_) #[false, true, true, true, true, false, false, false, false, false, false] rfl rfl (any_of HT_.out (by kernel_rfl)) (fun _ _ _ h => h) (Or.inl ⟨by rfl, ?_⟩) ?_ ?_
                                          rotate_left
                                          · intro w'
                                            go_simp
                                            with_reducible rfl
                                          rotate_left
                                          · simp only [Act.put, List.setIfInBounds_toArray, List.set_cons_zero, List.set_cons_succ, i64_w, i32_w]
                                            rfl
                                          refine pure_ (i := 5) (N := some 91) (v := ?_) (a' := ?_) #[false, true, true, true, true, true, false, false, false, false, false] rfl rfl (any_of HT_.out (by kernel_rfl)) (fun _ _ _ h => h) (Or.inl ⟨by rfl, ?_⟩) ?_ ?_
                                          rotate_left
                                          · intro w'
                                            go_simp
                                            with_reducible rfl
                                          rotate_left
                                          · simp only [Act.put, List.setIfInBounds_toArray, List.set_cons_zero, List.set_cons_succ, i64_w, i32_w]
                                            rfl
                                          refine pure_ (i := 6) (N := some 92) (v := ?_) (a' := ?_) #[false, true, true, true, true, true, true, false, false, false, false] rfl rfl (any_of HT_.out (by kernel_rfl)) (fun _ _ _ h => h) (Or.inl ⟨by rfl, ?_⟩) ?_ ?_
                                          rotate_left
                                          · intro w'
                                            go_simp
                                            with_reducible rfl
                                          rotate_left
                                          · simp only [Act.put, List.setIfInBounds_toArray, List.set_cons_zero, List.set_cons_succ, i64_w, i32_w]
                                            rfl
                                          refine pure_ (i := 7) (N := some 93) (v := ?_) (a' := ?_) #[false, true, true, true, true, true, true, true, false, false, false] rfl rfl (any_of HT_.out (by kernel_rfl)) (fun _ _ _ h => h) (Or.inl ⟨by rfl, ?_⟩) ?_ ?_
                                          rotate_left
                                          · intro w'
                                            go_simp
                                            with_reducible rfl
                                          rotate_left
                                          · simp only [Act.put, List.setIfInBounds_toArray, List.set_cons_zero, List.set_cons_succ, i64_w, i32_w]
                                            rfl
                                          refine take_ (i := 0) (N := some 86) (v := ?_) (a' := ?_) #[true, true, true, true, true, true, true, true, false, false, false] rfl rfl (take_ofW HT_.out HW_.out (by kernel_rfl)) (fun _ _ _ h => h) (Or.inl ⟨by rfl, ?_⟩) hHeld ?_ ?_
                                          rotate_left
                                          · rintro w' ⟨s0, s1, s2, s3⟩
                                            go_simp
                                            with_reducible rfl
                                          rotate_left
                                          · simp only [Act.put, List.setIfInBounds_toArray, List.set_cons_zero, List.set_cons_succ, i64_w, i32_w]
                                            rfl
                                          refine take_ (i := 8) (N := some 94) (v := ?_) (a' := ?_) #[true, true, true, true, true, true, true, true, true, false, false] rfl rfl (take_ofW HT_.out HW_.out (by kernel_rfl)) (fun _ _ _ h => h) (Or.inl ⟨by rfl, ?_⟩) hHeld ?_ ?_
                                          rotate_left
                                          · rintro w' ⟨s0, s1, s2, s3⟩
                                            go_simp
                                            with_reducible rfl
                                          rotate_left
                                          · simp only [Act.put, List.setIfInBounds_toArray, List.set_cons_zero, List.set_cons_succ, i64_w, i32_w]
                                            rfl
                                          refine one_ (i := 9) (N := some 95) #[true, true, true, true, true, true, true, true, true, true, false] rfl rfl (one_of HT_.out (by kernel_rfl)) (by decide) (fun K hK => ?_)
                                          refine goes_ Try.func293 (by kernel_rfl) rfl #[.agg #[.int .i64 x1007000_3, .int .i64 x1007001_3], .agg #[.int .i64 ((rd_T171 x9_2 (ji34)).f0), .int .i64 ((rd_T171 x9_2 (ji34)).f1)]] (by rfl) rfl rfl (by (try simp only [List.map_toArray, List.map_cons, List.map_nil]); first | done | (simp only [hji34]; rfl) | rfl | (simp only [List.length_drop, List.length_take]; rfl)) ?_
                                          with_reducible refine (spec_oiAdd.calls k3 x1007000_3 x1007001_3 ((rd_T171 x9_2 (ji34)).f0) ((rd_T171 x9_2 (ji34)).f1) t1020 t1021 _ A37.out).mono ?_
                                          rintro e w43 ⟨rfl, hb⟩
                                          have HS2_ := (hb.cell (World.block_lt_of_cell? _ _ (hHeld.2.2.1))).trans (hHeld.2.2.1)
                                          have HS3_ := (hb.cell (World.block_lt_of_cell? _ _ (hHeld.2.2.2))).trans (hHeld.2.2.2)
                                          refine ⟨_, rfl, ?_⟩
                                          have n0_ := Aside0.mk (Kd.R_below (by (with_reducible repeat (first | apply Kd.R_alloc | apply Kd.R_drewN | apply Kd.R_drew)); exact HO_9.out) hb)
                                          have n1_ := Aside0.mk (Kd.S_below (by (with_reducible repeat (first | apply Kd.S_alloc | apply Kd.S_drewN | apply Kd.S_drew)); exact HO_10.out) hb)
                                          have n2_ := Aside0.mk (Kd.R_below (by (with_reducible repeat (first | apply Kd.R_alloc | apply Kd.R_drewN | apply Kd.R_drew)); exact HO_17.out) hb)
                                          have n3_ := Aside0.mk (blk_below (g := gb1006) (o := .cells #[.int .i64 x1007000_3, .int .i64 x1007001_3] 171 (0, 0)) (by (with_reducible repeat (first | refine blk_drewN ?_ _ | refine blk_drew ?_ | refine blk_alloc ?_ _)); exact BK1006.out) hb)
                                          have n4_ := Aside0.mk (below_step (by repeat (first | (with_reducible first | exact HB.out | apply below_alloc | apply pw_below_drewN | apply below_drew1 | refine below_set ?_ GE1006.out) | exact HB.out)) hb)
                                          clear HO_9
                                          clear HO_10
                                          clear HO_17
                                          clear BK1006
                                          clear HB
                                          have HO_9 := n0_
                                          have HO_10 := n1_
                                          have HO_17 := n2_
                                          have BK1006 := n3_
                                          have HB := n4_
                                          clear n0_ n1_ n2_ n3_ n4_
                                          (try clear hb)
                                          (try clear hb2)
                                          (try clear hk)
                                          (try clear hi)
                                          refine hK.out _ _ ⟨(blk_cell BK1006.out 0).trans rfl, (blk_cell BK1006.out 1).trans rfl, HS2_, HS3_⟩ (fun hHeld => ?_)
                                          clear hK K
                                          refine norm_ (a' := ?_) ?_ ?_
                                          rotate_left
                                          · show Act.put _ (some 95) _ = _
                                            simp only [Act.put, List.setIfInBounds_toArray, List.set_cons_zero, List.set_cons_succ, i64_w, i32_w]
                                            rfl
                                          refine last_ (i := 10) (N := none) #[true, true, true, true, true, true, true, true, true, true, true] rfl rfl (one_of HT_.out (by kernel_rfl)) (by decide) (fun K hK => ?_)
                                          have hs44 : w43.cell? ⟨gb1006, 0, none⟩ = some (.int .i64 x1007000_3) := (blk_cell BK1006.out 0).trans rfl
                                          have hfs44 := blk_frozen BK1006.out 0
                                          have hs45 : w43.cell? ⟨gb1006, 1, none⟩ = some (.int .i64 x1007001_3) := (blk_cell BK1006.out 1).trans rfl
                                          have hfs45 := blk_frozen BK1006.out 1
                                          refine skip_ (w1 := ?_) (by rfl) rfl ?_ ?_
                                          rotate_left
                                          · go_simp
                                            rfl
                                          refine hK.out _ _ ?_
                                          clear hK K
                                          refine done_ (done_of HT_.out (by kernel_rfl)) ?_
                                          try go_wp2
                                          go_roundg k3
                                          case measure => have := HK1.out; have := HK2.out; have := HK3.out; omega
                                          case rel => exact ⟨(wrap64 (x16_3 + 1)), (y1016), (wrap64 (x18_3 + 1)), (t1020), (t1021), (by first | rfl | (simp; done) | (simp [*]; done)), (by first | rfl | (simp; done) | (simp [*]; done)), H', ⟨by have := HK1.out; have := HK2.out; have := HK3.out; omega⟩, ⟨by (with_reducible repeat (first | apply Kd.R_alloc | apply Kd.R_drewN | apply Kd.R_drew)); exact Kd.R_mono (Kd.R_far (p := ⟨gb1006, 1, none⟩) (Kd.R_far (p := ⟨gb1006, 0, none⟩) (Kd.R_mono HO_9.out (fun k_ hk => (⟨hk, hk⟩ : _ ∧ k_ ≠ gb1006))) (fun _ hk => hk.2) (.int .i64 t1020)) (fun _ hk => hk.2) (.int .i64 t1021)) (fun _ hk => hk.1)⟩, ⟨by (with_reducible repeat (first | apply Kd.S_alloc | apply Kd.S_drewN | apply Kd.S_drew)); exact Kd.S_mono (Kd.S_far (p := ⟨gb1006, 1, none⟩) (Kd.S_far (p := ⟨gb1006, 0, none⟩) (Kd.S_types HO_10.out BK1006.out (by decide)) (fun _ hk => hk.2) (.int .i64 t1020)) (fun _ hk => hk.2) (.int .i64 t1021)) (by intro _ hk; first | exact hk.1.2 | exact hk.1 | exact hk.2 | exact hk.2.1 | exact hk.2.2)⟩, ⟨by (with_reducible repeat (first | apply Kd.R_alloc | apply Kd.R_drewN | apply Kd.R_drew)); exact Kd.R_mono (Kd.R_far (p := ⟨gb1006, 1, none⟩) (Kd.R_far (p := ⟨gb1006, 0, none⟩) (Kd.R_types HO_17.out BK1006.out (by decide)) (fun _ hk => hk.2) (.int .i64 t1020)) (fun _ hk => hk.2) (.int .i64 t1021)) (fun _ hk => trivial)⟩, ⟨by (with_reducible repeat (first | refine blk_drewN ?_ _ | refine blk_drew ?_ | refine blk_alloc ?_ _)); refine blk_put (cs := #[.int .i64 t1020, .int .i64 x1007001_3]) ?_ 1 _ rfl; (with_reducible repeat (first | refine blk_drewN ?_ _ | refine blk_drew ?_ | refine blk_alloc ?_ _)); refine blk_put (cs := #[.int .i64 x1007000_3, .int .i64 x1007001_3]) ?_ 0 _ rfl; (with_reducible repeat (first | refine blk_drewN ?_ _ | refine blk_drew ?_ | refine blk_alloc ?_ _)); exact BK1006.out⟩, ⟨by repeat (first | (with_reducible first | exact HB.out | apply below_alloc | apply pw_below_drewN | apply below_drew1 | refine below_set ?_ GE1006.out) | exact HB.out)⟩⟩
                                        · rw [if_neg c36] at H
                                          exact absurd H (by simp)
                                      · rw [if_neg c35] at H
                                        exact absurd H (by simp)
                                  · rw [if_neg c26] at H
                                    exact absurd H (by simp)
                                · rw [if_neg c25] at H
                                  exact absurd H (by simp)
                              · rw [if_neg c22] at H
                                have c22b0 : decide (x18_3 ≤ a1) = false := decide_eq_false c22
                                clear c22
                                obtain ⟨ji46, hji46⟩ : ∃ j_ : Int, (wrap64 ((wrap64 (x12_2 * (wrap64 (a0 + 1)))) + (wrap64 (x11_1 - x12_2)))) = j_ := ⟨_, rfl⟩
                                replace H : (if 0 ≤ (ji46) then (if (ji46) < (x10_2.length : Int) then ((some (x10_2.set ((ji46) : Int).toNat x17_3 : List (List Int))).bind fun y1010 => (if (ji46) < (x9_2.length : Int) then ((some (x9_2.set ((ji46) : Int).toNat (⟨0, 1⟩ : S171) : List (S171))).bind fun y1011 => (if x11_1 < (wrap64 (2 * a0)) then ((spec_oiOver.f k3 x1007000_3 x1007001_3 x16_3).bind fun bt1012 => (spec_oiTable.l1 k3 a0 a1 a2 (wrap64 (a0 + 1)) (y1011.set ((ji46) : Int).toNat (⟨bt1012.1, bt1012.2⟩ : S171)) y1010 x11_1 (wrap64 (x12_2 + 1)))) else (spec_oiTable.l1 k3 a0 a1 a2 (wrap64 (a0 + 1)) y1011 y1010 x11_1 (wrap64 (x12_2 + 1))))) else (none))) else (none)) else (none)) = some (r1, r2) := by first | (rw [hji46] at H; exact H) | (simp only [hji46] at H ⊢; exact H)
                                have hji46w : (IntKind.i64.wrap ((wrap64 (x12_2 * (wrap64 (a0 + 1)))) + (wrap64 (x11_1 - x12_2)))) = ji46 := (i64_w _).trans hji46
                                by_cases c47 : 0 ≤ (ji46)
                                · rw [if_pos c47] at H
                                  have c47b0 : decide (0 ≤ (ji46)) = true := decide_eq_true c47
                                  clear c47
                                  by_cases c48 : (ji46) < (x10_2.length : Int)
                                  · rw [if_pos c48] at H
                                    have c48b0 : decide ((ji46) < (x10_2.length : Int)) = true := decide_eq_true c48
                                    clear c48
                                    obtain ⟨y1010, hy1010⟩ : ∃ y_ : List (List Int), y_ = (x10_2.set ((ji46) : Int).toNat x17_3) := ⟨_, rfl⟩
                                    replace H : (if (ji46) < (x9_2.length : Int) then ((some (x9_2.set ((ji46) : Int).toNat (⟨0, 1⟩ : S171) : List (S171))).bind fun y1011 => (if x11_1 < (wrap64 (2 * a0)) then ((spec_oiOver.f k3 x1007000_3 x1007001_3 x16_3).bind fun bt1012 => (spec_oiTable.l1 k3 a0 a1 a2 (wrap64 (a0 + 1)) (y1011.set ((ji46) : Int).toNat (⟨bt1012.1, bt1012.2⟩ : S171)) y1010 x11_1 (wrap64 (x12_2 + 1)))) else (spec_oiTable.l1 k3 a0 a1 a2 (wrap64 (a0 + 1)) y1011 y1010 x11_1 (wrap64 (x12_2 + 1))))) else (none)) = some (r1, r2) := by first | (rw [hy1010]; with_reducible exact H) | (have H2_ := (Option.bind_some _ _).symm.trans H; rw [hy1010]; with_reducible exact H2_) | (have H2_ := (Option.bind_some _ _).symm.trans H; with_reducible exact H2_) | with_reducible exact H | (rw [hy1010]; exact H) | exact H
                                    have Ny1010 := Aside0.mk hy1010
                                    clear hy1010
                                    by_cases c50 : (ji46) < (x9_2.length : Int)
                                    · rw [if_pos c50] at H
                                      have c50b0 : decide ((ji46) < (x9_2.length : Int)) = true := decide_eq_true c50
                                      clear c50
                                      obtain ⟨y1011, hy1011⟩ : ∃ y_ : List (S171), y_ = (x9_2.set ((ji46) : Int).toNat (⟨0, 1⟩ : S171)) := ⟨_, rfl⟩
                                      replace H : (if x11_1 < (wrap64 (2 * a0)) then ((spec_oiOver.f k3 x1007000_3 x1007001_3 x16_3).bind fun bt1012 => (spec_oiTable.l1 k3 a0 a1 a2 (wrap64 (a0 + 1)) (y1011.set ((ji46) : Int).toNat (⟨bt1012.1, bt1012.2⟩ : S171)) y1010 x11_1 (wrap64 (x12_2 + 1)))) else (spec_oiTable.l1 k3 a0 a1 a2 (wrap64 (a0 + 1)) y1011 y1010 x11_1 (wrap64 (x12_2 + 1)))) = some (r1, r2) := by first | (rw [hy1011]; with_reducible exact H) | (have H2_ := (Option.bind_some _ _).symm.trans H; rw [hy1011]; with_reducible exact H2_) | (have H2_ := (Option.bind_some _ _).symm.trans H; with_reducible exact H2_) | with_reducible exact H | (rw [hy1011]; exact H) | exact H
                                      have Ny1011 := Aside0.mk hy1011
                                      clear hy1011
                                      by_cases c52 : x11_1 < (wrap64 (2 * a0))
                                      · rw [if_pos c52] at H
                                        have c52b0 : decide (x11_1 < (wrap64 (2 * a0))) = true := decide_eq_true c52
                                        clear c52
                                        replace H := Option.bind_eq_some_iff.mp H
                                        obtain ⟨⟨t1012, t1013⟩, A530, H⟩ := H
                                        replace H : (spec_oiTable.l1 k3 a0 a1 a2 (wrap64 (a0 + 1)) (y1011.set ((ji46) : Int).toNat (⟨t1012, t1013⟩ : S171)) y1010 x11_1 (wrap64 (x12_2 + 1))) = some (r1, r2) := H
                                        have A53 := Aside0.mk A530
                                        clear A530
                                        obtain ⟨y1014, hy1014⟩ : ∃ y_ : List (S171), y_ = (y1011.set ((ji46) : Int).toNat (⟨t1012, t1013⟩ : S171)) := ⟨_, rfl⟩
                                        replace H : (spec_oiTable.l1 k3 a0 a1 a2 (wrap64 (a0 + 1)) y1014 y1010 x11_1 (wrap64 (x12_2 + 1))) = some (r1, r2) := by first | (rw [hy1014]; with_reducible exact H) | (have H2_ := (Option.bind_some _ _).symm.trans H; rw [hy1014]; with_reducible exact H2_) | (have H2_ := (Option.bind_some _ _).symm.trans H; with_reducible exact H2_) | with_reducible exact H | (rw [hy1014]; exact H) | exact H
                                        have Ny1014 := Aside0.mk hy1014
                                        clear hy1014
                                        have H' := Aside0.mk H
                                        clear H
                                        have p49 : 0 ≤ ((ji46) : Int) := of_decide_eq_true (by first | (with_reducible assumption) | assumption)
                                        have q49 : ((ji46) : Int) < ((x10_2.length : Int) : Int) := of_decide_eq_true (by first | (with_reducible assumption) | assumption)
                                        obtain ⟨go49, co49, eo49, gb49, gl49, cl49, HG49⟩ := Kd.S_form HO_10.out (by omega)
                                        (first | cases eo49 | (injection eo49 with ea_ en_ ec_; (first | subst ea_ | (injection ea_ with ea_; subst ea_)); subst ec_; clear en_))
                                        have GB49 := Aside0.mk gb49
                                        have GG49 := Aside0.mk HG49
                                        clear gb49 gl49 HG49
                                        obtain ⟨_, ce49, hcl49, hM49, hcc49, hfr49, _, _⟩ := Kd.S_elem HO_10.out [] ((ji46) : Int) p49 q49
                                        obtain ⟨ve49_0, rfl, ge49_0⟩ := hM49
                                        have hx49_0 := hcc49 0 _ rfl
                                        have hf49_0 := hfr49 0
                                        (try simp only [show ((Kd.slice 3 (Kd.int .i64))).sz = 1 from rfl, Nat.mul_one, Nat.add_zero] at hx49_0)
                                        (try simp only [show ((Kd.slice 3 (Kd.int .i64))).sz = 1 from rfl, Nat.mul_one, Nat.add_zero] at hf49_0)
                                        try clear hM49
                                        clear hcl49 hcc49 hfr49
                                        replace p49 := eq_true p49
                                        replace q49 := eq_true q49
                                        obtain ⟨A99_, c99_, hv99_⟩ := Kd.R_slice HO_17.out
                                        subst hv99_
                                        have HX55 := Aside0.mk (show Kd.S (Kd.slice 3 (Kd.int .i64)) 26 wr w.heap.size (fun k_ => ((fun _ => True)) k_ ∧ ¬ ((fun k_ => some k_ = ((Value.slice A99_ x17_3.length c99_) : Value).ownBlock)) k_) (.slice (some ⟨go49, 0, none⟩) x10_2.length co49) x10_2 from (by (with_reducible repeat (first | apply Kd.S_alloc | apply Kd.S_drewN | apply Kd.S_drew)); exact Kd.S_mono HO_10.out (fun k_ hk => ⟨trivial, fun e_ => hk e_⟩)))
                                        obtain ⟨oki55, ce55, hcl55, hM55, hcc55, hfr55, hoki55, hH55⟩ := Kd.S_elem HX55.out [] ((ji46) : Int) (of_decide_eq_true (by first | (with_reducible assumption) | assumption)) (by have h_ : ((ji46) : Int) < ((x10_2.length : Int) : Int) := of_decide_eq_true (by first | (with_reducible assumption) | assumption); first | exact h_ | (have e_ := (Kd.S_reads' HO_10.out).1; omega) | simpa using h_)
                                        obtain ⟨ve55_0, rfl, ge55_0⟩ := hM55
                                        have HP55 := Kd.S_seg hH55 (of_decide_eq_true (by first | (with_reducible assumption) | assumption)) (by have h_ : ((ji46) : Int) < ((x10_2.length : Int) : Int) := of_decide_eq_true (by first | (with_reducible assumption) | assumption); first | exact h_ | (have e_ := (Kd.S_reads' HO_10.out).1; omega) | simpa using h_) (seg := [(Value.slice A99_ x17_3.length c99_)]) (j := 0) (show 1 ≤ 1 from by decide) (x' := x17_3) (Kd.M_row (Kd.R_mono (Kd.R_tight rfl (Kd.R_mono (ok' := fun k_ => ((fun _ => True)) k_ ∧ k_ ≠ go49) (Kd.R_apart' (HO_17.out) (Kd.S_typed HO_10.out) (by decide)) (fun k_ hk => ⟨trivial, fun e_ => (hk.2) (by rw [e_]; rfl)⟩))) (fun _ h_ => Or.inr (h_)))) (fun _ hk => hk) (fun k_ hk_ => ((Kd.R_mono (ok' := fun k_ => ((fun _ => True)) k_ ∧ k_ ≠ go49) (Kd.R_apart' (HO_17.out) (Kd.S_typed HO_10.out) (by decide)) (fun k_ hk => ⟨trivial, fun e_ => (hk.2) (by rw [e_]; rfl)⟩))).1 k_ hk_.symm)
                                        have hx55_0 := hcc55 0 _ rfl
                                        (try simp only [show ((Kd.slice 3 (Kd.int .i64))).sz = 1 from rfl, Nat.mul_one, Nat.add_zero] at hx55_0)
                                        have hf55_0 := hfr55 0
                                        (try simp only [show ((Kd.slice 3 (Kd.int .i64))).sz = 1 from rfl, Nat.mul_one, Nat.add_zero] at hf55_0)
                                        try clear hM55
                                        clear hcl55 hcc55 hfr55 hoki55 hH55
                                        (try simp only [show ((Kd.slice 3 (Kd.int .i64))).sz = 1 from rfl, Nat.mul_one, Nat.add_zero] at HP55)
                                        go_wp2_with (first | ((with_reducible refine gate_store (t := 26) (p := 101) rfl ?_); refine store_event (t := 26) (p := 101) (v := ?vo_w56) (w1 := (wr.setCell ⟨go49, ((ji46) : Int).toNat, none⟩ ((Value.slice A99_ x17_3.length c99_)))) ?hg ?ho ?hn ?hr ?_; (case ho => rfl); (case hg => rfl); (case hn => rfl); (case hr => first | (go_simp; done) | (go_simp; rfl)); intro w56 hw; have hg : wr.grownBy w56 (some go49) := (by rw [hw]; exact HP55.2); have hp_ : Kd.S (Kd.slice 3 (Kd.int .i64)) 26 w56 w.heap.size (fun _ => True) (.slice (some ⟨go49, 0, none⟩) x10_2.length co49) y1010 := (by rw [hw, Ny1010.out]; exact HP55.1); clear HP55; have n0_ := Aside0.mk (Kd.R_over' (v := (.slice (some ⟨go49, 0, none⟩) x10_2.length co49)) (by (with_reducible repeat (first | apply Kd.R_alloc | apply Kd.R_drewN | apply Kd.R_drew)); exact HO_9.out) (Kd.S_typed HO_10.out) (by decide) hg); have n1_ := Aside0.mk (hp_); have n2_ := Aside0.mk (blk_grown (g := gb1006) (o := .cells #[.int .i64 x1007000_3, .int .i64 x1007001_3] 171 (0, 0)) (by (with_reducible repeat (first | refine blk_drewN ?_ _ | refine blk_drew ?_ | refine blk_alloc ?_ _)); exact BK1006.out) hg (Kd.S_ne HO_10.out BK1006.out (by decide))); have n3_ := Aside0.mk ((by rw [hw]; exact below_set (HB.out) GB49.out : Below w.heap.size w w56)); clear HO_9; clear HO_10; clear BK1006; clear HB; clear HO_17; have HO_9 := n0_; have HO_10 := n1_; have BK1006 := n2_; have HB := n3_; clear n0_ n1_ n2_ n3_; clear hg hw hp_; have p51 : 0 ≤ ((ji46) : Int) := of_decide_eq_true (by first | (with_reducible assumption) | assumption); have q51 : ((ji46) : Int) < ((x9_2.length : Int) : Int) := of_decide_eq_true (by first | (with_reducible assumption) | assumption); obtain ⟨go51, co51, eo51, gb51, gl51, cl51, HG51⟩ := Kd.R_form HO_9.out (by omega); (first | cases eo51 | (injection eo51 with ea_ en_ ec_; (first | subst ea_ | (injection ea_ with ea_; subst ea_)); subst ec_; clear en_)); have GB51 := Aside0.mk gb51; have GG51 := Aside0.mk HG51; clear gb51 gl51 HG51; obtain ⟨ce51, hcl51, hM51, hcc51, hfr51⟩ := Kd.R_elem HO_9.out z171 ((ji46) : Int) p51 q51; obtain rfl := k171_openM hM51; have hx51_0 : w56.cell? ⟨go51, ((ji46) : Int).toNat * 2, none⟩ = some (.int .i64 ((rd_T171 x9_2 (ji46)).f0)) := hcc51 0 _ rfl; have hx51_1 : w56.cell? ⟨go51, ((ji46) : Int).toNat * 2 + 1, none⟩ = some (.int .i64 ((rd_T171 x9_2 (ji46)).f1)) := hcc51 1 _ rfl; have hf51_0 : w56.frozen? ⟨go51, ((ji46) : Int).toNat * 2, none⟩ = false := hfr51 0; have hf51_1 : w56.frozen? ⟨go51, ((ji46) : Int).toNat * 2 + 1, none⟩ = false := hfr51 1; clear hcl51 hcc51 hfr51 hM51; replace p51 := eq_true p51; replace q51 := eq_true q51; have HX57 := Aside0.mk (show Kd.R k171 171 w56 w.heap.size (fun k_ => k_ ≠ gb1006) (.slice (some ⟨go51, 0, none⟩) x9_2.length co51) x9_2 from (by (with_reducible repeat (first | apply Kd.R_alloc | apply Kd.R_drewN | apply Kd.R_drew)); exact HO_9.out)); obtain ⟨ce57, hcl57, hM57, hcc57, hfr57⟩ := Kd.R_elem HX57.out z171 ((ji46) : Int) (of_decide_eq_true (by first | (with_reducible assumption) | assumption)) (by have h_ : ((ji46) : Int) < ((x9_2.length : Int) : Int) := of_decide_eq_true (by first | (with_reducible assumption) | assumption); first | exact h_ | (have e_ := (Kd.R_reads' HO_9.out).1; omega) | simpa using h_); obtain rfl := k171_openM hM57; have HP57 := Kd.R_seg HX57.out ((ji46) : Int) (of_decide_eq_true (by first | (with_reducible assumption) | assumption)) (by have h_ : ((ji46) : Int) < ((x9_2.length : Int) : Int) := of_decide_eq_true (by first | (with_reducible assumption) | assumption); first | exact h_ | (have e_ := (Kd.R_reads' HO_9.out).1; omega) | simpa using h_) (seg := [.int .i64 0, .int .i64 1]) (j := 0) hcl57 hcc57 (show 2 ≤ 2 from by decide) (x' := (⟨0, 1⟩ : S171)) (k171_mkM _ _ _ (⟨0, 1⟩ : S171) ) (fun _ hk => hk); have hx57_0 := hcc57 0 _ rfl; (try simp only [show (k171).sz = 2 from rfl, Nat.mul_one, Nat.add_zero] at hx57_0); have hf57_0 := hfr57 0; (try simp only [show (k171).sz = 2 from rfl, Nat.mul_one, Nat.add_zero] at hf57_0); have hx57_1 := hcc57 1 _ rfl; (try simp only [show (k171).sz = 2 from rfl, Nat.mul_one, Nat.add_zero] at hx57_1); have hf57_1 := hfr57 1; (try simp only [show (k171).sz = 2 from rfl, Nat.mul_one, Nat.add_zero] at hf57_1); clear hcl57 hcc57 hfr57 hM57) | ((with_reducible refine gate_store (t := 171) (p := 105) rfl ?_); refine store_event (t := 171) (p := 105) (v := ?vo_w58) (w1 := ((w56.setCell ⟨go51, ((ji46) : Int).toNat * 2, none⟩ (.int .i64 0)).setCell ⟨go51, ((ji46) : Int).toNat * 2 + 1, none⟩ (.int .i64 1))) ?hg ?ho ?hn ?hr ?_; (case ho => rfl); (case hg => rfl); (case hn => rfl); (case hr => first | (go_simp; done) | (go_simp; rfl)); intro w58 hw; have hg : w56.grownBy w58 (some go51) := (by rw [hw]; exact HP57.2); have hp_ : Kd.R k171 171 w58 w.heap.size (fun k_ => k_ ≠ gb1006) (.slice (some ⟨go51, 0, none⟩) x9_2.length co51) y1011 := (by rw [hw, Ny1011.out]; exact HP57.1); clear HP57; have n0_ := Aside0.mk (hp_); have n1_ := Aside0.mk (Kd.S_over' (v := (.slice (some ⟨go51, 0, none⟩) x9_2.length co51)) (by (with_reducible repeat (first | apply Kd.S_alloc | apply Kd.S_drewN | apply Kd.S_drew)); exact HO_10.out) (Kd.R_typed HO_9.out) (by decide) hg); have n2_ := Aside0.mk (blk_grown (g := gb1006) (o := .cells #[.int .i64 x1007000_3, .int .i64 x1007001_3] 171 (0, 0)) (by (with_reducible repeat (first | refine blk_drewN ?_ _ | refine blk_drew ?_ | refine blk_alloc ?_ _)); exact BK1006.out) hg (Kd.R_away HO_9.out (fun _ hk => hk))); have n3_ := Aside0.mk ((by rw [hw]; exact below_set (below_set (HB.out) GB51.out) GB51.out : Below w.heap.size w w58)); clear HO_9; clear HO_10; clear BK1006; clear HB; have HO_9 := n0_; have HO_10 := n1_; have BK1006 := n2_; have HB := n3_; clear n0_ n1_ n2_ n3_; clear hg hw hp_; have hcz59_0 : w58.cell? ⟨gb1006, 0, none⟩ = some (.int .i64 x1007000_3) := (blk_cell BK1006.out 0).trans rfl; have hcz59_1 : w58.cell? ⟨gb1006, 1, none⟩ = some (.int .i64 x1007001_3) := (blk_cell BK1006.out 1).trans rfl; have hfz59_0 := blk_frozen BK1006.out 0; have hfz59_1 := blk_frozen BK1006.out 1) | ((with_reducible refine gate_callee (f := 294) rfl ?_); refine goesL_ (some 114) rfl rfl Try.func294 (by kernel_rfl) rfl #[.agg #[.int .i64 x1007000_3, .int .i64 x1007001_3], .int .i64 x16_3] rfl (by (try simp only [List.map_toArray, List.map_cons, List.map_nil]); first | done | rfl | (simp only [List.length_drop, List.length_take]; rfl)) ?_; (with_reducible refine (spec_oiOver.calls k3 x1007000_3 x1007001_3 x16_3 t1012 t1013 _ A53.out).mono ?_); rintro e w60 ⟨rfl, hb⟩; refine ⟨_, rfl, ?_⟩; have n0_ := Aside0.mk (Kd.R_below (by (with_reducible repeat (first | apply Kd.R_alloc | apply Kd.R_drewN | apply Kd.R_drew)); exact HO_9.out) hb); have n1_ := Aside0.mk (Kd.S_below (by (with_reducible repeat (first | apply Kd.S_alloc | apply Kd.S_drewN | apply Kd.S_drew)); exact HO_10.out) hb); have n2_ := Aside0.mk (blk_below (g := gb1006) (o := .cells #[.int .i64 x1007000_3, .int .i64 x1007001_3] 171 (0, 0)) (by (with_reducible repeat (first | refine blk_drewN ?_ _ | refine blk_drew ?_ | refine blk_alloc ?_ _)); exact BK1006.out) hb); have n3_ := Aside0.mk (below_step (by repeat (first | (with_reducible first | exact HB.out | apply below_alloc | apply pw_below_drewN | apply below_drew1 | refine below_set ?_ GE1006.out) | exact HB.out)) hb); clear HO_9; clear HO_10; clear BK1006; clear HB; have HO_9 := n0_; have HO_10 := n1_; have BK1006 := n2_; have HB := n3_; clear n0_ n1_ n2_ n3_; (try clear hb); (try clear hb2); (try clear hk); (try clear hi); have p54 : 0 ≤ ((ji46) : Int) := of_decide_eq_true (by first | (with_reducible assumption) | assumption); have q54 : ((ji46) : Int) < ((x9_2.length : Int) : Int) := of_decide_eq_true (by first | (with_reducible assumption) | assumption); obtain ⟨ce54, hcl54, hM54, hcc54, hfr54⟩ := Kd.R_elem HO_9.out z171 ((ji46) : Int) p54 q54; obtain rfl := k171_openM hM54; have hx54_0 : w60.cell? ⟨go51, ((ji46) : Int).toNat * 2, none⟩ = some (.int .i64 ((rd_T171 y1011 (ji46)).f0)) := hcc54 0 _ rfl; have hx54_1 : w60.cell? ⟨go51, ((ji46) : Int).toNat * 2 + 1, none⟩ = some (.int .i64 ((rd_T171 y1011 (ji46)).f1)) := hcc54 1 _ rfl; have hf54_0 : w60.frozen? ⟨go51, ((ji46) : Int).toNat * 2, none⟩ = false := hfr54 0; have hf54_1 : w60.frozen? ⟨go51, ((ji46) : Int).toNat * 2 + 1, none⟩ = false := hfr54 1; clear hcl54 hcc54 hfr54 hM54; replace p54 := eq_true p54; replace q54 := eq_true q54; have HX61 := Aside0.mk (show Kd.R k171 171 w60 w.heap.size (fun k_ => k_ ≠ gb1006) (.slice (some ⟨go51, 0, none⟩) x9_2.length co51) y1011 from (by (with_reducible repeat (first | apply Kd.R_alloc | apply Kd.R_drewN | apply Kd.R_drew)); exact HO_9.out)); obtain ⟨ce61, hcl61, hM61, hcc61, hfr61⟩ := Kd.R_elem HX61.out z171 ((ji46) : Int) (of_decide_eq_true (by first | (with_reducible assumption) | assumption)) (by have h_ : ((ji46) : Int) < ((x9_2.length : Int) : Int) := of_decide_eq_true (by first | (with_reducible assumption) | assumption); first | exact h_ | (have e_ := (Kd.R_reads' HO_9.out).1; omega) | simpa using h_); obtain rfl := k171_openM hM61; have HP61 := Kd.R_seg HX61.out ((ji46) : Int) (of_decide_eq_true (by first | (with_reducible assumption) | assumption)) (by have h_ : ((ji46) : Int) < ((x9_2.length : Int) : Int) := of_decide_eq_true (by first | (with_reducible assumption) | assumption); first | exact h_ | (have e_ := (Kd.R_reads' HO_9.out).1; omega) | simpa using h_) (seg := [.int .i64 t1012, .int .i64 t1013]) (j := 0) hcl61 hcc61 (show 2 ≤ 2 from by decide) (x' := (⟨t1012, t1013⟩ : S171)) (k171_mkM _ _ _ (⟨t1012, t1013⟩ : S171) ) (fun _ hk => hk); have hx61_0 := hcc61 0 _ rfl; (try simp only [show (k171).sz = 2 from rfl, Nat.mul_one, Nat.add_zero] at hx61_0); have hf61_0 := hfr61 0; (try simp only [show (k171).sz = 2 from rfl, Nat.mul_one, Nat.add_zero] at hf61_0); have hx61_1 := hcc61 1 _ rfl; (try simp only [show (k171).sz = 2 from rfl, Nat.mul_one, Nat.add_zero] at hx61_1); have hf61_1 := hfr61 1; (try simp only [show (k171).sz = 2 from rfl, Nat.mul_one, Nat.add_zero] at hf61_1); clear hcl61 hcc61 hfr61 hM61) | ((with_reducible refine gate_store (t := 171) (p := 115) rfl ?_); refine store_event (t := 171) (p := 115) (v := ?vo_w62) (w1 := ((w60.setCell ⟨go51, ((ji46) : Int).toNat * 2, none⟩ (.int .i64 t1012)).setCell ⟨go51, ((ji46) : Int).toNat * 2 + 1, none⟩ (.int .i64 t1013))) ?hg ?ho ?hn ?hr ?_; (case ho => rfl); (case hg => rfl); (case hn => rfl); (case hr => first | (go_simp; done) | (go_simp; rfl)); intro w62 hw; have hg : w60.grownBy w62 (some go51) := (by rw [hw]; exact HP61.2); have hp_ : Kd.R k171 171 w62 w.heap.size (fun k_ => k_ ≠ gb1006) (.slice (some ⟨go51, 0, none⟩) x9_2.length co51) y1014 := (by rw [hw, Ny1014.out]; exact HP61.1); clear HP61; have n0_ := Aside0.mk (hp_); have n1_ := Aside0.mk (Kd.S_over' (v := (.slice (some ⟨go51, 0, none⟩) x9_2.length co51)) (by (with_reducible repeat (first | apply Kd.S_alloc | apply Kd.S_drewN | apply Kd.S_drew)); exact HO_10.out) (Kd.R_typed HO_9.out) (by decide) hg); have n2_ := Aside0.mk (blk_grown (g := gb1006) (o := .cells #[.int .i64 x1007000_3, .int .i64 x1007001_3] 171 (0, 0)) (by (with_reducible repeat (first | refine blk_drewN ?_ _ | refine blk_drew ?_ | refine blk_alloc ?_ _)); exact BK1006.out) hg (Kd.R_away HO_9.out (fun _ hk => hk))); have n3_ := Aside0.mk ((by rw [hw]; exact below_set (below_set (HB.out) GB51.out) GB51.out : Below w.heap.size w w62)); clear HO_9; clear HO_10; clear BK1006; clear HB; have HO_9 := n0_; have HO_10 := n1_; have BK1006 := n2_; have HB := n3_; clear n0_ n1_ n2_ n3_; clear hg hw hp_))
                                        go_roundg k3
                                        case measure => have := HK1.out; have := HK2.out; have := HK3.out; omega
                                        case rel => exact ⟨(y1014), (y1010), (wrap64 (x12_2 + 1)), (by first | rfl | (simp; done) | (simp [*]; done)), H', ⟨by have := HK1.out; have := HK2.out; have := HK3.out; omega⟩, ⟨by (with_reducible repeat (first | apply Kd.R_alloc | apply Kd.R_drewN | apply Kd.R_drew)); exact Kd.R_mono HO_9.out (fun _ hk => trivial)⟩, ⟨by (with_reducible repeat (first | apply Kd.S_alloc | apply Kd.S_drewN | apply Kd.S_drew)); exact HO_10.out⟩, ⟨by repeat (first | (with_reducible first | exact HB.out | apply below_alloc | apply pw_below_drewN | apply below_drew1 | refine below_set ?_ GE1006.out) | exact HB.out)⟩⟩
                                      · rw [if_neg c52] at H
                                        have c52b0 : decide (x11_1 < (wrap64 (2 * a0))) = false := decide_eq_false c52
                                        clear c52
                                        have H' := Aside0.mk H
                                        clear H
                                        have p49 : 0 ≤ ((ji46) : Int) := of_decide_eq_true (by first | (with_reducible assumption) | assumption)
                                        have q49 : ((ji46) : Int) < ((x10_2.length : Int) : Int) := of_decide_eq_true (by first | (with_reducible assumption) | assumption)
                                        obtain ⟨go49, co49, eo49, gb49, gl49, cl49, HG49⟩ := Kd.S_form HO_10.out (by omega)
                                        (first | cases eo49 | (injection eo49 with ea_ en_ ec_; (first | subst ea_ | (injection ea_ with ea_; subst ea_)); subst ec_; clear en_))
                                        have GB49 := Aside0.mk gb49
                                        have GG49 := Aside0.mk HG49
                                        clear gb49 gl49 HG49
                                        obtain ⟨_, ce49, hcl49, hM49, hcc49, hfr49, _, _⟩ := Kd.S_elem HO_10.out [] ((ji46) : Int) p49 q49
                                        obtain ⟨ve49_0, rfl, ge49_0⟩ := hM49
                                        have hx49_0 := hcc49 0 _ rfl
                                        have hf49_0 := hfr49 0
                                        (try simp only [show ((Kd.slice 3 (Kd.int .i64))).sz = 1 from rfl, Nat.mul_one, Nat.add_zero] at hx49_0)
                                        (try simp only [show ((Kd.slice 3 (Kd.int .i64))).sz = 1 from rfl, Nat.mul_one, Nat.add_zero] at hf49_0)
                                        try clear hM49
                                        clear hcl49 hcc49 hfr49
                                        replace p49 := eq_true p49
                                        replace q49 := eq_true q49
                                        obtain ⟨A99_, c99_, hv99_⟩ := Kd.R_slice HO_17.out
                                        subst hv99_
                                        have HX63 := Aside0.mk (show Kd.S (Kd.slice 3 (Kd.int .i64)) 26 wr w.heap.size (fun k_ => ((fun _ => True)) k_ ∧ ¬ ((fun k_ => some k_ = ((Value.slice A99_ x17_3.length c99_) : Value).ownBlock)) k_) (.slice (some ⟨go49, 0, none⟩) x10_2.length co49) x10_2 from (by (with_reducible repeat (first | apply Kd.S_alloc | apply Kd.S_drewN | apply Kd.S_drew)); exact Kd.S_mono HO_10.out (fun k_ hk => ⟨trivial, fun e_ => hk e_⟩)))
                                        obtain ⟨oki63, ce63, hcl63, hM63, hcc63, hfr63, hoki63, hH63⟩ := Kd.S_elem HX63.out [] ((ji46) : Int) (of_decide_eq_true (by first | (with_reducible assumption) | assumption)) (by have h_ : ((ji46) : Int) < ((x10_2.length : Int) : Int) := of_decide_eq_true (by first | (with_reducible assumption) | assumption); first | exact h_ | (have e_ := (Kd.S_reads' HO_10.out).1; omega) | simpa using h_)
                                        obtain ⟨ve63_0, rfl, ge63_0⟩ := hM63
                                        have HP63 := Kd.S_seg hH63 (of_decide_eq_true (by first | (with_reducible assumption) | assumption)) (by have h_ : ((ji46) : Int) < ((x10_2.length : Int) : Int) := of_decide_eq_true (by first | (with_reducible assumption) | assumption); first | exact h_ | (have e_ := (Kd.S_reads' HO_10.out).1; omega) | simpa using h_) (seg := [(Value.slice A99_ x17_3.length c99_)]) (j := 0) (show 1 ≤ 1 from by decide) (x' := x17_3) (Kd.M_row (Kd.R_mono (Kd.R_tight rfl (Kd.R_mono (ok' := fun k_ => ((fun _ => True)) k_ ∧ k_ ≠ go49) (Kd.R_apart' (HO_17.out) (Kd.S_typed HO_10.out) (by decide)) (fun k_ hk => ⟨trivial, fun e_ => (hk.2) (by rw [e_]; rfl)⟩))) (fun _ h_ => Or.inr (h_)))) (fun _ hk => hk) (fun k_ hk_ => ((Kd.R_mono (ok' := fun k_ => ((fun _ => True)) k_ ∧ k_ ≠ go49) (Kd.R_apart' (HO_17.out) (Kd.S_typed HO_10.out) (by decide)) (fun k_ hk => ⟨trivial, fun e_ => (hk.2) (by rw [e_]; rfl)⟩))).1 k_ hk_.symm)
                                        have hx63_0 := hcc63 0 _ rfl
                                        (try simp only [show ((Kd.slice 3 (Kd.int .i64))).sz = 1 from rfl, Nat.mul_one, Nat.add_zero] at hx63_0)
                                        have hf63_0 := hfr63 0
                                        (try simp only [show ((Kd.slice 3 (Kd.int .i64))).sz = 1 from rfl, Nat.mul_one, Nat.add_zero] at hf63_0)
                                        try clear hM63
                                        clear hcl63 hcc63 hfr63 hoki63 hH63
                                        (try simp only [show ((Kd.slice 3 (Kd.int .i64))).sz = 1 from rfl, Nat.mul_one, Nat.add_zero] at HP63)
                                        go_wp2_with (first | ((with_reducible refine gate_store (t := 26) (p := 101) rfl ?_); refine store_event (t := 26) (p := 101) (v := ?vo_w64) (w1 := (wr.setCell ⟨go49, ((ji46) : Int).toNat, none⟩ ((Value.slice A99_ x17_3.length c99_)))) ?hg ?ho ?hn ?hr ?_; (case ho => rfl); (case hg => rfl); (case hn => rfl); (case hr => first | (go_simp; done) | (go_simp; rfl)); intro w64 hw; have hg : wr.grownBy w64 (some go49) := (by rw [hw]; exact HP63.2); have hp_ : Kd.S (Kd.slice 3 (Kd.int .i64)) 26 w64 w.heap.size (fun _ => True) (.slice (some ⟨go49, 0, none⟩) x10_2.length co49) y1010 := (by rw [hw, Ny1010.out]; exact HP63.1); clear HP63; have n0_ := Aside0.mk (Kd.R_over' (v := (.slice (some ⟨go49, 0, none⟩) x10_2.length co49)) (by (with_reducible repeat (first | apply Kd.R_alloc | apply Kd.R_drewN | apply Kd.R_drew)); exact HO_9.out) (Kd.S_typed HO_10.out) (by decide) hg); have n1_ := Aside0.mk (hp_); have n2_ := Aside0.mk (blk_grown (g := gb1006) (o := .cells #[.int .i64 x1007000_3, .int .i64 x1007001_3] 171 (0, 0)) (by (with_reducible repeat (first | refine blk_drewN ?_ _ | refine blk_drew ?_ | refine blk_alloc ?_ _)); exact BK1006.out) hg (Kd.S_ne HO_10.out BK1006.out (by decide))); have n3_ := Aside0.mk ((by rw [hw]; exact below_set (HB.out) GB49.out : Below w.heap.size w w64)); clear HO_9; clear HO_10; clear BK1006; clear HB; clear HO_17; have HO_9 := n0_; have HO_10 := n1_; have BK1006 := n2_; have HB := n3_; clear n0_ n1_ n2_ n3_; clear hg hw hp_; have p51 : 0 ≤ ((ji46) : Int) := of_decide_eq_true (by first | (with_reducible assumption) | assumption); have q51 : ((ji46) : Int) < ((x9_2.length : Int) : Int) := of_decide_eq_true (by first | (with_reducible assumption) | assumption); obtain ⟨go51, co51, eo51, gb51, gl51, cl51, HG51⟩ := Kd.R_form HO_9.out (by omega); (first | cases eo51 | (injection eo51 with ea_ en_ ec_; (first | subst ea_ | (injection ea_ with ea_; subst ea_)); subst ec_; clear en_)); have GB51 := Aside0.mk gb51; have GG51 := Aside0.mk HG51; clear gb51 gl51 HG51; obtain ⟨ce51, hcl51, hM51, hcc51, hfr51⟩ := Kd.R_elem HO_9.out z171 ((ji46) : Int) p51 q51; obtain rfl := k171_openM hM51; have hx51_0 : w64.cell? ⟨go51, ((ji46) : Int).toNat * 2, none⟩ = some (.int .i64 ((rd_T171 x9_2 (ji46)).f0)) := hcc51 0 _ rfl; have hx51_1 : w64.cell? ⟨go51, ((ji46) : Int).toNat * 2 + 1, none⟩ = some (.int .i64 ((rd_T171 x9_2 (ji46)).f1)) := hcc51 1 _ rfl; have hf51_0 : w64.frozen? ⟨go51, ((ji46) : Int).toNat * 2, none⟩ = false := hfr51 0; have hf51_1 : w64.frozen? ⟨go51, ((ji46) : Int).toNat * 2 + 1, none⟩ = false := hfr51 1; clear hcl51 hcc51 hfr51 hM51; replace p51 := eq_true p51; replace q51 := eq_true q51; have HX65 := Aside0.mk (show Kd.R k171 171 w64 w.heap.size (fun k_ => k_ ≠ gb1006) (.slice (some ⟨go51, 0, none⟩) x9_2.length co51) x9_2 from (by (with_reducible repeat (first | apply Kd.R_alloc | apply Kd.R_drewN | apply Kd.R_drew)); exact HO_9.out)); obtain ⟨ce65, hcl65, hM65, hcc65, hfr65⟩ := Kd.R_elem HX65.out z171 ((ji46) : Int) (of_decide_eq_true (by first | (with_reducible assumption) | assumption)) (by have h_ : ((ji46) : Int) < ((x9_2.length : Int) : Int) := of_decide_eq_true (by first | (with_reducible assumption) | assumption); first | exact h_ | (have e_ := (Kd.R_reads' HO_9.out).1; omega) | simpa using h_); obtain rfl := k171_openM hM65; have HP65 := Kd.R_seg HX65.out ((ji46) : Int) (of_decide_eq_true (by first | (with_reducible assumption) | assumption)) (by have h_ : ((ji46) : Int) < ((x9_2.length : Int) : Int) := of_decide_eq_true (by first | (with_reducible assumption) | assumption); first | exact h_ | (have e_ := (Kd.R_reads' HO_9.out).1; omega) | simpa using h_) (seg := [.int .i64 0, .int .i64 1]) (j := 0) hcl65 hcc65 (show 2 ≤ 2 from by decide) (x' := (⟨0, 1⟩ : S171)) (k171_mkM _ _ _ (⟨0, 1⟩ : S171) ) (fun _ hk => hk); have hx65_0 := hcc65 0 _ rfl; (try simp only [show (k171).sz = 2 from rfl, Nat.mul_one, Nat.add_zero] at hx65_0); have hf65_0 := hfr65 0; (try simp only [show (k171).sz = 2 from rfl, Nat.mul_one, Nat.add_zero] at hf65_0); have hx65_1 := hcc65 1 _ rfl; (try simp only [show (k171).sz = 2 from rfl, Nat.mul_one, Nat.add_zero] at hx65_1); have hf65_1 := hfr65 1; (try simp only [show (k171).sz = 2 from rfl, Nat.mul_one, Nat.add_zero] at hf65_1); clear hcl65 hcc65 hfr65 hM65) | ((with_reducible refine gate_store (t := 171) (p := 105) rfl ?_); refine store_event (t := 171) (p := 105) (v := ?vo_w66) (w1 := ((w64.setCell ⟨go51, ((ji46) : Int).toNat * 2, none⟩ (.int .i64 0)).setCell ⟨go51, ((ji46) : Int).toNat * 2 + 1, none⟩ (.int .i64 1))) ?hg ?ho ?hn ?hr ?_; (case ho => rfl); (case hg => rfl); (case hn => rfl); (case hr => first | (go_simp; done) | (go_simp; rfl)); intro w66 hw; have hg : w64.grownBy w66 (some go51) := (by rw [hw]; exact HP65.2); have hp_ : Kd.R k171 171 w66 w.heap.size (fun k_ => k_ ≠ gb1006) (.slice (some ⟨go51, 0, none⟩) x9_2.length co51) y1011 := (by rw [hw, Ny1011.out]; exact HP65.1); clear HP65; have n0_ := Aside0.mk (hp_); have n1_ := Aside0.mk (Kd.S_over' (v := (.slice (some ⟨go51, 0, none⟩) x9_2.length co51)) (by (with_reducible repeat (first | apply Kd.S_alloc | apply Kd.S_drewN | apply Kd.S_drew)); exact HO_10.out) (Kd.R_typed HO_9.out) (by decide) hg); have n2_ := Aside0.mk (blk_grown (g := gb1006) (o := .cells #[.int .i64 x1007000_3, .int .i64 x1007001_3] 171 (0, 0)) (by (with_reducible repeat (first | refine blk_drewN ?_ _ | refine blk_drew ?_ | refine blk_alloc ?_ _)); exact BK1006.out) hg (Kd.R_away HO_9.out (fun _ hk => hk))); have n3_ := Aside0.mk ((by rw [hw]; exact below_set (below_set (HB.out) GB51.out) GB51.out : Below w.heap.size w w66)); clear HO_9; clear HO_10; clear BK1006; clear HB; have HO_9 := n0_; have HO_10 := n1_; have BK1006 := n2_; have HB := n3_; clear n0_ n1_ n2_ n3_; clear hg hw hp_))
                                        go_roundg k3
                                        case measure => have := HK1.out; have := HK2.out; have := HK3.out; omega
                                        case rel => exact ⟨(y1011), (y1010), (wrap64 (x12_2 + 1)), (by first | rfl | (simp; done) | (simp [*]; done)), H', ⟨by have := HK1.out; have := HK2.out; have := HK3.out; omega⟩, ⟨by (with_reducible repeat (first | apply Kd.R_alloc | apply Kd.R_drewN | apply Kd.R_drew)); exact Kd.R_mono HO_9.out (fun _ hk => trivial)⟩, ⟨by (with_reducible repeat (first | apply Kd.S_alloc | apply Kd.S_drewN | apply Kd.S_drew)); exact HO_10.out⟩, ⟨by repeat (first | (with_reducible first | exact HB.out | apply below_alloc | apply pw_below_drewN | apply below_drew1 | refine below_set ?_ GE1006.out) | exact HB.out)⟩⟩
                                    · rw [if_neg c50] at H
                                      exact absurd H (by simp)
                                  · rw [if_neg c48] at H
                                    exact absurd H (by simp)
                                · rw [if_neg c47] at H
                                  exact absurd H (by simp)
                        · rw [if_neg c17] at H
                          exact absurd H (by simp)
                      · rw [if_neg c16] at H
                        exact absurd H (by simp)
                    · replace c15 := Bool.eq_false_iff.mpr c15
                      subst c15
                      have H1 : (spec_oiTable.l1 k2 a0 a1 a2 (wrap64 (a0 + 1)) x9_2 x10_2 x11_1 (wrap64 (x12_2 + 1))) = some (r1, r2) := by rw [if_neg (show ¬ (false = true) by decide)] at H; exact H
                      clear H
                      have H := H1
                      clear H1
                      have H' := Aside0.mk H
                      clear H
                      go_wp2_with (first | ((with_reducible refine gate_callee (f := 180) rfl ?_); refine goesL_ (some 48) rfl rfl Try.func180 (by kernel_rfl) rfl #[.int .i64 (wrap64 (x11_1 - x12_2)), .int .i64 0, .int .i64 a0] rfl (by (try simp only [List.map_toArray, List.map_cons, List.map_nil]); first | done | rfl | (simp only [List.length_drop, List.length_take]; rfl)) ?_; (with_reducible refine (spec_l1In.calls (wrap64 (x11_1 - x12_2)) 0 a0 false _ A14.out).mono ?_); rintro e w' ⟨rfl, ⟨nd, rfl⟩⟩; refine ⟨_, rfl, ?_⟩))
                      go_roundg k2
                      case measure => have := HK1.out; have := HK2.out; omega
                      case rel => exact ⟨(x9_2), (x10_2), (wrap64 (x12_2 + 1)), (by first | rfl | (simp; done) | (simp [*]; done)), H', ⟨by have := HK1.out; have := HK2.out; omega⟩, ⟨by (with_reducible repeat (first | apply Kd.R_alloc | apply Kd.R_drewN | apply Kd.R_drew)); exact HO_9.out⟩, ⟨by (with_reducible repeat (first | apply Kd.S_alloc | apply Kd.S_drewN | apply Kd.S_drew)); exact HO_10.out⟩, ⟨by repeat (first | (with_reducible first | exact HB.out | apply below_alloc | apply pw_below_drewN | apply below_drew1) | exact HB.out)⟩⟩
                  · rw [if_neg c13] at H
                    have c13b0 : decide (x12_2 ≤ a0) = false := decide_eq_false c13
                    clear c13
                    have H' := Aside0.mk H
                    clear H
                    go_wp2
                    go_roundg k2
                    case measure => have := HK1.out; have := HK2.out; omega
                    case rel => exact ⟨(x9_2), (x10_2), (wrap64 (x11_1 - 1)), (by first | rfl | (simp; done) | (simp [*]; done)), H', ⟨by have := HK1.out; have := HK2.out; omega⟩, ⟨by (with_reducible repeat (first | apply Kd.R_alloc | apply Kd.R_drewN | apply Kd.R_drew)); exact HO_9.out⟩, ⟨by (with_reducible repeat (first | apply Kd.S_alloc | apply Kd.S_drewN | apply Kd.S_drew)); exact HO_10.out⟩, ⟨by repeat (first | (with_reducible first | exact HB.out | apply below_alloc | apply pw_below_drewN | apply below_drew1) | exact HB.out)⟩⟩
            · rw [if_neg c12] at H
              have c12b0 : decide (0 ≤ x11_1) = false := decide_eq_false c12
              clear c12
              simp only [Option.some.injEq, Prod.mk.injEq] at H
              obtain ⟨rfl, rfl⟩ := H
              go_wp2
              go_ret2
              exact ⟨_, _, by first | rfl | (simp [errW_none, errW_some] <;> rfl) | (simp only [← hji4]; first | rfl | (simp [errW_none, errW_some] <;> rfl)) | (simp [*, errW_none, errW_some] <;> rfl), by (with_reducible repeat (first | apply Kd.R_alloc | apply Kd.R_drewN | apply Kd.R_drew)); exact HO_9.out, by (with_reducible repeat (first | apply Kd.S_alloc | apply Kd.S_drewN | apply Kd.S_drew)); exact HO_10.out, by repeat (first | (with_reducible first | exact HB.out | apply below_alloc | apply pw_below_drewN | apply below_drew1) | exact HB.out)⟩
      · rw [if_neg c7] at H
        exact absurd H (by simp)
    · rw [if_neg c6] at H
      exact absurd H (by simp)
  · rw [if_neg c5] at H
    exact absurd H (by simp)
end Go.Proofs.Ytgahigmpcgfbeaa.P
end

section
namespace Go.Proofs.Ytgahigmpcgfbeaa.P
open Go.RowKit Go.Proofs.YtgahigmpcgfbeaaW.PrintWords Go.Proofs.YtgahigmpcgfbeaaW.PrintLast Go.Proofs.YtgahigmpcgfbeaaW.PrintMore
attribute [local go_sem] max2_int min2_int max_two min_two max_three min_three max_four min_four
set_option linter.unusedVariables false
set_option linter.unusedSimpArgs false
def spec_oiPlay.l0 : Nat → Int → Int → Int → List (List Int) → List (List Int) → List Int → Int → Int → Option ((List (List Int)))
  | 0, _, _, _, _, _, _, _, _ => none
  | k + 1, x0, x2, x3, x12, x13, x27, x28, x29 => if x29 < x28 then (if 0 ≤ x29 then (if x29 < (x27.length : Int) then (if 0 ≤ (wrap64 ((wrap64 (x2 * (wrap64 (x0 + 1)))) + x3)) then (if (wrap64 ((wrap64 (x2 * (wrap64 (x0 + 1)))) + x3)) < (x12.length : Int) then (if 0 ≤ (wrap64 ((rd x27 x29) - 1)) then (if (wrap64 ((rd x27 x29) - 1)) < ((rd_L7 x12 (wrap64 ((wrap64 (x2 * (wrap64 (x0 + 1)))) + x3))).length : Int) then (if (rd (rd_L7 x12 (wrap64 ((wrap64 (x2 * (wrap64 (x0 + 1)))) + x3))) (wrap64 ((rd x27 x29) - 1))) ≥ 0 then ((spec_oiNext.f x2 x3 (rd (rd_L7 x12 (wrap64 ((wrap64 (x2 * (wrap64 (x0 + 1)))) + x3))) (wrap64 ((rd x27 x29) - 1))) (rd x27 x29)).bind fun bt1037 => (if x13.length < 5864062014805 then (spec_oiPlay.l0 k x0 bt1037.1 bt1037.2 x12 (x13 ++ [(([bt1037.1, bt1037.2] : List Int))]) x27 x28 (wrap64 (x29 + 1))) else (none))) else (if x13.length < 5864062014805 then (spec_oiPlay.l0 k x0 x2 x3 x12 (x13 ++ [(([x2, x3] : List Int))]) x27 x28 (wrap64 (x29 + 1))) else (none))) else (none)) else (none)) else (none)) else (none)) else (none)) else (none)) else (some x13)
def spec_oiPlay.f (k : Nat) (a0 : Int) (a1 : Int) (a2 : Int) (a3 : Int) (l4 : List Int) : Option ((List (List Int))) := (spec_oiTable.f k a0 a1 0).bind fun bt1022 => (spec_oiPlay.l0 k a0 a2 a3 bt1022.2 (([(([a2, a3] : List Int))] : List (List Int))) l4 (l4.length : Int) 0)
theorem spec_oiPlay.mono_l : ∀ k, (∀ y0 y1 y2 y3 y4 y5 y6 y7, LeO (spec_oiPlay.l0 k y0 y1 y2 y3 y4 y5 y6 y7) (spec_oiPlay.l0 (k + 1) y0 y1 y2 y3 y4 y5 y6 y7))
  | 0 => fun _ _ _ _ _ _ _ _ r h => by simp [spec_oiPlay.l0] at h
  | k + 1 => by
    have ih0 := spec_oiPlay.mono_l k
    · intro y0 y1 y2 y3 y4 y5 y6 y7
      unfold spec_oiPlay.l0
      repeat' first
      | (with_reducible exact ih0 _ _ _ _ _ _ _ _)
      | (with_reducible exact spec_oiTable.mono _ _ _ _)
      | (with_reducible exact LeO.refl _)
      | (with_reducible exact LeO.none _)
      | (with_reducible refine LeO.ite ?_ ?_)
      | (with_reducible refine LeO.bind ?_ (fun _ => ?_))
      | exact ih0 _ _ _ _ _ _ _ _
      | exact spec_oiTable.mono _ _ _ _
      | exact LeO.none _
      | refine LeO.ite ?_ ?_
      | refine LeO.bind ?_ (fun _ => ?_)
theorem spec_oiPlay.mono : ∀ a0 a1 a2 a3 a4 k, LeO (spec_oiPlay.f k a0 a1 a2 a3 a4) (spec_oiPlay.f (k + 1) a0 a1 a2 a3 a4) := by
  intro a0 a1 a2 a3 a4 k
  have ih0 := spec_oiPlay.mono_l k
  unfold spec_oiPlay.f
  repeat' first
      | (with_reducible exact ih0 _ _ _ _ _ _ _ _)
      | (with_reducible exact spec_oiTable.mono _ _ _ _)
      | (with_reducible exact LeO.refl _)
      | (with_reducible exact LeO.none _)
      | (with_reducible refine LeO.ite ?_ ?_)
      | (with_reducible refine LeO.bind ?_ (fun _ => ?_))
      | exact ih0 _ _ _ _ _ _ _ _
      | exact spec_oiTable.mono _ _ _ _
      | exact LeO.none _
      | refine LeO.ite ?_ ?_
      | refine LeO.bind ?_ (fun _ => ?_)
set_option maxHeartbeats 8000000 in
set_option maxRecDepth 100000 in
theorem spec_oiPlay.calls (k : Nat) (a0 : Int) (a1 : Int) (a2 : Int) (a3 : Int) (A4 : Option Addr) (c4 : Nat) (l4 : List Int) (r : List (List Int)) (w : World) (hr4 : Kd.C (Kd.int .i64) w A4 l4.length l4) (hc4 : l4.length ≤ c4) (h : spec_oiPlay.f k a0 a1 a2 a3 l4 = some r) :
    Calls Try.prog 197 #[.int .i64 a0, .int .i64 a1, .int .i64 a2, .int .i64 a3, .slice A4 l4.length c4] w fun e w' => ∃ v0_ : Value, e = .returned (v0_) ∧ Kd.N (Kd.slice 3 (Kd.int .i64)) 26 w' w.heap.size (fun k_ => (w.heap.size ≤ k_)) v0_ r ∧ Below w.heap.size w w' := by
  have HR4 := Aside0.mk hr4
  have HC4 := Aside0.mk hc4
  clear hr4 hc4
  have HB := Aside0.mk (Below.refl w.heap.size w)
  have H : ((spec_oiTable.f k a0 a1 0).bind fun bt1022 => (spec_oiPlay.l0 k a0 a2 a3 bt1022.2 (([(([a2, a3] : List Int))] : List (List Int))) l4 (l4.length : Int) 0)) = some r := h
  clear h
  replace H := Option.bind_eq_some_iff.mp H
  obtain ⟨⟨t1022, t1023⟩, A60, H⟩ := H
  replace H : (spec_oiPlay.l0 k a0 a2 a3 t1023 (([(([a2, a3] : List Int))] : List (List Int))) l4 (l4.length : Int) 0) = some r := H
  have A6 := Aside0.mk A60
  clear A60
  obtain ⟨y1028, hy1028⟩ : ∃ y_ : List Int, y_ = (([a2, a3] : List Int)) := ⟨_, rfl⟩
  replace H : (spec_oiPlay.l0 k a0 a2 a3 t1023 (([y1028] : List (List Int))) l4 (l4.length : Int) 0) = some r := by first | (rw [hy1028]; with_reducible exact H) | (have H2_ := (Option.bind_some _ _).symm.trans H; rw [hy1028]; with_reducible exact H2_) | (have H2_ := (Option.bind_some _ _).symm.trans H; with_reducible exact H2_) | with_reducible exact H | (rw [hy1028]; exact H) | exact H
  have Ny1028 := Aside0.mk hy1028
  clear hy1028
  obtain ⟨y1031, hy1031⟩ : ∃ y_ : List (List Int), y_ = (([y1028] : List (List Int))) := ⟨_, rfl⟩
  replace H : (spec_oiPlay.l0 k a0 a2 a3 t1023 y1031 l4 (l4.length : Int) 0) = some r := by first | (rw [hy1031]; with_reducible exact H) | (have H2_ := (Option.bind_some _ _).symm.trans H; rw [hy1031]; with_reducible exact H2_) | (have H2_ := (Option.bind_some _ _).symm.trans H; with_reducible exact H2_) | with_reducible exact H | (rw [hy1031]; exact H) | exact H
  have Ny1031 := Aside0.mk hy1031
  clear hy1031
  have H' := Aside0.mk H
  clear H
  go_enter Try.func197, Try.ntmps197
  go_wp2_with (first | ((with_reducible refine gate_callee (f := 253) rfl ?_); refine goesL_ (some 20) rfl rfl Try.func253 (by kernel_rfl) rfl #[.int .i64 a0, .int .i64 a1, .int .i64 0] rfl (by (try simp only [List.map_toArray, List.map_cons, List.map_nil]); first | done | rfl | (simp only [List.length_drop, List.length_take]; rfl)) ?_; (with_reducible refine (spec_oiTable.calls k a0 a1 0 t1022 t1023 _ A6.out).mono ?_); rintro e w7 ⟨v1024, v1026, rfl, ho0, ho1, hb⟩; refine ⟨_, rfl, ?_⟩; have n0_ := Aside0.mk (Kd.R_lower (Kd.R_newM (M := fun k_ => (w.heap.size ≤ k_)) ho0 (below_size (by repeat (first | (with_reducible first | exact HB.out | apply below_alloc | apply pw_below_drewN | apply below_drew1) | exact HB.out))) (fun k_ h_ => h_)) (below_size (by repeat (first | (with_reducible first | exact HB.out | apply below_alloc | apply pw_below_drewN | apply below_drew1) | exact HB.out)))); have n1_ := Aside0.mk (Kd.N_lower (Kd.N_mono (ok' := fun k_ => (w.heap.size ≤ k_) ∧ some k_ ≠ (v1024 : Value).ownBlock) (Kd.S_N (Kd.S_bound (Kd.S_apart' ho1 (Kd.R_typed ho0) (by decide)))) (fun k_ hk_ => ⟨(Nat.le_trans (below_size (by repeat (first | (with_reducible first | exact HB.out | apply below_alloc | apply pw_below_drewN | apply below_drew1) | exact HB.out))) hk_.2.1), hk_.1.2⟩)) (below_size (by repeat (first | (with_reducible first | exact HB.out | apply below_alloc | apply pw_below_drewN | apply below_drew1) | exact HB.out)))); have n2_ := Aside0.mk (below_step (by repeat (first | (with_reducible first | exact HB.out | apply below_alloc | apply pw_below_drewN | apply below_drew1) | exact HB.out)) hb); clear HB; have HO1025 := n0_; have HO1027 := n1_; have HB := n2_; clear n0_ n1_ n2_; (try clear hb); (try clear hb2); (try clear hk); (try clear hi); (try clear ho0); (try clear ho1)) | ((with_reducible refine gate_dst (N := 25) rfl ?_); refine Kd.R_lit (Kd.int .i64) _ 3 ?hg (N := 25) ?hd (xs := ([a2, a3] : List Int)) (inner := [.int .i64 a2, .int .i64 a3]) (ok := fun _ => True) (okp := fun _ => True) ?hr ?hp (fun _ hk => hk) trivial (Below.refl _ _) (Nat.le_refl _) (by simp) ?_; (case hd => rfl); (case hg => rfl); (case hr => first | (go_simp; done) | (go_simp; rfl)); (case hp => exact (Reps.one (show Kd.M (Kd.int .i64) _ _ _ a2 [.int .i64 a2] from rfl) (Reps.one (show Kd.M (Kd.int .i64) _ _ _ a3 [.int .i64 a3] from rfl) (Reps.none _ _)))); intro v1029 w8 ho9 hb hg_ hnew_; clear hg_ hnew_; (first | rw [← Ny1028.out] at ho9 | (simp only [Int.reduceToNat] at ho9; rw [← Ny1028.out] at ho9)); have n0_ := Aside0.mk (Kd.R_below (by (with_reducible repeat (first | apply Kd.R_alloc | apply Kd.R_drewN | apply Kd.R_drew)); exact HO1025.out) hb); have n1_ := Aside0.mk (Kd.N_elder' (by (with_reducible repeat (first | apply Kd.N_alloc | apply Kd.N_drewN | apply Kd.N_drew)); exact HO1027.out) (Kd.R_base ho9) hb); have n2_ := Aside0.mk (Kd.R_lower (Kd.R_newM (M := fun k_ => (w.heap.size ≤ k_)) ho9 (below_size (by repeat (first | (with_reducible first | exact HB.out | apply below_alloc | apply pw_below_drewN | apply below_drew1) | exact HB.out))) (fun k_ h_ => h_)) (below_size (by repeat (first | (with_reducible first | exact HB.out | apply below_alloc | apply pw_below_drewN | apply below_drew1) | exact HB.out)))); have n3_ := Aside0.mk (below_step (by repeat (first | (with_reducible first | exact HB.out | apply below_alloc | apply pw_below_drewN | apply below_drew1) | exact HB.out)) hb); clear HO1025; clear HO1027; clear HB; have HO1025 := n0_; have HO1027 := n1_; have HO1030 := n2_; have HB := n3_; clear n0_ n1_ n2_ n3_; clear hb ho9; obtain ⟨Ao10, co10, eo10⟩ := Kd.R_slice HO1030.out; subst eo10) | ((with_reducible refine gate_dst (N := 26) rfl ?_); refine Kd.N_lit (Kd.slice 3 (Kd.int .i64)) _ 26 ?hg (N' := 26) ?hd (xs := ([y1028] : List (List Int))) (inner := [.slice Ao10 y1028.length co10]) (ok := (fun k_ => (w.heap.size ≤ k_) ∧ some k_ ≠ (v1024 : Value).ownBlock ∧ some k_ ≠ (v1026 : Value).ownBlock)) (okp := (fun k_ => (w.heap.size ≤ k_) ∧ some k_ ≠ (v1024 : Value).ownBlock ∧ some k_ ≠ (v1026 : Value).ownBlock)) ?hr ?hp (fun _ hk => hk) ((show ∀ k_, w8.heap.size ≤ k_ → (fun k_ => (w.heap.size ≤ k_) ∧ some k_ ≠ (v1024 : Value).ownBlock ∧ some k_ ≠ (v1026 : Value).ownBlock) k_ from fun k_ hk => ⟨(Nat.le_trans (below_size (by repeat (first | (with_reducible first | exact HB.out | apply below_alloc | apply pw_below_drewN | apply below_drew1) | exact HB.out))) hk), Kd.fresh' (Kd.R_lt (by (with_reducible repeat (first | apply Kd.R_alloc | apply Kd.R_drewN | apply Kd.R_drew)); exact HO1025.out)) k_ hk, Kd.fresh' (Kd.N_lt (by (with_reducible repeat (first | apply Kd.N_alloc | apply Kd.N_drewN | apply Kd.N_drew)); exact HO1027.out)) k_ hk⟩) _ (Nat.le_refl _)) (Below.refl _ _) (Nat.le_refl _) (by simp) ?_; (case hd => rfl); (case hg => rfl); (case hr => first | (go_simp; done) | (go_simp; rfl)); (case hp => exact (Reps.one (show Kd.FK (Kd.slice 3 (Kd.int .i64)) _ _ y1028 [.slice Ao10 y1028.length co10] from (Kd.FK_slice_mk (Kd.R_reads' (Kd.R_mono (ok' := (fun k_ => (w.heap.size ≤ k_) ∧ some k_ ≠ (v1024 : Value).ownBlock ∧ some k_ ≠ (v1026 : Value).ownBlock)) (Kd.R_apart' (Kd.R_apart' (HO1030.out) (Kd.R_typed HO1025.out) (by decide)) (Kd.N_typed HO1027.out) (by decide)) (fun k_ hk => ⟨hk.1.1.1, ⟨hk.1.2, hk.2⟩⟩))).2.1 (Kd.R_F (Kd.R_mono (ok' := (fun k_ => (w.heap.size ≤ k_) ∧ some k_ ≠ (v1024 : Value).ownBlock ∧ some k_ ≠ (v1026 : Value).ownBlock)) (Kd.R_apart' (Kd.R_apart' (HO1030.out) (Kd.R_typed HO1025.out) (by decide)) (Kd.N_typed HO1027.out) (by decide)) (fun k_ hk => ⟨hk.1.1.1, ⟨hk.1.2, hk.2⟩⟩))))) (Reps.none _ _))); intro v1032 w11 ho12 hb hg_ hnew_; clear hg_ hnew_; (first | rw [← Ny1031.out] at ho12 | (simp only [Int.reduceToNat] at ho12; rw [← Ny1031.out] at ho12)); have n0_ := Aside0.mk (Kd.R_below (by (with_reducible repeat (first | apply Kd.R_alloc | apply Kd.R_drewN | apply Kd.R_drew)); exact HO1025.out) hb); have n1_ := Aside0.mk (Kd.N_elder' (by (with_reducible repeat (first | apply Kd.N_alloc | apply Kd.N_drewN | apply Kd.N_drew)); exact HO1027.out) (Kd.N_base ho12) hb); have n2_ := Aside0.mk (Kd.N_lower ho12 (below_size (by repeat (first | (with_reducible first | exact HB.out | apply below_alloc | apply pw_below_drewN | apply below_drew1) | exact HB.out)))); have n3_ := Aside0.mk (below_step (by repeat (first | (with_reducible first | exact HB.out | apply below_alloc | apply pw_below_drewN | apply below_drew1) | exact HB.out)) hb); clear HO1025; clear HO1027; clear HB; clear HO1030; have HO1025 := n0_; have HO1027 := n1_; have HO1033 := n2_; have HB := n3_; clear n0_ n1_ n2_ n3_; clear hb ho12))
  go_loopg [2, 3, 13, 29] k (fun kq v2 v3 v13 v29 w' => ∃ (x2_1 : Int) (x3_1 : Int) (x13_1 : List (List Int)) (x29_1 : Int), v2 = .int .i64 x2_1 ∧ v3 = .int .i64 x3_1 ∧ v29 = .int .i64 x29_1 ∧ Aside0 (spec_oiPlay.l0 kq a0 x2_1 x3_1 t1023 x13_1 l4 (l4.length : Int) x29_1 = some r) ∧ Aside0 (kq ≤ k) ∧ Aside0 (Kd.N (Kd.slice 3 (Kd.int .i64)) 26 w' w.heap.size (fun k_ => (w.heap.size ≤ k_) ∧ some k_ ≠ (v13 : Value).ownBlock) v1026 t1023) ∧ Aside0 (Kd.N (Kd.slice 3 (Kd.int .i64)) 26 w' w.heap.size (fun k_ => (w.heap.size ≤ k_) ∧ some k_ ≠ (v1026 : Value).ownBlock) v13 x13_1) ∧ Aside0 (Below w.heap.size w w'))
  case atStart => exact ⟨(a2), (a3), (y1031), (0), (by first | rfl | (simp; done) | (simp [*]; done)), (by first | rfl | (simp; done) | (simp [*]; done)), (by first | rfl | (simp; done) | (simp [*]; done)), H', ⟨Nat.le_refl _⟩, ⟨by (with_reducible repeat (first | apply Kd.N_alloc | apply Kd.N_drewN | apply Kd.N_drew)); exact Kd.N_mono HO1027.out (fun _ hk => ⟨hk.1.1.1, hk.2⟩)⟩, ⟨by (with_reducible repeat (first | apply Kd.N_alloc | apply Kd.N_drewN | apply Kd.N_drew)); exact Kd.N_mono HO1033.out (fun _ hk => ⟨hk.1, hk.2.2⟩)⟩, ⟨by repeat (first | (with_reducible first | exact HB.out | apply below_alloc | apply pw_below_drewN | apply below_drew1) | exact HB.out)⟩⟩
  case round =>
    clear H'
    try clear c1
    try clear c2
    try clear p2
    try clear c4
    obtain ⟨x2_1, x3_1, x13_1, x29_1, rfl, rfl, rfl, HA, HK1, HO_12, HO_13, HB⟩ := hrel
    cases gk with
    | zero => exact absurd HA.out (by simp [spec_oiPlay.l0])
    | succ k1 =>
      have H := HA.out
      clear HA
      simp only [spec_oiPlay.l0] at H
      by_cases c13 : x29_1 < (l4.length : Int)
      · rw [if_pos c13] at H
        have c13b0 : decide (x29_1 < (l4.length : Int)) = true := decide_eq_true c13
        clear c13
        by_cases c14 : 0 ≤ x29_1
        · rw [if_pos c14] at H
          have c14b0 : decide (0 ≤ x29_1) = true := decide_eq_true c14
          clear c14
          by_cases c15 : x29_1 < (l4.length : Int)
          · rw [if_pos c15] at H
            have c15b0 : decide (x29_1 < (l4.length : Int)) = true := decide_eq_true c15
            clear c15
            obtain ⟨ji16, hji16⟩ : ∃ j_ : Int, (wrap64 ((wrap64 (x2_1 * (wrap64 (a0 + 1)))) + x3_1)) = j_ := ⟨_, rfl⟩
            replace H : (if 0 ≤ (ji16) then (if (ji16) < (t1023.length : Int) then (if 0 ≤ (wrap64 ((rd l4 x29_1) - 1)) then (if (wrap64 ((rd l4 x29_1) - 1)) < ((rd_L7 t1023 (ji16)).length : Int) then (if (rd (rd_L7 t1023 (ji16)) (wrap64 ((rd l4 x29_1) - 1))) ≥ 0 then ((spec_oiNext.f x2_1 x3_1 (rd (rd_L7 t1023 (ji16)) (wrap64 ((rd l4 x29_1) - 1))) (rd l4 x29_1)).bind fun bt1037 => (if x13_1.length < 5864062014805 then (spec_oiPlay.l0 k1 a0 bt1037.1 bt1037.2 t1023 (x13_1 ++ [(([bt1037.1, bt1037.2] : List Int))]) l4 (l4.length : Int) (wrap64 (x29_1 + 1))) else (none))) else (if x13_1.length < 5864062014805 then (spec_oiPlay.l0 k1 a0 x2_1 x3_1 t1023 (x13_1 ++ [(([x2_1, x3_1] : List Int))]) l4 (l4.length : Int) (wrap64 (x29_1 + 1))) else (none))) else (none)) else (none)) else (none)) else (none)) = some r := by first | (rw [hji16] at H; exact H) | (simp only [hji16] at H ⊢; exact H)
            have hji16w : (IntKind.i64.wrap ((wrap64 (x2_1 * (wrap64 (a0 + 1)))) + x3_1)) = ji16 := (i64_w _).trans hji16
            by_cases c17 : 0 ≤ (ji16)
            · rw [if_pos c17] at H
              have c17b0 : decide (0 ≤ (ji16)) = true := decide_eq_true c17
              clear c17
              by_cases c18 : (ji16) < (t1023.length : Int)
              · rw [if_pos c18] at H
                have c18b0 : decide ((ji16) < (t1023.length : Int)) = true := decide_eq_true c18
                clear c18
                obtain ⟨ji19, hji19⟩ : ∃ j_ : Int, (wrap64 ((rd l4 x29_1) - 1)) = j_ := ⟨_, rfl⟩
                replace H : (if 0 ≤ (ji19) then (if (ji19) < ((rd_L7 t1023 (ji16)).length : Int) then (if (rd (rd_L7 t1023 (ji16)) (ji19)) ≥ 0 then ((spec_oiNext.f x2_1 x3_1 (rd (rd_L7 t1023 (ji16)) (ji19)) (rd l4 x29_1)).bind fun bt1037 => (if x13_1.length < 5864062014805 then (spec_oiPlay.l0 k1 a0 bt1037.1 bt1037.2 t1023 (x13_1 ++ [(([bt1037.1, bt1037.2] : List Int))]) l4 (l4.length : Int) (wrap64 (x29_1 + 1))) else (none))) else (if x13_1.length < 5864062014805 then (spec_oiPlay.l0 k1 a0 x2_1 x3_1 t1023 (x13_1 ++ [(([x2_1, x3_1] : List Int))]) l4 (l4.length : Int) (wrap64 (x29_1 + 1))) else (none))) else (none)) else (none)) = some r := by first | (rw [hji19] at H; exact H) | (simp only [hji19] at H ⊢; exact H)
                have hji19w : (IntKind.i64.wrap ((rd l4 x29_1) - 1)) = ji19 := (i64_w _).trans hji19
                by_cases c20 : 0 ≤ (ji19)
                · rw [if_pos c20] at H
                  have c20b0 : decide (0 ≤ (ji19)) = true := decide_eq_true c20
                  clear c20
                  by_cases c21 : (ji19) < ((rd_L7 t1023 (ji16)).length : Int)
                  · rw [if_pos c21] at H
                    have c21b0 : decide ((ji19) < ((rd_L7 t1023 (ji16)).length : Int)) = true := decide_eq_true c21
                    clear c21
                    by_cases c22 : (rd (rd_L7 t1023 (ji16)) (ji19)) ≥ 0
                    · rw [if_pos c22] at H
                      have c22b0 : decide (0 ≤ (rd (rd_L7 t1023 (ji16)) (ji19))) = true := decide_eq_true c22
                      clear c22
                      replace H := Option.bind_eq_some_iff.mp H
                      obtain ⟨⟨t1037, t1038⟩, A230, H⟩ := H
                      replace H : (if x13_1.length < 5864062014805 then (spec_oiPlay.l0 k1 a0 t1037 t1038 t1023 (x13_1 ++ [(([t1037, t1038] : List Int))]) l4 (l4.length : Int) (wrap64 (x29_1 + 1))) else (none)) = some r := H
                      have A23 := Aside0.mk A230
                      clear A230
                      obtain ⟨y1039, hy1039⟩ : ∃ y_ : List Int, y_ = (([t1037, t1038] : List Int)) := ⟨_, rfl⟩
                      replace H : (if x13_1.length < 5864062014805 then (spec_oiPlay.l0 k1 a0 t1037 t1038 t1023 (x13_1 ++ [y1039]) l4 (l4.length : Int) (wrap64 (x29_1 + 1))) else (none)) = some r := by first | (rw [hy1039]; with_reducible exact H) | (have H2_ := (Option.bind_some _ _).symm.trans H; rw [hy1039]; with_reducible exact H2_) | (have H2_ := (Option.bind_some _ _).symm.trans H; with_reducible exact H2_) | with_reducible exact H | (rw [hy1039]; exact H) | exact H
                      have Ny1039 := Aside0.mk hy1039
                      clear hy1039
                      by_cases c24 : x13_1.length < 5864062014805
                      · rw [if_pos c24] at H
                        have LMc24 := Aside0.mk c24
                        clear c24
                        obtain ⟨y1042, hy1042⟩ : ∃ y_ : List (List Int), y_ = (x13_1 ++ [y1039]) := ⟨_, rfl⟩
                        replace H : (spec_oiPlay.l0 k1 a0 t1037 t1038 t1023 y1042 l4 (l4.length : Int) (wrap64 (x29_1 + 1))) = some r := by first | (rw [hy1042]; with_reducible exact H) | (have H2_ := (Option.bind_some _ _).symm.trans H; rw [hy1042]; with_reducible exact H2_) | (have H2_ := (Option.bind_some _ _).symm.trans H; with_reducible exact H2_) | with_reducible exact H | (rw [hy1042]; exact H) | exact H
                        have Ny1042 := Aside0.mk hy1042
                        clear hy1042
                        have H' := Aside0.mk H
                        clear H
                        have p1034 : 0 ≤ (x29_1 : Int) := of_decide_eq_true (by first | (with_reducible assumption) | assumption)
                        have q1034 : x29_1 < (l4.length : Int) := of_decide_eq_true (by first | (with_reducible assumption) | assumption)
                        obtain ⟨ad1034, e1034, hx1034_0⟩ := Kd.at_int HR4.out x29_1 p1034 q1034
                        cases e1034
                        replace hx1034_0 := (HB.out.cell (World.block_lt_of_cell? w _ hx1034_0)).trans hx1034_0
                        replace p1034 := eq_true p1034
                        replace q1034 := eq_true q1034
                        obtain ⟨Ao25, co25, eo25⟩ := Kd.N_slice HO_12.out
                        subst eo25
                        have p1035 : 0 ≤ ((ji16) : Int) := of_decide_eq_true (by first | (with_reducible assumption) | assumption)
                        have q1035 : (ji16) < (t1023.length : Int) := of_decide_eq_true (by first | (with_reducible assumption) | assumption)
                        obtain ⟨ad1035, A1035_0, c1035_0, e1035, hx1035_0, hl1035_0, hi1035_0⟩ := at_L7 (Kd.N_reads' HO_12.out).2.2 (ji16) p1035 q1035
                        cases e1035
                        obtain ⟨ce1035, hce1035, hMe1035, hcc1035⟩ := Kd.N_get HO_12.out [] (ji16) p1035 (by first | exact q1035 | exact of_decide_eq_true (by first | (with_reducible assumption) | assumption) | (have e_ := (Kd.N_reads' HO_12.out).1; omega))
                        obtain ⟨ua1035_0, uc1035_0, rfl, ul1035_0, ge1035_0⟩ := Kd.FK_slice_open hMe1035
                        have hv1035_0 := hcc1035 0 _ rfl
                        rw [Nat.add_zero, show ((Kd.slice 3 (Kd.int .i64))).sz = 1 from rfl, Nat.mul_one] at hv1035_0
                        replace hv1035_0 := Option.some.inj (hv1035_0.symm.trans hx1035_0)
                        injection hv1035_0 with hva_ hvn_ hvc_
                        rw [hva_] at ge1035_0
                        rw [hvc_] at ul1035_0
                        have HL1035_0 := Aside0.mk (show Kd.V (Kd.int .i64) 3 _ w.heap.size _ _ (rd_L7 t1023 (ji16)) from Kd.V_mk ul1035_0 ge1035_0)
                        clear hva_ hvn_ hvc_ ge1035_0 ul1035_0
                        clear hcc1035 hce1035
                        have HR1035_0 := Aside0.mk hi1035_0
                        have HC1035_0 := Aside0.mk hl1035_0
                        clear hi1035_0 hl1035_0
                        replace p1035 := eq_true p1035
                        replace q1035 := eq_true q1035
                        have p1036 : 0 ≤ ((ji19) : Int) := of_decide_eq_true (by first | (with_reducible assumption) | assumption)
                        have q1036 : (ji19) < ((rd_L7 t1023 (ji16)).length : Int) := of_decide_eq_true (by first | (with_reducible assumption) | assumption)
                        obtain ⟨ad1036, e1036, hx1036_0⟩ := Kd.at_int (by repeat (first | (with_reducible exact HR1035_0.out) | (with_reducible refine Kd.C_alloc ?_ _) | (with_reducible refine Kd.C_drewN ?_ _) | (with_reducible refine Kd.C_drew ?_) | exact HR1035_0.out)) (ji19) p1036 q1036
                        cases e1036
                        replace p1036 := eq_true p1036
                        replace q1036 := eq_true q1036
                        go_wp2_with (first | ((with_reducible refine gate_callee (f := 284) rfl ?_); refine goesL_ (some 53) rfl rfl Try.func284 (by kernel_rfl) rfl #[.int .i64 x2_1, .int .i64 x3_1, .int .i64 (rd (rd_L7 t1023 (ji16)) (ji19)), .int .i64 (rd l4 x29_1)] rfl (by (try simp only [List.map_toArray, List.map_cons, List.map_nil]); first | done | (simp only [hji16, hji19]; rfl) | rfl | (simp only [List.length_drop, List.length_take]; rfl)) ?_; (with_reducible refine (spec_oiNext.calls x2_1 x3_1 (rd (rd_L7 t1023 (ji16)) (ji19)) (rd l4 x29_1) t1037 t1038 _ A23.out).mono ?_); rintro e w' ⟨rfl, ⟨nd, rfl⟩⟩; refine ⟨_, rfl, ?_⟩) | ((with_reducible refine gate_dst (N := 59) rfl ?_); refine Kd.R_lit (Kd.int .i64) _ 3 ?hg (N := 59) ?hd (xs := ([t1037, t1038] : List Int)) (inner := [.int .i64 t1037, .int .i64 t1038]) (ok := fun _ => True) (okp := fun _ => True) ?hr ?hp (fun _ hk => hk) trivial (Below.refl _ _) (Nat.le_refl _) (by simp) ?_; (case hd => rfl); (case hg => rfl); (case hr => first | (go_simp; done) | (go_simp; rfl)); (case hp => exact (Reps.one (show Kd.M (Kd.int .i64) _ _ _ t1037 [.int .i64 t1037] from rfl) (Reps.one (show Kd.M (Kd.int .i64) _ _ _ t1038 [.int .i64 t1038] from rfl) (Reps.none _ _)))); intro v1040 w26 ho27 hb hg_ hnew_; clear hg_ hnew_; (first | rw [← Ny1039.out] at ho27 | (simp only [Int.reduceToNat] at ho27; rw [← Ny1039.out] at ho27)); have n0_ := Aside0.mk (Kd.N_elder' (by (with_reducible repeat (first | apply Kd.N_alloc | apply Kd.N_drewN | apply Kd.N_drew)); exact HO_12.out) (Kd.R_base ho27) hb); have n1_ := Aside0.mk (Kd.N_elder' (by (with_reducible repeat (first | apply Kd.N_alloc | apply Kd.N_drewN | apply Kd.N_drew)); exact HO_13.out) (Kd.R_base ho27) hb); have n2_ := Aside0.mk (Kd.V_elder' (by (with_reducible repeat (first | apply Kd.V_alloc | apply Kd.V_drewN | apply Kd.V_drew)); exact HL1035_0.out) (Kd.R_base ho27) hb); have n3_ := Aside0.mk (Kd.R_lower (Kd.R_newM (M := fun k_ => (w.heap.size ≤ k_)) ho27 (below_size (by repeat (first | (with_reducible first | exact HB.out | apply below_alloc | apply pw_below_drewN | apply below_drew1) | exact HB.out))) (fun k_ h_ => h_)) (below_size (by repeat (first | (with_reducible first | exact HB.out | apply below_alloc | apply pw_below_drewN | apply below_drew1) | exact HB.out)))); have n4_ := Aside0.mk (Kd.C_below (by repeat (first | (with_reducible exact HR1035_0.out) | (with_reducible refine Kd.C_alloc ?_ _) | (with_reducible refine Kd.C_drewN ?_ _) | (with_reducible refine Kd.C_drew ?_) | exact HR1035_0.out)) hb); have n5_ := Aside0.mk (below_step (by repeat (first | (with_reducible first | exact HB.out | apply below_alloc | apply pw_below_drewN | apply below_drew1) | exact HB.out)) hb); clear HO_12; clear HO_13; clear HL1035_0; clear HR1035_0; clear HB; have HO_12 := n0_; have HO_13 := n1_; have HL1035_0 := n2_; have HO1041 := n3_; have HR1035_0 := n4_; have HB := n5_; clear n0_ n1_ n2_ n3_ n4_ n5_; clear hb ho27; obtain ⟨Ao29, co29, eo29⟩ := Kd.R_slice HO1041.out; subst eo29) | ((with_reducible refine gate_builtin (b := .append) (xs := #[.tmp 56, .tmp 60]) rfl ?_); at_builtin; refine Kd.N_append (Kd.slice 3 (Kd.int .i64)) (w0 := w) w.heap.size rfl (.tmp 56) (.tmp 60) 64 26 (.slice none 0 0) 24 rfl Try.underlying64 info26 rfl (by decide) (by omega) u13 x13_1 y1039 [.slice Ao29 y1039.length co29] (fun k_ => (w.heap.size ≤ k_) ∧ some k_ ≠ (.slice (some ad1035) t1023.length co25 : Value).ownBlock) (fun k_ => ((fun k_ => (w.heap.size ≤ k_) ∧ some k_ ≠ (.slice (some ad1035) t1023.length co25 : Value).ownBlock)) k_ ∧ some k_ ≠ (u13 : Value).ownBlock) rfl rfl ?aP (fun _ hk => hk) ?aF ?aO ?aB ?aS ?aL ?_; (case aP => exact (Kd.FK_slice_mk (Kd.R_reads' (Kd.R_mono (ok' := (fun k_ => ((fun k_ => (w.heap.size ≤ k_) ∧ some k_ ≠ (.slice (some ad1035) t1023.length co25 : Value).ownBlock)) k_ ∧ some k_ ≠ (u13 : Value).ownBlock)) (Kd.R_apart' (Kd.R_apart' (HO1041.out) (Kd.N_typed HO_12.out) (by decide)) (Kd.N_typed HO_13.out) (by decide)) (fun k_ hk => ⟨⟨hk.1.1.1, hk.1.2⟩, hk.2⟩))).2.1 (Kd.R_F (Kd.R_mono (ok' := (fun k_ => ((fun k_ => (w.heap.size ≤ k_) ∧ some k_ ≠ (.slice (some ad1035) t1023.length co25 : Value).ownBlock)) k_ ∧ some k_ ≠ (u13 : Value).ownBlock)) (Kd.R_apart' (Kd.R_apart' (HO1041.out) (Kd.N_typed HO_12.out) (by decide)) (Kd.N_typed HO_13.out) (by decide)) (fun k_ hk => ⟨⟨hk.1.1.1, hk.1.2⟩, hk.2⟩))))); (case aB => exact (by repeat (first | (with_reducible first | exact HB.out | apply below_alloc | apply pw_below_drewN | apply below_drew1) | exact HB.out))); (case aF => exact (fun k_ hk => ⟨(Nat.le_trans (below_size (by repeat (first | (with_reducible first | exact HB.out | apply below_alloc | apply pw_below_drewN | apply below_drew1) | exact HB.out))) hk), Kd.fresh' (Kd.N_lt (by (with_reducible repeat (first | apply Kd.N_alloc | apply Kd.N_drewN | apply Kd.N_drew)); exact HO_12.out)) k_ hk⟩)); (case aO => exact (by (with_reducible repeat (first | apply Kd.N_alloc | apply Kd.N_drewN | apply Kd.N_drew)); exact Kd.N_mono HO_13.out (fun _ hk => ⟨hk.1.1, hk.1.2⟩))); (case aS => exact (below_size (by repeat (first | (with_reducible first | exact HB.out | apply below_alloc | apply pw_below_drewN | apply below_drew1) | exact HB.out)))); (case aL => have := LMc24.out; omega); intro v1043 w28 ho hb hg hat; rw [← Ny1042.out] at ho; have n0_ := Aside0.mk (Kd.N_afterv (ok := (fun k_ => (w.heap.size ≤ k_) ∧ some k_ ≠ (.slice Ao29 y1039.length co29 : Value).ownBlock)) (by (with_reducible repeat (first | apply Kd.N_alloc | apply Kd.N_drewN | apply Kd.N_drew)); exact Kd.N_mono HO_12.out (fun _ hk => ⟨⟨hk.1.1, hk.2⟩, hk.1.2⟩)) hg hat); have n1_ := Aside0.mk (Kd.V_afterv (ok := (fun k_ => (w.heap.size ≤ k_) ∧ some k_ ≠ (.slice (some ad1035) t1023.length co25 : Value).ownBlock ∧ some k_ ≠ (.slice Ao29 y1039.length co29 : Value).ownBlock)) (by (with_reducible repeat (first | apply Kd.V_alloc | apply Kd.V_drewN | apply Kd.V_drew)); exact Kd.V_mono HL1035_0.out (fun _ hk => ⟨⟨hk.1.1.1, ⟨hk.1.2, hk.2⟩⟩, hk.1.1.2⟩)) hg hat); have n2_ := Aside0.mk (hb); have n3_ := Aside0.mk (ho); clear HO_12; clear HL1035_0; clear HB; clear HO_13; clear HO1041; have HO_12 := n0_; have HL1035_0 := n1_; have HB := n2_; have HO1044 := n3_; clear n0_ n1_ n2_ n3_; clear ho hb hg hat))
                        go_roundg k1
                        case measure => have := HK1.out; omega
                        case rel => exact ⟨(t1037), (t1038), (y1042), (wrap64 (x29_1 + 1)), (by first | rfl | (simp; done) | (simp [*]; done)), (by first | rfl | (simp; done) | (simp [*]; done)), (by first | rfl | (simp; done) | (simp [*]; done)), H', ⟨by have := HK1.out; omega⟩, ⟨by (with_reducible repeat (first | apply Kd.N_alloc | apply Kd.N_drewN | apply Kd.N_drew)); exact Kd.N_mono HO_12.out (fun _ hk => ⟨hk.1.1, hk.2⟩)⟩, ⟨by (with_reducible repeat (first | apply Kd.N_alloc | apply Kd.N_drewN | apply Kd.N_drew)); exact HO1044.out⟩, ⟨by repeat (first | (with_reducible first | exact HB.out | apply below_alloc | apply pw_below_drewN | apply below_drew1) | exact HB.out)⟩⟩
                      · rw [if_neg c24] at H
                        exact absurd H (by simp)
                    · rw [if_neg c22] at H
                      have c22b0 : decide (0 ≤ (rd (rd_L7 t1023 (ji16)) (ji19))) = false := decide_eq_false c22
                      clear c22
                      obtain ⟨y1045, hy1045⟩ : ∃ y_ : List Int, y_ = (([x2_1, x3_1] : List Int)) := ⟨_, rfl⟩
                      replace H : (if x13_1.length < 5864062014805 then (spec_oiPlay.l0 k1 a0 x2_1 x3_1 t1023 (x13_1 ++ [y1045]) l4 (l4.length : Int) (wrap64 (x29_1 + 1))) else (none)) = some r := by first | (rw [hy1045]; with_reducible exact H) | (have H2_ := (Option.bind_some _ _).symm.trans H; rw [hy1045]; with_reducible exact H2_) | (have H2_ := (Option.bind_some _ _).symm.trans H; with_reducible exact H2_) | with_reducible exact H | (rw [hy1045]; exact H) | exact H
                      have Ny1045 := Aside0.mk hy1045
                      clear hy1045
                      by_cases c30 : x13_1.length < 5864062014805
                      · rw [if_pos c30] at H
                        have LMc30 := Aside0.mk c30
                        clear c30
                        obtain ⟨y1048, hy1048⟩ : ∃ y_ : List (List Int), y_ = (x13_1 ++ [y1045]) := ⟨_, rfl⟩
                        replace H : (spec_oiPlay.l0 k1 a0 x2_1 x3_1 t1023 y1048 l4 (l4.length : Int) (wrap64 (x29_1 + 1))) = some r := by first | (rw [hy1048]; with_reducible exact H) | (have H2_ := (Option.bind_some _ _).symm.trans H; rw [hy1048]; with_reducible exact H2_) | (have H2_ := (Option.bind_some _ _).symm.trans H; with_reducible exact H2_) | with_reducible exact H | (rw [hy1048]; exact H) | exact H
                        have Ny1048 := Aside0.mk hy1048
                        clear hy1048
                        have H' := Aside0.mk H
                        clear H
                        have p1034 : 0 ≤ (x29_1 : Int) := of_decide_eq_true (by first | (with_reducible assumption) | assumption)
                        have q1034 : x29_1 < (l4.length : Int) := of_decide_eq_true (by first | (with_reducible assumption) | assumption)
                        obtain ⟨ad1034, e1034, hx1034_0⟩ := Kd.at_int HR4.out x29_1 p1034 q1034
                        cases e1034
                        replace hx1034_0 := (HB.out.cell (World.block_lt_of_cell? w _ hx1034_0)).trans hx1034_0
                        replace p1034 := eq_true p1034
                        replace q1034 := eq_true q1034
                        obtain ⟨Ao31, co31, eo31⟩ := Kd.N_slice HO_12.out
                        subst eo31
                        have p1035 : 0 ≤ ((ji16) : Int) := of_decide_eq_true (by first | (with_reducible assumption) | assumption)
                        have q1035 : (ji16) < (t1023.length : Int) := of_decide_eq_true (by first | (with_reducible assumption) | assumption)
                        obtain ⟨ad1035, A1035_0, c1035_0, e1035, hx1035_0, hl1035_0, hi1035_0⟩ := at_L7 (Kd.N_reads' HO_12.out).2.2 (ji16) p1035 q1035
                        cases e1035
                        obtain ⟨ce1035, hce1035, hMe1035, hcc1035⟩ := Kd.N_get HO_12.out [] (ji16) p1035 (by first | exact q1035 | exact of_decide_eq_true (by first | (with_reducible assumption) | assumption) | (have e_ := (Kd.N_reads' HO_12.out).1; omega))
                        obtain ⟨ua1035_0, uc1035_0, rfl, ul1035_0, ge1035_0⟩ := Kd.FK_slice_open hMe1035
                        have hv1035_0 := hcc1035 0 _ rfl
                        rw [Nat.add_zero, show ((Kd.slice 3 (Kd.int .i64))).sz = 1 from rfl, Nat.mul_one] at hv1035_0
                        replace hv1035_0 := Option.some.inj (hv1035_0.symm.trans hx1035_0)
                        injection hv1035_0 with hva_ hvn_ hvc_
                        rw [hva_] at ge1035_0
                        rw [hvc_] at ul1035_0
                        have HL1035_0 := Aside0.mk (show Kd.V (Kd.int .i64) 3 _ w.heap.size _ _ (rd_L7 t1023 (ji16)) from Kd.V_mk ul1035_0 ge1035_0)
                        clear hva_ hvn_ hvc_ ge1035_0 ul1035_0
                        clear hcc1035 hce1035
                        have HR1035_0 := Aside0.mk hi1035_0
                        have HC1035_0 := Aside0.mk hl1035_0
                        clear hi1035_0 hl1035_0
                        replace p1035 := eq_true p1035
                        replace q1035 := eq_true q1035
                        have p1036 : 0 ≤ ((ji19) : Int) := of_decide_eq_true (by first | (with_reducible assumption) | assumption)
                        have q1036 : (ji19) < ((rd_L7 t1023 (ji16)).length : Int) := of_decide_eq_true (by first | (with_reducible assumption) | assumption)
                        obtain ⟨ad1036, e1036, hx1036_0⟩ := Kd.at_int (by repeat (first | (with_reducible exact HR1035_0.out) | (with_reducible refine Kd.C_alloc ?_ _) | (with_reducible refine Kd.C_drewN ?_ _) | (with_reducible refine Kd.C_drew ?_) | exact HR1035_0.out)) (ji19) p1036 q1036
                        cases e1036
                        replace p1036 := eq_true p1036
                        replace q1036 := eq_true q1036
                        go_wp2_with (first | ((with_reducible refine gate_dst (N := 59) rfl ?_); refine Kd.R_lit (Kd.int .i64) _ 3 ?hg (N := 59) ?hd (xs := ([x2_1, x3_1] : List Int)) (inner := [.int .i64 x2_1, .int .i64 x3_1]) (ok := fun _ => True) (okp := fun _ => True) ?hr ?hp (fun _ hk => hk) trivial (Below.refl _ _) (Nat.le_refl _) (by simp) ?_; (case hd => rfl); (case hg => rfl); (case hr => first | (go_simp; done) | (go_simp; rfl)); (case hp => exact (Reps.one (show Kd.M (Kd.int .i64) _ _ _ x2_1 [.int .i64 x2_1] from rfl) (Reps.one (show Kd.M (Kd.int .i64) _ _ _ x3_1 [.int .i64 x3_1] from rfl) (Reps.none _ _)))); intro v1046 w32 ho33 hb hg_ hnew_; clear hg_ hnew_; (first | rw [← Ny1045.out] at ho33 | (simp only [Int.reduceToNat] at ho33; rw [← Ny1045.out] at ho33)); have n0_ := Aside0.mk (Kd.N_elder' (by (with_reducible repeat (first | apply Kd.N_alloc | apply Kd.N_drewN | apply Kd.N_drew)); exact HO_12.out) (Kd.R_base ho33) hb); have n1_ := Aside0.mk (Kd.N_elder' (by (with_reducible repeat (first | apply Kd.N_alloc | apply Kd.N_drewN | apply Kd.N_drew)); exact HO_13.out) (Kd.R_base ho33) hb); have n2_ := Aside0.mk (Kd.V_elder' (by (with_reducible repeat (first | apply Kd.V_alloc | apply Kd.V_drewN | apply Kd.V_drew)); exact HL1035_0.out) (Kd.R_base ho33) hb); have n3_ := Aside0.mk (Kd.R_lower (Kd.R_newM (M := fun k_ => (w.heap.size ≤ k_)) ho33 (below_size (by repeat (first | (with_reducible first | exact HB.out | apply below_alloc | apply pw_below_drewN | apply below_drew1) | exact HB.out))) (fun k_ h_ => h_)) (below_size (by repeat (first | (with_reducible first | exact HB.out | apply below_alloc | apply pw_below_drewN | apply below_drew1) | exact HB.out)))); have n4_ := Aside0.mk (Kd.C_below (by repeat (first | (with_reducible exact HR1035_0.out) | (with_reducible refine Kd.C_alloc ?_ _) | (with_reducible refine Kd.C_drewN ?_ _) | (with_reducible refine Kd.C_drew ?_) | exact HR1035_0.out)) hb); have n5_ := Aside0.mk (below_step (by repeat (first | (with_reducible first | exact HB.out | apply below_alloc | apply pw_below_drewN | apply below_drew1) | exact HB.out)) hb); clear HO_12; clear HO_13; clear HL1035_0; clear HR1035_0; clear HB; have HO_12 := n0_; have HO_13 := n1_; have HL1035_0 := n2_; have HO1047 := n3_; have HR1035_0 := n4_; have HB := n5_; clear n0_ n1_ n2_ n3_ n4_ n5_; clear hb ho33; obtain ⟨Ao35, co35, eo35⟩ := Kd.R_slice HO1047.out; subst eo35) | ((with_reducible refine gate_builtin (b := .append) (xs := #[.tmp 56, .tmp 60]) rfl ?_); at_builtin; refine Kd.N_append (Kd.slice 3 (Kd.int .i64)) (w0 := w) w.heap.size rfl (.tmp 56) (.tmp 60) 64 26 (.slice none 0 0) 24 rfl Try.underlying64 info26 rfl (by decide) (by omega) u13 x13_1 y1045 [.slice Ao35 y1045.length co35] (fun k_ => (w.heap.size ≤ k_) ∧ some k_ ≠ (.slice (some ad1035) t1023.length co31 : Value).ownBlock) (fun k_ => ((fun k_ => (w.heap.size ≤ k_) ∧ some k_ ≠ (.slice (some ad1035) t1023.length co31 : Value).ownBlock)) k_ ∧ some k_ ≠ (u13 : Value).ownBlock) rfl rfl ?aP (fun _ hk => hk) ?aF ?aO ?aB ?aS ?aL ?_; (case aP => exact (Kd.FK_slice_mk (Kd.R_reads' (Kd.R_mono (ok' := (fun k_ => ((fun k_ => (w.heap.size ≤ k_) ∧ some k_ ≠ (.slice (some ad1035) t1023.length co31 : Value).ownBlock)) k_ ∧ some k_ ≠ (u13 : Value).ownBlock)) (Kd.R_apart' (Kd.R_apart' (HO1047.out) (Kd.N_typed HO_12.out) (by decide)) (Kd.N_typed HO_13.out) (by decide)) (fun k_ hk => ⟨⟨hk.1.1.1, hk.1.2⟩, hk.2⟩))).2.1 (Kd.R_F (Kd.R_mono (ok' := (fun k_ => ((fun k_ => (w.heap.size ≤ k_) ∧ some k_ ≠ (.slice (some ad1035) t1023.length co31 : Value).ownBlock)) k_ ∧ some k_ ≠ (u13 : Value).ownBlock)) (Kd.R_apart' (Kd.R_apart' (HO1047.out) (Kd.N_typed HO_12.out) (by decide)) (Kd.N_typed HO_13.out) (by decide)) (fun k_ hk => ⟨⟨hk.1.1.1, hk.1.2⟩, hk.2⟩))))); (case aB => exact (by repeat (first | (with_reducible first | exact HB.out | apply below_alloc | apply pw_below_drewN | apply below_drew1) | exact HB.out))); (case aF => exact (fun k_ hk => ⟨(Nat.le_trans (below_size (by repeat (first | (with_reducible first | exact HB.out | apply below_alloc | apply pw_below_drewN | apply below_drew1) | exact HB.out))) hk), Kd.fresh' (Kd.N_lt (by (with_reducible repeat (first | apply Kd.N_alloc | apply Kd.N_drewN | apply Kd.N_drew)); exact HO_12.out)) k_ hk⟩)); (case aO => exact (by (with_reducible repeat (first | apply Kd.N_alloc | apply Kd.N_drewN | apply Kd.N_drew)); exact Kd.N_mono HO_13.out (fun _ hk => ⟨hk.1.1, hk.1.2⟩))); (case aS => exact (below_size (by repeat (first | (with_reducible first | exact HB.out | apply below_alloc | apply pw_below_drewN | apply below_drew1) | exact HB.out)))); (case aL => have := LMc30.out; omega); intro v1049 w34 ho hb hg hat; rw [← Ny1048.out] at ho; have n0_ := Aside0.mk (Kd.N_afterv (ok := (fun k_ => (w.heap.size ≤ k_) ∧ some k_ ≠ (.slice Ao35 y1045.length co35 : Value).ownBlock)) (by (with_reducible repeat (first | apply Kd.N_alloc | apply Kd.N_drewN | apply Kd.N_drew)); exact Kd.N_mono HO_12.out (fun _ hk => ⟨⟨hk.1.1, hk.2⟩, hk.1.2⟩)) hg hat); have n1_ := Aside0.mk (Kd.V_afterv (ok := (fun k_ => (w.heap.size ≤ k_) ∧ some k_ ≠ (.slice (some ad1035) t1023.length co31 : Value).ownBlock ∧ some k_ ≠ (.slice Ao35 y1045.length co35 : Value).ownBlock)) (by (with_reducible repeat (first | apply Kd.V_alloc | apply Kd.V_drewN | apply Kd.V_drew)); exact Kd.V_mono HL1035_0.out (fun _ hk => ⟨⟨hk.1.1.1, ⟨hk.1.2, hk.2⟩⟩, hk.1.1.2⟩)) hg hat); have n2_ := Aside0.mk (hb); have n3_ := Aside0.mk (ho); clear HO_12; clear HL1035_0; clear HB; clear HO_13; clear HO1047; have HO_12 := n0_; have HL1035_0 := n1_; have HB := n2_; have HO1050 := n3_; clear n0_ n1_ n2_ n3_; clear ho hb hg hat))
                        go_roundg k1
                        case measure => have := HK1.out; omega
                        case rel => exact ⟨(x2_1), (x3_1), (y1048), (wrap64 (x29_1 + 1)), (by first | rfl | (simp; done) | (simp [*]; done)), (by first | rfl | (simp; done) | (simp [*]; done)), (by first | rfl | (simp; done) | (simp [*]; done)), H', ⟨by have := HK1.out; omega⟩, ⟨by (with_reducible repeat (first | apply Kd.N_alloc | apply Kd.N_drewN | apply Kd.N_drew)); exact Kd.N_mono HO_12.out (fun _ hk => ⟨hk.1.1, hk.2⟩)⟩, ⟨by (with_reducible repeat (first | apply Kd.N_alloc | apply Kd.N_drewN | apply Kd.N_drew)); exact HO1050.out⟩, ⟨by repeat (first | (with_reducible first | exact HB.out | apply below_alloc | apply pw_below_drewN | apply below_drew1) | exact HB.out)⟩⟩
                      · rw [if_neg c30] at H
                        exact absurd H (by simp)
                  · rw [if_neg c21] at H
                    exact absurd H (by simp)
                · rw [if_neg c20] at H
                  exact absurd H (by simp)
              · rw [if_neg c18] at H
                exact absurd H (by simp)
            · rw [if_neg c17] at H
              exact absurd H (by simp)
          · rw [if_neg c15] at H
            exact absurd H (by simp)
        · rw [if_neg c14] at H
          exact absurd H (by simp)
      · rw [if_neg c13] at H
        have c13b0 : decide (x29_1 < (l4.length : Int)) = false := decide_eq_false c13
        clear c13
        obtain rfl := Option.some.inj H
        go_wp2
        go_ret
        exact ⟨_, by first | rfl | (simp [errW_none, errW_some] <;> rfl) | (simp [*, errW_none, errW_some] <;> rfl), by (with_reducible repeat (first | apply Kd.N_alloc | apply Kd.N_drewN | apply Kd.N_drew)); exact Kd.N_mono HO_13.out (fun _ hk => hk.1), by repeat (first | (with_reducible first | exact HB.out | apply below_alloc | apply pw_below_drewN | apply below_drew1) | exact HB.out)⟩
end Go.Proofs.Ytgahigmpcgfbeaa.P
end
