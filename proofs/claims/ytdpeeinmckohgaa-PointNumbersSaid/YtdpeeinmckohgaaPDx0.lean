-- Written by wprint.py, a program of this session's, over the kit's print.
import Derived.Test.YtdpeeinmckohgaaProg
import Derived.Below
import Derived.Deep.Draws
import Derived.Deep.AppendLies
import Derived.Maps.AppendAt
import Derived.OwnWalk
import Derived.Laws.BytesArg
import Derived.Laws.MakeOwn
import Derived.Laws.OwnMore
import Derived.Deep.OwnRows
import Derived.Tactics
import Derived.Lib.ConvBytes
import Derived.Laws.Slices
import Derived.WalkKit
import Derived.KernelRfl
import Derived.RowKit3
import Derived.Deep.LoopGhost
import Derived.Deep.QuietTactic
import Derived.BigQuiet
import Derived.WideLaws
import Derived.Deep.DeepCutAuto
import Derived.Deep.CutBlock
import Derived.Deep.RegionHeld3
import Derived.Laws.Rows
import Derived.Lib.AppendStr
import Derived.ArgAppend
import Derived.Laws.IdiomCopy
import Derived.OrdersHeld
import Derived.Laws.BitsLemmas
import Derived.RowKit
import Derived.Test.YtdpeeinmckohgaaWWords
import Derived.Test.YtdpeeinmckohgaaWLast
import Derived.Test.YtdpeeinmckohgaaWTab
import Derived.Test.YtdpeeinmckohgaaWFour
import Derived.Test.YtdpeeinmckohgaaWQPut
import Derived.Test.YtdpeeinmckohgaaWApart
import Derived.Test.YtdpeeinmckohgaaWArr
import Derived.Test.YtdpeeinmckohgaaWZeros
import Derived.Test.YtdpeeinmckohgaaWFoot
import Derived.Test.YtdpeeinmckohgaaWKept
import Derived.Test.YtdpeeinmckohgaaWShare
import Derived.Test.YtdpeeinmckohgaaWN
import Derived.Test.YtdpeeinmckohgaaWFootNe
import Derived.Test.YtdpeeinmckohgaaWAt
import Derived.Test.YtdpeeinmckohgaaWEqStruct
import Derived.Test.YtdpeeinmckohgaaWRepsOne
import Derived.Test.YtdpeeinmckohgaaWInv
import Derived.Test.YtdpeeinmckohgaaWInvWords
import Derived.Test.YtdpeeinmckohgaaWGuard
import Derived.Test.YtdpeeinmckohgaaWNEv
import Derived.Test.YtdpeeinmckohgaaWMore
import Derived.Test.YtdpeeinmckohgaaWGoto
import Derived.Test.YtdpeeinmckohgaaWFlt
import Derived.Test.YtdpeeinmckohgaaWFlt2
namespace Go.Proofs.Ytdpeeinmckohgaa.PD
open Go.RowKit Go.Proofs.YtdpeeinmckohgaaW.PrintWords Go.Proofs.YtdpeeinmckohgaaW.PrintLast Go.Proofs.YtdpeeinmckohgaaW.PrintMore
attribute [local go_sem] max2_int min2_int max_two min_two max_three min_three max_four min_four fl_eql fl_neq fl_lss fl_leq fl_gtr fl_geq fl_add fl_of fl_int cx_mk cx_real cx_imag cx_eql cx_neq cx_add st_f64 st_c128   -- for this text's walks alone
set_option linter.unusedVariables false
set_option linter.unusedSimpArgs false



def errW : Option Int → Value
  | none => .nilIface
  | some c => .iface 0 (.int .i64 c)
theorem errW_none : errW none = .nilIface := rfl
theorem errW_some (c : Int) : errW (some c) = .iface 0 (.int .i64 c) := rfl

theorem info3 : (Try.prog.info? 3).map (fun i => (i.zero, i.size, i.bytes)) = some (some (.int .i64 0), 1, 8) := by kernel_rfl
theorem info28 : (Try.prog.info? 28).map (fun i => (i.zero, i.size, i.bytes)) = some (some (.complex .f64 0 0), 1, 16) := by kernel_rfl
-- the values' own types
/-! #### struct type 24 -/
structure S24 where
  f0 : Nat
  f1 : Nat
  f2 : Nat
  f3 : Nat
  f4 : Nat
  f5 : Nat
  f6 : Nat
  f7 : Nat
def z24 : S24 := ⟨(0 : Nat), (0 : Nat), (0 : Nat), (0 : Nat), (0 : Nat), (0 : Nat), (0 : Nat), (0 : Nat)⟩
def k24 : Kd S24 := Kd.iso (Kd.pair Kd.f64 (Kd.pair Kd.f64 (Kd.pair Kd.f64 (Kd.pair Kd.f64 (Kd.pair Kd.f64 (Kd.pair Kd.f64 (Kd.pair Kd.f64 Kd.f64))))))) (fun x : S24 => (x.f0, x.f1, x.f2, x.f3, x.f4, x.f5, x.f6, x.f7))
theorem k24_open {w : World} {x : S24} {cs : List Value} (h : k24.K w x cs) : cs = [.float .f64 x.f0, .float .f64 x.f1, .float .f64 x.f2, .float .f64 x.f3, .float .f64 x.f4, .float .f64 x.f5, .float .f64 x.f6, .float .f64 x.f7] := by
  obtain ⟨_, _, rfl, rfl, ⟨_, _, rfl, rfl, ⟨_, _, rfl, rfl, ⟨_, _, rfl, rfl, ⟨_, _, rfl, rfl, ⟨_, _, rfl, rfl, ⟨_, _, rfl, rfl, rfl⟩⟩⟩⟩⟩⟩⟩ := h
  exact rfl
theorem k24_openM {w : World} {base : Nat} {ok : Nat → Prop} {x : S24} {cs : List Value} (h : k24.M w base ok x cs) : cs = [.float .f64 x.f0, .float .f64 x.f1, .float .f64 x.f2, .float .f64 x.f3, .float .f64 x.f4, .float .f64 x.f5, .float .f64 x.f6, .float .f64 x.f7] := by
  obtain ⟨_, _, rfl, rfl, ⟨_, _, rfl, rfl, ⟨_, _, rfl, rfl, ⟨_, _, rfl, rfl, ⟨_, _, rfl, rfl, ⟨_, _, rfl, rfl, ⟨_, _, rfl, rfl, rfl⟩⟩⟩⟩⟩⟩⟩ := h
  exact rfl
theorem k24_mk (w : World) (x : S24)  : k24.K w x [.float .f64 x.f0, .float .f64 x.f1, .float .f64 x.f2, .float .f64 x.f3, .float .f64 x.f4, .float .f64 x.f5, .float .f64 x.f6, .float .f64 x.f7] := ⟨[.float .f64 x.f0], [.float .f64 x.f1, .float .f64 x.f2, .float .f64 x.f3, .float .f64 x.f4, .float .f64 x.f5, .float .f64 x.f6, .float .f64 x.f7], rfl, rfl, ⟨[.float .f64 x.f1], [.float .f64 x.f2, .float .f64 x.f3, .float .f64 x.f4, .float .f64 x.f5, .float .f64 x.f6, .float .f64 x.f7], rfl, rfl, ⟨[.float .f64 x.f2], [.float .f64 x.f3, .float .f64 x.f4, .float .f64 x.f5, .float .f64 x.f6, .float .f64 x.f7], rfl, rfl, ⟨[.float .f64 x.f3], [.float .f64 x.f4, .float .f64 x.f5, .float .f64 x.f6, .float .f64 x.f7], rfl, rfl, ⟨[.float .f64 x.f4], [.float .f64 x.f5, .float .f64 x.f6, .float .f64 x.f7], rfl, rfl, ⟨[.float .f64 x.f5], [.float .f64 x.f6, .float .f64 x.f7], rfl, rfl, ⟨[.float .f64 x.f6], [.float .f64 x.f7], rfl, rfl, rfl⟩⟩⟩⟩⟩⟩⟩
theorem k24_mkM (w : World) (base : Nat) (ok : Nat → Prop) (x : S24)  : k24.M w base ok x [.float .f64 x.f0, .float .f64 x.f1, .float .f64 x.f2, .float .f64 x.f3, .float .f64 x.f4, .float .f64 x.f5, .float .f64 x.f6, .float .f64 x.f7] := ⟨[.float .f64 x.f0], [.float .f64 x.f1, .float .f64 x.f2, .float .f64 x.f3, .float .f64 x.f4, .float .f64 x.f5, .float .f64 x.f6, .float .f64 x.f7], rfl, rfl, ⟨[.float .f64 x.f1], [.float .f64 x.f2, .float .f64 x.f3, .float .f64 x.f4, .float .f64 x.f5, .float .f64 x.f6, .float .f64 x.f7], rfl, rfl, ⟨[.float .f64 x.f2], [.float .f64 x.f3, .float .f64 x.f4, .float .f64 x.f5, .float .f64 x.f6, .float .f64 x.f7], rfl, rfl, ⟨[.float .f64 x.f3], [.float .f64 x.f4, .float .f64 x.f5, .float .f64 x.f6, .float .f64 x.f7], rfl, rfl, ⟨[.float .f64 x.f4], [.float .f64 x.f5, .float .f64 x.f6, .float .f64 x.f7], rfl, rfl, ⟨[.float .f64 x.f5], [.float .f64 x.f6, .float .f64 x.f7], rfl, rfl, ⟨[.float .f64 x.f6], [.float .f64 x.f7], rfl, rfl, rfl⟩⟩⟩⟩⟩⟩⟩
def rd_T24 (xs : List S24) (i : Int) : S24 := xs.getD i.toNat z24
theorem at_T24 {w : World} {A : Option Addr} {n : Nat} {xs : List S24} (h : Kd.C k24 w A n xs) (i : Int) (h0 : 0 ≤ i) (h1 : i < n) : ∃ ad , A = some ad ∧ w.cell? (ad.add (i.toNat * 8)) = some (.float .f64 (rd_T24 xs i).f0) ∧ w.cell? ⟨(ad.add (i.toNat * 8)).block, (ad.add (i.toNat * 8)).off + 1, none⟩ = some (.float .f64 (rd_T24 xs i).f1) ∧ w.cell? ⟨(ad.add (i.toNat * 8)).block, (ad.add (i.toNat * 8)).off + 2, none⟩ = some (.float .f64 (rd_T24 xs i).f2) ∧ w.cell? ⟨(ad.add (i.toNat * 8)).block, (ad.add (i.toNat * 8)).off + 3, none⟩ = some (.float .f64 (rd_T24 xs i).f3) ∧ w.cell? ⟨(ad.add (i.toNat * 8)).block, (ad.add (i.toNat * 8)).off + 4, none⟩ = some (.float .f64 (rd_T24 xs i).f4) ∧ w.cell? ⟨(ad.add (i.toNat * 8)).block, (ad.add (i.toNat * 8)).off + 5, none⟩ = some (.float .f64 (rd_T24 xs i).f5) ∧ w.cell? ⟨(ad.add (i.toNat * 8)).block, (ad.add (i.toNat * 8)).off + 6, none⟩ = some (.float .f64 (rd_T24 xs i).f6) ∧ w.cell? ⟨(ad.add (i.toNat * 8)).block, (ad.add (i.toNat * 8)).off + 7, none⟩ = some (.float .f64 (rd_T24 xs i).f7) := by
  obtain ⟨ad, c, e, _, hK, hc0⟩ := Kd.C_get h z24 i h0 h1
  have hc : ∀ j u, c[j]? = some u → w.cell? (ad.add (i.toNat * 8 + j)) = some u := hc0
  obtain rfl := k24_open hK
  exact ⟨ad, e, hc 0 _ rfl, by rw [← add_field _ _ 1 (by omega)]; exact hc 1 _ rfl, by rw [← add_field _ _ 2 (by omega)]; exact hc 2 _ rfl, by rw [← add_field _ _ 3 (by omega)]; exact hc 3 _ rfl, by rw [← add_field _ _ 4 (by omega)]; exact hc 4 _ rfl, by rw [← add_field _ _ 5 (by omega)]; exact hc 5 _ rfl, by rw [← add_field _ _ 6 (by omega)]; exact hc 6 _ rfl, by rw [← add_field _ _ 7 (by omega)]; exact hc 7 _ rfl⟩

/-! #### struct type 26 -/
structure S26 where
  f0 : Int
  f1 : Int
  f2 : S24
def z26 : S26 := ⟨(0 : Int), (0 : Int), z24⟩
def k26 : Kd S26 := Kd.iso (Kd.pair (Kd.int .i64) (Kd.pair (Kd.int .i64) k24)) (fun x : S26 => (x.f0, x.f1, x.f2))
theorem k26_open {w : World} {x : S26} {cs : List Value} (h : k26.K w x cs) : cs = [.int .i64 x.f0, .int .i64 x.f1, .float .f64 x.f2.f0, .float .f64 x.f2.f1, .float .f64 x.f2.f2, .float .f64 x.f2.f3, .float .f64 x.f2.f4, .float .f64 x.f2.f5, .float .f64 x.f2.f6, .float .f64 x.f2.f7] := by
  obtain ⟨_, _, rfl, rfl, ⟨_, _, rfl, rfl, s2⟩⟩ := h
  obtain rfl := k24_open s2
  exact rfl
theorem k26_openM {w : World} {base : Nat} {ok : Nat → Prop} {x : S26} {cs : List Value} (h : k26.M w base ok x cs) : cs = [.int .i64 x.f0, .int .i64 x.f1, .float .f64 x.f2.f0, .float .f64 x.f2.f1, .float .f64 x.f2.f2, .float .f64 x.f2.f3, .float .f64 x.f2.f4, .float .f64 x.f2.f5, .float .f64 x.f2.f6, .float .f64 x.f2.f7] := by
  obtain ⟨_, _, rfl, rfl, ⟨_, _, rfl, rfl, s2⟩⟩ := h
  obtain rfl := k24_openM s2
  exact rfl
theorem k26_mk (w : World) (x : S26)  : k26.K w x [.int .i64 x.f0, .int .i64 x.f1, .float .f64 x.f2.f0, .float .f64 x.f2.f1, .float .f64 x.f2.f2, .float .f64 x.f2.f3, .float .f64 x.f2.f4, .float .f64 x.f2.f5, .float .f64 x.f2.f6, .float .f64 x.f2.f7] := ⟨[.int .i64 x.f0], [.int .i64 x.f1, .float .f64 x.f2.f0, .float .f64 x.f2.f1, .float .f64 x.f2.f2, .float .f64 x.f2.f3, .float .f64 x.f2.f4, .float .f64 x.f2.f5, .float .f64 x.f2.f6, .float .f64 x.f2.f7], rfl, rfl, ⟨[.int .i64 x.f1], [.float .f64 x.f2.f0, .float .f64 x.f2.f1, .float .f64 x.f2.f2, .float .f64 x.f2.f3, .float .f64 x.f2.f4, .float .f64 x.f2.f5, .float .f64 x.f2.f6, .float .f64 x.f2.f7], rfl, rfl, (k24_mk w x.f2 )⟩⟩
theorem k26_mkM (w : World) (base : Nat) (ok : Nat → Prop) (x : S26)  : k26.M w base ok x [.int .i64 x.f0, .int .i64 x.f1, .float .f64 x.f2.f0, .float .f64 x.f2.f1, .float .f64 x.f2.f2, .float .f64 x.f2.f3, .float .f64 x.f2.f4, .float .f64 x.f2.f5, .float .f64 x.f2.f6, .float .f64 x.f2.f7] := ⟨[.int .i64 x.f0], [.int .i64 x.f1, .float .f64 x.f2.f0, .float .f64 x.f2.f1, .float .f64 x.f2.f2, .float .f64 x.f2.f3, .float .f64 x.f2.f4, .float .f64 x.f2.f5, .float .f64 x.f2.f6, .float .f64 x.f2.f7], rfl, rfl, ⟨[.int .i64 x.f1], [.float .f64 x.f2.f0, .float .f64 x.f2.f1, .float .f64 x.f2.f2, .float .f64 x.f2.f3, .float .f64 x.f2.f4, .float .f64 x.f2.f5, .float .f64 x.f2.f6, .float .f64 x.f2.f7], rfl, rfl, (k24_mkM w base ok x.f2 )⟩⟩
def rd_T26 (xs : List S26) (i : Int) : S26 := xs.getD i.toNat z26
theorem at_T26 {w : World} {A : Option Addr} {n : Nat} {xs : List S26} (h : Kd.C k26 w A n xs) (i : Int) (h0 : 0 ≤ i) (h1 : i < n) : ∃ ad , A = some ad ∧ w.cell? (ad.add (i.toNat * 10)) = some (.int .i64 (rd_T26 xs i).f0) ∧ w.cell? ⟨(ad.add (i.toNat * 10)).block, (ad.add (i.toNat * 10)).off + 1, none⟩ = some (.int .i64 (rd_T26 xs i).f1) ∧ w.cell? ⟨(ad.add (i.toNat * 10)).block, (ad.add (i.toNat * 10)).off + 2, none⟩ = some (.float .f64 (rd_T26 xs i).f2.f0) ∧ w.cell? ⟨(ad.add (i.toNat * 10)).block, (ad.add (i.toNat * 10)).off + 3, none⟩ = some (.float .f64 (rd_T26 xs i).f2.f1) ∧ w.cell? ⟨(ad.add (i.toNat * 10)).block, (ad.add (i.toNat * 10)).off + 4, none⟩ = some (.float .f64 (rd_T26 xs i).f2.f2) ∧ w.cell? ⟨(ad.add (i.toNat * 10)).block, (ad.add (i.toNat * 10)).off + 5, none⟩ = some (.float .f64 (rd_T26 xs i).f2.f3) ∧ w.cell? ⟨(ad.add (i.toNat * 10)).block, (ad.add (i.toNat * 10)).off + 6, none⟩ = some (.float .f64 (rd_T26 xs i).f2.f4) ∧ w.cell? ⟨(ad.add (i.toNat * 10)).block, (ad.add (i.toNat * 10)).off + 7, none⟩ = some (.float .f64 (rd_T26 xs i).f2.f5) ∧ w.cell? ⟨(ad.add (i.toNat * 10)).block, (ad.add (i.toNat * 10)).off + 8, none⟩ = some (.float .f64 (rd_T26 xs i).f2.f6) ∧ w.cell? ⟨(ad.add (i.toNat * 10)).block, (ad.add (i.toNat * 10)).off + 9, none⟩ = some (.float .f64 (rd_T26 xs i).f2.f7) := by
  obtain ⟨ad, c, e, _, hK, hc0⟩ := Kd.C_get h z26 i h0 h1
  have hc : ∀ j u, c[j]? = some u → w.cell? (ad.add (i.toNat * 10 + j)) = some u := hc0
  obtain rfl := k26_open hK
  exact ⟨ad, e, hc 0 _ rfl, by rw [← add_field _ _ 1 (by omega)]; exact hc 1 _ rfl, by rw [← add_field _ _ 2 (by omega)]; exact hc 2 _ rfl, by rw [← add_field _ _ 3 (by omega)]; exact hc 3 _ rfl, by rw [← add_field _ _ 4 (by omega)]; exact hc 4 _ rfl, by rw [← add_field _ _ 5 (by omega)]; exact hc 5 _ rfl, by rw [← add_field _ _ 6 (by omega)]; exact hc 6 _ rfl, by rw [← add_field _ _ 7 (by omega)]; exact hc 7 _ rfl, by rw [← add_field _ _ 8 (by omega)]; exact hc 8 _ rfl, by rw [← add_field _ _ 9 (by omega)]; exact hc 9 _ rfl⟩

end Go.Proofs.Ytdpeeinmckohgaa.PD
