/-
LayoutWraps, part 23 of 48: FxBegin.
-/
import Derived.Test.YthacbaagffpkoaaLw22
set_option linter.unusedVariables false
set_option linter.unusedSimpArgs false
set_option maxRecDepth 100000
set_option maxHeartbeats 0
namespace Go.Ai
open Go.Proofs
def Itm.fixed0 (grows : Bool) (x : Itm) : Bool := decide (x.weight grows = 0) || (grows && decide (x.plain < x.base)) || (!grows && decide (x.base < x.plain))
def grows0 (L : List Itm) (gap room : Int) : Bool := decide (sumI (plains L) gap < room)
structure SpecFlex (spec : CallF) : Prop where
 s46 : ∀ args h, spec 89 args h = none
 s51 : ∀ args h, spec 84 args h = none
 s52 : ∀ args h, spec 85 args h = none
 s53 : ∀ args h, spec 86 args h = none
 s55 : ∀ args h, spec 59 args h = none
 s58 : ∀ args h, spec 76 args h = none
 s59 : ∀ args h, spec 87 args h = none
 s60 : ∀ args h, spec 90 args h = none
 s61 : ∀ args h, spec 91 args h = none
 s65 : ∀ args h, spec 49 args h = none
 s66 : ∀ args h, spec 93 args h = none
 s68 : ∀ args h, spec 60 args h = none
 s42 : ∀ args h, spec 74 args h = none
theorem ItemsAt.fenced {h : H} {v : S} {L : List Itm} {l z : List (Nat × Nat)} {f : Nat} (k : ItemsAt h v L) (hp : ∀ b, S.blk v = some b → Off l b) : ItemsAt (h.fenced l z f) v L := by
 rcases k with k | ⟨b, o, c, ex, rfl, h1, h2⟩
 ·exact .inl k
 ·exact .inr ⟨b, o, c, ex, rfl, h1, fun i x hx => by rw [fenced_row (hp b rfl)]; exact h2 i x hx⟩
theorem IntsAt.fenced {h : H} {v : S} {L : List Int} {l z : List (Nat × Nat)} {f : Nat} (k : IntsAt h v L) (hp : ∀ b, S.blk v = some b → Off l b) : IntsAt (h.fenced l z f) v L := by
 rcases k with k | ⟨b, c, ex, rfl, h1, h2⟩
 ·exact .inl k
 ·exact .inr ⟨b, c, ex, rfl, h1, fun i x hx => by rw [fenced_row (hp b rfl)]; exact h2 i x hx⟩
theorem ItemsAt.lt {h : H} {v : S} {L : List Itm} (k : ItemsAt h v L) {b : Nat} (hb : S.blk v = some b) : b < h.next := by
 rcases k with ⟨_, rfl | rfl⟩ | ⟨b', o, c, ex, rfl, h1, h2⟩
 ·cases hb
 ·cases hb
 ·cases hb; exact h1
theorem begin_bools {n : Nat} : repeatS [S.b false] n = bools (List.replicate n false) := by
 induction n with
 | zero => rfl
 | succ n ih => show [S.b false] ++ repeatS [S.b false] n = _; rw [ih]; rfl
theorem begin_fn {spec : CallF} (hs : SpecFlex spec) {h : H} {bw : Nat} {v a4 a5 : S} {g0 : Bool} {L : List Itm} {gap room : Int} (ok : Ok h) (lok : LineOk L gap room) (hi : ItemsAt h v L) (hne : S.blk v ≠ some bw) (hbw : bw < h.next) (hm : h.may bw = true)
  (hc : Cells h bw 130 [v, .i .i64 gap, .i .i64 room, .b g0, a4, a5]) :
  WF Try.prog spec 84 [.one (.p bw 0)] h fun r h1 => r = .tup [] ∧ Up (fun b => b < h.next ∧ b ≠ bw) h h1 ∧ Ok h1 ∧ ∃ x bf, Cells h1 bw 130 [v, .i .i64 gap, .i .i64 room, .b (grows0 L gap room), x, .sl bf 0 L.length L.length 1 true] ∧ Grown h1 x h.next 3 1 (nums (plains L)) ∧ Cells h1 bf 4 (bools (L.map (Itm.fixed0 (grows0 L gap room)))) ∧ h.next ≤ bf ∧ bf < h1.next ∧ S.blk x ≠ some bf := by
 refine WF_of Try.func84 rfl (hs.s51 _ _) (by rw [Try.ntmps84]; simp) (by rw [Try.ntmps84]; decide) ?_;rw [Try.ntmps84, Try.results84];simp only [Sl.setMany_cons, Sl.setMany_nil, Nat.zero_add, Nat.reduceAdd];have hlen64 := lok.len
 repeat refine zS ?_
 refine W_drawn dr84_0 (by kernel_rfl) ok.floor ?_;unfold dr84_0
 repeat (first
   | (refine WI_val rfl zF rfl (Gd1 @hc.row) Dc ?_)
   | (refine WI_ld rfl zF Gs0 (Gd1 @hc.row) OffA Dc ?_)
   | (refine WI_val rfl zF rfl (zB Gs0 Gs0 (by first | exact zA | exact zL | exact in_gtr | exact in_eql)) Dc ?_; (try rw [zI Om Om]))
   | (refine WI_val rfl zF rfl (ex_not Gs0) Dc ?_)
   | (refine WI_val rfl zF rfl (ex_len el107 Gs0) Dc ?_))
 refine WI_val rfl rfl rfl (hi.len (ee)) Dc ?_;refine WI_mk rfl (ee) mk128 Om Om ok Dc fun h1 n1 => ?_;have e1 := n1.next;refine WI_call rfl rfl (doCall_fn (ee) (by simp)) Dc ?_;refine (sizes_fn hs.s58 hs.s46 hs.s55 (n1.ok.fenced (fun b hb => OffA) (fun b hb => OffA) n1.ok.floor) ((hi.upLt n1.up).fenced fun b hb => by have := hi.lt hb; (try simp only [cond_true, cond_false]); repeat (first | exact Off.nil | refine Off.seen rfl ?_ | refine Off.off Om ?_)) Om).mono ?_;rintro r h2 ⟨x, rfl, gx, u2, o2⟩;have u3 := u2.back;have g3 := gx.back n1.ok (Nat.le_refl _) u2;have o3 := n1.ok.back u2;have e3 : (h1.back h2).next = h2.next := rfl;have u2n : h1.next ≤ h2.next := u2.next;change Up (· < h1.next) h1 _ at u3;change Grown _ x h1.next 3 1 _ at g3;clear gx o2 u2;generalize h1.back h2 = h3 at *;have c3 := u3.cells (show bw < h1.next by omega) (n1.up.cells hbw hc);have m3 : h3.may bw = true := by rw [u3.may, n1.up.may]; exact hm
 have f3 : Cells h3 h.next 4 (repeatS [S.b false] L.length) := u3.cells (show h.next < h1.next by omega) n1.cells;have hxb : ∀ q, S.blk x = some q → h1.next ≤ q ∧ q < h3.next := fun q hq => g3.lt hq
 have hxw : S.blk x ≠ some bw := fun e => by have := hxb bw e; omega
 repeat (first
   | (refine WI_val rfl zF rfl (Gd1 @c3.row) Dc ?_)
   | (refine WI_ld rfl zF Gs0 (Gd1 @c3.row) OffA Dc ?_)
   | (refine WI_val rfl zF rfl (zB Gs0 Gs0 (by first | exact zA | exact zL | exact in_gtr | exact in_eql)) Dc ?_; (try rw [zI Om Om]))
   | (refine WI_val rfl zF rfl (ex_not Gs0) Dc ?_)
   | (refine WI_val rfl zF rfl (ex_len el107 Gs0) Dc ?_))
 refine WI_store1 rfl (ee) (ee) sz26 c3 m3 (by simp) OffA OffA (H.may_iff m3).1.1 fun h4 p4 => ?_;have c4 := p4.cells;simp only [List.take_succ_cons, List.take_zero, List.drop_succ_cons, List.drop_zero, List.nil_append, List.cons_append, List.append_nil, Nat.reduceAdd, Nat.zero_add] at c4;have e4 := p4.next
 repeat (first
   | (refine WI_val rfl zF rfl (Gd1 @c4.row) Dc ?_)
   | (refine WI_ld rfl zF Gs0 (Gd1 @c4.row) OffA Dc ?_)
   | (refine WI_val rfl zF rfl (zB Gs0 Gs0 (by first | exact zA | exact zL | exact in_gtr | exact in_eql)) Dc ?_; (try rw [zI Om Om]))
   | (refine WI_val rfl zF rfl (ex_not Gs0) Dc ?_)
   | (refine WI_val rfl zF rfl (ex_len el107 Gs0) Dc ?_))
 refine WI_store1 rfl (ee) (ee) sz128 c4 p4.may (by simp) OffA OffA (H.may_iff p4.may).1.1 fun h5 p5 => ?_;have c5 := p5.cells;simp only [List.take_succ_cons, List.take_zero, List.drop_succ_cons, List.drop_zero, List.nil_append, List.cons_append, List.append_nil, Nat.reduceAdd, Nat.zero_add] at c5;have e5 := p5.next;have u5 : Up (fun b => b < h3.next ∧ b ≠ bw) h3 h5 := (p4.up.trans p5.up).mono fun b hb => hb.2
 have g5 := g3.up u5 fun q hq => ⟨(hxb q hq).2, fun e => hxw (by rw [← e]; exact hq)⟩
 have f5 := u5.cells ⟨by omega, by omega⟩ f3;have o5 := p5.ok (p4.ok o3);have mf5 : h5.may h.next = true := by rw [u5.may, u3.may]; exact n1.may
 have u05 : Up (fun b => b < h.next ∧ b ≠ bw) h h5 := ((n1.up.mono fun b hb => hb.1).trans (u3.mono fun b hb => by omega)).trans (u5.mono fun b hb => ⟨by omega, hb.2⟩);refine WI_nil ?_
 repeat refine zS ?_
 refine W_drawn dr84_1 (by kernel_rfl) o5.floor ?_;unfold dr84_1
 repeat (first
   | (refine WI_val rfl zF rfl (Gd1 @c5.row) Dc ?_)
   | (refine WI_ld rfl zF Gs0 (Gd1 @c5.row) OffA Dc ?_)
   | (refine WI_val rfl zF rfl (zB Gs0 Gs0 (by first | exact zA | exact zL | exact in_gtr | exact in_eql)) Dc ?_; (try rw [zI Om Om]))
   | (refine WI_val rfl zF rfl (ex_not Gs0) Dc ?_)
   | (refine WI_val rfl zF rfl (ex_len el107 Gs0) Dc ?_))
 have pok : ∀ y ∈ plains L, -1099511627776 ≤ y ∧ y ≤ 1099511627776 := fun y hy => by
  obtain ⟨z, hz, rfl⟩ := List.mem_map.1 hy;have := (lok.ok z hz).plain;omega
 refine WI_call rfl rfl (doCall_fn (ee) (by simp)) Dc ?_;refine (sum_fn hs.s59 hs.s65 hs.s68 (o5.fenced (fun b hb => OffA) (fun b hb => OffA) o5.floor) (g5.ints.fenced fun b hb => by have := g5.lt hb; (try simp only [cond_true, cond_false]); repeat (first | exact Off.nil | refine Off.seen rfl ?_ | refine Off.off Om ?_)) (by simp [plains]; omega) pok (by have := lok.gap; omega)).mono ?_;rintro r h6 ⟨rfl, u6, o6⟩;have u7 := u6.back;have o7 := o5.back u6;have e7 : (h5.back h6).next = h6.next := rfl;have u6n : h5.next ≤ h6.next := u6.next;change Up (· < h5.next) h5 _ at u7;clear u6 o6;generalize h5.back h6 = h7 at *;have c7 := u7.cells (show bw < h5.next by omega) c5;have m7 : h7.may bw = true := by rw [u7.may]; exact p5.may
 have hr := lok.room;have hsum : grows0 L gap room = decide (sumI (plains L) gap < room) := rfl
 repeat (first
   | (refine WI_val rfl zF rfl (Gd1 @c7.row) Dc ?_)
   | (refine WI_ld rfl zF Gs0 (Gd1 @c7.row) OffA Dc ?_)
   | (refine WI_val rfl zF rfl (zB Gs0 Gs0 (by first | exact zA | exact zL | exact in_gtr | exact in_eql)) Dc ?_; (try rw [zI Om Om]))
   | (refine WI_val rfl zF rfl (ex_not Gs0) Dc ?_)
   | (refine WI_val rfl zF rfl (ex_len el107 Gs0) Dc ?_))
 refine WI_store1 rfl (ee) (ee) sz4 c7 m7 (by simp) OffA OffA (H.may_iff m7).1.1 fun h8 p8 => ?_;have c8 := p8.cells;simp only [List.take_succ_cons, List.take_zero, List.drop_succ_cons, List.drop_zero, List.nil_append, List.cons_append, List.append_nil, Nat.reduceAdd, Nat.zero_add] at c8;rw [← hsum] at c8;have e8 := p8.next;have u8 : Up (fun b => b < h5.next ∧ b ≠ bw) h5 h8 := (u7.mono fun b hb => hb.1).trans (p8.up.mono fun b hb => hb.2);have g8 := g5.up u8 fun q hq => ⟨by have := hxb q hq; omega, fun e => hxw (by rw [← e]; exact hq)⟩
 have f8 := u8.cells ⟨by omega, by omega⟩ f5;have mf8 : h8.may h.next = true := by rw [u8.may]; exact mf5
 have o8 := p8.ok o7;have u08 : Up (fun b => b < h.next ∧ b ≠ bw) h h8 := u05.trans (u8.mono fun b hb => ⟨by omega, hb.2⟩);have e8' : h1.next ≤ h8.next := by omega
 clear u8 p8 c7 m7 u7 f5 g5 u5 mf5 u05 c5 p5 c4 p4 u3 c3 m3 g3 f3 o3 o5 o7 pok;generalize hG : grows0 L gap room = G at *;refine WI_nil ?_
 repeat refine zS ?_
 refine zR ?_
 repeat (first
   | (refine zV (Gd1 @c8.row) Dc ?_)
   | (refine zV (zB Gs0 Gs0 (by first | exact zA | exact zL | exact in_gtr | exact in_eql)) Dc ?_; (try rw [zI Om Om]))
   | (refine zV (ex_not Gs0) Dc ?_)
   | (refine zV (ex_len el107 Gs0) Dc ?_))
 refine zV (hi.len (ee)) Dc ?_
 repeat (first
   | (refine zV Gd0 Dc ?_)
   | (refine zV (zB Gs0 Gs0 (by first | exact zA | exact zL | exact in_gtr | exact in_eql)) Dc ?_; (try rw [zI Om Om]))
   | (refine zV (ex_not Gs0) Dc ?_)
   | (refine zV (ex_len el107 Gs0) Dc ?_))
 refine zN ?_; (repeat refine zS ?_);refine zK (W_rounds (fun j T h2 => ∃ k, j = L.length - k ∧ k ≤ L.length ∧ T.get 0 = some (.one (.p bw 0)) ∧ T.get 42 = some (.one v) ∧ T.get 43 = some (.one (.i .i64 (L.length : Int))) ∧ T.get 44 = some (.one (.i .i64 (k : Int))) ∧ Cells h2 bw 130 [v, .i .i64 gap, .i .i64 room, .b G, x, .sl h.next 0 L.length L.length 1 true] ∧ Grown h2 x h1.next 3 1 (nums (plains L)) ∧ Cells h2 h.next 4 (bools ((L.take k).map (Itm.fixed0 G) ++ List.replicate (L.length - k) false)) ∧ h2.may h.next = true ∧ Ok h2 ∧ Up (fun b => b < h.next ∧ b ≠ bw) h h2 ∧ h1.next ≤ h2.next) ?_ L.length _ _ ?_);rotate_left
 ·exact ⟨0, rfl, Nat.zero_le _, gs, gs, gs, gs, c8, g8, by rw [begin_bools] at f8; exact f8, mf8, o8, u08, e8'⟩
 clear c8 g8 f8 mf8 o8 u08 e8' e8;rintro j T h2 ⟨k, rfl, hk, t0, t42, t43, t44, c2, g2, f2, m2, o2, u2, n2⟩
 (repeat refine zS ?_); refine zR ?_
 repeat (first
   | (refine zV (Gd2 @t43 @t44) Dc ?_)
   | (refine zV (zB (Gs2 @t43 @t44) (Gs2 @t43 @t44) (by first | exact zA | exact zL | exact in_gtr | exact in_eql)) Dc ?_; (try rw [zI Om Om]))
   | (refine zV (ex_not (Gs2 @t43 @t44)) Dc ?_)
   | (refine zV (ex_len el107 (Gs2 @t43 @t44)) Dc ?_))
 refine zN ?_; (repeat refine zS ?_);refine zC (ee) (fun hlt => W_skip ?_) (fun hge => W_exit ?_)
 ·have hlt : (k : Int) < (L.length : Int) := by simpa using hlt
  have hlt : k < L.length := by omega
  obtain ⟨b, o, c, ex, rfl, hbn, hrows⟩ : ∃ b o c ex, v = .sl b o L.length c 5 ex ∧ b < h.next ∧ ∀ k x, L[k]? = some x → h.row b (o + k * 5) 5 = some x.cells := by
   rcases hi with ⟨rfl, _⟩ | q
   ·simp at hlt
   ·exact q
  have hbne : b ≠ bw := fun e => hne (by rw [e]; rfl)
  obtain ⟨y, hy⟩ : ∃ y, L[k]? = some y := ⟨_, List.getElem?_eq_getElem hlt⟩;have hyo := lok.ok y (List.mem_of_getElem? hy);have hyb := hyo.base;have hyp := hyo.plain;have r1 : h2.row b (o + k * 5) 5 = some y.cells := by rw [u2.row ⟨hbn, hbne⟩]; exact hrows k y hy
  obtain ⟨bs, rfl, s2, hbs⟩ : ∃ bs, x = .sl bs 0 L.length L.length 1 false ∧ Cells h2 bs 3 (nums (plains L)) ∧ h1.next ≤ bs ∧ bs < h2.next := by
   rcases g2 with ⟨q, _⟩ | ⟨bs, n, rfl, q1, q2, q3, q4, q5, q6⟩
   ·have := congrArg List.length q; simp [nums, plains] at this; subst this; simp at hlt
   ·have : n = L.length := by simp [nums, plains] at q2; omega
    subst this; exact ⟨bs, rfl, q3, q5, q6⟩
  repeat refine zS ?_
  refine zK ?_
  (repeat refine zS ?_); refine zR ?_
  repeat (first
   | (refine zV (Gd3 @r1 @t42 @t44) Dc ?_)
   | (refine zV (zB (Gs2 @t42 @t44) (Gs2 @t42 @t44) (by first | exact zA | exact zL | exact in_gtr | exact in_eql)) Dc ?_; (try rw [zI Om Om]))
   | (refine zV (ex_not (Gs2 @t42 @t44)) Dc ?_)
   | (refine zV (ex_len el107 (Gs2 @t42 @t44)) Dc ?_))
  refine WO_alloc zb109 rfl o2 Dc fun h3 n3 => ?_
  repeat (first
   | (refine zV (Gd1 @t44) Dc ?_)
   | (refine zV (zB (Gs1 @t44) (Gs1 @t44) (by first | exact zA | exact zL | exact in_gtr | exact in_eql)) Dc ?_; (try rw [zI Om Om]))
   | (refine zV (ex_not (Gs1 @t44)) Dc ?_)
   | (refine zV (ex_len el107 (Gs1 @t44)) Dc ?_))
  refine WO_storeA (ee) (ee) sz109 rfl (by simp [Itm.cells]) n3.cells n3.may (by simp [Itm.cells, V.cells]) fun h4 p4 => ?_;have c3 := p4.cells;simp only [Itm.cells, V.cells, List.take_zero, List.nil_append, List.length_cons, List.length_nil, Nat.reduceAdd, Nat.zero_add, List.drop_succ_cons, List.drop_zero, List.append_nil] at c3;have u4 : Up (· < h2.next) h2 h4 := n3.up.trans (p4.up.mono fun b hb => by omega);have o4 := p4.ok n3.ok;have e4 : h4.next = h2.next + 1 := by rw [p4.next, n3.next]
  have c4 := u4.cells (show bw < h2.next by omega) c2;have s4 := u4.cells hbs.2 s2;have f4 := u4.cells (show h.next < h2.next by omega) f2;have m4 : h4.may h.next = true := by rw [u4.may]; exact m2
  have r5 : h4.row bs k 1 = some [.i .i64 y.plain] := s4.at1 (nums_get (by simp [plains, hy]));refine zN ?_; (repeat refine zS ?_);refine zR ?_
  repeat (first
   | (refine zV (Gd3 @c4.row @r5 @t0) Dc ?_)
   | (refine zV (zB (Gs1 @t0) (Gs1 @t0) (by first | exact zA | exact zL | exact in_gtr | exact in_eql)) Dc ?_; (try rw [zI Om Om]))
   | (refine zV (ex_not (Gs1 @t0)) Dc ?_)
   | (refine zV (ex_len el107 (Gs1 @t0)) Dc ?_))
  refine zN ?_; (repeat refine zS ?_);refine W_drawn dr84_6 (by kernel_rfl) o4.floor ?_;unfold dr84_6;have ry : h4.row h2.next 0 5 = some y.cells := by rw [c3.row (by simp)]; rfl
  repeat (first
   | (refine WI_val rfl zF rfl (Gd3 @c4.row @ry @t0) Dc ?_)
   | (refine WI_ld rfl zF (Gs1 @t0) (Gd3 @c4.row @ry @t0) OffA Dc ?_)
   | (refine WI_val rfl zF rfl (zB (Gs1 @t0) (Gs1 @t0) (by first | exact zA | exact zL | exact in_gtr | exact in_eql)) Dc ?_; (try rw [zI Om Om]))
   | (refine WI_val rfl zF rfl (ex_not (Gs1 @t0)) Dc ?_)
   | (refine WI_val rfl zF rfl (ex_len el107 (Gs1 @t0)) Dc ?_))
  refine WI_call rfl rfl (doCall_fn (ee) (by simp)) Dc ?_;refine (weight_ok hs.s60 hyo (o4.fenced (fun b hb => OffA) (fun b hb => OffA) o4.floor) (c4.fenced OffA) (show bw < h4.next by omega)).mono ?_;rintro r h5 ⟨rfl, u5', e5', o5'⟩;have u5 := u5'.back;have o5 := o4.back u5';have e5 : (h4.back h5).next = h5.next := rfl;change Up (· < h4.next) h4 _ at u5;change h5.next = h4.next + 1 at e5';clear u5' o5';generalize h4.back h5 = h9 at *;have c5 := u5.cells (show bw < h4.next by omega) c4;have c6 := u5.cells (show h2.next < h4.next by omega) c3;have f5 := u5.cells (show h.next < h4.next by omega) f4;have m5 : h9.may h.next = true := by rw [u5.may]; exact m4
  have fin : ∀ h10 (T' : Sl) {xs : List S}, Put h9 h10 h.next 4 xs → xs = bools ((L.take (k + 1)).map (Itm.fixed0 G) ++ List.replicate (L.length - (k + 1)) false) → T'.get 0 = some (.one (.p bw 0)) → T'.get 42 = some (.one (.sl b o L.length c 5 ex)) → T'.get 43 = some (.one (.i .i64 (L.length : Int))) → T'.get 44 = some (.one (.i .i64 ((k : Int) + 1))) →
    ∃ j, j < L.length - k ∧ ∃ k, j = L.length - k ∧ k ≤ L.length ∧ T'.get 0 = some (.one (.p bw 0)) ∧ T'.get 42 = some (.one (.sl b o L.length c 5 ex)) ∧ T'.get 43 = some (.one (.i .i64 (L.length : Int))) ∧ T'.get 44 = some (.one (.i .i64 (k : Int))) ∧ Cells h10 bw 130 [.sl b o L.length c 5 ex, .i .i64 gap, .i .i64 room, .b G, .sl bs 0 L.length L.length 1 false, .sl h.next 0 L.length L.length 1 true] ∧ Grown h10 (.sl bs 0 L.length L.length 1 false) h1.next 3 1 (nums (plains L)) ∧ Cells h10 h.next 4 (bools ((L.take k).map (Itm.fixed0 G) ++ List.replicate (L.length - k) false)) ∧ h10.may h.next = true ∧ Ok h10 ∧ Up (fun b => b < h.next ∧ b ≠ bw) h h10 ∧ h1.next ≤ h10.next := by
   intro h10 T' xs p10 hxs q0 q42 q43 q44;have v1 : Up (fun b => b < h2.next ∧ b ≠ h.next) h2 h10 := ((u4.mono fun b hb => hb.1).trans (u5.mono fun b hb => by omega)).trans (p10.up.mono fun b hb => hb.2);refine ⟨L.length - (k + 1), by omega, k + 1, rfl, hlt, q0, q42, q43, by rw [q44]; rfl, v1.cells ⟨by omega, by omega⟩ c2, g2.up v1 fun q hq => ?_, by rw [← hxs]; exact p10.cells, p10.may, p10.ok o5, u2.trans (v1.mono fun b hb => ⟨by omega, by omega⟩), by have := v1.next; omega⟩;have hq : bs = q := by simpa [S.blk] using hq
   subst hq; exact ⟨hbs.2, by omega⟩
  have step : ∀ r : Bool, r = y.fixed0 G → (bools ((L.take k).map (Itm.fixed0 G) ++ List.replicate (L.length - k) false)).take k ++ [S.b r] ++ (bools ((L.take k).map (Itm.fixed0 G) ++ List.replicate (L.length - k) false)).drop (k + 1) = bools ((L.take (k + 1)).map (Itm.fixed0 G) ++ List.replicate (L.length - (k + 1)) false) := by
   intro r hr;subst hr;have hl1 : ((L.take k).map (Itm.fixed0 G)).length = k := by simp; omega
   obtain ⟨m, hm⟩ : ∃ m, L.length - k = m + 1 := ⟨L.length - k - 1, by omega⟩;rw [hm, show L.length - (k + 1) = m by omega]
   have e1 : (L.take (k + 1)).map (Itm.fixed0 G) = (L.take k).map (Itm.fixed0 G) ++ [y.fixed0 G] := by
    obtain ⟨q, rfl⟩ := gEi.1 hy;rw [List.take_succ_eq_append_getElem q, List.map_append]; rfl
   rw [e1];unfold bools;rw [List.map_append, List.take_append_of_le_length (by rw [List.length_map, hl1]; exact Nat.le_refl _), List.take_of_length_le (by rw [List.length_map, hl1]; exact Nat.le_refl _), List.drop_append, List.drop_of_length_le (by rw [List.length_map, hl1]; omega)];rw [List.length_map, hl1, show k + 1 - k = 1 by omega];simp [List.replicate_succ]
  by_cases hz : y.weight G = 0
  ·have hz' : decide (y.weight G = 0) = true := decide_eq_true hz
   iterate 27 (first | (refine IX rfl (zB (Gs3 @t0 @t44 @hz') (Gs3 @t0 @t44 @hz') in_eql) ?_) | (refine IG rfl (zT rfl rfl (Gs3 @t0 @t44 @hz') rfl) (zB (Gs3 @t0 @t44 @hz') (Gs3 @t0 @t44 @hz') in_gtr) ?_) | (refine IG rfl (zT rfl rfl (Gs3 @t0 @t44 @hz') rfl) (ex_not (Gs3 @t0 @t44 @hz')) ?_) | (refine IG rfl (zT rfl rfl (Gs3 @t0 @t44 @hz') rfl) (zB (Gs3 @t0 @t44 @hz') (Gs3 @t0 @t44 @hz') zL) ?_) | (refine IL rfl (zT rfl rfl (Gs3 @t0 @t44 @hz') rfl) (Gs3 @t0 @t44 @hz') (Gd2 @c5.row @c6.row) ?_) | (refine IN rfl (zG rfl rfl (Gs3 @t0 @t44 @hz') rfl) ?_) | (refine IG rfl (zT rfl rfl (Gs3 @t0 @t44 @hz') rfl) (Ga3 @t0 @t44 @hz') ?_) | (refine IX rfl (Gd3 @t0 @t44 @hz') ?_) | (refine IX rfl (Ga3 @t0 @t44 @hz') ?_))
   refine WI_store1 rfl (Gt1 @hz') (Gt1 @hz') sz4 f5 m5 (by simp [bools]; omega) OffA OffA (H.may_iff m5).1.1 fun h10 p10 => ?_;refine WI_nil ?_; (repeat refine zS ?_);refine zR ?_
   repeat (first
   | (refine zV (Gd1 @t44) Dc ?_)
   | (refine zV (zB (Gs1 @t44) (Gs1 @t44) (by first | exact zA | exact zL | exact in_gtr | exact in_eql)) Dc ?_; (try rw [zI Om Om]))
   | (refine zV (ex_not (Gs1 @t44)) Dc ?_)
   | (refine zV (ex_len el107 (Gs1 @t44)) Dc ?_))
   refine zN (fin h10 _ p10 (step (true) ?_) (gt t0) (gt t42) (gt t43) (gs));unfold Itm.fixed0; rw [hz']; rfl
  ·have hz' : decide (y.weight G = 0) = false := decide_eq_false hz
   cases G with
   | true =>
    by_cases hp : y.plain < y.base
    ·have hp' : decide (y.plain < y.base) = true := decide_eq_true hp
     iterate 27 (first | (refine IX rfl (zB (Gs4 @t0 @t44 @hz' @hp') (Gs4 @t0 @t44 @hz' @hp') in_eql) ?_) | (refine IG rfl (zT rfl rfl (Gs4 @t0 @t44 @hz' @hp') rfl) (zB (Gs4 @t0 @t44 @hz' @hp') (Gs4 @t0 @t44 @hz' @hp') in_gtr) ?_) | (refine IG rfl (zT rfl rfl (Gs4 @t0 @t44 @hz' @hp') rfl) (ex_not (Gs4 @t0 @t44 @hz' @hp')) ?_) | (refine IG rfl (zT rfl rfl (Gs4 @t0 @t44 @hz' @hp') rfl) (zB (Gs4 @t0 @t44 @hz' @hp') (Gs4 @t0 @t44 @hz' @hp') zL) ?_) | (refine IL rfl (zT rfl rfl (Gs4 @t0 @t44 @hz' @hp') rfl) (Gs4 @t0 @t44 @hz' @hp') (Gd2 @c5.row @c6.row) ?_) | (refine IN rfl (zG rfl rfl (Gs4 @t0 @t44 @hz' @hp') rfl) ?_) | (refine IG rfl (zT rfl rfl (Gs4 @t0 @t44 @hz' @hp') rfl) (Ga4 @t0 @t44 @hz' @hp') ?_) | (refine IX rfl (Gd4 @t0 @t44 @hz' @hp') ?_) | (refine IX rfl (Ga4 @t0 @t44 @hz' @hp') ?_))
     refine WI_store1 rfl (Gt2 @hz' @hp') (Gt2 @hz' @hp') sz4 f5 m5 (by simp [bools]; omega) OffA OffA (H.may_iff m5).1.1 fun h10 p10 => ?_;refine WI_nil ?_; (repeat refine zS ?_);refine zR ?_
     repeat (first
   | (refine zV (Gd1 @t44) Dc ?_)
   | (refine zV (zB (Gs1 @t44) (Gs1 @t44) (by first | exact zA | exact zL | exact in_gtr | exact in_eql)) Dc ?_; (try rw [zI Om Om]))
   | (refine zV (ex_not (Gs1 @t44)) Dc ?_)
   | (refine zV (ex_len el107 (Gs1 @t44)) Dc ?_))
     refine zN (fin h10 _ p10 (step (true) ?_) (gt t0) (gt t42) (gt t43) (gs));unfold Itm.fixed0; rw [hz', hp']; rfl
    ·have hp' : decide (y.plain < y.base) = false := decide_eq_false hp
     iterate 27 (first | (refine IX rfl (zB (Gs5 @t0 @t44 @hz' @hp' @Bool.not_true) (Gs5 @t0 @t44 @hz' @hp' @Bool.not_true) in_eql) ?_) | (refine IG rfl (zT rfl rfl (Gs5 @t0 @t44 @hz' @hp' @Bool.not_true) rfl) (zB (Gs5 @t0 @t44 @hz' @hp' @Bool.not_true) (Gs5 @t0 @t44 @hz' @hp' @Bool.not_true) in_gtr) ?_) | (refine IG rfl (zT rfl rfl (Gs5 @t0 @t44 @hz' @hp' @Bool.not_true) rfl) (ex_not (Gs5 @t0 @t44 @hz' @hp' @Bool.not_true)) ?_) | (refine IG rfl (zT rfl rfl (Gs5 @t0 @t44 @hz' @hp' @Bool.not_true) rfl) (zB (Gs5 @t0 @t44 @hz' @hp' @Bool.not_true) (Gs5 @t0 @t44 @hz' @hp' @Bool.not_true) zL) ?_) | (refine IL rfl (zT rfl rfl (Gs5 @t0 @t44 @hz' @hp' @Bool.not_true) rfl) (Gs5 @t0 @t44 @hz' @hp' @Bool.not_true) (Gd2 @c5.row @c6.row) ?_) | (refine IN rfl (zG rfl rfl (Gs5 @t0 @t44 @hz' @hp' @Bool.not_true) rfl) ?_) | (refine IG rfl (zT rfl rfl (Gs5 @t0 @t44 @hz' @hp' @Bool.not_true) rfl) (Ga5 @t0 @t44 @hz' @hp' @Bool.not_true) ?_) | (refine IX rfl (Gd5 @t0 @t44 @hz' @hp' @Bool.not_true) ?_) | (refine IX rfl (Ga5 @t0 @t44 @hz' @hp' @Bool.not_true) ?_))
     refine WI_store1 rfl (Gt3 @hz' @hp' @Bool.not_true) (Gt3 @hz' @hp' @Bool.not_true) sz4 f5 m5 (by simp [bools]; omega) OffA OffA (H.may_iff m5).1.1 fun h10 p10 => ?_;refine WI_nil ?_; (repeat refine zS ?_);refine zR ?_
     repeat (first
   | (refine zV (Gd1 @t44) Dc ?_)
   | (refine zV (zB (Gs1 @t44) (Gs1 @t44) (by first | exact zA | exact zL | exact in_gtr | exact in_eql)) Dc ?_; (try rw [zI Om Om]))
   | (refine zV (ex_not (Gs1 @t44)) Dc ?_)
   | (refine zV (ex_len el107 (Gs1 @t44)) Dc ?_))
     refine zN (fin h10 _ p10 (step (false) ?_) (gt t0) (gt t42) (gt t43) (gs));unfold Itm.fixed0; rw [hz', hp']; rfl
   | false =>
    iterate 27 (first | (refine IX rfl (zB (Gs4 @t0 @t44 @hz' @Bool.not_false) (Gs4 @t0 @t44 @hz' @Bool.not_false) in_eql) ?_) | (refine IG rfl (zT rfl rfl (Gs4 @t0 @t44 @hz' @Bool.not_false) rfl) (zB (Gs4 @t0 @t44 @hz' @Bool.not_false) (Gs4 @t0 @t44 @hz' @Bool.not_false) in_gtr) ?_) | (refine IG rfl (zT rfl rfl (Gs4 @t0 @t44 @hz' @Bool.not_false) rfl) (ex_not (Gs4 @t0 @t44 @hz' @Bool.not_false)) ?_) | (refine IG rfl (zT rfl rfl (Gs4 @t0 @t44 @hz' @Bool.not_false) rfl) (zB (Gs4 @t0 @t44 @hz' @Bool.not_false) (Gs4 @t0 @t44 @hz' @Bool.not_false) zL) ?_) | (refine IL rfl (zT rfl rfl (Gs4 @t0 @t44 @hz' @Bool.not_false) rfl) (Gs4 @t0 @t44 @hz' @Bool.not_false) (Gd2 @c5.row @c6.row) ?_) | (refine IN rfl (zG rfl rfl (Gs4 @t0 @t44 @hz' @Bool.not_false) rfl) ?_) | (refine IG rfl (zT rfl rfl (Gs4 @t0 @t44 @hz' @Bool.not_false) rfl) (Ga4 @t0 @t44 @hz' @Bool.not_false) ?_) | (refine IX rfl (Gd4 @t0 @t44 @hz' @Bool.not_false) ?_) | (refine IX rfl (Ga4 @t0 @t44 @hz' @Bool.not_false) ?_))
    refine WI_store1 rfl (Gt2 @hz' @Bool.not_false) (Gt2 @hz' @Bool.not_false) sz4 f5 m5 (by simp [bools]; omega) OffA OffA (H.may_iff m5).1.1 fun h10 p10 => ?_;refine WI_nil ?_; (repeat refine zS ?_);refine zR ?_
    repeat (first
   | (refine zV (Gd1 @t44) Dc ?_)
   | (refine zV (zB (Gs1 @t44) (Gs1 @t44) (by first | exact zA | exact zL | exact in_gtr | exact in_eql)) Dc ?_; (try rw [zI Om Om]))
   | (refine zV (ex_not (Gs1 @t44)) Dc ?_)
   | (refine zV (ex_len el107 (Gs1 @t44)) Dc ?_))
    refine zN (fin h10 _ p10 (step (decide (y.base < y.plain)) ?_) (gt t0) (gt t42) (gt t43) (gs));unfold Itm.fixed0; rw [hz']; simp
 ·have hge : ¬ (k : Int) < (L.length : Int) := by simpa using hge
  have hk : k = L.length := by omega
  subst hk;refine ⟨fun _ => ?_, fun hne => absurd rfl hne⟩;rw [List.take_length, Nat.sub_self, List.replicate_zero, List.append_nil] at f2;refine ⟨.inl rfl, V.tup [], RbA, rfl, u2, o2, x, h.next, c2, ?_, f2, Nat.le_refl _, by omega, fun e => ?_⟩
  ·rcases g2 with q | ⟨q, n, rfl, q1, q2, q3, q4, q5, q6⟩
   ·exact .inl q
   ·exact .inr ⟨q, n, rfl, q1, q2, q3, q4, by omega, q6⟩
  ·have := (g2.lt e).1; omega
end Go.Ai
