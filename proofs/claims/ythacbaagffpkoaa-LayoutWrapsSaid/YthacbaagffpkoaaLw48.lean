/-
LayoutWraps, part 48 of 48: FxRowW FxLawW.
-/
import Derived.Below
import Derived.ChangeOld
import Derived.Deep.Slices
import Derived.KernelRfl
import Derived.OpenShut
import Derived.ProofKit
import Derived.SizedLaws
import Derived.Test.YthacbaagffpkoaaRows
import Derived.WalkKit
import Derived.Test.YthacbaagffpkoaaLw47
set_option linter.unusedVariables false
set_option linter.unusedSimpArgs false
set_option maxRecDepth 100000
set_option maxHeartbeats 0
namespace Go.Ai
open Go.Proofs Go.Deep Go.RowKit
theorem list_of {α : Type} {p : Nat → α → Prop} : ∀ n, (∀ i, i < n → ∃ y, p i y) → ∃ L : List α, L.length = n ∧ ∀ i y, L[i]? = some y → p i y
 | 0, _ => ⟨[], rfl, fun i y h => by simp at h⟩
 | n + 1, h => by
  obtain ⟨L, h1, h2⟩ := list_of n fun i hi => h i Om
  obtain ⟨y, hy⟩ := h n Om;refine ⟨L ++ [y], by simp [h1], fun i z hz => ?_⟩
  by_cases hi : i < L.length
  ·rw [List.getElem?_append_left hi] at hz; exact h2 i z hz
  ·rw [List.getElem?_append_right Om] at hz
   have : i - L.length = 0 := by
    have := (gEi.1 hz).1;simp at this; omega
   rw [this] at hz;simp at hz;subst hz;rw [show i = n by omega]; exact hy
theorem cell_at {w : World} {a : Addr} {v : Value} (h : w.cell? a = some v) : a.block < w.heap.size ∧ a.spot = none := by
 unfold World.cell? at h
 cases hh : w.heap[a.block]? with
 | none => simp [hh] at h
 | some o =>
  refine ⟨(Array.getElem?_eq_some_iff.1 hh).1, ?_⟩;rw [hh] at h;cases o <;> simp at h
  cases hs : a.spot with
  | none => rfl
  | some s => simp [hs] at h
theorem adr_none {ad : Addr} (hs : ad.spot = none) (k : Nat) : ad.add k = ⟨ad.block, ad.off + k, none⟩ := by
 unfold Addr.add;split
 ·rename_i h; subst h; obtain ⟨b, o, s⟩ := ad; simp only at hs; subst hs; rfl
 ·rfl
def IntsV (w : World) (v : Value) (W : List Int) : Prop := (v = .slice none 0 0 ∧ W = []) ∨ ∃ a cap, v = .slice (some a) W.length cap ∧ W.length ≤ cap ∧ (0 < cap → a.spot = none ∧ a.block < w.heap.size) ∧ ∀ i x, W[i]? = some x → w.cell? ⟨a.block, a.off + i, none⟩ = some (.int .i64 x)
section
variable {Hh : Type} {enc : TypeId × Value → Hh} {w : World} {base fuel : Nat} {held : Bool} {cs : List Value} {x : DataW Hh × List MemPlace}
theorem c3 : Try.prog.cellsOf 3 = 1 := by kernel_rfl
theorem c26 : Try.prog.cellsOf 26 = 1 := by kernel_rfl
theorem c46 : Try.prog.cellsOf 46 = 4 := by kernel_rfl
theorem read_ints {c : Value} (h : DataW.trod enc Try.prog w base (fun _ => true) held fuel 26 [c] = some x) : ∃ W, IntsV w c W := by
 rcases open_slice Try.underlying26 h with ⟨hc, _⟩ | ⟨a, len, cap, m, n, D, Pl, hc, hb, hl, hm, hmm, rfl, hx⟩
 ·simp at hc; exact ⟨[], .inl ⟨hc, rfl⟩⟩
 ·simp at hc;subst hc;rw [c3] at hx;have hmc : m = cap := by rw [hmm]; rfl
  subst hmc
  have hsp : 0 < m → a.spot = none ∧ a.block < w.heap.size := fun h0 => by
   obtain ⟨cs', h1, h2⟩ := hx 0 h0;obtain ⟨_, h3, h4⟩ := World.cells?_some h1;have h5 := h4 0 Om;rw [Nat.zero_mul, show (a.add 0).add 0 = a from rfl, List.getElem?_eq_getElem Om] at h5;exact ⟨(cell_at h5).2, (cell_at h5).1⟩
  obtain ⟨L, hL, hP⟩ := list_of (p := fun i (y : Int) => w.cell? ⟨a.block, a.off + i, none⟩ = some (.int .i64 y)) len fun i hi => by
   obtain ⟨cs', h1, h2⟩ := hx i Om;obtain ⟨y, e, _⟩ := DataW.trod_int Try.underlying3 h2;obtain ⟨_, h3, h4⟩ := World.cells?_some h1;have h5 := h4 0 Om;rw [adr_none (hsp Om).1, adr_none rfl, e] at h5;exact ⟨y, by rw [← Nat.mul_one i]; exact h5⟩
  subst hL;exact ⟨L, .inr ⟨a, m, rfl, hl, hsp, hP⟩⟩
theorem read_row (h : DataW.trod enc Try.prog w base (fun _ => true) held fuel 46 cs = some x) : ∃ v0 A n c gap wid W, cs = [v0, .slice A n c, .int .i64 gap, .int .i64 wid] ∧ IntsV w v0 W := by
 obtain ⟨xs, n, _, _, hl, hxl, hf⟩ := DataW.trod_struct Try.underlying46 h;rw [c46] at hl
 match cs, hl, xs, hxl with
 | [a, b, c, d], _, [x0, x1, x2, x3], _ =>
  have g0 := hf 0 _ rfl;have g1 := hf 1 _ rfl;obtain ⟨n2, e2, _⟩ := DataW.trod_int Try.underlying3 (hf 2 _ rfl);obtain ⟨n3, e3, _⟩ := DataW.trod_int Try.underlying3 (hf 3 _ rfl);simp [c3, c26] at e2 e3;simp [c26] at g0 g1;subst e2 e3;obtain ⟨W, hW⟩ := read_ints g0;obtain ⟨W1, hW1⟩ := read_ints g1;rcases hW1 with ⟨rfl, _⟩ | ⟨a1, c1, rfl, _⟩
  ·exact ⟨a, _, _, _, n2, n3, W, rfl, hW⟩
  ·exact ⟨a, _, _, _, n2, n3, W, rfl, hW⟩
end
def Inj.rowsL (n : Nat) (blk sh lim : Nat → Nat) : Inj := { dom := fun b => b < n, blk := blk, sh := sh, lim := lim, caps := fun _ => #[], rest := fun _ _ => Option.none, env := fun _ => 0 }
theorem HR.rowsL {P : Program} {w : World} {kn : Kn} {rows : List (List S)} {blk sh lim : Nat → Nat} (hk : KnOk P (fun _ => 0) kn) (hr : RowsOk (Inj.rowsL rows.length blk sh lim) w rows) : HR P (Inj.rowsL rows.length blk sh lim) (H.rows kn rows) w := by
 refine ⟨fun _ h => h, fun b o h => ?_, fun b b' o o' h h' hre => ?_, fun _ _ => rfl, fun b o h _ => ?_, fun _ _ => rfl, hk⟩
 ·obtain ⟨xs, hx, rfl⟩ := H.rows_get h;refine ⟨(gEi.1 hx).1, fun j hj => ?_, fun c s hc => by rw [roAt_row] at hc; cases hc⟩;have hj' : xs[j]? = some xs[j] := List.getElem?_eq_getElem hj;obtain ⟨v, h1, h2⟩ := (hr b xs hx).2 j _ hj';exact ⟨xs[j], v, by rw [T.get_row, hj'], h1, h2⟩
 ·obtain ⟨xs, hx, rfl⟩ := H.rows_get h;simp [O.real] at hre
 ·obtain ⟨xs, hx, rfl⟩ := H.rows_get h;exact (hr b xs hx).1
theorem Wr.rowsL {kn : Kn} {rows : List (List S)} {blk sh lim : Nat → Nat} (c : Nat) : ¬ Wr (Inj.rowsL rows.length blk sh lim) (H.rows kn rows) c := fun ⟨b, o, h, hre, _⟩ => by
 obtain ⟨xs, hx, rfl⟩ := H.rows_get h;simp [O.real] at hre
theorem Ok.rows {kn : Kn} {rows : List (List S)} : Ok (H.rows kn rows) := ⟨fun _ _ => rfl, fun _ _ => rfl, Nat.zero_le _⟩
theorem H.rows_row {kn : Kn} {rows : List (List S)} {b o n : Nat} {xs : List S} (hb : rows[b]? = some xs) (hl : o + n ≤ xs.length) : (H.rows kn rows).row b o n = some ((xs.drop o).take n) := by
 have hg : (H.rows kn rows).get b = some (.ro (T.setMany .e 0 xs) xs.length) := by
  show T.get (T.setMany .e 0 (rows.map fun xs => O.ro (T.setMany .e 0 xs) xs.length)) b = _;rw [T.get_row, List.getElem?_map, hb]; rfl
 unfold H.row;rw [hg];simp only;have hn : ((xs.drop o).take n).length = n := by simp; omega
 have := O.row_of (o := .ro (T.setMany .e 0 xs) xs.length) (xs := (xs.drop o).take n) (j := o) fun i hi => by
  rw [hn] at hi;rw [List.getElem?_take_of_lt hi, List.getElem?_drop];show cond (Nat.blt (o + i) xs.length) ((T.setMany .e 0 xs).get (o + i)) Option.none = _;rw [blt_true Om, T.get_row]; rfl
 rw [hn] at this;exact this
def noSpec : CallF := fun _ _ _ => none
theorem noSpec_ok {P : Program} : SpecOk P noSpec := ⟨⟨fun f args h v h' hx => (by cases hx), fun f args h v h' hx => (by cases hx)⟩, fun f args h v h' hx => (by cases hx)⟩
theorem specLay : SpecLay noSpec := ⟨fun _ _ _ => rfl⟩
theorem orders : Try.prog.follows .mixedOrders = true := by kernel_rfl
theorem names : namesB Try.prog = true := by kernel_rfl
def numsW (W : List Int) : List S := W.map fun x => .i .i64 x
theorem row_calls {w : World} {v0 : Value} {A : Option Addr} {n c : Nat} {gap wid : Int} {W : List Int} (hV : IntsV w v0 W) : Calls Try.prog 11 #[.agg #[v0, .slice A n c, .int .i64 gap, .int .i64 wid]] w fun e w' => e = .returned (.bool true) ∧ Below w.heap.size w w' := by
 have gen : ∀ (rows : List (List S)) (blk sh lim : Nat → Nat) (v : S), RowsOk (Inj.rowsL rows.length blk sh lim) w rows → SR (Inj.rowsL rows.length blk sh lim) v v0 → ValsS (H.rows Kn.none rows) (H.rows Kn.none rows).next v W → Calls Try.prog 11 #[.agg #[v0, .slice A n c, .int .i64 gap, .int .i64 wid]] w fun e w' => e = .returned (.bool true) ∧ Below w.heap.size w w' := by
  intro rows blk sh lim v hr hs ha;refine (WF.calls orders names noSpec_ok (wraps_fn (sH := .anysl) (gap := gap) (wid := wid) specLay Ok.rows ha) (HR.rowsL (Kn.none_ok _ _) hr) (cargs := [.agg #[v0, .slice A n c, .int .i64 gap, .int .i64 wid]]) (All2.cons ⟨_, rfl, All2.cons hs (All2.cons ⟨_, _, _, rfl⟩ (All2.cons rfl (All2.cons rfl All2.nil)))⟩ All2.nil)).mono fun e w' ⟨r, h1, ι', cv, hr, he, hv, s⟩ => ?_;subst hr;have hv : cv = .bool true := hv;subst hv;exact ⟨he, ⟨s.os, s.tape, s.output, s.size, fun c hc => s.fr c hc (Wr.rowsL c)⟩⟩
 rcases hV with ⟨rfl, rfl⟩ | ⟨ad, cap, rfl, hcap, hb, hat⟩
 ·exact gen [] (fun _ => 0) (fun _ => 0) (fun _ => 0) .sl0 (fun b xs h => by simp at h) rfl (.inl ⟨rfl, .inl rfl⟩)
 ·by_cases hz : cap = 0
  ·have hn : W = [] := List.eq_nil_of_length_eq_zero Om;subst hn;exact gen [] (fun _ => 0) (fun _ => 0) (fun _ => 0) (.lsl (Lin.num 0)) (fun b xs h => by simp at h) ⟨Lin.ok_num _, some ad, cap, 0, rfl, rfl⟩ (.inl ⟨rfl, .inr rfl⟩)
  ·obtain ⟨hspot, hblk⟩ := hb Om;refine gen [numsW W] (fun _ => ad.block) (fun _ => ad.off) (fun _ => cap) (.sl 0 0 W.length W.length 1 false) ?_ ?_ ?_
   ·intro b xs hx
    match b, hx with
    | 0, hx =>
     cases hx;refine ⟨hblk, fun j x hx => ?_⟩;unfold numsW at hx;rw [List.getElem?_map] at hx
     cases hj : W[j]? with
     | none => rw [hj] at hx; cases hx
     | some y => rw [hj] at hx; cases hx; exact ⟨_, hat j y hj, rfl⟩
   ·exact ⟨Nat.zero_lt_one, Nat.le_refl _, ad, cap, rfl, rfl, hspot, .inl (Nat.add_zero _).symm, hcap, fun h => (by cases h), by show 0 + cap * 1 ≤ cap; omega⟩
   ·refine .inr ⟨0, 0, W.length, false, rfl, Nat.zero_lt_one, fun k x hx => ?_⟩;have hk := (gEi.1 hx).1;rw [H.rows_row (xs := numsW W) rfl (by unfold numsW; simp; omega)];have : (numsW W)[0 + k]? = some (.i .i64 x) := by unfold numsW; rw [Nat.zero_add, List.getElem?_map, hx]; rfl
    obtain ⟨h1, h2⟩ := gEi.1 this;rw [List.drop_eq_getElem_cons h1, h2]; rfl
end Go.Ai
section
namespace Go.Proofs.Ythacbaagffpkoaa.TLayoutWraps
open Go.ChangeShapes Go.WideShapes Go.ChangeAt Go.RowKit
theorem own : ownKnob Try.prog.godebug = none := by kernel_rfl
theorem laidOut : laidOutB Try.prog = true := by kernel_rfl
theorem lifted (os : Os) (started : os.Started) (H : Type) (enc : TypeId × Value → H) :
  ReturnsInHanded {} Try.checked os 11 .any (Rows.layoutWrapsSpec.pre6 enc Try.prog Try.f11 Rows.layoutWrapsRow.domain false) (Rows.layoutWrapsSpec.post enc Try.prog Try.f11 false true false false) := by
 refine returnsInHanded_of_change_sized (C := Try.checked) own started (by kernel_rfl) Try.func11
  (ChangeSpec.witness6 (enc := enc) (C := Try.checked) false ⟨#[], #[.agg #[.slice none 0 0, .slice none 0 0, .int .i64 0, .int .i64 0]], []⟩ 8 (by kernel_rfl) (by kernel_rfl) (by kernel_rfl) (by kernel_rfl)) ?_
 intro W base args ds gs before hval0 hW hcnd hsz0 _;have hval : ∀ (j : Nat) t v, Try.f11.params[j]? = some t → args[j]? = some v → Value.okWide Try.prog W .any base t v := hval0;have hW' := hW;obtain ⟨p, q, hA0, hV, rfl, hfz, hnd⟩ := hW;have hA : DataW.TrodAll enc Try.prog W 0 (fun _ => true) true Try.f11.params.toList args.toList ds p := hA0;rw [Try.params11] at hA hval;obtain ⟨v0, vs0, d0, ds0, p0, q0, hargs, rfl, rfl, h0, r0⟩ := trodAll_cons hA;obtain ⟨rfl, rfl, rfl⟩ := trodAll_nil r0;obtain rfl : args = #[v0] := by cases args; simp_all
 obtain ⟨rfl, rfl⟩ := trodVars_none hV;obtain ⟨cs, rfl, _⟩ := okWide_struct Try.underlying46 (hval 0 46 v0 rfl rfl);have k0 := h0;have lt0 : ∀ x ∈ p0, x.block < W.heap.size := by obtain ⟨m, hm⟩ := k0; exact DataW.trod_lt m _ _ _ hm
 obtain ⟨fuel, hfu⟩ := h0;obtain ⟨v1, A, n, c, gap, wid, L, hcs, hV1⟩ := Ai.read_row (by simpa [Value.cells] using hfu);obtain rfl : cs = #[v1, .slice A n c, .int .i64 gap, .int .i64 wid] := Array.ext' hcs;clear hA0 hval0 hsz0;refine (Ai.row_calls hV1).mono fun e W' ⟨he, bel⟩ => ?_;subst he;exact ⟨_, rfl, _, _, _, [], _, [], hW', trodAll_mk1 (shut_bool Try.underlying4 _), (trodAll_cons_mk (Below.trod laidOut (by kernel_rfl) (of_decide_eq_true (by kernel_rfl)) k0 bel lt0) trodAll_mk0), rfl, bel.frame _, fun h => by cases h⟩
theorem over : Rows.layoutWrapsRow.holds Try.pinned (OpenSpec.ofChange Rows.layoutWrapsSpec) :=
 OpenClaim.holds_of_wide 11 Try.f11 rfl rfl rfl rfl rfl rfl rfl ⟨rfl, rfl, rfl, rfl, rfl⟩ rfl rfl rfl rfl rfl (by kernel_rfl) Try.func11 (by kernel_rfl)
  (of_decide_eq_true (by kernel_rfl)) (by unfold Func.isWrapper; first | (rw [if_pos (by decide +kernel)]; kernel_rfl) | (rw [if_neg (by decide +kernel)]; exact ⟨rfl, rfl⟩))
  (fun os started H enc _ => lifted os started H enc)
end Go.Proofs.Ythacbaagffpkoaa.TLayoutWraps
namespace Go.Proofs.Ythacbaagffpkoaa
theorem layoutWraps_holds : Rows.LayoutWrapsSaid := TLayoutWraps.over
#print axioms layoutWraps_holds
end Go.Proofs.Ythacbaagffpkoaa
end
