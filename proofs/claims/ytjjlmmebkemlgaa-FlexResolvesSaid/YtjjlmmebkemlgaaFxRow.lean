/-
A law over asks: what it is handed is read, and laid before the machine.
-/
import Derived.Test.YtjjlmmebkemlgaaFxAsks
import Derived.Deep.Slices
import Derived.WalkKit
import Derived.ProofKit
import Derived.OpenShut
import Derived.ChangeOld
import Derived.Below
import Derived.SizedLaws
import Derived.KernelRfl
set_option linter.unusedVariables false
set_option linter.unusedSimpArgs false
namespace Go.Ai
open Go.Proofs Go.Deep Go.RowKit
/-! ### Read -/
section
variable {Hh : Type} {enc : TypeId × Value → Hh} {w : World} {base fuel : Nat} {spare : Nat → Bool} {held : Bool} {cs : List Value} {x : DataW Hh × List MemPlace}
theorem c3 : Try.prog.cellsOf 3 = 1 := by kernel_rfl
theorem c39 : Try.prog.cellsOf 39 = 1 := by kernel_rfl
theorem c46 : Try.prog.cellsOf 46 = 5 := by kernel_rfl
theorem c41 : Try.prog.cellsOf 41 = 3 := by kernel_rfl
theorem read_item (h : DataW.trod enc Try.prog w base spare held fuel 46 cs = some x) : ∃ y : Itm, cs = [.int .i64 y.base, .int .i64 y.mn, .int .i64 y.mx, .int .i64 y.gr, .int .i64 y.sh] := by
  obtain ⟨xs, n, _, _, hl, hxl, hf⟩ := DataW.trod_struct Try.underlying46 h
  rw [c46] at hl
  match cs, hl, xs, hxl with
  | [a, b, c, d, e], _, [x0, x1, x2, x3, x4], _ =>
    obtain ⟨n0, e0, _⟩ := DataW.trod_int Try.underlying3 (hf 0 _ rfl)
    obtain ⟨n1, e1, _⟩ := DataW.trod_int Try.underlying3 (hf 1 _ rfl)
    obtain ⟨n2, e2, _⟩ := DataW.trod_int Try.underlying3 (hf 2 _ rfl)
    obtain ⟨n3, e3, _⟩ := DataW.trod_int Try.underlying3 (hf 3 _ rfl)
    obtain ⟨n4, e4, _⟩ := DataW.trod_int Try.underlying3 (hf 4 _ rfl)
    simp [c3] at e0 e1 e2 e3 e4
    subst e0 e1 e2 e3 e4
    exact ⟨⟨n0, n1, n2, n3, n4⟩, rfl⟩
theorem read_ask (h : DataW.trod enc Try.prog w base spare held fuel 41 cs = some x) : ∃ c gap room y m, cs = [c, .int .i64 gap, .int .i64 room] ∧ DataW.trod enc Try.prog w base spare held m 39 [c] = some y := by
  obtain ⟨xs, n, _, _, hl, hxl, hf⟩ := DataW.trod_struct Try.underlying41 h
  rw [c41] at hl
  match cs, hl, xs, hxl with
  | [a, b, c], _, [x0, x1, x2], _ =>
    have g0 := hf 0 _ rfl
    obtain ⟨n1, e1, _⟩ := DataW.trod_int Try.underlying3 (hf 1 _ rfl)
    obtain ⟨n2, e2, _⟩ := DataW.trod_int Try.underlying3 (hf 2 _ rfl)
    simp [c3] at e1 e2
    simp [c39] at g0
    subst e1 e2
    exact ⟨a, n1, n2, _, n, rfl, g0⟩
theorem list_of {α : Type} {p : Nat → α → Prop} : ∀ n, (∀ i, i < n → ∃ y, p i y) → ∃ L : List α, L.length = n ∧ ∀ i y, L[i]? = some y → p i y
  | 0, _ => ⟨[], rfl, fun i y h => by simp at h⟩
  | n + 1, h => by
    obtain ⟨L, h1, h2⟩ := list_of n fun i hi => h i (by omega)
    obtain ⟨y, hy⟩ := h n (by omega)
    refine ⟨L ++ [y], by simp [h1], fun i z hz => ?_⟩
    by_cases hi : i < L.length
    · rw [List.getElem?_append_left hi] at hz; exact h2 i z hz
    · rw [List.getElem?_append_right (by omega)] at hz
      have : i - L.length = 0 := by
        have := (List.getElem?_eq_some_iff.1 hz).1
        simp at this; omega
      rw [this] at hz
      simp at hz
      subst hz
      rw [show i = n by omega]; exact hy
theorem cell_at {a : Addr} {v : Value} (h : w.cell? a = some v) : a.block < w.heap.size ∧ a.spot = none := by
  unfold World.cell? at h
  cases hh : w.heap[a.block]? with
  | none => simp [hh] at h
  | some o =>
    refine ⟨(Array.getElem?_eq_some_iff.1 hh).1, ?_⟩
    rw [hh] at h
    cases o <;> simp at h
    cases hs : a.spot with
    | none => rfl
    | some s => simp [hs] at h
theorem adr_none {ad : Addr} (hs : ad.spot = none) (k : Nat) : ad.add k = ⟨ad.block, ad.off + k, none⟩ := by
  unfold Addr.add
  split
  · rename_i h; subst h; obtain ⟨b, o, s⟩ := ad; simp only at hs; subst hs; rfl
  · rfl
/-- Items that are there. -/
def ItemsV (w : World) (v : Value) (L : List Itm) : Prop := (v = .slice none 0 0 ∧ L = []) ∨ ∃ a cap, v = .slice (some a) L.length cap ∧ L.length ≤ cap ∧ (0 < cap → a.spot = none ∧ a.block < w.heap.size) ∧ ∀ i y, L[i]? = some y → ∀ j x, y.cells[j]? = some x → ∃ n, x = .i .i64 n ∧ w.cell? ⟨a.block, a.off + (i * 5 + j), none⟩ = some (.int .i64 n)
theorem read_items {c : Value} (h : DataW.trod enc Try.prog w base (fun _ => true) held fuel 39 [c] = some x) : ∃ L, ItemsV w c L := by
  rcases open_slice Try.underlying39 h with ⟨hc, _⟩ | ⟨a, len, cap, m, n, D, Pl, hc, hb, hl, hm, hmm, rfl, hx⟩
  · simp at hc; exact ⟨[], .inl ⟨hc, rfl⟩⟩
  · simp at hc
    subst hc
    rw [c46] at hx
    have hmc : m = cap := by rw [hmm]; rfl
    subst hmc
    have hsp : 0 < m → a.spot = none ∧ a.block < w.heap.size := fun h0 => by
      obtain ⟨cs', h1, h2⟩ := hx 0 h0
      obtain ⟨_, h3, h4⟩ := World.cells?_some h1
      have h5 := h4 0 (by omega)
      rw [Nat.zero_mul, show (a.add 0).add 0 = a from rfl, List.getElem?_eq_getElem (by omega)] at h5
      exact ⟨(cell_at h5).2, (cell_at h5).1⟩
    obtain ⟨L, hL, hP⟩ := list_of (p := fun i (y : Itm) => ∀ j x, y.cells[j]? = some x → ∃ n, x = S.i .i64 n ∧ w.cell? ⟨a.block, a.off + (i * 5 + j), none⟩ = some (.int .i64 n)) len fun i hi => by
      obtain ⟨cs', h1, h2⟩ := hx i (by omega)
      obtain ⟨y, rfl⟩ := read_item h2
      obtain ⟨_, h3, h4⟩ := World.cells?_some h1
      refine ⟨y, fun j x hj => ?_⟩
      have hjl : j < 5 := by have := (List.getElem?_eq_some_iff.1 hj).1; simpa [Itm.cells] using this
      have h5 := h4 j hjl
      rw [adr_none (hsp (by omega)).1, adr_none rfl, Nat.add_assoc] at h5
      match j, hjl, hj, h5 with
      | 0, _, hj, h5 => cases hj; exact ⟨_, rfl, h5⟩
      | 1, _, hj, h5 => cases hj; exact ⟨_, rfl, h5⟩
      | 2, _, hj, h5 => cases hj; exact ⟨_, rfl, h5⟩
      | 3, _, hj, h5 => cases hj; exact ⟨_, rfl, h5⟩
      | 4, _, hj, h5 => cases hj; exact ⟨_, rfl, h5⟩
    subst hL
    exact ⟨L, .inr ⟨a, m, rfl, hl, hsp, hP⟩⟩
/-- Asks that are there. -/
def AsksV (w : World) (v : Value) (A : List Ask) : Prop := (v = .slice none 0 0 ∧ A = []) ∨ ∃ a cap, v = .slice (some a) A.length cap ∧ A.length ≤ cap ∧ ∀ i y, A[i]? = some y → ∃ c, w.cell? ⟨a.block, a.off + (i * 3 + 0), none⟩ = some c ∧ ItemsV w c y.L ∧ w.cell? ⟨a.block, a.off + (i * 3 + 1), none⟩ = some (.int .i64 y.gap) ∧ w.cell? ⟨a.block, a.off + (i * 3 + 2), none⟩ = some (.int .i64 y.room)
theorem read_asks {c : Value} (h : DataW.trod enc Try.prog w base (fun _ => true) held fuel 38 [c] = some x) : ∃ A, AsksV w c A := by
  rcases open_slice Try.underlying38 h with ⟨hc, _⟩ | ⟨a, len, cap, m, n, D, Pl, hc, hb, hl, hm, hmm, rfl, hx⟩
  · simp at hc; exact ⟨[], .inl ⟨hc, rfl⟩⟩
  · simp at hc
    subst hc
    rw [c41] at hx
    have hmc : m = cap := by rw [hmm]; rfl
    subst hmc
    have hsp : 0 < m → a.spot = none := fun h0 => by
      obtain ⟨cs', h1, h2⟩ := hx 0 h0
      obtain ⟨_, h3, h4⟩ := World.cells?_some h1
      have h5 := h4 0 (by omega)
      rw [Nat.zero_mul, show (a.add 0).add 0 = a from rfl, List.getElem?_eq_getElem (by omega)] at h5
      exact (cell_at h5).2
    obtain ⟨A, hA, hP⟩ := list_of (p := fun i (y : Ask) => ∃ c, w.cell? ⟨a.block, a.off + (i * 3 + 0), none⟩ = some c ∧ ItemsV w c y.L ∧ w.cell? ⟨a.block, a.off + (i * 3 + 1), none⟩ = some (.int .i64 y.gap) ∧ w.cell? ⟨a.block, a.off + (i * 3 + 2), none⟩ = some (.int .i64 y.room)) len fun i hi => by
      obtain ⟨cs', h1, h2⟩ := hx i (by omega)
      obtain ⟨c, gap, room, y, k, rfl, h3⟩ := read_ask h2
      obtain ⟨L, hL⟩ := read_items h3
      obtain ⟨_, _, h4⟩ := World.cells?_some h1
      have at_ : ∀ j, j < 3 → w.cell? ⟨a.block, a.off + (i * 3 + j), none⟩ = [c, .int .i64 gap, .int .i64 room][j]? := fun j hj => by
        have h5 := h4 j hj
        rw [adr_none (hsp (by omega)), adr_none rfl, Nat.add_assoc] at h5
        exact h5
      exact ⟨⟨L, gap, room⟩, c, at_ 0 (by omega), hL, at_ 1 (by omega), at_ 2 (by omega)⟩
    subst hA
    exact ⟨A, .inr ⟨a, m, rfl, hl, hP⟩⟩
end
/-! ### Laid before the machine -/
def Inj.rowsL (n : Nat) (blk sh lim : Nat → Nat) : Inj := { dom := fun b => b < n, blk := blk, sh := sh, lim := lim, caps := fun _ => #[], rest := fun _ _ => Option.none, env := fun _ => 0 }
theorem HR.rowsL {P : Program} {w : World} {kn : Kn} {rows : List (List S)} {blk sh lim : Nat → Nat} (hk : KnOk P (fun _ => 0) kn) (hr : RowsOk (Inj.rowsL rows.length blk sh lim) w rows) : HR P (Inj.rowsL rows.length blk sh lim) (H.rows kn rows) w := by
  refine ⟨fun _ h => h, fun b o h => ?_, fun b b' o o' h h' hre => ?_, fun _ _ => rfl, fun b o h _ => ?_, fun _ _ => rfl, hk⟩
  · obtain ⟨xs, hx, rfl⟩ := H.rows_get h
    refine ⟨(List.getElem?_eq_some_iff.1 hx).1, fun j hj => ?_⟩
    have hj' : xs[j]? = some xs[j] := List.getElem?_eq_getElem hj
    obtain ⟨v, h1, h2⟩ := (hr b xs hx).2 j _ hj'
    exact ⟨xs[j], v, by rw [T.get_row, hj'], h1, h2⟩
  · obtain ⟨xs, hx, rfl⟩ := H.rows_get h
    simp [O.real] at hre
  · obtain ⟨xs, hx, rfl⟩ := H.rows_get h
    exact (hr b xs hx).1
theorem Wr.rowsL {kn : Kn} {rows : List (List S)} {blk sh lim : Nat → Nat} (c : Nat) : ¬ Wr (Inj.rowsL rows.length blk sh lim) (H.rows kn rows) c := fun ⟨b, o, h, hre, _⟩ => by
  obtain ⟨xs, hx, rfl⟩ := H.rows_get h
  simp [O.real] at hre
theorem Ok.rows {kn : Kn} {rows : List (List S)} : Ok (H.rows kn rows) := ⟨fun _ _ => rfl, fun _ _ => rfl, Nat.zero_le _⟩
theorem H.rows_row {kn : Kn} {rows : List (List S)} {b o n : Nat} {xs : List S} (hb : rows[b]? = some xs) (hl : o + n ≤ xs.length) : (H.rows kn rows).row b o n = some ((xs.drop o).take n) := by
  have hg : (H.rows kn rows).get b = some (.ro (T.setMany .e 0 xs) xs.length) := by
    show T.get (T.setMany .e 0 (rows.map fun xs => O.ro (T.setMany .e 0 xs) xs.length)) b = _
    rw [T.get_row, List.getElem?_map, hb]; rfl
  unfold H.row
  rw [hg]
  simp only
  have hn : ((xs.drop o).take n).length = n := by simp; omega
  have := O.row_of (o := .ro (T.setMany .e 0 xs) xs.length) (xs := (xs.drop o).take n) (j := o) fun i hi => by
    rw [hn] at hi
    rw [List.getElem?_take_of_lt hi, List.getElem?_drop]
    show cond (Nat.blt (o + i) xs.length) ((T.setMany .e 0 xs).get (o + i)) Option.none = _
    rw [blt_true (by omega), T.get_row]; rfl
  rw [hn] at this
  exact this
def svOf (k : Nat) : Value → S
  | .slice (some _) n c => if c = 0 then .lsl (Lin.num 0) else .sl (k + 1) 0 n n 5 false
  | _ => .sl0
def blkOf (d : Nat) : Value → Nat
  | .slice (some a) _ c => if c = 0 then d else a.block
  | _ => d
def shOf : Value → Nat
  | .slice (some a) _ _ => a.off
  | _ => 0
def limOf : Value → Nat
  | .slice (some _) _ c => c * 5
  | _ => 0
theorem svOf_zero {k n : Nat} {a : Addr} : svOf k (.slice (some a) n 0) = .lsl (Lin.num 0) := rfl
theorem svOf_pos {k n c : Nat} {a : Addr} (h : c ≠ 0) : svOf k (.slice (some a) n c) = .sl (k + 1) 0 n n 5 false := if_neg h
theorem blkOf_zero {d n : Nat} {a : Addr} : blkOf d (.slice (some a) n 0) = d := rfl
theorem blkOf_pos {d n c : Nat} {a : Addr} (h : c ≠ 0) : blkOf d (.slice (some a) n c) = a.block := if_neg h
def arow (c : Nat → Value) : Nat → List Ask → List S
  | _, [] => []
  | k, a :: A => [svOf k (c k), .i .i64 a.gap, .i .i64 a.room] ++ arow c (k + 1) A
theorem arow_length {c : Nat → Value} : ∀ (A : List Ask) (k : Nat), (arow c k A).length = A.length * 3
  | [], k => rfl
  | a :: A, k => by show ([_, _, _] ++ arow c (k + 1) A).length = _; rw [List.length_append, arow_length A]; simp; omega
theorem arow_drop {c : Nat → Value} : ∀ (A : List Ask) (k i : Nat), (arow c k A).drop (i * 3) = arow c (k + i) (A.drop i)
  | [], k, i => by simp [arow]
  | a :: A, k, 0 => by simp
  | a :: A, k, i + 1 => by
    rw [show (i + 1) * 3 = i * 3 + 3 by omega, show k + (i + 1) = k + 1 + i by omega]
    exact arow_drop A (k + 1) i
theorem arow_at {c : Nat → Value} {A : List Ask} {k : Nat} {a : Ask} (ha : A[k]? = some a) : ((arow c 0 A).drop (k * 3)).take 3 = [svOf k (c k), .i .i64 a.gap, .i .i64 a.room] := by
  obtain ⟨hk, rfl⟩ := List.getElem?_eq_some_iff.1 ha
  rw [arow_drop, List.drop_eq_getElem_cons hk, Nat.zero_add]
  rfl
theorem arow_mem {c : Nat → Value} {A : List Ask} {j : Nat} {x : S} (hx : (arow c 0 A)[j]? = some x) : ∃ k a, A[k]? = some a ∧ ((j = k * 3 + 0 ∧ x = svOf k (c k)) ∨ (j = k * 3 + 1 ∧ x = .i .i64 a.gap) ∨ (j = k * 3 + 2 ∧ x = .i .i64 a.room)) := by
  have hj := (List.getElem?_eq_some_iff.1 hx).1
  rw [arow_length] at hj
  obtain ⟨a, ha⟩ : ∃ a, A[j / 3]? = some a := ⟨_, List.getElem?_eq_getElem (by omega)⟩
  have h3 := arow_at (c := c) ha
  have hd : (((arow c 0 A).drop (j / 3 * 3)).take 3)[j % 3]? = some x := by
    rw [List.getElem?_take_of_lt (by omega), List.getElem?_drop, show j / 3 * 3 + j % 3 = j by omega]; exact hx
  rw [h3] at hd
  refine ⟨j / 3, a, ha, ?_⟩
  have : j % 3 = 0 ∨ j % 3 = 1 ∨ j % 3 = 2 := by omega
  rcases this with q | q | q <;> rw [q] at hd <;> cases hd
  · exact .inl ⟨by omega, rfl⟩
  · exact .inr (.inl ⟨by omega, rfl⟩)
  · exact .inr (.inr ⟨by omega, rfl⟩)
theorem citems_mem {L : List Itm} {j : Nat} {x : S} (hx : (citems L)[j]? = some x) : ∃ i y r, L[i]? = some y ∧ y.cells[r]? = some x ∧ j = i * 5 + r := by
  have hj := (List.getElem?_eq_some_iff.1 hx).1
  rw [citems_length] at hj
  have hi : j / 5 < L.length := by omega
  refine ⟨j / 5, L[j / 5], j % 5, List.getElem?_eq_getElem hi, ?_, by omega⟩
  have hd : ((citems L).drop (j / 5 * 5))[j % 5]? = some x := by
    rw [List.getElem?_drop, show j / 5 * 5 + j % 5 = j by omega]; exact hx
  rw [citems_drop, List.drop_eq_getElem_cons hi] at hd
  have e : citems (L[j / 5] :: L.drop (j / 5 + 1)) = L[j / 5].cells ++ citems (L.drop (j / 5 + 1)) := rfl
  rw [e, List.getElem?_append_left (by simp [Itm.cells]; omega)] at hd
  exact hd
def noSpec : CallF := fun _ _ _ => none
theorem noSpec_ok {P : Program} : SpecOk P noSpec := ⟨⟨fun f args h v h' hx => (by cases hx), fun f args h v h' hx => (by cases hx)⟩, fun f args h v h' hx => (by cases hx)⟩
theorem specRes : SpecRes noSpec := ⟨fun _ _ => rfl, fun _ _ => rfl, fun _ _ => rfl, fun _ _ => rfl, fun _ _ => rfl, fun _ _ => rfl⟩
theorem specFlex : SpecFlex noSpec := ⟨fun _ _ => rfl, fun _ _ => rfl, fun _ _ => rfl, fun _ _ => rfl, fun _ _ => rfl, fun _ _ => rfl, fun _ _ => rfl, fun _ _ => rfl, fun _ _ => rfl, fun _ _ => rfl, fun _ _ => rfl, fun _ _ => rfl, fun _ _ => rfl⟩
theorem specSort : SpecSort noSpec := ⟨fun _ _ => rfl, fun _ _ => rfl, fun _ _ => rfl, fun _ _ => rfl, fun _ _ => rfl, fun _ _ => rfl, fun _ _ => rfl, fun _ _ => rfl, fun _ _ => rfl, fun _ _ => rfl, fun _ _ => rfl⟩
theorem specEq : SpecEq noSpec := ⟨fun _ _ => rfl, fun _ _ => rfl, fun _ _ => rfl, fun _ _ => rfl, fun _ _ => rfl, fun _ _ => rfl, fun _ _ => rfl⟩
theorem orders : Try.prog.follows .mixedOrders = true := by kernel_rfl
theorem names : namesB Try.prog = true := by kernel_rfl
/-- A law over asks. -/
theorem asks_calls {f : FuncId} (hlaw : ∀ (h : H) (v : S) (A : List Ask), Ok h → AsksAt h v A → WF Try.prog noSpec f [.one v] h fun r _ => r = .one (.b true)) {w : World} {v0 : Value} {A : List Ask} (hV : AsksV w v0 A)
    (hsp : ∀ a n c, v0 = .slice (some a) n c → a.spot = none ∧ a.block < w.heap.size) : Calls Try.prog f #[v0] w fun e w' => e = .returned (.bool true) ∧ Below w.heap.size w w' := by
  have gen : ∀ (rows : List (List S)) (blk sh lim : Nat → Nat) (v : S), RowsOk (Inj.rowsL rows.length blk sh lim) w rows → SR (Inj.rowsL rows.length blk sh lim) v v0 → AsksAt (H.rows Kn.none rows) v A → Calls Try.prog f #[v0] w fun e w' => e = .returned (.bool true) ∧ Below w.heap.size w w' := by
    intro rows blk sh lim v hr hs ha
    refine (WF.calls orders names noSpec_ok (hlaw _ v A Ok.rows ha) (HR.rowsL (Kn.none_ok _ _) hr) (cargs := [v0]) (All2.cons hs All2.nil)).mono fun e w' ⟨r, h1, ι', cv, hr, he, hv, s⟩ => ?_
    subst hr
    have hv : cv = .bool true := hv
    subst hv
    exact ⟨he, ⟨s.os, s.tape, s.output, s.size, fun c hc => s.fr c hc (Wr.rowsL c)⟩⟩
  rcases hV with ⟨rfl, rfl⟩ | ⟨ad, cap, rfl, hcap, hat⟩
  · exact gen [] (fun _ => 0) (fun _ => 0) (fun _ => 0) .sl0 (fun b xs h => by simp at h) rfl (.inl ⟨rfl, rfl⟩)
  · obtain ⟨hspot, hblk⟩ := hsp _ _ _ rfl
    let c : Nat → Value := fun k => (w.cell? ⟨ad.block, ad.off + (k * 3 + 0), none⟩).getD default
    have hc : ∀ k a, A[k]? = some a → w.cell? ⟨ad.block, ad.off + (k * 3 + 0), none⟩ = some (c k) ∧ ItemsV w (c k) a.L := fun k a ha => by
      obtain ⟨c0, q1, q2, _⟩ := hat k a ha
      have : c k = c0 := by show (w.cell? _).getD default = _; rw [q1]; rfl
      rw [this]; exact ⟨q1, q2⟩
    have hrow : ∀ k a, A[k]? = some a → (arow c 0 A :: A.map fun a => citems a.L)[k + 1]? = some (citems a.L) := fun k a ha => by rw [List.getElem?_cons_succ, List.getElem?_map, ha]; rfl
    have hlenr : (arow c 0 A :: A.map fun a => citems a.L).length = A.length + 1 := by simp
    refine gen (arow c 0 A :: A.map fun a => citems a.L) (fun b => match b with | 0 => ad.block | k + 1 => blkOf ad.block (c k)) (fun b => match b with | 0 => ad.off | k + 1 => shOf (c k)) (fun b => match b with | 0 => cap * 3 | k + 1 => limOf (c k)) (.sl 0 0 A.length A.length 3 false) ?_ ?_ ?_
    · intro b xs hb
      match b, hb with
      | 0, hb =>
        cases hb
        refine ⟨hblk, fun j x hx => ?_⟩
        obtain ⟨k, a, ha, hj⟩ := arow_mem hx
        obtain ⟨_, _, _, q3, q4⟩ := hat k a ha
        obtain ⟨q1, q2⟩ := hc k a ha
        have hk := (List.getElem?_eq_some_iff.1 ha).1
        rcases hj with ⟨rfl, rfl⟩ | ⟨rfl, rfl⟩ | ⟨rfl, rfl⟩
        · refine ⟨_, q1, ?_⟩
          rcases q2 with ⟨e, _⟩ | ⟨a0, cp, e, e1, e2, _⟩
          · rw [e]; rfl
          · rw [e]
            by_cases hne : cp = 0
            · subst hne
              rw [svOf_zero]
              exact ⟨Lin.ok_num _, some a0, 0, a.L.length, rfl, by
                have : a.L.length = 0 := by omega
                rw [this]; rfl⟩
            · rw [svOf_pos hne]
              obtain ⟨e3, e4⟩ := e2 (by omega)
              refine ⟨(show k + 1 < (arow c 0 A :: A.map fun a => citems a.L).length by rw [hlenr]; omega), Nat.le_refl _, a0, cp, rfl, ?_, e3, .inl ?_, e1, fun h => (by cases h), ?_⟩
              · show a0.block = blkOf ad.block (c k); rw [e, blkOf_pos hne]
              · show a0.off = shOf (c k) + 0; rw [e]; rfl
              · show 0 + cp * 5 ≤ limOf (c k); rw [e]; show 0 + cp * 5 ≤ cp * 5; omega
        · exact ⟨_, q3, rfl⟩
        · exact ⟨_, q4, rfl⟩
      | k + 1, hb =>
        rw [List.getElem?_cons_succ, List.getElem?_map] at hb
        cases ha : A[k]? with
        | none => rw [ha] at hb; cases hb
        | some a =>
          rw [ha] at hb
          have hxs : xs = citems a.L := (Option.some.inj hb).symm
          subst hxs
          obtain ⟨q1, q2⟩ := hc k a ha
          rcases q2 with ⟨e, e1⟩ | ⟨a0, cp, e, e1, e2, e3⟩
          · rw [e1]
            exact ⟨by show blkOf ad.block (c k) < _; rw [e]; exact hblk, fun j x hx => by simp [citems] at hx⟩
          · refine ⟨?_, fun j x hx => ?_⟩
            · show blkOf ad.block (c k) < _
              rw [e]
              by_cases hne : cp = 0
              · subst hne; exact hblk
              · rw [blkOf_pos hne]; exact (e2 (by omega)).2
            · obtain ⟨i, y, r, h1, h2, rfl⟩ := citems_mem hx
              obtain ⟨n, rfl, h3⟩ := e3 i y h1 r x h2
              have hpos : 0 < cp := by have := (List.getElem?_eq_some_iff.1 h1).1; omega
              refine ⟨.int .i64 n, ?_, rfl⟩
              show w.cell? ⟨blkOf ad.block (c k), shOf (c k) + _, none⟩ = _
              rw [e, blkOf_pos (by omega)]; exact h3
    · exact ⟨(show 0 < (arow c 0 A :: A.map fun a => citems a.L).length by rw [hlenr]; omega), Nat.le_refl _, ad, cap, rfl, rfl, hspot, .inl (Nat.add_zero _).symm, hcap, fun h => (by cases h), by show 0 + cap * 3 ≤ cap * 3; omega⟩
    · refine .inr ⟨0, A.length, rfl, by show 0 < (arow c 0 A :: A.map fun a => citems a.L).length; rw [hlenr]; omega, fun k a ha => ⟨svOf k (c k), ?_, ?_⟩⟩
      · have hk := (List.getElem?_eq_some_iff.1 ha).1
        rw [H.rows_row (xs := arow c 0 A) rfl (by rw [arow_length]; omega), arow_at ha]
      · obtain ⟨q1, q2⟩ := hc k a ha
        rcases q2 with ⟨e, e1⟩ | ⟨a0, cp, e, e1, e2, e3⟩
        · rw [e]; exact .inl ⟨e1, .inl rfl⟩
        · rw [e]
          by_cases hne : cp = 0
          · subst hne; exact .inl ⟨List.eq_nil_of_length_eq_zero (by omega), .inr rfl⟩
          · rw [svOf_pos hne]
            refine .inr ⟨k + 1, 0, a.L.length, false, rfl, by show k + 1 < (arow c 0 A :: A.map fun a => citems a.L).length; have := (List.getElem?_eq_some_iff.1 ha).1; rw [hlenr]; omega, fun i y hy => ?_⟩
            have hi := (List.getElem?_eq_some_iff.1 hy).1
            rw [Nat.zero_add, H.rows_row (hrow k a ha) (by rw [citems_length]; omega), citems_drop, List.drop_eq_getElem_cons hi]
            obtain ⟨_, hyy⟩ := List.getElem?_eq_some_iff.1 hy
            rw [hyy]; rfl
end Go.Ai
