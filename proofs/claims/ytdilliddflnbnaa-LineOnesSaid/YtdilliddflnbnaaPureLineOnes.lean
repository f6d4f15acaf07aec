/- The pure statement of LineOnes: in no room each stands alone; in room for all all stand in one line; as long as they are with their gaps. -/
import Derived.Test.YtdilliddflnbnaaTellLineOnes
import Derived.Test.YtdilliddflnbnaaLinesA
import Derived.Test.YtdilliddflnbnaaWithinA
namespace Go.Proofs.Ytdilliddflnbnaa.TLineOnes
open Go.RowKit Go.Proofs.YtdilliddflnbnaaW.PrintWords Go.Proofs.Ytdilliddflnbnaa.PA

theorem rd_T (l : List S25) (i : Nat) (h : i < l.length) : rd_T25 l (i : Int) = l[i] := by simp [rd_T25, List.getD_eq_getElem?_getD, h]

theorem wakes : ∀ k, 20 ≤ k → arraslaw19_wakes.f k = some true := by
  intro k hk
  have e : cutS 1 11 [5, 5, 5] = [2, 1] := by decide
  have o : okS [5, 5, 5] [1, 11] 64 = true := by decide
  simp only [arraslaw19_wakes.f]
  rw [lineBreak_eq _ _ _ (by simp) (by simp; omega), if_pos o, e]
  simp only [Option.bind_some, arraslaw19_num.f]
  rw [if_pos trivial, eqNums_eq _ _ (by simp) (by simp; omega)]
  rfl

/-- Sums of whole numbers. -/
def sum : List Int → Int
  | [] => 0
  | s :: r => s + sum r
theorem sum_append : ∀ (a b : List Int), sum (a ++ b) = sum a + sum b
  | [], b => by simp [sum]
  | s :: r, b => by simp only [List.cons_append, sum, sum_append r b]; omega
theorem ext_sum (gap : Int) : ∀ l : List Int, ext gap l = sum l + gap * l.length
  | [] => by simp [ext, sum]
  | s :: r => by
    simp only [ext, sum, ext_sum gap r, List.length_cons]
    rw [Int.natCast_add, Int.mul_add]
    omega
theorem tot_sum (gap : Int) {l : List Int} (h : l ≠ []) : tot gap l = sum l + gap * ((l.length : Int) - 1) := by
  cases l with
  | nil => exact absurd rfl h
  | cons s r =>
    simp only [tot, sum, ext_sum gap r, List.length_cons]
    rw [Int.natCast_add]
    simp only [Int.natCast_one, Int.add_sub_cancel]
    omega
/-- Sizes from 1 to 1000. -/
def Small (l : List Int) : Prop := ∀ x ∈ l, 1 ≤ x ∧ x ≤ 1000
theorem Small.tail {s : Int} {r : List Int} (h : Small (s :: r)) : Small r := fun x hx => h x (List.mem_cons_of_mem _ hx)
theorem Small.head {s : Int} {r : List Int} (h : Small (s :: r)) : 1 ≤ s ∧ s ≤ 1000 := h s List.mem_cons_self
theorem Small.allPl {l : List Int} (h : Small l) : AllPl l := fun x hx => by have := h x hx; omega
theorem sum_small : ∀ {l : List Int}, Small l → (l.length : Int) ≤ sum l ∧ sum l ≤ 1000 * l.length
  | [], _ => by simp [sum]
  | s :: r, h => by
    have := sum_small h.tail
    have := h.head
    simp only [sum, List.length_cons]
    omega
theorem cut_zero {gap : Int} (hg : 0 ≤ gap) : ∀ (r : List Int) (c n : Int), 0 ≤ n → Small r → (cutGo gap 0 c n r).length = r.length + 1
  | [], c, n, _, _ => rfl
  | s :: r, c, n, hn, h => by
    have := h.head
    simp only [cutGo]
    rw [if_neg (by omega), List.length_cons, cut_zero hg r 1 s (by omega) h.tail, List.length_cons]
theorem ext_small {gap : Int} (hg : 0 ≤ gap) {r : List Int} (h : Small r) : (r.length : Int) ≤ ext gap r := by
  rw [ext_sum]
  have := (sum_small h).1
  have := Int.mul_nonneg hg (show (0 : Int) ≤ r.length by omega)
  omega
theorem cut_one {gap room : Int} (hg : 0 ≤ gap) (hr : room ≤ 1099511627776) : ∀ (r : List Int) (c n : Int), 0 ≤ n → Small r → n + ext gap r ≤ room → cutGo gap room c n r = [c + r.length]
  | [], c, n, _, _, _ => by simp [cutGo]
  | s :: r, c, n, hn, h, hx => by
    have := h.head
    have h2 := ext_small hg h.tail
    simp only [ext] at hx
    have e : min 1099511627776 (n + gap + s) = n + gap + s := by omega
    simp only [cutGo]
    rw [e, if_pos (by omega), cut_one hg hr r (c + 1) (n + gap + s) (by omega) h.tail (by omega), List.length_cons, Int.natCast_add]
    simp only [Int.natCast_one]
    congr 1
    omega
theorem cut_two {gap room : Int} (hg : 0 ≤ gap) (hr : room < 1099511627776) : ∀ (r : List Int) (c n : Int), r ≠ [] → 0 ≤ n → Small r → n + ext gap r = room + 1 → (cutGo gap room c n r).length = 2
  | [], c, n, he, _, _, _ => absurd rfl he
  | [s], c, n, _, hn, h, hx => by
    simp only [ext] at hx
    simp only [cutGo]
    rw [if_neg (by omega)]
    rfl
  | s :: s2 :: r, c, n, _, hn, h, hx => by
    have := h.head
    have h2 := ext_small hg h.tail
    rw [List.length_cons] at h2
    simp only [ext] at hx h2
    have e : min 1099511627776 (n + gap + s) = n + gap + s := by omega
    rw [cutGo, e, if_pos (by omega)]
    exact cut_two hg hr (s2 :: r) (c + 1) (n + gap + s) (by simp) (by omega) h.tail (by simp only [ext]; omega)

/-- The sizes that are made of an ask's list. -/
def mk (L : List Int) (j : Nat) : List Int := (L.take j).map fun x => 1 + wthn x 1000
theorem mk_small (L : List Int) (j : Nat) : Small (mk L j) := by
  intro x hx
  obtain ⟨y, _, rfl⟩ := List.mem_map.1 hx
  have := wthn_bd y 1000 (by omega) (by omega)
  omega
theorem mk_len (L : List Int) (j : Nat) (hj : j ≤ L.length) : (mk L j).length = j := by simp [mk]; omega
theorem mk_succ (L : List Int) (j : Nat) (hj : j < L.length) : mk L (j + 1) = mk L j ++ [1 + wthn L[j] 1000] := by
  unfold mk
  rw [List.take_succ_eq_append_getElem hj, List.map_append]
  rfl

section
variable (l : List S25) (i : Nat) (hi : i < l.length) (h12 : i < 12) (K : Nat) (hn : ∀ k, K ≤ k → arraslaw19_LineOnes.l0 k l ((i : Int) + 1) = some true)
include hn h12

theorem behind (s : List Int) (gap : Int) (hs : Small s) (h64 : s.length ≤ 64) (hg : 0 ≤ gap ∧ gap < 100) {k : Nat} (hk : K + 200 ≤ k) : arraslaw19_LineOnes.j3 k l (i : Int) s (sum s) gap = some true := by
  have hw : wrap64 ((i : Int) + 1) = (i : Int) + 1 := w64 (by omega) (by omega)
  obtain ⟨k, rfl⟩ : ∃ m, k = m + 2 := ⟨k - 2, by omega⟩
  simp only [arraslaw19_LineOnes.j3]
  by_cases h0 : (s.length : Int) = 0
  · rw [if_pos h0, hw]
    exact hn _ (by omega)
  · rw [if_neg h0]
    replace hw := Aside0.mk hw
    have hne : s ≠ [] := fun e => h0 (by rw [e]; rfl)
    have hsm := sum_small hs
    have hp0 : 0 ≤ gap * ((s.length : Int) - 1) := Int.mul_nonneg hg.1 (by omega)
    have hp1 : gap * ((s.length : Int) - 1) ≤ 99 * 63 := Int.mul_le_mul (by omega) (by omega) (by omega) (by omega)
    have ht := tot_sum gap hne
    have hall : wrap64 (sum s + wrap64 (gap * wrap64 ((s.length : Int) - 1))) = tot gap s := by
      rw [w64 (n := (s.length : Int) - 1) (by omega) (by omega), w64 (n := gap * ((s.length : Int) - 1)) (by omega) (by omega), w64 (by omega) (by omega), ht]
    rw [hall]
    clear hall
    generalize gap * ((s.length : Int) - 1) = pr at hp0 hp1 ht
    generalize hT : tot gap s = T at ht
    replace hT := Aside0.mk hT
    have hok : ∀ r : Int, 0 ≤ r → r ≤ 1099511627776 → okS s [gap, r] 64 = true := fun r h1 h2 => okS_iff.2 ⟨hs.allPl, by
      intro x hx
      simp only [List.mem_cons, List.not_mem_nil, or_false] at hx
      rcases hx with rfl | rfl <;> omega, by omega⟩
    have hok1 : okS s [gap] 64 = true := okS_iff.2 ⟨hs.allPl, AllPl.one (by omega), by omega⟩
    rw [lineBreak_eq s gap 0 (by omega) (by omega), if_pos (hok 0 (by omega) (by omega))]
    simp only [Option.bind_some]
    rw [lineBreak_eq s gap T (by omega) (by omega), if_pos (hok T (by omega) (by omega))]
    simp only [Option.bind_some]
    rw [lineLength_eq s gap (by omega) (by omega), if_pos hok1]
    simp only [Option.bind_some, arraslaw19_num.f, if_true]
    have hA : (cutS gap 0 s).length = s.length := by
      cases s with
      | nil => rfl
      | cons x r => exact cut_zero hg.1 r 1 x (by have := hs.head; omega) hs.tail
    have hB : cutS gap T s = [(s.length : Int)] := by
      cases s with
      | nil => exact absurd rfl hne
      | cons x r =>
        have := cut_one hg.1 (room := T) (by omega) r 1 x (by have := hs.head; omega) hs.tail (by have := hT.out; simp only [tot] at this; omega)
        simp only [cutS]
        rw [this, List.length_cons, Int.natCast_add]
        simp only [Int.natCast_one]
        congr 1
        omega
    have hL : lenS gap s = T := by
      rw [lenS_eq ⟨hg.1, by omega⟩ hs.allPl, hT.out]
      omega
    rw [if_pos (by rw [hA]), hB]
    simp only [List.length_cons, List.length_nil]
    rw [if_pos (by omega), if_pos (by omega), if_pos (by simp [rd]), hL, show (T != T) = false by simp]
    simp only [arraslaw19_LineOnes.j4]
    have hT1 : wrap64 (T - 1) = T - 1 := w64 (by omega) (by omega)
    rw [if_neg (by simp), hT1, lineBreak_eq s gap (T - 1) (by omega) (by omega), if_pos (hok (T - 1) (by omega) (by omega))]
    simp only [Option.bind_some, arraslaw19_num.f, if_true]
    rw [hw.out]
    have hlast := hn k (by omega)
    by_cases h1 : (s.length : Int) > 1
    · have hC : (cutS gap (T - 1) s).length = 2 := by
        match s, hs, h1, hT, hne with
        | x :: y :: r, hs, h1, hT, _ =>
          exact cut_two hg.1 (by omega) (y :: r) 1 x (by simp) (by have := hs.head; omega) hs.tail (by have := hT.out; simp only [tot] at this; omega)
        | [x], _, h1, _, _ => simp at h1
        | [], _, _, _, hne => exact absurd rfl hne
      rw [if_pos h1, if_pos (by omega), if_neg (by omega)]
      exact hlast
    · have hC : (cutS gap (T - 1) s).length = 1 := by
        match s, h1, hne with
        | [x], _, _ => rfl
        | x :: y :: r, h1, _ => simp at h1; omega
        | [], _, hne => exact absurd rfl hne
      rw [if_neg h1, if_pos (by omega), if_pos (by omega)]
      exact hlast

include hi
theorem inner (gap : Int) (hg : 0 ≤ gap ∧ gap < 100) (hL : l[i].f0.length ≤ 9223372036854775807) : ∀ (d j k : Nat), 64 - j = d → j ≤ 64 → j ≤ l[i].f0.length → K + d + 300 ≤ k → arraslaw19_LineOnes.l1 k l (i : Int) (mk l[i].f0 j) (sum (mk l[i].f0 j)) gap (j : Int) = some true := by
  have hrd := rd_T l i hi
  intro d
  have fin : ∀ (j k : Nat), ¬ (j < l[i].f0.length ∧ j < 64) → j ≤ 64 → j ≤ l[i].f0.length → K + 300 ≤ k → arraslaw19_LineOnes.l1 k l (i : Int) (mk l[i].f0 j) (sum (mk l[i].f0 j)) gap (j : Int) = some true := by
    intro j k hj h64 hjl hk
    obtain ⟨k, rfl⟩ : ∃ m, k = m + 1 := ⟨k - 1, by omega⟩
    have hb := behind l i h12 K hn (mk l[i].f0 j) gap (mk_small _ _) (by rw [mk_len _ _ hjl]; omega) hg (k := k) (by omega)
    simp only [arraslaw19_LineOnes.l1]
    rw [if_pos (by omega), if_pos (by omega), hrd]
    by_cases c : (j : Int) < (l[i].f0.length : Int)
    · rw [if_pos c, if_neg (by omega)]
      exact hb
    · rw [if_neg c]
      exact hb
  induction d with
  | zero => exact fun j k hd h64 hjl hk => fin j k (by omega) h64 hjl (by omega)
  | succ d ih =>
    intro j k hd h64 hjl hk
    by_cases c : j < l[i].f0.length
    · obtain ⟨k, rfl⟩ : ∃ m, k = m + 1 := ⟨k - 1, by omega⟩
      have hnext := ih (j + 1) k (by omega) (by omega) (by omega) (by omega)
      have hml := mk_len l[i].f0 j hjl
      have hwt := wthn_bd (l[i].f0[j]) 1000 (by omega) (by omega)
      simp only [arraslaw19_LineOnes.l1]
      rw [if_pos (by omega), if_pos (by omega), hrd, if_pos (by omega), if_pos (by omega), if_pos (by omega), rd_nat c, within_eq _ _ (by omega) (by omega)]
      simp only [Option.bind_some]
      have hw1 : wrap64 (1 + wthn l[i].f0[j] 1000) = 1 + wthn l[i].f0[j] 1000 := w64 (by omega) (by omega)
      rw [if_pos (by omega), hw1, ← mk_succ l[i].f0 j c, if_pos (by rw [mk_len _ _ (by omega)]; omega)]
      have hsum : sum (mk l[i].f0 (j + 1)) = sum (mk l[i].f0 j) + rd (mk l[i].f0 (j + 1)) (j : Int) := by
        rw [mk_succ l[i].f0 j c, sum_append]
        have : rd (mk l[i].f0 j ++ [1 + wthn l[i].f0[j] 1000]) (j : Int) = 1 + wthn l[i].f0[j] 1000 := by
          simp [rd, List.getD_eq_getElem?_getD, hml]
        rw [this]
        simp [sum]
      have hbd := sum_small (mk_small l[i].f0 (j + 1))
      rw [mk_len _ _ (by omega)] at hbd
      rw [← hsum, w64 (n := sum (mk l[i].f0 (j + 1))) (by omega) (by omega), len_next c hL]
      exact hnext
    · exact fin j k (by omega) h64 hjl (by omega)
end

theorem step (l : List S25) (i : Nat) (hi : i < l.length) (h12 : i < 12) (K : Nat) (hn : ∀ k, K ≤ k → arraslaw19_LineOnes.l0 k l ((i : Int) + 1) = some true) (hp : phi25 l[i]) : ∃ K', ∀ k, K' ≤ k → arraslaw19_LineOnes.l0 k l (i : Int) = some true := by
  have hmax : l[i].f0.length ≤ 9223372036854775807 := hp.1.1
  refine ⟨K + 1000, fun k hk => ?_⟩
  obtain ⟨k, rfl⟩ : ∃ m, k = m + 2 := ⟨k - 2, by omega⟩
  simp only [arraslaw19_LineOnes.l0]
  rw [if_pos (by omega)]
  simp only [arraslaw19_LineOnes.j1]
  rw [if_pos (by simp; omega), if_pos (by omega), if_pos (by omega), rd_T l i hi, within_eq _ _ (by omega) (by omega)]
  simp only [Option.bind_some]
  exact inner l i hi h12 K hn _ (wthn_bd _ 100 (by omega) (by omega)) hmax 64 0 k rfl (by omega) (by omega) (by omega)

theorem loop (l : List S25) (hp : ∀ y ∈ l, phi25 y) : ∀ (d i : Nat), 12 - i = d → i ≤ l.length → i ≤ 12 → ∃ K, ∀ k, K ≤ k → arraslaw19_LineOnes.l0 k l (i : Int) = some true := by
  intro d
  have fin : ∀ (i : Nat), ¬ (i < l.length ∧ i < 12) → i ≤ l.length → ∃ K, ∀ k, K ≤ k → arraslaw19_LineOnes.l0 k l (i : Int) = some true := by
    refine fun i hi hil => ⟨100, fun k hk => ?_⟩
    obtain ⟨k, rfl⟩ : ∃ m, k = m + 2 := ⟨k - 2, by omega⟩
    simp only [arraslaw19_LineOnes.l0]
    by_cases c : (i : Int) < (l.length : Int)
    · rw [if_pos c]
      simp only [arraslaw19_LineOnes.j1]
      rw [if_neg (by simp; omega), wakes k (by omega)]
      rfl
    · rw [if_neg c]
      simp only [arraslaw19_LineOnes.j1]
      rw [if_neg (by simp), wakes k (by omega)]
      rfl
  induction d with
  | zero => exact fun i hd hi h12 => fin i (by omega) hi
  | succ d ih =>
    intro i hd hi h12
    by_cases c : i < l.length
    · obtain ⟨K, hn⟩ := ih (i + 1) (by omega) (by omega) (by omega)
      rw [Int.natCast_add, Int.natCast_one] at hn
      exact step l i c (by omega) K hn (hp _ (List.getElem_mem c))
    · exact fin i (by omega) hi

/-- The law, over numbers and lists. -/
theorem pure : Pure := fun l h => by
  obtain ⟨K, hK⟩ := loop l h.2 12 0 (by omega) (by omega) (by omega)
  exact ⟨K, hK K (Nat.le_refl _)⟩
end Go.Proofs.Ytdilliddflnbnaa.TLineOnes
