/- The pure statement of LineLaws: lines have all, in order; none but one of a single item is longer than the room; no line could have taken the next one's first. -/
import Derived.Test.YtdilliddflnbnaaTellLineLaws
import Derived.Test.YtdilliddflnbnaaLinesA
namespace Go.Proofs.Ytdilliddflnbnaa.TLineLaws
open Go.RowKit Go.Proofs.YtdilliddflnbnaaW.PrintWords Go.Proofs.Ytdilliddflnbnaa.PA
theorem rd_T (l : List S25) (i : Nat) (h : i < l.length) : rd_T25 l (i : Int) = l[i] := by simp [rd_T25, List.getD_eq_getElem?_getD, h]

theorem wakes : ∀ k, 20 ≤ k → arraslaw19_wakes.f k = some true := by
  intro k hk
  have e : cutS 1 11 [5, 5, 5] = [2, 1] := by decide
  have o : okS [5, 5, 5] [1, 11] 64 = true := by decide
  simp only [arraslaw19_wakes.f]
  rw [lineBreak_eq _ _ _ (by simp) (by simp; omega), if_pos o, e]
  simp only [Option.bind_some, arraslaw19_num.f]
  rw [if_pos trivial, eqNums_eq _ _ (by simp) (by simp; omega)]
  rfl

theorem lenS_snoc {gap : Int} (hg : 0 ≤ gap ∧ gap ≤ 1099511627776) {pre : List Int} (hp : pre ≠ []) (ha : AllPl pre) {s : Int} (hs : 0 ≤ s ∧ s ≤ 1099511627776) : lenS gap (pre ++ [s]) = min 1099511627776 (lenS gap pre + gap + s) := by
  have hall : AllPl (pre ++ [s]) := by
    intro x hx
    rcases List.mem_append.1 hx with hx | hx
    · exact ha x hx
    · rw [List.mem_singleton.1 hx]; exact hs
  rw [lenS_eq hg hall, lenS_eq hg ha, tot_append hp]
  have := tot_pos hg.1 ha
  simp only [ext]
  omega

/-- The first of the lines. -/
theorem cutGo_first {gap room : Int} (hg : 0 ≤ gap ∧ gap ≤ 1099511627776) : ∀ (r pre : List Int) (c : Nat), pre.length = c → pre ≠ [] → AllPl pre → AllPl r →
    ∃ c' : Nat, c ≤ c' ∧ c' ≤ c + r.length ∧ cutGo gap room (c : Int) (lenS gap pre) r = (c' : Int) :: cutS gap room (r.drop (c' - c)) ∧ (c < c' → lenS gap (pre ++ r.take (c' - c)) ≤ room) ∧ (c' < c + r.length → room < lenS gap (pre ++ r.take (c' - c + 1))) := by
  intro r
  induction r with
  | nil => exact fun pre c hc hp ha _ => ⟨c, by omega, by simp, by simp [cutGo, cutS], fun h => by omega, fun h => by simp at h⟩
  | cons s r ih =>
    intro pre c hc hp ha hr
    have hL := lenS_snoc hg hp ha hr.head
    simp only [cutGo]
    rw [← hL]
    by_cases h : lenS gap (pre ++ [s]) ≤ room
    · rw [if_pos h]
      obtain ⟨c', h1, h2, h3, h4, h5⟩ := ih (pre ++ [s]) (c + 1) (by simp [hc]) (by simp) (by
        intro x hx
        rcases List.mem_append.1 hx with hx | hx
        · exact ha x hx
        · rw [List.mem_singleton.1 hx]; exact hr.head) hr.tail
      have e1 : c' - c = (c' - (c + 1)) + 1 := by omega
      refine ⟨c', by omega, by simp; omega, ?_, ?_, ?_⟩
      · rw [Int.natCast_add, Int.natCast_one] at h3
        rw [h3, e1]
        simp
      · intro _
        rw [e1]
        by_cases hq : c + 1 < c'
        · have := h4 hq
          simpa using this
        · have : c' - (c + 1) = 0 := by omega
          rw [this]
          simpa using h
      · intro hlt
        have := h5 (by simp at hlt; omega)
        rw [e1]
        simpa using this
    · rw [if_neg h]
      refine ⟨c, by omega, by omega, ?_, fun hh => by omega, fun _ => ?_⟩
      · rw [Nat.sub_self]
        simp [cutS]
      · rw [Nat.sub_self]
        simp
        omega

theorem cutS_first {gap room : Int} (hg : 0 ≤ gap ∧ gap ≤ 1099511627776) {l : List Int} (hl : l ≠ []) (ha : AllPl l) : ∃ c : Nat, 1 ≤ c ∧ c ≤ l.length ∧ cutS gap room l = (c : Int) :: cutS gap room (l.drop c) ∧ (1 < c → lenS gap (l.take c) ≤ room) ∧ (c < l.length → room < lenS gap (l.take (c + 1))) := by
  cases l with
  | nil => exact absurd rfl hl
  | cons s r =>
    obtain ⟨c, h1, h2, h3, h4, h5⟩ := cutGo_first (room := room) hg r [s] 1 rfl (by simp) (AllPl.one ha.head) ha.tail
    have e1 : lenS gap [s] = s := by rw [lenS_eq hg (AllPl.one ha.head)]; have := ha.head; simp only [tot, ext]; omega
    obtain ⟨m, rfl⟩ : ∃ m, c = m + 1 := ⟨c - 1, by omega⟩
    rw [e1, Int.natCast_one] at h3
    simp only [Nat.add_sub_cancel] at h3 h4 h5
    refine ⟨m + 1, by omega, by simp; omega, ?_, ?_, ?_⟩
    · show cutGo gap room 1 s r = _
      rw [h3]
      rfl
    · intro h
      simpa using h4 h
    · intro h
      have := h5 (by simp at h; omega)
      simpa using this

section
variable (l : List S25) (i : Nat) (h12 : i < 12) (K : Nat) (hn : ∀ k, K ≤ k → arraslaw19_LineLaws.l0 k l ((i : Int) + 1) = some true) (L : List Int) (g room : Int) (hok : okS L [g, room] 64 = true)
include hn hok h12
theorem inner : ∀ (d q : Nat) (b : List Int) (at_ k : Nat), b.length - q = d → q ≤ b.length → b.length ≤ 64 → at_ ≤ L.length → b.drop q = cutS g room (L.drop at_) → K + 3 * d + 200 ≤ k →
    arraslaw19_LineLaws.l1 k l (i : Int) b (at_ : Int) (q : Int) L g room = some true := by
  obtain ⟨ha, hm, hl64⟩ := okS_iff.1 hok
  have hg : 0 ≤ g ∧ g ≤ 1099511627776 := hm g List.mem_cons_self
  have hw : wrap64 ((i : Int) + 1) = (i : Int) + 1 := w64 (by omega) (by omega)
  intro d
  induction d with
  | zero =>
    intro q b at_ k hd hq hb hat hinv hk
    obtain ⟨k, rfl⟩ : ∃ m, k = m + 1 := ⟨k - 1, by omega⟩
    simp only [arraslaw19_LineLaws.l1]
    rw [if_neg (by omega)]
    have hz : L.drop at_ = [] := by
      cases e : L.drop at_ with
      | nil => rfl
      | cons s r =>
        obtain ⟨c, _, _, h3, _⟩ := cutS_first (room := room) hg (l := L.drop at_) (by rw [e]; simp) (ha.drop at_)
        rw [List.drop_of_length_le (by omega), h3] at hinv
        cases hinv
    have hz2 := congrArg List.length hz
    simp at hz2
    rw [if_pos (by omega), hw]
    exact hn k (by omega)
  | succ d ih =>
    intro q b at_ k hd hq hb hat hinv hk
    obtain ⟨k, rfl⟩ : ∃ m, k = m + 3 := ⟨k - 3, by omega⟩
    have hlt : q < b.length := by omega
    have hne : L.drop at_ ≠ [] := by
      intro e
      rw [e, drop_nat hlt] at hinv
      cases hinv
    obtain ⟨c, h1, h2, h3, h4, h5⟩ := cutS_first (room := room) hg hne (ha.drop at_)
    rw [h3, drop_nat hlt, List.cons.injEq] at hinv
    obtain ⟨hbq, hrest⟩ := hinv
    replace h4 := Aside0.mk h4
    replace h5 := Aside0.mk h5
    rw [List.length_drop] at h2
    have hac : at_ + c ≤ L.length := by omega
    have hL64 : L.length ≤ 64 := by omega
    rw [List.drop_drop] at hrest
    have hb1 : at_ + c < 9223372036854775807 := by omega
    have hb2 : -9223372036854775808 ≤ (L.length : Int) - at_ ∧ (L.length : Int) - at_ ≤ 9223372036854775807 := by omega
    have hwb : Aside0 (wrap64 ((L.length : Int) - at_) = (L.length : Int) - at_) := ⟨w64 hb2.1 hb2.2⟩
    have hwc : Aside0 (wrap64 ((at_ : Int) + c) = ((at_ + c : Nat) : Int)) := ⟨w_add (Nat.le_of_lt hb1)⟩
    have hwc1 : Aside0 (wrap64 (((at_ + c : Nat) : Int) + 1) = ((at_ + c + 1 : Nat) : Int)) := ⟨w_nat1 hb1⟩
    clear hb1 hb2
    clear h2 hL64
    simp only [arraslaw19_LineLaws.l1]
    rw [if_pos (by omega), if_pos (by omega), rd_nat hlt, hbq, if_neg (by omega), hwb.out]
    simp only [arraslaw19_LineLaws.j3]
    rw [if_neg (by simp; omega), if_pos (by omega), if_pos (by omega), if_pos (by omega), rd_nat hlt, hbq, hwc.out, if_pos (by omega), if_pos (by omega)]
    simp only [Int.toNat_natCast]
    have hmid : (L.take (at_ + c)).drop at_ = (L.drop at_).take c := by rw [List.drop_take, Nat.add_sub_cancel_left]
    have hok2 : ∀ m : Nat, okS ((L.drop at_).take m) [g] 64 = true := fun m => okS_iff.2 ⟨(ha.drop at_).take m, AllPl.one hg, by simp; omega⟩
    rw [hmid, lineLength_eq _ _ (by simp; omega) (by simp; omega), if_pos (hok2 c)]
    simp only [Option.bind_some, arraslaw19_num.f, if_true]
    have hj4 : arraslaw19_LineLaws.j4 (k + 1) l (i : Int) b (at_ : Int) (q : Int) false L g room = some true := by
      simp only [arraslaw19_LineLaws.j4]
      rw [if_neg (by simp), if_pos (by omega), if_pos (by omega), rd_nat hlt, hbq, hwc.out]
      have hnext := ih (q + 1) b (at_ + c) k (by omega) (by omega) hb (by omega) hrest (by omega)
      by_cases hc : ((at_ + c : Nat) : Int) < (L.length : Int)
      · have hmid1 : (L.take (at_ + c + 1)).drop at_ = (L.drop at_).take (c + 1) := by rw [List.drop_take, Nat.add_assoc, Nat.add_sub_cancel_left]
        rw [if_pos hc, if_pos (by omega), hwc1.out, if_pos (by omega), if_pos (by omega)]
        simp only [Int.toNat_natCast]
        rw [hmid1, lineLength_eq _ _ (by simp; omega) (by simp; omega), if_pos (hok2 (c + 1))]
        simp only [Option.bind_some, arraslaw19_num.f, if_true]
        have := h5.out (by rw [List.length_drop]; omega)
        rw [if_neg (by omega), len_next hlt (by omega)]
        exact hnext
      · rw [if_neg hc, len_next hlt (by omega)]
        exact hnext
    by_cases hc : (c : Int) > 1
    · have h := h4.out (by omega)
      rw [if_pos hc, decide_eq_false (by omega)]
      exact hj4
    · rw [if_neg hc]
      exact hj4
end

theorem step (l : List S25) (i : Nat) (hi : i < l.length) (h12 : i < 12) (K : Nat) (hn : ∀ k, K ≤ k → arraslaw19_LineLaws.l0 k l ((i : Int) + 1) = some true) (hp : phi25 l[i]) : ∃ K', ∀ k, K' ≤ k → arraslaw19_LineLaws.l0 k l (i : Int) = some true := by
  have hw : wrap64 ((i : Int) + 1) = (i : Int) + 1 := w64 (by omega) (by omega)
  have hmax : l[i].f0.length ≤ 9223372036854775807 := hp.1.1
  refine ⟨K + l[i].f0.length + 1000, fun k hk => ?_⟩
  obtain ⟨k, rfl⟩ : ∃ m, k = m + 2 := ⟨k - 2, by omega⟩
  simp only [arraslaw19_LineLaws.l0]
  rw [if_pos (by omega)]
  simp only [arraslaw19_LineLaws.j1]
  rw [if_pos (by simp; omega), if_pos (by omega), if_pos (by omega), rd_T l i hi]
  generalize l[i] = p at hk hmax
  obtain ⟨L, g, r⟩ := p
  simp only at hk hmax ⊢
  rw [lineBreak_eq L g r hmax (by omega)]
  simp only [Option.bind_some, arraslaw19_num.f]
  by_cases c : okS L [g, r] 64 = true
  · obtain ⟨_, _, h64⟩ := okS_iff.1 c
    rw [if_pos c, if_pos rfl]
    have hcl := cutS_len g r L
    exact inner l i h12 K hn L g r c _ 0 (cutS g r L) 0 k rfl (by omega) (by omega) (by omega) (by simp) (by omega)
  · rw [if_neg c, if_neg (by simp), hw]
    exact hn k (by omega)

theorem loop (l : List S25) (hp : ∀ y ∈ l, phi25 y) : ∀ (d i : Nat), 12 - i = d → i ≤ l.length → i ≤ 12 → ∃ K, ∀ k, K ≤ k → arraslaw19_LineLaws.l0 k l (i : Int) = some true := by
  intro d
  have fin : ∀ (i : Nat), ¬ (i < l.length ∧ i < 12) → i ≤ l.length → ∃ K, ∀ k, K ≤ k → arraslaw19_LineLaws.l0 k l (i : Int) = some true := by
    refine fun i hi hil => ⟨100, fun k hk => ?_⟩
    obtain ⟨k, rfl⟩ : ∃ m, k = m + 2 := ⟨k - 2, by omega⟩
    simp only [arraslaw19_LineLaws.l0]
    by_cases c : (i : Int) < (l.length : Int)
    · rw [if_pos c]
      simp only [arraslaw19_LineLaws.j1]
      rw [if_neg (by simp; omega), wakes k (by omega)]
      rfl
    · rw [if_neg c]
      simp only [arraslaw19_LineLaws.j1]
      rw [if_neg (by simp), wakes k (by omega)]
      rfl
  induction d with
  | zero => exact fun i hd hi h12 => fin i (by omega) hi
  | succ d ih =>
    intro i hd hi h12
    by_cases c : i < l.length
    · obtain ⟨K, hn⟩ := ih (i + 1) (by omega) (by omega) (by omega)
      rw [Int.natCast_add, Int.natCast_one] at hn
      exact step l i c (by omega) K hn (hp _ (List.getElem_mem c))
    · exact fin i (by omega) hi

/-- The law, over numbers and lists. -/
theorem pure : Pure := fun l h => by
  obtain ⟨K, hK⟩ := loop l h.2 12 0 (by omega) (by omega) (by omega)
  exact ⟨K, hK K (Nat.le_refl _)⟩
end Go.Proofs.Ytdilliddflnbnaa.TLineLaws
