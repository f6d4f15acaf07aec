/- How many go in each line: what line.Cut and the reference's Break come to. -/
import Derived.Test.YtdilliddflnbnaaBasicsA
namespace Go.Proofs.Ytdilliddflnbnaa.PA
open Go.RowKit Go.Proofs.YtdilliddflnbnaaW.PrintWords Go.Proofs.YtdilliddflnbnaaW.PrintLast Go.Proofs.YtdilliddflnbnaaW.PrintMore

/-- Sizes behind others, a gap ahead of each. -/
def ext (gap : Int) : List Int → Int
  | [] => 0
  | s :: r => gap + s + ext gap r
/-- All in one line. -/
def tot (gap : Int) : List Int → Int
  | [] => 0
  | s :: r => s + ext gap r
def AllPl (l : List Int) : Prop := ∀ x ∈ l, 0 ≤ x ∧ x ≤ 1099511627776
theorem allPl_of {l : List Int} (h : l.all pl = true) : AllPl l := fun x hx => pl_iff.1 (List.all_eq_true.1 h x hx)
theorem AllPl.to {l : List Int} (h : AllPl l) : l.all pl = true := List.all_eq_true.2 fun x hx => pl_iff.2 (h x hx)
theorem okS_iff {l more : List Int} {most : Int} : okS l more most = true ↔ AllPl l ∧ AllPl more ∧ (l.length : Int) ≤ most := by
  unfold okS
  simp only [Bool.and_eq_true, decide_eq_true_eq]
  exact ⟨fun ⟨a, b, c⟩ => ⟨allPl_of a, allPl_of b, c⟩, fun ⟨a, b, c⟩ => ⟨a.to, b.to, c⟩⟩
theorem AllPl.tail {s : Int} {r : List Int} (h : AllPl (s :: r)) : AllPl r := fun x hx => h x (List.mem_cons_of_mem _ hx)
theorem AllPl.head {s : Int} {r : List Int} (h : AllPl (s :: r)) : 0 ≤ s ∧ s ≤ 1099511627776 := h s List.mem_cons_self
theorem AllPl.drop {l : List Int} (h : AllPl l) (n : Nat) : AllPl (l.drop n) := fun x hx => h x (List.mem_of_mem_drop hx)
theorem AllPl.take {l : List Int} (h : AllPl l) (n : Nat) : AllPl (l.take n) := fun x hx => h x (List.mem_of_mem_take hx)
theorem AllPl.one {x : Int} (h : 0 ≤ x ∧ x ≤ 1099511627776) : AllPl [x] := fun y hy => by rw [List.mem_singleton.1 hy]; exact h
theorem AllPl.of_one {x : Int} (h : AllPl [x]) : 0 ≤ x ∧ x ≤ 1099511627776 := h x List.mem_cons_self

theorem ext_pos {gap : Int} (hg : 0 ≤ gap) : ∀ {l : List Int}, AllPl l → 0 ≤ ext gap l
  | [], _ => by simp [ext]
  | s :: r, h => by
    have := ext_pos hg h.tail
    have := h.head
    simp only [ext]
    omega
theorem step_eq {n gap s : Int} (hn : 0 ≤ n ∧ n ≤ 1099511627776) (hg : 0 ≤ gap ∧ gap ≤ 1099511627776) (hs : 0 ≤ s ∧ s ≤ 1099511627776) : sat (wrap64 (sat (wrap64 (n + gap)) + s)) = min 1099511627776 (n + gap + s) := by
  rw [w64 (n := n + gap) (by omega) (by omega), sat_pos (n := n + gap) (by omega), w64 (by omega) (by omega), sat_pos (by omega)]
  omega
theorem more_eq {gap : Int} (hg : 0 ≤ gap ∧ gap ≤ 1099511627776) : ∀ {l : List Int} {n : Int}, AllPl l → (0 ≤ n ∧ n ≤ 1099511627776) → more gap n l = min 1099511627776 (n + ext gap l)
  | [], n, _, hn => by simp only [more, ext]; omega
  | s :: r, n, h, hn => by
    have hs := h.head
    have he := ext_pos hg.1 h.tail
    simp only [more, ext]
    rw [step_eq hn hg hs, more_eq hg h.tail (by omega)]
    omega
theorem lenS_eq {gap : Int} (hg : 0 ≤ gap ∧ gap ≤ 1099511627776) {l : List Int} (h : AllPl l) : lenS gap l = min 1099511627776 (tot gap l) := by
  cases l with
  | nil => rfl
  | cons s r =>
    have hs := h.head
    simp only [lenS, tot]
    rw [w64 (by omega) (by omega), sat_pos (by omega), more_eq hg h.tail (by omega)]
    have he := ext_pos hg.1 h.tail
    omega
theorem ext_append (gap : Int) : ∀ (a b : List Int), ext gap (a ++ b) = ext gap a + ext gap b
  | [], b => by simp [ext]
  | s :: r, b => by simp only [List.cons_append, ext, ext_append gap r b]; omega
theorem tot_append {gap : Int} {a : List Int} (ha : a ≠ []) (b : List Int) : tot gap (a ++ b) = tot gap a + ext gap b := by
  cases a with
  | nil => exact absurd rfl ha
  | cons s r => simp only [List.cons_append, tot, ext_append]; omega
theorem tot_pos {gap : Int} (hg : 0 ≤ gap) {l : List Int} (h : AllPl l) : 0 ≤ tot gap l := by
  cases l with
  | nil => simp [tot]
  | cons s r => have := ext_pos hg h.tail; have := h.head; simp only [tot]; omega

/-- The lines, from a line on that has c of length n. -/
def cutGo (gap room : Int) : Int → Int → List Int → List Int
  | c, _, [] => [c]
  | c, n, s :: r => if min 1099511627776 (n + gap + s) ≤ room then cutGo gap room (c + 1) (min 1099511627776 (n + gap + s)) r else c :: cutGo gap room 1 s r
def cutS (gap room : Int) : List Int → List Int
  | [] => []
  | s :: r => cutGo gap room 1 s r

theorem cut_l0 (l : List Int) (gap room : Int) (hl : l.length ≤ 1048576) (ha : AllPl l) (hg : 0 ≤ gap ∧ gap ≤ 1099511627776) : ∀ (d i k : Nat) (done : List Int) (c n : Int), l.length - i = d → i ≤ l.length → 0 < i → d + 4 ≤ k →
    done.length < i → (1 ≤ c ∧ c ≤ i) → (0 ≤ n ∧ n ≤ 1099511627776) → line_Cut.l0 k gap room (done ++ [c]) n l (l.length : Int) (i : Int) = some (done ++ cutGo gap room c n (l.drop i)) := by
  intro d
  induction d with
  | zero =>
    intro i k done c n hd hi hi0 hk hdl hc hn
    obtain ⟨k, rfl⟩ : ∃ m, k = m + 1 := ⟨k - 1, by omega⟩
    simp only [line_Cut.l0]
    rw [if_neg (by omega), List.drop_of_length_le (by omega)]
    rfl
  | succ d ih =>
    intro i k done c n hd hi hi0 hk hdl hc hn
    obtain ⟨k, rfl⟩ : ∃ m, k = m + 1 := ⟨k - 1, by omega⟩
    have hlt : i < l.length := by omega
    have hs : 0 ≤ l[i] ∧ l[i] ≤ 1099511627776 := ha _ (List.getElem_mem hlt)
    simp only [line_Cut.l0]
    rw [if_pos (by omega), if_pos (by omega), if_pos (by omega), rd_nat hlt, plus2 _ _ _ (by omega), step_eq hn hg hs, drop_nat hlt]
    simp only [Option.bind_some]
    rw [if_pos (by omega)]
    have hlen : ((done ++ [c]).length : Int) = done.length + 1 := by simp
    have hw : wrap64 (((done ++ [c]).length : Int) - 1) = done.length := by rw [hlen, w64 (by omega) (by omega)]; omega
    have hrd : rd (done ++ [c]) (done.length : Int) = c := by simp [rd]
    by_cases hr : min 1099511627776 (n + gap + l[i]) ≤ room
    · rw [if_pos hr, hw, if_pos (by omega), if_pos (by omega), hrd]
      have hset : (done ++ [c]).set ((done.length : Int)).toNat (wrap64 (c + 1)) = done ++ [c + 1] := by
        rw [w64 (by omega) (by omega)]
        simp
      rw [hset, len_next hlt (by omega), ih (i + 1) k done (c + 1) _ (by omega) (by omega) (by omega) (by omega) (by omega) (by omega) (by omega)]
      simp only [cutGo]
      rw [if_pos hr]
    · rw [if_neg hr, if_pos (by simp; omega), len_next hlt (by omega), ih (i + 1) k (done ++ [c]) 1 l[i] (by omega) (by omega) (by omega) (by omega) (by simp; omega) (by omega) hs]
      simp only [cutGo]
      rw [if_neg hr]
      simp

theorem cut_eq (l : List Int) (gap room : Int) (hl : l.length ≤ 1048576) (ha : AllPl l) (hg : 0 ≤ gap ∧ gap ≤ 1099511627776) {k : Nat} (hk : l.length + 5 ≤ k) : line_Cut.f k l gap room = some (cutS gap room l) := by
  obtain ⟨k, rfl⟩ : ∃ m, k = m + 1 := ⟨k - 1, by omega⟩
  simp only [line_Cut.f, line_Cut.l0]
  cases l with
  | nil => simp [cutS]
  | cons s r =>
    rw [if_pos (by simp), if_pos (by omega), if_pos (by simp), plus2 _ _ _ (by simp at hk; omega)]
    simp only [Option.bind_some]
    rw [if_neg (by omega), if_pos (by simp), w01]
    have hr : rd (s :: r) 0 = s := by simp [rd]
    rw [hr]
    have := cut_l0 (s :: r) gap room hl ha hg r.length 1 k [] 1 s (by simp) (by simp) (by omega) (by simp at hk; omega) (by simp) (by omega) ha.head
    simp only [List.nil_append, Int.natCast_one, List.drop_succ_cons, List.drop_zero] at this
    rw [List.nil_append, this]
    rfl

theorem lineBreak_eq (l : List Int) (gap room : Int) (hl : l.length ≤ 9223372036854775807) {k : Nat} (hk : l.length + 5 ≤ k) : line_Break.f k l gap room = some (if okS l [gap, room] 64 = true then (cutS gap room l, 0) else ([], 1)) := by
  simp only [line_Break.f]
  rw [sizes_eq l [gap, room] 64 (by omega) (by simp) (by simp; omega)]
  simp only [Option.bind_some]
  by_cases c : okS l [gap, room] 64 = true
  · obtain ⟨h1, h2, h3⟩ := okS_iff.1 c
    rw [if_pos c, if_pos c, cut_eq l gap room (by omega) h1 (h2 gap List.mem_cons_self) hk]
    rfl
  · rw [if_neg c, if_neg c]

theorem mid_snoc {l : List Int} {f i : Nat} (hf : f ≤ i) (hi : i < l.length) : (l.take (i + 1)).drop f = (l.take i).drop f ++ [l[i]] := by
  rw [List.take_succ_eq_append_getElem hi, List.drop_append_of_le_length (by simp; omega)]
theorem mid_ne {l : List Int} {f i : Nat} (hf : f < i) (hi : i ≤ l.length) : (l.take i).drop f ≠ [] := by
  intro h
  have := congrArg List.length h
  simp at this
  omega

theorem refBreak_l0 (l : List Int) (gap room : Int) (hl : l.length ≤ 1048576) (ha : AllPl l) (hg : 0 ≤ gap ∧ gap ≤ 1099511627776) : ∀ (d i k f : Nat) (out : List Int), l.length - i = d → i ≤ l.length → f < i → d + l.length + 4 ≤ k → out.length ≤ f →
    arrasref19_Break.l0 k l gap room out (f : Int) (i : Int) = some (out ++ cutGo gap room ((i : Int) - f) (lenS gap ((l.take i).drop f)) (l.drop i)) := by
  intro d
  induction d with
  | zero =>
    intro i k f out hd hi hf hk ho
    obtain ⟨k, rfl⟩ : ∃ m, k = m + 1 := ⟨k - 1, by omega⟩
    simp only [arrasref19_Break.l0]
    rw [if_neg (by omega), if_pos (by omega), if_pos (by omega), w64 (by omega) (by omega), List.drop_of_length_le (l := l) (by omega), show (l.length : Int) = i by omega]
    rfl
  | succ d ih =>
    intro i k f out hd hi hf hk ho
    obtain ⟨k, rfl⟩ : ∃ m, k = m + 1 := ⟨k - 1, by omega⟩
    have hlt : i < l.length := by omega
    have hs : 0 ≤ l[i] ∧ l[i] ≤ 1099511627776 := ha _ (List.getElem_mem hlt)
    have hn := len_next (l := l) hlt (by omega)
    simp only [arrasref19_Break.l0]
    rw [if_pos (by omega), if_pos (by omega), if_pos (by omega), hn, if_pos (by omega), if_pos (by omega)]
    simp only [Int.toNat_natCast]
    rw [mid_snoc (by omega) hlt, refLen_eq _ _ (by simp; omega) (by simp; omega)]
    simp only [Option.bind_some]
    have hne := mid_ne (l := l) hf hi
    have hmid := (ha.take i).drop f
    have hall : AllPl ((l.take i).drop f ++ [l[i]]) := by
      intro x hx
      rcases List.mem_append.1 hx with hx | hx
      · exact hmid x hx
      · rw [List.mem_singleton.1 hx]; exact hs
    have hL : lenS gap ((l.take i).drop f ++ [l[i]]) = min 1099511627776 (lenS gap ((l.take i).drop f) + gap + l[i]) := by
      rw [lenS_eq hg hall, lenS_eq hg hmid, tot_append hne]
      have := tot_pos hg.1 hmid
      simp only [ext]
      omega
    rw [hL, drop_nat hlt]
    simp only [cutGo]
    by_cases hr : min 1099511627776 (lenS gap ((l.take i).drop f) + gap + l[i]) ≤ room
    · rw [if_neg (by omega), if_pos hr, ih (i + 1) k f out (by omega) (by omega) (by omega) (by omega) ho, mid_snoc (by omega) hlt, hL, show (((i + 1 : Nat) : Int) - f) = (i : Int) - f + 1 by omega]
    · rw [if_pos (by omega), if_neg hr, if_pos (by omega), w64 (n := (i : Int) - f) (by omega) (by omega), ih (i + 1) k i _ (by omega) (by omega) (by omega) (by omega) (by simp; omega)]
      have h1 : (l.take (i + 1)).drop i = [l[i]] := by rw [mid_snoc (by omega) hlt]; simp
      rw [h1, show (((i + 1 : Nat) : Int) - i) = 1 by omega]
      have h2 : lenS gap [l[i]] = l[i] := by rw [lenS_eq hg (AllPl.one hs)]; simp only [tot, ext]; omega
      rw [h2]
      simp

theorem refBreak_eq (l : List Int) (gap room : Int) (hl : l.length ≤ 1048576) (ha : AllPl l) (hg : 0 ≤ gap ∧ gap ≤ 1099511627776) {k : Nat} (hk : 2 * l.length + 6 ≤ k) : arrasref19_Break.f k l gap room = some (cutS gap room l) := by
  obtain ⟨k, rfl⟩ : ∃ m, k = m + 1 := ⟨k - 1, by omega⟩
  simp only [arrasref19_Break.f, arrasref19_Break.l0]
  cases l with
  | nil => simp [cutS]
  | cons s r =>
    rw [if_pos (by simp), if_neg (by omega), w01]
    have := refBreak_l0 (s :: r) gap room hl ha hg r.length 1 k 0 [] (by simp) (by simp) (by omega) (by simp at hk ⊢; omega) (by simp)
    simp only [List.nil_append, Int.natCast_one, Int.natCast_zero, List.drop_succ_cons, List.drop_zero, List.take_succ_cons, List.take_zero, Int.sub_zero] at this
    rw [this]
    have h2 : lenS gap [s] = s := by rw [lenS_eq hg (AllPl.one ha.head)]; have := ha.head; simp only [tot, ext]; omega
    rw [h2]
    rfl

theorem cutGo_len (gap room : Int) : ∀ (l : List Int) (c n : Int), 1 ≤ (cutGo gap room c n l).length ∧ (cutGo gap room c n l).length ≤ l.length + 1
  | [], c, n => by simp [cutGo]
  | s :: r, c, n => by
    simp only [cutGo]
    split
    · have := cutGo_len gap room r (c + 1) (min 1099511627776 (n + gap + s)); simp only [List.length_cons]; omega
    · have := cutGo_len gap room r 1 s; simp only [List.length_cons]; omega
theorem cutS_len (gap room : Int) (l : List Int) : (cutS gap room l).length ≤ l.length := by
  cases l with
  | nil => simp [cutS]
  | cons s r => have := cutGo_len gap room r 1 s; simp only [cutS, List.length_cons]; omega
end Go.Proofs.Ytdilliddflnbnaa.PA
