/-
LayoutWraps, part 45 of 48: FxLay6 FxLay7.
-/
import Derived.Test.YthacbaagffpkoaaLw44
set_option linter.unusedVariables false
set_option linter.unusedSimpArgs false
set_option maxRecDepth 100000
set_option maxHeartbeats 0
namespace Go.Ai
open Go.Proofs
theorem opens_true : ∀ (l : List Bool) (k : Nat), (∀ b ∈ l, b = true) → opens k l = []
 | [], _, _ => rfl
 | b :: l, k, h => by
  have hb := h b (by simp);subst hb;show opens (k + 1) l = [];exact opens_true l _ fun b hb => h b (by simp [hb])
theorem opens_false (n : Nat) : ∀ k, opens k (List.replicate n false) = (List.range n).map (k + ·) := by
 induction n with
 | zero => intro k; rfl
 | succ n ih =>
  intro k;rw [List.replicate_succ, List.range_succ_eq_map, List.map_cons, List.map_map];show k :: opens (k + 1) (List.replicate n false) = _;rw [ih];refine congrArg (k :: ·) (List.map_congr_left fun i _ => ?_);simp only [Function.comp];omega
theorem opens_range (n : Nat) : opens 0 (List.replicate n false) = List.range n := by
 rw [opens_false]; simp
theorem zipWith_range {α β : Type} {f : Nat → α → β} {xs : List α} {k : Nat} : (List.zipWith f (List.range xs.length) xs)[k]? = (xs[k]?).map (f k) := by
 rw [List.getElem?_zipWith]
 by_cases hk : k < xs.length
 ·rw [List.getElem?_range hk, List.getElem?_eq_getElem hk]; rfl
 ·rw [List.getElem?_eq_none (by simp; omega), List.getElem?_eq_none Om]; rfl
theorem sets_range {α β : Type} {f : Nat → β → Nat × α} (hf : ∀ i x, (f i x).1 = i) {ss : List α} {xs : List β} (hl : ss.length = xs.length) {ys : List α} (hy : ys.length = xs.length) (he : ∀ i x, xs[i]? = some x → ys[i]? = some (f i x).2) : sets ss (List.zipWith f (List.range xs.length) xs) = ys := by
 have hm : (List.zipWith f (List.range xs.length) xs).map (·.1) = List.range xs.length := by
  refine List.ext_getElem? fun k => ?_;rw [List.getElem?_map, zipWith_range]
  by_cases hk : k < xs.length
  ·rw [List.getElem?_range hk, List.getElem?_eq_getElem hk]; simp [hf]
  ·rw [List.getElem?_eq_none Om, List.getElem?_eq_none (by simp; omega)]; rfl
 refine List.ext_getElem? fun i => ?_
 by_cases hi : i < xs.length
 ·have hx := List.getElem?_eq_getElem hi
  have h1 : (List.zipWith f (List.range xs.length) xs)[i]? = some (i, (f i xs[i]).2) := by
   rw [zipWith_range, hx];show some (f i xs[i]) = _;exact congrArg some (Prod.ext (hf _ _) rfl)
  rw [sets_at _ ss i i _ h1 (by rw [hm]; exact List.nodup_range) Om, he i _ hx]
 ·rw [List.getElem?_eq_none (by rw [sets_length]; omega), List.getElem?_eq_none Om]
theorem sumL_zero : ∀ (l : List Int), (∀ x ∈ l, x = 0) → sumL l = 0
 | [], _ => rfl
 | x :: l, h => by
  show x + sumL l = 0;rw [h x (by simp), sumL_zero l fun y hy => h y (by simp [hy])]; rfl
theorem once {prt : Int → List Int → List Int} {L : List Itm} {gap room : Int} {X : List Int} (hf : L.map (Itm.fixed0 (grows0 L gap room)) = List.replicate L.length false)
  (hX : sharedI prt L gap room (grows0 L gap room) (plains L) (List.replicate L.length false) (List.range L.length) = X) (hl : X.length = L.length) (hne : L ≠ []) (hb : ∀ i x, X[i]? = some x → clampAt L i x = x) : solveI prt L gap room = X := by
 have hpl : (plains L).length = X.length := by simp [plains, hl]
 have h1 : roundS L (List.range L.length) X (plains L) = X := by
  unfold roundS;rw [← hl];exact sets_range (fun _ _ => rfl) hpl rfl fun i x hx => by show _ = some (clampAt L i x); rw [hb i x hx]; exact hx
 have h2 : bentI L (List.range L.length) X = 0 := by
  unfold bentI;refine sumL_zero _ fun z hz => ?_;obtain ⟨k, hk⟩ := List.mem_iff_getElem?.1 hz;rw [← hl, zipWith_range] at hk
  cases hx : X[k]? with
  | none => rw [hx] at hk; cases hk
  | some x =>
   rw [hx] at hk;cases hk;unfold byI;rw [hb k x hx]; omega
 have h3 : roundF L (List.range L.length) X (List.replicate L.length false) = List.replicate L.length true := by
  unfold roundF;rw [h2, ← hl];refine sets_range (fun _ _ => rfl) (by simp) (by simp) fun i x hx => ?_;have hi := (gEi.1 hx).1;rw [List.getElem?_replicate, if_pos hi];rfl
 have hpos : 0 < L.length := List.length_pos_iff.2 hne;unfold solveI;rw [hf];unfold solveLoop;rw [opens_range, if_neg (by intro e; have := congrArg List.length e; rw [List.length_range, List.length_nil] at this; omega), hX, h1, h3];obtain ⟨n, hn⟩ : ∃ n, L.length = n + 1 := ⟨L.length - 1, by omega⟩;rw [hn];unfold solveLoop;rw [if_pos (opens_true _ _ fun b hb => List.eq_of_mem_replicate hb)]
def segI (gap room : Int) : List Int → List Int → List (List Int)
 | seg, [] => if seg = [] then [] else [seg]
 | seg, s :: l => if seg = [] then segI gap room [s] l else if sumI (seg ++ [s]) gap ≤ room then segI gap room (seg ++ [s]) l else seg :: segI gap room [s] l
theorem segI_cons {gap room s : Int} {seg l : List Int} : segI gap room seg (s :: l) = if seg = [] then segI gap room [s] l else if sumI (seg ++ [s]) gap ≤ room then segI gap room (seg ++ [s]) l else seg :: segI gap room [s] l := rfl
section
variable {gap room : Int}
theorem segI_flat : ∀ (l seg : List Int), (segI gap room seg l).flatten = seg ++ l
 | [], seg => by
  unfold segI;split
  ·rename_i h; rw [h]; rfl
  ·simp
 | s :: l, seg => by
  unfold segI;split
  ·rename_i h; rw [segI_flat l, h]; rfl
  ·split
   ·rw [segI_flat l]; simp
   ·rw [List.flatten_cons, segI_flat l]; simp
theorem segI_ne : ∀ (l seg : List Int), ∀ m ∈ segI gap room seg l, m ≠ []
 | [], seg, m, h => by
  unfold segI at h;split at h
  ·cases h
  ·rename_i hs; rw [List.mem_singleton.1 h]; exact hs
 | s :: l, seg, m, h => by
  unfold segI at h;split at h
  ·exact segI_ne l _ m h
  ·rename_i hs;split at h
   ·exact segI_ne l _ m h
   ·rcases List.mem_cons.1 h with rfl | h
    ·exact hs
    ·exact segI_ne l _ m h
theorem segI_fits : ∀ (l seg : List Int), (∀ x ∈ l, sumI [x] gap ≤ room) → (seg = [] ∨ sumI seg gap ≤ room) → ∀ m ∈ segI gap room seg l, sumI m gap ≤ room
 | [], seg, _, hs, m, h => by
  unfold segI at h;split at h
  ·cases h
  ·rename_i hn; rw [List.mem_singleton.1 h]; exact hs.resolve_left hn
 | s :: l, seg, hl, hs, m, h => by
  have hl2 : ∀ x ∈ l, sumI [x] gap ≤ room := fun x hx => hl x (by simp [hx])
  have h1 := hl s (by simp);unfold segI at h;split at h
  ·exact segI_fits l _ hl2 (.inr h1) m h
  ·rename_i hn;split at h
   ·rename_i hc; exact segI_fits l _ hl2 (.inr hc) m h
   ·rcases List.mem_cons.1 h with rfl | h
    ·exact hs.resolve_left hn
    ·exact segI_fits l _ hl2 (.inr h1) m h
theorem sumI_snoc {seg : List Int} {s : Int} (h : seg ≠ []) : sumI (seg ++ [s]) gap = plusI (sumI seg gap) [gap, s] := by
 unfold sumI;rw [List.foldl_append];have := lineF_fst gap seg (false, 0) h;show (lineF gap (seg.foldl (lineF gap) (false, 0)) s).2 = _;generalize seg.foldl (lineF gap) (false, 0) = p at *;unfold lineF;simp only [this, if_true];rfl
theorem sumI_one {s : Int} (hs : CO s) : sumI [s] gap = s := by
 unfold CO at hs;show satI ((if false = true then _ else (0 : Int)) + s) = s;unfold satI;simp; omega
theorem cut_seg : ∀ (l seg out : List Int), (∀ x ∈ l, CO x) → seg ≠ [] → cutI gap room (sumI seg gap) (out ++ [(seg.length : Int)]) l = out ++ (segI gap room seg l).map fun m => (m.length : Int)
 | [], seg, out, _, hs => by rw [cutI_nil]; unfold segI; rw [if_neg hs]; rfl
 | s :: l, seg, out, hl, hs => by
  have hl2 : ∀ x ∈ l, CO x := fun x hx => hl x (by simp [hx])
  rw [cutI_cons];unfold segI;rw [if_neg hs, sumI_snoc hs]
  by_cases hc : plusI (sumI seg gap) [gap, s] ≤ room
  ·rw [if_pos ⟨by simp, hc⟩, if_pos hc, ← sumI_snoc hs]
   have e : (out ++ [(seg.length : Int)]).set ((out ++ [(seg.length : Int)]).length - 1) ((out ++ [(seg.length : Int)]).getD ((out ++ [(seg.length : Int)]).length - 1) 0 + 1) = out ++ [((seg ++ [s]).length : Int)] := by
    rw [show (out ++ [(seg.length : Int)]).length - 1 = out.length by simp, List.set_append_right _ _ (Nat.le_refl _), Nat.sub_self, List.getD_eq_getElem?_getD, List.getElem?_append_right (Nat.le_refl _), Nat.sub_self];simp
   rw [e];exact cut_seg l (seg ++ [s]) out hl2 (by simp)
  ·rw [if_neg (fun h => hc h.2), if_neg hc];have := cut_seg l [s] (out ++ [(seg.length : Int)]) hl2 (by simp);rw [sumI_one (hl s (by simp))] at this;rw [show ([s].length : Int) = 1 from rfl] at this;rw [this, List.map_cons, List.append_assoc]; rfl
theorem cut_segs {l : List Int} (hl : ∀ x ∈ l, CO x) : cutI gap room 0 [] l = (segI gap room [] l).map fun m => (m.length : Int) := by
 cases l with
 | nil => rfl
 | cons s l =>
  rw [cutI_cons, if_neg (fun h => h.1 rfl)];have := cut_seg (gap := gap) (room := room) l [s] [] (fun x hx => hl x (by simp [hx])) (by simp);rw [sumI_one (hl s (by simp))] at this;rw [show ([s].length : Int) = 1 from rfl] at this;unfold segI;rw [if_pos rfl];exact this
theorem brk_seg {l : List Int} : ∀ i, i ≤ l.length → (segI gap room [] l).map (fun m => (m.length : Int)) = (brkF gap room l i).2 ++ (segI gap room ((l.take i).drop (brkF gap room l i).1) (l.drop i)).map (fun m => (m.length : Int)) ∧ ((brkF gap room l i).1 < i ∨ i = 0)
 | 0, _ => ⟨rfl, .inr rfl⟩
 | i + 1, hi => by
  obtain ⟨ih, hlt⟩ := brk_seg (l := l) i Om;have hle := brkF_le (gap := gap) (room := room) (l := l) i;rw [brkF_succ];have hd : l.drop i = l[i] :: l.drop (i + 1) := List.drop_eq_getElem_cons Om;have ht : l.take (i + 1) = l.take i ++ [l[i]] := List.take_succ_eq_append_getElem Om;have hti : (l.take i).length = i := by rw [List.length_take]; omega
  rw [ih, hd];generalize brkF gap room l i = st at *;obtain ⟨fr, out⟩ := st;simp only at *;have hseg : (l.take (i + 1)).drop fr = (l.take i).drop fr ++ [l[i]] := by rw [ht, List.drop_append_of_le_length Om]
  have hsl : ((l.take i).drop fr).length = i - fr := by rw [List.length_drop, hti]
  unfold brkStep;simp only;rw [segI_cons]
  by_cases hf : fr < i
  ·have hn : (l.take i).drop fr ≠ [] := fun e => by rw [e] at hsl; simp at hsl; omega
   rw [if_neg hn, hseg]
   by_cases hc : sumI ((l.take i).drop fr ++ [l[i]]) gap ≤ room
   ·rw [if_pos hc, if_neg (fun h => by omega)];exact ⟨by rw [hseg], .inl (by show fr < i + 1; omega)⟩
   ·rw [if_neg hc, if_pos ⟨hf, by omega⟩];refine ⟨?_, .inl (by show i < i + 1; omega)⟩;simp only;rw [show (l.take (i + 1)).drop i = [l[i]] by rw [ht, List.drop_append_of_le_length Om, List.drop_of_length_le Om]; rfl];rw [List.map_cons, hsl, List.append_assoc]
    congr 2
    show ((i - fr : Nat) : Int) = _;omega
  ·have hi0 : i = 0 := hlt.resolve_left hf;subst hi0;have hf0 : fr = 0 := by omega
   subst hf0;rw [if_pos (by simp), if_neg (fun h => by omega)];refine ⟨?_, .inl (by show 0 < 0 + 1; omega)⟩;simp only;rw [hseg]; simp
theorem brk_segs {l : List Int} : brkI gap room l = (segI gap room [] l).map fun m => (m.length : Int) := by
 obtain ⟨h1, h2⟩ := brk_seg (gap := gap) (room := room) (l := l) l.length (Nat.le_refl _);have hle := brkF_le (gap := gap) (room := room) (l := l) l.length;rw [h1];unfold brkI;rw [List.drop_length, List.take_length];unfold segI;split
 ·have hlt : (brkF gap room l l.length).1 < l.length := h2.resolve_right Om;rw [if_neg (fun e => by have := congrArg List.length e; simp at this; omega)]
  congr 1
  simp; omega
 ·rw [if_pos (List.eq_nil_of_length_eq_zero (by simp; omega))]; simp
end
theorem sumL_nn : ∀ {l : List Int}, (∀ x ∈ l, 0 ≤ x ∧ x ≤ 999) → 0 ≤ sumL l ∧ sumL l ≤ 999 * l.length
 | [], _ => ⟨Int.le_refl _, by simp [sumL]⟩
 | x :: l, h => by
  have h1 := h x (by simp);have h2 := sumL_nn (l := l) fun y hy => h y (by simp [hy])
  simp only [sumL, List.length_cons]; omega
theorem sumI_small : ∀ {l : List Int}, (∀ x ∈ l, 0 ≤ x ∧ x ≤ 999) → l.length ≤ 1000 → sumI l 0 = sumL l := by
 intro l h hl
 have key : ∀ (l : List Int) (p : Bool × Int), (∀ x ∈ l, 0 ≤ x ∧ x ≤ 999) → 0 ≤ p.2 → p.2 + 999 * l.length ≤ 1000000 → (l.foldl (lineF 0) p).2 = p.2 + sumL l := by
  intro l
  induction l with
  | nil => intro p _ _ _; simp [sumL]
  | cons x l ih =>
   intro p h h0 h1;have hx := h x (by simp);simp only [List.length_cons] at h1
   have e : (lineF 0 p x).2 = p.2 + x := by
    unfold lineF satI;simp only;split <;> omega
   rw [List.foldl_cons, ih _ (fun y hy => h y (by simp [hy])) (by rw [e]; omega) (by rw [e]; omega), e];simp only [sumL]; omega
 have := key l (false, 0) h (Int.le_refl _) (by simp; omega);unfold sumI;rw [this]; simp
def itW (w : Int) : Itm := ⟨w, 0, -1, 0, 1⟩
theorem plain_itW {w : Int} (h : 0 ≤ w) : (itW w).plain = w := by
 show clampI w 0 (-1) = w;unfold clampI; simp; omega
theorem plains_itW {ws : List Int} (h : ∀ w ∈ ws, 1 ≤ w ∧ w ≤ 999) : plains (ws.map itW) = ws := by
 unfold plains;rw [List.map_map];have : ∀ w ∈ ws, (Itm.plain ∘ itW) w = id w := fun w hw => plain_itW (by have := h w hw; omega)
 rw [List.map_congr_left this, List.map_id]
theorem taken_W : ∀ (ws ss : List Int), ss.length = ws.length → taken (ws.map itW) ss (List.replicate ws.length false) = sumL ws
 | [], ss, _ => by simp [taken, sumL]
 | w :: ws, [], h => by simp at h
 | w :: ws, s :: ss, h => by
  have ih := taken_W ws ss (by simpa using h);show (if false = true then s else w) + taken (ws.map itW) ss (List.replicate ws.length false) = w + sumL ws;rw [ih]; simp
theorem solve_W {ws : List Int} {room : Int} (h : ∀ w ∈ ws, 1 ≤ w ∧ w ≤ 999) (hl : ws.length ≤ 20) (hf : sumI ws 0 ≤ room) (hr : room ≤ 4000) : solveI prtI (ws.map itW) 0 room = ws := by
 have hs := sumI_small (l := ws) (fun x hx => by have := h x hx; omega) Om;have hnn := sumL_nn (l := ws) (fun x hx => by have := h x hx; omega);have hp := plains_itW h
 by_cases hG : sumI ws 0 < room
 ·have hg : grows0 (ws.map itW) 0 room = true := by unfold grows0; rw [hp]; exact decide_eq_true hG
  unfold solveI solveLoop;rw [hg, hp, if_pos];refine opens_true _ _ fun b hb => ?_;obtain ⟨y, hy, rfl⟩ := List.mem_map.1 hb;obtain ⟨w, _, rfl⟩ := List.mem_map.1 hy;have : (itW w).weight true = 0 := rfl;simp [Itm.fixed0, this]
 ·have hg : grows0 (ws.map itW) 0 room = false := by unfold grows0; rw [hp]; exact decide_eq_false hG
  cases hws : ws with
  | nil => rfl
  | cons w0 w1 =>
   rw [← hws];have hne : ws ≠ [] := by rw [hws]; simp
   have hwt : ∀ w ∈ ws, 0 < (itW w).weight false ∧ (itW w).weight false ≤ 1048576 := fun w hw => by
    have := h w hw;unfold Itm.weight itW;simp only [Bool.false_eq_true, if_false, Int.one_mul];omega
   have hwl : wtsI (ws.map itW) false (List.range ws.length) = ws.map fun w => (itW w).weight false := by
    unfold wtsI;refine List.ext_getElem? fun i => ?_;rw [List.getElem?_map, List.getElem?_map]
    by_cases hi : i < ws.length
    ·rw [List.getElem?_range hi, List.getElem?_eq_getElem hi];simp only [Option.map_some];rw [List.getD_eq_getElem?_getD, List.getElem?_map, List.getElem?_eq_getElem hi]; rfl
    ·rw [List.getElem?_eq_none (by simp; omega), List.getElem?_eq_none Om]; rfl
   have hfree : freeN (ws.map itW) 0 room false ws (List.replicate ws.length false) = 0 := by
    unfold freeN;rw [if_neg Dc, taken_W ws ws rfl];omega
   have hm : Lf.May 0 (ws.map fun w => (itW w).weight false) := may_of (Int.le_refl _) Om (by simpa using hne) (by simp; omega) (fun x hx => by
    obtain ⟨w, hw, rfl⟩ := List.mem_map.1 hx
    exact hwt w hw)
   have hz : prtI 0 (ws.map fun w => (itW w).weight false) = List.replicate ws.length 0 := by
    have h1 := prtI_sum hm;have h2 := le_sumI _ (fun x hx => prtI_nn (t := 0) (ws := ws.map fun w => (itW w).weight false) x hx);refine List.eq_replicate_iff.2 ⟨by rw [prtI_len]; simp, fun x hx => ?_⟩;have := h2.2 x hx;have := prtI_nn x hx;omega
   have hX : sharedI prtI (ws.map itW) 0 room (grows0 (ws.map itW) 0 room) (plains (ws.map itW)) (List.replicate (ws.map itW).length false) (List.range (ws.map itW).length) = ws := by
    rw [hg, hp, List.length_map];unfold sharedI;rw [hfree, hwl, show min (0 : Int) 1099511627776 = 0 by decide, hz];refine List.ext_getElem? fun i => ?_;rw [List.getElem?_zipWith]
    by_cases hi : i < ws.length
    ·have hw := h ws[i] (List.getElem_mem hi);rw [List.getElem?_range hi, List.getElem?_replicate, if_pos hi, List.getElem?_eq_getElem hi];simp only;unfold newI;rw [if_neg Dc, List.getD_eq_getElem?_getD, List.getElem?_map, List.getElem?_eq_getElem hi];show some (max (ws[i] - 0) 0) = _
     congr 1; omega
    ·rw [List.getElem?_eq_none (l := List.range ws.length) (by rw [List.length_range]; omega), List.getElem?_eq_none (l := ws) Om]
   refine once ?_ hX (by simp) (by simpa using hne) fun i x hx => ?_
   ·rw [hg, List.length_map, List.map_map];refine List.eq_replicate_iff.2 ⟨by simp, fun b hb => ?_⟩;obtain ⟨w, hw, rfl⟩ := List.mem_map.1 hb;have h1 := (hwt w hw).1;have h2 := h w hw;show (decide ((itW w).weight false = 0) || (false && decide ((itW w).plain < (itW w).base)) || (!false && decide ((itW w).base < (itW w).plain))) = false;rw [plain_itW Om, decide_eq_false (show ¬ (itW w).weight false = 0 by omega), show decide ((itW w).base < w) = false from decide_eq_false (by show ¬ w < w; omega)]; rfl
   ·have hi := (gEi.1 hx).1;have hw := h x (List.mem_of_getElem? hx);unfold clampAt;rw [List.getD_eq_getElem?_getD, List.getElem?_map, hx];show clampI x 0 (-1) = x;unfold clampI; simp; omega
end Go.Ai
namespace Go.Ai
open Go.Proofs
def rvW : List Int := setI plainV [0, 1, 2, 1]
def kvW (w : Int) : List Int := setI plainV [3, w, 4, 10]
def kidW (i : Nat) (w : Int) : BoxT := .mk (2 + (i : Int)) 0 (kvW w) []
def boxW (ws : List Int) : BoxT := .mk 1 0 rvW (ws.mapIdx kidW)
theorem kvW_eq (w : Int) : kvW w = [0, 0, 0, w, 10, 0, -1, 0, -1, 0, 1, -1, 0, 0, 0, 0, 0, 0, 1024] := rfl
theorem twI_zero : twI 0 = 0 := rfl
theorem restI_zero {w : Int} (h : 0 ≤ w ∧ w ≤ 1099511627776) : restI w 0 = w := by unfold restI satI; omega
theorem withinI_zero {w : Int} (h : 0 ≤ w ∧ w ≤ 1099511627776) : withinI w 0 = w := by unfold withinI; rw [twI_zero]; exact restI_zero h
theorem outI_zero {w : Int} (h : CO w) : outI 0 w = w := by unfold CO at h; unfold outI plI; rw [twI_zero]; unfold satI; omega
theorem acrossItm_W {w : Int} (h : 0 ≤ w ∧ w ≤ 999) : acrossItm (kvW w) = itW w := by
 rw [kvW_eq];show itemI _ (if (-1 : Int) = -1 then max 0 w else -1) 0 (-1) = _;rw [if_pos rfl];unfold itemI itW;show Itm.mk (outI 0 (max 0 w)) (outI 0 0) (if (-1 : Int) = -1 then -1 else outI 0 (-1)) 0 1 = _;rw [outI_zero (by unfold CO; omega), outI_zero (by unfold CO; omega), if_pos rfl]
 congr 1; omega
theorem leaf_W {i : Nat} {w a s : Int} (hs : 0 ≤ s) : (kidOf (kidW i w)).lay a s (-1) = .mk (2 + (i : Int)) 0 0 0 s 10 [] := by
 show layW (2 + (i : Int)) 0 (kvW w) [] a s (-1) = _;unfold layW;have h1 : (beginI (kvW w) a s (-1)).w = s := by show begW (kvW w) a s = s; unfold begW; rw [if_neg Om]
 have h2 : (beginI (kvW w) a s (-1)).h = 10 := by
  show begH (kvW w) (-1) = 10;rw [kvW_eq]; rfl
 have h3 : (kidsI (kvW w) (beginI (kvW w) a s (-1)) []).1 = [] := by
  unfold kidsI;rw [if_pos (.inl (by rw [kvW_eq]; show (0 : Int) ≠ 1; omega))]; rfl
 rw [h1, h2, h3]; rfl
theorem vals_W {ws : List Int} (i : Nat) : kv ((ws.mapIdx kidW).map kidOf) i = ((ws[i]?).map kvW).getD [] := by
 unfold kv;rw [List.getElem?_map, List.getElem?_mapIdx];cases ws[i]? <;> rfl
theorem rowI_W : ∀ {l : List Int} {a : Int} {k : Nat}, (∀ x ∈ l, 0 ≤ x ∧ x ≤ 999) → 0 ≤ a → a + 999 * l.length ≤ 1000000 → k < l.length → (rowI [0, 0] a l)[k]? = some (a + sumL (l.take k))
 | [], a, k, _, _, _, hk => by simp at hk
 | x :: l, a, 0, h, h0, h1, hk => by
  show some a = _;simp [sumL]
 | x :: l, a, k + 1, h, h0, h1, hk => by
  have hx := h x (by simp);simp only [List.length_cons] at h1 hk
  have e : plusI (plI a x) [0, 0] = a + x := by
   show satI (satI (satI (a + x) + 0) + 0) = _;unfold satI; omega
  show (rowI [0, 0] (plusI (plI a x) [0, 0]) l)[k]? = _;rw [e, rowI_W (fun y hy => h y (by simp [hy])) Om Om Om];simp only [List.take_succ_cons, sumL]
  congr 1; omega
theorem rowI_ten : ∀ {n : Nat} {a : Int} {k : Nat}, 0 ≤ a → a + 10 * n ≤ 1000000 → k < n → (rowI [0] a (List.replicate n 10))[k]? = some (a + 10 * k)
 | 0, a, k, _, _, hk => by omega
 | n + 1, a, 0, h0, h1, hk => by
  show some a = _;simp
 | n + 1, a, k + 1, h0, h1, hk => by
  have e : plusI (plI a 10) [0] = a + 10 := by
   show satI (satI (a + 10) + 0) = _;unfold satI; omega
  rw [List.replicate_succ];show (rowI [0] (plusI (plI a 10) [0]) (List.replicate n 10))[k]? = _;rw [e, rowI_ten Om Om Om]
  congr 1; omega
def gsW (A : Nat) (seg : List Int) : List GeoT := seg.mapIdx fun k w => .mk (2 + ((A + k : Nat) : Int)) 0 0 0 w 10 []
theorem foldl_ten : ∀ {n : Nat}, (List.replicate n (10 : Int)).foldl max 10 = 10
 | 0 => rfl
 | n + 1 => by rw [List.replicate_succ, List.foldl_cons]; exact foldl_ten
theorem ln_W {A : Nat} {seg : List Int} {f : Frm} (h : ∀ w ∈ seg, 1 ≤ w ∧ w ≤ 999) (hn : seg ≠ []) (hl : seg.length ≤ 20) (hf : sumI seg 0 ≤ f.inner) (hr : f.inner ≤ 4000) :
  lnI rvW f (seg.mapIdx fun k w => kidOf (kidW (A + k) w)) (seg.map itW) A seg.length = ⟨A, seg.length, rowI [0, 0] 0 seg, List.replicate seg.length 0, 10, gsW A seg⟩ := by
 have hs := solve_W h hl hf hr
 have hH : lnHs f (seg.mapIdx fun k w => kidOf (kidW (A + k) w)) seg = List.replicate seg.length 10 := by
  unfold lnHs;refine List.ext_getElem? fun k => ?_;rw [List.getElem?_zipWith, List.getElem?_mapIdx, List.getElem?_replicate]
  by_cases hk : k < seg.length
  ·have hw := h seg[k] (List.getElem_mem hk);rw [List.getElem?_eq_getElem hk, if_pos hk];simp only [Option.map_some];show some (outI (vAt (kvW seg[k]) 12) ((kidOf (kidW (A + k) seg[k])).lay f.inner (withinI seg[k] (vAt (kvW seg[k]) 12)) (-1)).h) = _;rw [show vAt (kvW seg[k]) 12 = 0 from rfl, withinI_zero Om, leaf_W Om];rfl
  ·rw [List.getElem?_eq_none Om, if_neg hk]; rfl
 have hC : lnCross rvW f (List.replicate seg.length 10) = 10 := by
  unfold lnCross;rw [if_neg (fun e => by have := e.1; rw [show vAt rvW 2 = 1 from rfl] at this; omega)];obtain ⟨n, hn2⟩ : ∃ n, seg.length = n + 1 := ⟨seg.length - 1, by have := List.length_pos_iff.2 hn; omega⟩;rw [hn2, List.replicate_succ, List.foldl_cons];exact foldl_ten
 have hG : lnG rvW f (seg.mapIdx fun k w => kidOf (kidW (A + k) w)) seg 10 = gsW A seg := by
  unfold lnG gsW;refine List.ext_getElem? fun k => ?_;rw [List.getElem?_zipWith, List.getElem?_mapIdx, List.getElem?_mapIdx]
  by_cases hk : k < seg.length
  ·have hw := h seg[k] (List.getElem_mem hk);rw [List.getElem?_eq_getElem hk];simp only [Option.map_some];rw [show stretchI rvW (kidOf (kidW (A + k) seg[k])).vals 10 = -1 from rfl, if_neg Om];show some ((kidOf (kidW (A + k) seg[k])).lay f.inner (withinI seg[k] (vAt (kvW seg[k]) 12)) (-1)) = _;rw [show vAt (kvW seg[k]) 12 = 0 from rfl, withinI_zero Om, leaf_W Om]
  ·rw [List.getElem?_eq_none Om]; rfl
 unfold lnI;simp only;rw [show vAt rvW 14 = 0 from rfl, show vAt rvW 15 = 0 from rfl, hs, hH, hC, hG]
 congr 1
 unfold lnY;rw [List.map_replicate];rfl
theorem ahead_seg : ∀ (SG : List (List Int)) (n : Nat), ahead (SG.map fun m => (m.length : Int)) n = (SG.take n).flatten.length
 | [], 0 => rfl
 | [], n + 1 => rfl
 | m :: SG, 0 => rfl
 | m :: SG, n + 1 => by
  show (m.length : Int).toNat + ahead (SG.map fun m => (m.length : Int)) n = _;rw [ahead_seg SG n, List.take_succ_cons, List.flatten_cons, List.length_append]; simp
theorem flat_seg : ∀ {SG : List (List Int)} {n : Nat} {seg : List Int}, SG[n]? = some seg → (SG.flatten.drop (SG.take n).flatten.length).take seg.length = seg ∧ (SG.take n).flatten.length + seg.length ≤ SG.flatten.length
 | [], n, seg, h => by simp at h
 | m :: SG, 0, seg, h => by
  simp at h; subst h;simp
 | m :: SG, n + 1, seg, h => by
  have ih := flat_seg (SG := SG) (n := n) (by simpa using h);rw [List.take_succ_cons, List.flatten_cons, List.flatten_cons, List.length_append, List.length_append, List.drop_append, List.drop_of_length_le Om, List.nil_append, Nat.add_sub_cancel_left];exact ⟨ih.1, by omega⟩
theorem wraps_G {ws : List Int} {width : Int} (hw : ∀ w ∈ ws, 1 ≤ w ∧ w ≤ 999) (hl : ws.length ≤ 20) (hwd : 1000 ≤ width ∧ width ≤ 4000) : ∃ G, layI (boxW ws) width (-1) (-1) = .mk 1 0 0 0 width (10 * ((segI 0 width [] ws).length : Int)) G ∧ G.length = ws.length ∧
  ∀ (n : Nat) (seg : List Int) (k : Nat) (w : Int), (segI 0 width [] ws)[n]? = some seg → seg[k]? = some w → ∃ t, G[((segI 0 width [] ws).take n).flatten.length + k]? = some (.mk t 0 (sumL (seg.take k)) (10 * n) w 10 []) := by
 have hco : ∀ x ∈ ws, CO x := fun x hx => by have := hw x hx; unfold CO; omega
 have hflat := segI_flat (gap := 0) (room := width) ws [];rw [List.nil_append] at hflat;have hne := segI_ne (gap := 0) (room := width) ws [];have hfit := segI_fits (gap := 0) (room := width) ws [] (fun x hx => by rw [sumI_one (hco x hx)]; have := hw x hx; omega) (.inl rfl);have hcut := cut_segs (gap := 0) (room := width) hco;generalize segI 0 width [] ws = SG at *
 have hmem : ∀ (n : Nat) (seg : List Int), SG[n]? = some seg → seg ≠ [] ∧ sumI seg 0 ≤ width ∧ (∀ w ∈ seg, w ∈ ws) ∧ (ws.drop (SG.take n).flatten.length).take seg.length = seg ∧ (SG.take n).flatten.length + seg.length ≤ ws.length := fun n seg h => by
  have hm := List.mem_of_getElem? h;obtain ⟨h1, h2⟩ := flat_seg h;rw [hflat] at h1 h2;exact ⟨hne seg hm, hfit seg hm, fun w hx => by rw [← hflat]; exact List.mem_flatten.2 ⟨seg, hm, hx⟩, h1, h2⟩
 have hSl : SG.length ≤ 20 := by
  have : ∀ (S : List (List Int)), (∀ m ∈ S, m ≠ []) → S.length ≤ S.flatten.length := by
   intro S
   induction S with
   | nil => intro _; exact Nat.le_refl _
   | cons m S ih =>
    intro h;have h1 := List.length_pos_iff.2 (h m (by simp));have h2 := ih fun m hm => h m (by simp [hm])
    simp only [List.length_cons, List.flatten_cons, List.length_append]; omega
  have := this SG hne;rw [hflat] at this; omega
 have hKids : (ws.mapIdx kidW).length = ws.length := List.length_mapIdx
 have hF : beginI rvW width (-1) (-1) = ⟨width, -1, width, 0⟩ := by
  have h1 : begW rvW width (-1) = width := by
   unfold begW;rw [if_pos rfl, show vAt rvW 3 = -1 from rfl, if_pos rfl, show vAt rvW 12 = 0 from rfl, withinI_zero Om];show clampI width 0 (-1) = width;unfold clampI; simp; omega
  have h2 : begH rvW (-1) = -1 := rfl;unfold beginI;rw [h1, h2, show vAt rvW 13 = 0 from rfl, withinI_zero Om, if_neg Om]
 have hKv : ((ws.mapIdx kidW).map kidOf).map (fun k => acrossItm k.vals) = ws.map itW := by
  refine List.ext_getElem? fun i => ?_;rw [List.getElem?_map, List.getElem?_map, List.getElem?_mapIdx, List.getElem?_map]
  cases h : ws[i]? with
  | none => rfl
  | some w =>
   have := hw w (List.mem_of_getElem? h);show some (acrossItm (kvW w)) = some (itW w);rw [acrossItm_W Om]
 have hline : lineI rvW width (ws.map itW) = SG.map fun m => (m.length : Int) := by
  unfold lineI;rw [List.length_map];split
  ·rename_i h0;have : ws = [] := List.eq_nil_of_length_eq_zero h0;subst this;rw [← hcut]; rfl
  ·rw [show vAt rvW 2 = 1 from rfl, if_neg Om, show vAt rvW 14 = 0 from rfl, plains_itW hw, hcut]
 have hR : rowLns rvW ⟨width, -1, width, 0⟩ ((ws.mapIdx kidW).map kidOf) = SG.mapIdx fun n seg => ⟨(SG.take n).flatten.length, seg.length, rowI [0, 0] 0 seg, List.replicate seg.length 0, 10, gsW (SG.take n).flatten.length seg⟩ := by
  unfold rowLns;rw [hKv];show lnsI rvW _ _ _ 0 (lineI rvW width (ws.map itW)) = _;rw [hline];refine List.ext_getElem? fun n => ?_;rw [List.getElem?_mapIdx]
  cases h : SG[n]? with
  | none => rw [List.getElem?_eq_none (by rw [lnsI_len, List.length_map]; exact List.getElem?_eq_none_iff.1 h)]; rfl
  | some seg =>
   obtain ⟨m1, m2, m3, m4, m5⟩ := hmem n seg h;rw [lnsI_get (z := (seg.length : Int)) (by rw [List.getElem?_map, h]; rfl), Nat.zero_add, ahead_seg, Int.toNat_natCast]
   have e1 : (((ws.mapIdx kidW).map kidOf).drop (SG.take n).flatten.length).take seg.length = seg.mapIdx fun k w => kidOf (kidW ((SG.take n).flatten.length + k) w) := by
    refine List.ext_getElem? fun k => ?_;rw [List.getElem?_take, List.getElem?_mapIdx]
    by_cases hk : k < seg.length
    ·rw [if_pos hk, List.getElem?_drop, List.getElem?_map, List.getElem?_mapIdx]
     have : ws[(SG.take n).flatten.length + k]? = seg[k]? := by
      conv => rhs; rw [← m4, List.getElem?_take, if_pos hk, List.getElem?_drop]
     rw [this];cases seg[k]? <;> rfl
    ·rw [if_neg hk, List.getElem?_eq_none Om]; rfl
   have e2 : ((ws.map itW).drop (SG.take n).flatten.length).take seg.length = seg.map itW := by
    rw [← List.map_drop, ← List.map_take, m4]
   rw [e1, e2];exact congrArg some (ln_W (fun w hx => hw w (m3 w hx)) m1 Om m2 (by show width ≤ 4000; omega))
 have hcr : (SG.mapIdx fun n seg => (⟨(SG.take n).flatten.length, seg.length, rowI [0, 0] 0 seg, List.replicate seg.length 0, 10, gsW (SG.take n).flatten.length seg⟩ : Ln)).map Ln.cross = List.replicate SG.length 10 := by
  refine List.ext_getElem? fun i => ?_;rw [List.getElem?_map, List.getElem?_mapIdx, List.getElem?_replicate]
  by_cases hi : i < SG.length
  ·rw [List.getElem?_eq_getElem hi, if_pos hi]; rfl
  ·rw [List.getElem?_eq_none Om, if_neg hi]; rfl
 generalize hLN : (SG.mapIdx fun n seg => (⟨(SG.take n).flatten.length, seg.length, rowI [0, 0] 0 seg, List.replicate seg.length 0, 10, gsW (SG.take n).flatten.length seg⟩ : Ln)) = LNS at *
 have hLg : ∀ (n : Nat) (r : Ln), LNS[n]? = some r → ∃ seg, SG[n]? = some seg ∧ r = ⟨(SG.take n).flatten.length, seg.length, rowI [0, 0] 0 seg, List.replicate seg.length 0, 10, gsW (SG.take n).flatten.length seg⟩ := fun n r h => by
  rw [← hLN, List.getElem?_mapIdx] at h
  cases hs : SG[n]? with
  | none => rw [hs] at h; cases h
  | some seg => rw [hs] at h; exact ⟨seg, rfl, (Option.some.inj h).symm⟩
 have hLl : LNS.length = SG.length := by rw [← hLN, List.length_mapIdx]
 have hAt : rowAt rvW LNS = rowI [0] 0 (List.replicate SG.length 10) := by unfold rowAt; rw [hcr]; rfl
 have hlen : ∀ {α : Type} {g : Ln → List α}, (∀ A z seg, seg.length = z → (g ⟨A, z, rowI [0, 0] 0 seg, List.replicate seg.length 0, 10, gsW A seg⟩).length = seg.length) → ∀ (j : Nat) (r : Ln) (z : Int), LNS[j]? = some r → (SG.map fun m => (m.length : Int))[j]? = some z → (g r).length = z.toNat := fun {α g} hg j r z h1 h2 => by
  obtain ⟨seg, q1, rfl⟩ := hLg j r h1;rw [List.getElem?_map, q1] at h2;cases h2;rw [hg _ _ seg rfl]; simp
 have hend : endI (rowAt rvW LNS) (LNS.map Ln.cross) = 10 * (SG.length : Int) := by
  rw [hAt, hcr];unfold endI;rw [rowI_len, List.length_replicate];split
  ·omega
  ·rename_i h0;rw [List.getD_eq_getElem?_getD, List.getD_eq_getElem?_getD, rowI_ten Om Om Om, List.getElem?_replicate, if_pos Om];show plI (0 + 10 * ((SG.length - 1 : Nat) : Int)) 10 = _;unfold plI satI; omega
 refine ⟨(rowK rvW ⟨width, -1, width, 0⟩ ((ws.mapIdx kidW).map kidOf)).1, ?_, ?_, ?_⟩
 ·rw [layI_eq];show layW 1 0 rvW ((ws.mapIdx kidW).map kidOf) width (-1) (-1) = _;unfold layW;rw [hF]
  have hk : kidsI rvW ⟨width, -1, width, 0⟩ ((ws.mapIdx kidW).map kidOf) = rowK rvW ⟨width, -1, width, 0⟩ ((ws.mapIdx kidW).map kidOf) := by
   unfold kidsI
   rw [if_neg (fun e => by
    rw [List.length_map, hKids] at e;rcases e with e | e
    ·exact e rfl
    ·omega), if_pos (show vAt rvW 1 = 0 from rfl)]
  rw [hk]
  have h2 : (rowK rvW ⟨width, -1, width, 0⟩ ((ws.mapIdx kidW).map kidOf)).2 = 10 * (SG.length : Int) := by
   unfold rowK;simp only;rw [hR, hend]
  rw [h2, if_pos rfl, show vAt rvW 13 = 0 from rfl, twI_zero]
  have h3 : highI rvW (plI (10 * (SG.length : Int)) 0) = 10 * (SG.length : Int) := by
   show clampI (plI _ 0) 0 (-1) = _;unfold clampI plI satI; simp; omega
  rw [h3]
 ·unfold rowK cornered;simp only;rw [hR, List.length_mapIdx]
  have hfl : (LNS.flatMap Ln.gs).length = SG.flatten.length := by
   rw [← hLN]
   have : ∀ (S : List (List Int)) (f : Nat → Nat), ((S.mapIdx fun n seg => (⟨f n, seg.length, rowI [0, 0] 0 seg, List.replicate seg.length 0, 10, gsW (f n) seg⟩ : Ln)).flatMap Ln.gs).length = S.flatten.length := by
    intro S
    induction S with
    | nil => intro f; rfl
    | cons m S ih =>
     intro f;rw [List.mapIdx_cons, List.flatMap_cons, List.length_append, List.flatten_cons, List.length_append, ih fun n => f (n + 1)]
     congr 1
     show (gsW (f 0) m).length = _;unfold gsW; rw [List.length_mapIdx]
   exact this SG _
  rw [hfl, hflat]
 ·intro n seg k w hs hk;obtain ⟨m1, m2, m3, m4, m5⟩ := hmem n seg hs;have hkl := (gEi.1 hk).1;have hwb := hw w (m3 w (List.mem_of_getElem? hk));have hsw : ∀ x ∈ seg, 0 ≤ x ∧ x ≤ 999 := fun x hx => by have := hw x (m3 x hx); omega
  have hns := (gEi.1 hs).1;have hr : LNS[n]? = some ⟨(SG.take n).flatten.length, seg.length, rowI [0, 0] 0 seg, List.replicate seg.length 0, 10, gsW (SG.take n).flatten.length seg⟩ := by rw [← hLN, List.getElem?_mapIdx, hs]; rfl
  have hNl : LNS.length = (SG.map fun m => (m.length : Int)).length := by rw [List.length_map]; exact hLl
  have hgs : (LNS.flatMap Ln.gs)[(SG.take n).flatten.length + k]? = some (.mk (2 + (((SG.take n).flatten.length + k : Nat) : Int)) 0 0 0 w 10 []) := by
   have := flat_getC (g := Ln.gs) (NS := SG.map fun m => (m.length : Int)) (i := k) (hlen fun A z seg _ => by unfold gsW; rw [List.length_mapIdx]) hNl hr (by show k < (gsW _ seg).length; unfold gsW; rw [List.length_mapIdx]; exact hkl);rw [ahead_seg] at this;rw [this];show (gsW _ seg)[k]? = _;unfold gsW;rw [List.getElem?_mapIdx, hk]; rfl
  have hX : (rowX LNS)[(SG.take n).flatten.length + k]? = some (sumL (seg.take k)) := by
   have := flat_getC (g := Ln.x) (NS := SG.map fun m => (m.length : Int)) (i := k) (hlen fun A z seg _ => rowI_len _ _ _) hNl hr (by show k < (rowI _ _ seg).length; rw [rowI_len]; exact hkl);rw [ahead_seg] at this;unfold rowX;rw [this];show (rowI [0, 0] 0 seg)[k]? = _;rw [rowI_W hsw (Int.le_refl _) Om hkl, Int.zero_add]
  have hY : (rowY LNS (rowAt rvW LNS))[(SG.take n).flatten.length + k]? = some (plusI (10 * n) [0]) := by
   have := rowY_get (NS := SG.map fun m => (m.length : Int)) (AT := rowAt rvW LNS) (k := n) (i := k) (a := 10 * n) (y := 0) (hlen fun A z seg _ => List.length_replicate) hNl (by rw [hAt, rowI_ten (Int.le_refl _) Om hns, Int.zero_add]) (by rw [hAt, rowI_len, List.length_replicate, hLl]) hr (by show (List.replicate seg.length (0 : Int))[k]? = _; rw [List.getElem?_replicate, if_pos hkl]);rw [ahead_seg] at this;exact this
  have hwsk : ws[(SG.take n).flatten.length + k]? = some w := by
   rw [← hk]
   conv => rhs; rw [← m4, List.getElem?_take, if_pos hkl, List.getElem?_drop]
  have hsum := sumL_nn (l := seg.take k) (fun x hx => hsw x (List.mem_of_mem_take hx))
  have hput : ∀ x : Int, CO x → putI rvW (kvW w) x = x := fun x hx => by
   unfold CO at hx;show satI (satI (0 + x) + 0) = x;unfold satI; omega
  refine ⟨2 + (((SG.take n).flatten.length + k : Nat) : Int), ?_⟩;unfold rowK cornered;simp only;rw [hR, List.getElem?_mapIdx, hgs];simp only [Option.map_some];rw [vals_W, hwsk, List.getD_eq_getElem?_getD, hX, List.getD_eq_getElem?_getD, hY];show some (GeoT.mk _ 0 (putI rvW (kvW w) (sumL (seg.take k))) (putI rvW (kvW w) (plusI (10 * (n : Int)) [0])) w 10 []) = _
  have hp : plusI (10 * (n : Int)) [0] = 10 * n := by
   show satI (10 * (n : Int) + 0) = _;unfold satI; omega
  rw [List.length_take] at hsum;rw [hp, hput _ (by unfold CO; omega), hput _ (by unfold CO; omega)]
end Go.Ai
