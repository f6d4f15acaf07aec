/-
A run in pieces: what is known between two pieces is told by a point (slots, blocks numbered anew); a piece that runs from one point to the next one, seen by the kernel, is so in the model, whatever the world. Pieces join: one behind the other, round by round.
-/
import Derived.Test.YtgfoiioiknaahaaGreatAiTop
import Derived.Test.YtgfoiioiknaahaaGreatAiFast
set_option linter.unusedVariables false
set_option linter.unusedSimpArgs false
namespace Go.Ai
open Go.RowKit

/-! ### Points -/
inductive OL where
  | cells (e : Nat) (l : List S)
  | ro (l : List S)
  | map (es : List (V × V))
  | ghost (vs : List V)
structure Pt where
  sl : List (Nat × V)
  bl : List OL
noncomputable def OL.obj : OL → O
  | .cells e l => .cells e (T.setMany .e 0 l) l.length
  | .ro l => .ro (T.setMany .e 0 l) l.length
  | .map es => .map es
  | .ghost vs => .ghost vs
noncomputable def slotsT : List (Nat × V) → Sl → Sl
  | [], t => t
  | p :: l, t => slotsT l (Sl.set t p.1 p.2)
noncomputable def Pt.tt (p : Pt) : Sl := slotsT p.sl Sl.new
noncomputable def Pt.hh (p : Pt) (kn : Kn) : H := { tr := T.setMany .e 0 (p.bl.map OL.obj), next := p.bl.length, floor := 0, hid := [], frz := [], kn := kn }
/-- The same, each step told before the next one. -/
noncomputable def OL.objK {β : Type} (o : OL) (K : O → β) : β := match o with
  | .cells e l => T.setManyK .e 0 l fun cs => forceN l.length fun n => K (.cells e cs n)
  | .ro l => T.setManyK .e 0 l fun cs => forceN l.length fun n => K (.ro cs n)
  | .map es => K (.map es)
  | .ghost vs => K (.ghost vs)
theorem OL.objK_eq {β : Type} (o : OL) (K : O → β) : o.objK K = K o.obj := by
  cases o with
  | cells e l => show T.setManyK .e 0 l _ = _; rw [T.setManyK_eq, forceN_eq]; rfl
  | ro l => show T.setManyK .e 0 l _ = _; rw [T.setManyK_eq, forceN_eq]; rfl
  | map es => rfl
  | ghost vs => rfl
noncomputable def slotsK {β : Type} : List (Nat × V) → Sl → (Sl → β) → β
  | [], t, K => K t
  | p :: l, t, K => Sl.setK t p.1 p.2 fun t => slotsK l t K
theorem slotsK_eq {β : Type} : ∀ (l : List (Nat × V)) (t : Sl) (K : Sl → β), slotsK l t K = K (slotsT l t)
  | [], _, _ => rfl
  | p :: l, t, K => by
    show Sl.setK t p.1 p.2 _ = _
    rw [Sl.setK_eq, slotsK_eq l]; rfl
noncomputable def blocksK {β : Type} : List OL → Nat → T O → (T O → β) → β
  | [], _, t, K => K t
  | o :: l, k, t, K => o.objK fun x => t.setK k x fun t => forceN (k + 1) fun k => blocksK l k t K
theorem blocksK_eq {β : Type} : ∀ (l : List OL) (k : Nat) (t : T O) (K : T O → β), blocksK l k t K = K (t.setMany k (l.map OL.obj))
  | [], _, _, _ => rfl
  | o :: l, k, t, K => by
    show o.objK _ = _
    rw [OL.objK_eq, T.setK_eq, forceN_eq, blocksK_eq l]; rfl
noncomputable def Pt.run {β : Type} (p : Pt) (kn : Kn) (K : Sl → H → β) : β := slotsK p.sl Sl.new fun t => blocksK p.bl 0 .e fun tr => forceN p.bl.length fun n => K t ⟨tr, n, 0, [], [], kn⟩
theorem Pt.run_eq {β : Type} (p : Pt) (kn : Kn) (K : Sl → H → β) : p.run kn K = K p.tt (p.hh kn) := by
  unfold Pt.run
  rw [slotsK_eq, blocksK_eq, forceN_eq]; rfl
theorem slotsT_get : ∀ (l : List (Nat × V)) (t : Sl) (k : Nat) (v : V), (slotsT l t).get k = some v → (k, v) ∈ l ∨ t.get k = some v
  | [], t, k, v, h => .inr h
  | p :: l, t, k, v, h => by
    rcases slotsT_get l _ k v h with h | h
    · exact .inl (List.mem_cons_of_mem _ h)
    · rw [Sl.get_set'] at h
      by_cases e : k = p.1
      · rw [if_pos e] at h; cases h; exact .inl (by rw [e]; exact List.mem_cons_self)
      · rw [if_neg e] at h; exact .inr h
theorem Pt.tt_get {p : Pt} {k : Nat} {v : V} (h : p.tt.get k = some v) : (k, v) ∈ p.sl := by
  rcases slotsT_get p.sl Sl.new k v h with h | h
  · exact h
  · rw [Sl.get_new] at h; cases h
theorem Pt.hh_get {p : Pt} {kn : Kn} {b : Nat} {o : O} (h : (p.hh kn).get b = some o) : ∃ x, p.bl[b]? = some x ∧ o = x.obj := by
  have h : (T.setMany .e 0 (p.bl.map OL.obj)).get b = some o := h
  rw [T.get_row, List.getElem?_map] at h
  cases hr : p.bl[b]? with
  | none => rw [hr] at h; cases h
  | some x => rw [hr] at h; simp only [Option.map_some, Option.some.injEq] at h; exact ⟨x, rfl, h.symm⟩

/-! ### Is a state as a point tells it, the point's blocks numbered by ρ? -/
def atB (ρ : List Nat) (b b' : Nat) : Bool := match ρ[b]? with
  | some c => Nat.beq c b'
  | none => false
theorem atB_spec {ρ : List Nat} {b b' : Nat} (h : atB ρ b b' = true) : ρ[b]? = some b' := by
  unfold atB at h
  split at h
  · rename_i c hc; rw [hc, Nat.eq_of_beq_eq_true h]
  · cases h
def boolEq : Bool → Bool → Bool
  | true, true => true
  | false, false => true
  | _, _ => false
theorem boolEq_spec {a b : Bool} (h : boolEq a b = true) : a = b := by cases a <;> cases b <;> first | rfl | cases h
def fkEq : FloatKind → FloatKind → Bool
  | .f64, .f64 => true
  | .f32, .f32 => true
  | _, _ => false
theorem fkEq_spec {a b : FloatKind} (h : fkEq a b = true) : a = b := by cases a <;> cases b <;> first | rfl | cases h
def tmEq (a b : Tm) : Bool := eqI a.k b.k && Nat.beq a.v b.v && eqI a.lo b.lo && eqI a.hi b.hi
def tmsEq : List Tm → List Tm → Bool
  | [], [] => true
  | a :: l, b :: m => tmEq a b && tmsEq l m
  | _, _ => false
def linEq (a b : Lin) : Bool := eqI a.c b.c && tmsEq a.ts b.ts
theorem eqI_spec {a b : Int} (h : eqI a b = true) : a = b := by rw [eqI_eq] at h; simpa using h
theorem tmEq_spec {a b : Tm} (h : tmEq a b = true) : a = b := by
  unfold tmEq at h
  simp only [Bool.and_eq_true] at h
  obtain ⟨k, v, lo, hi⟩ := a
  obtain ⟨k', v', lo', hi'⟩ := b
  have h1 := eqI_spec h.1.1.1
  have h2 := Nat.eq_of_beq_eq_true h.1.1.2
  have h3 := eqI_spec h.1.2
  have h4 := eqI_spec h.2
  simp only at h1 h2 h3 h4
  rw [h1, h2, h3, h4]
theorem tmsEq_spec : ∀ {a b : List Tm}, tmsEq a b = true → a = b
  | [], [], _ => rfl
  | [], _ :: _, h => by cases h
  | _ :: _, [], h => by cases h
  | a :: l, b :: m, h => by
    unfold tmsEq at h
    simp only [Bool.and_eq_true] at h
    rw [tmEq_spec h.1, tmsEq_spec h.2]
theorem linEq_spec {a b : Lin} (h : linEq a b = true) : a = b := by
  unfold linEq at h
  simp only [Bool.and_eq_true] at h
  obtain ⟨c, ts⟩ := a
  obtain ⟨c', ts'⟩ := b
  have h1 := eqI_spec h.1
  have h2 := tmsEq_spec h.2
  simp only at h1 h2
  rw [h1, h2]
def tmIn (t : Tm) : List Tm → Bool
  | [] => false
  | u :: l => (Nat.beq t.v u.v && eqI t.lo u.lo && eqI t.hi u.hi) || tmIn t l
def tmOk (t : Tm) : List Lin → Bool
  | [] => false
  | f :: fs => tmIn t f.ts || tmOk t fs
def tsOk (fs : List Lin) : List Tm → Bool
  | [] => true
  | t :: l => tmOk t fs && tsOk fs l
/-- The same number, by what is known. -/
def sameN (fs : List Lin) (k : IntKind) (e : Lin) : Option (IntKind × Lin) → Bool
  | some (k', e') => k == k' && tsOk fs e.ts && (match eqL fs e e' with
    | some b => b
    | none => false)
  | none => false
def sameS (fs : List Lin) (ρ : List Nat) : S → S → Bool
  | .b x, .b y => boolEq x y
  | .i k n, .i k' m => k == k' && eqI n m
  | .f k n, .f k' m => fkEq k k' && Nat.beq n m
  | .c k n m, .c k' n' m' => fkEq k k' && Nat.beq n n' && Nat.beq m m'
  | .s x, .s y => x.data.toList == y.data.toList
  | .p0, .p0 => true
  | .p b o, .p b' o' => atB ρ b b' && Nat.beq o o'
  | .sl0, .sl0 => true
  | .sl b o l c z e, .sl b' o' l' c' z' e' => atB ρ b b' && Nat.beq o o' && Nat.beq l l' && Nat.beq c c' && Nat.beq z z' && boolEq e e'
  | .m0, .m0 => true
  | .m b, .m b' => atB ρ b b'
  | .fn0 f, .fn0 g => Nat.beq f g
  | .fn f b, .fn g b' => Nat.beq f g && atB ρ b b'
  | .nilf, .nilf => true
  | .nili, .nili => true
  | .any, .any => true
  | .anysl, .anysl => true
  | .anysl, .sl0 => true
  | .anysl, .sl _ _ _ _ _ _ => true
  | .anysl, .lsl _ => true
  | .anysl, .slx _ _ _ _ => true
  | .lsl e, .slx _ _ _ e' => linEq e e'
  | .nat, .nat => true
  | .yi k e, .yi k' e' => (k == k' && linEq e e') || sameN fs k e (asL (some (.one (.yi k' e'))))
  | .yi k e, .i k' n => sameN fs k e (asL (some (.one (.i k' n))))
  | .fe e, .fe e' => linEq e e'
  | .ce x y, .ce x' y' => linEq x x' && linEq y y'
  | .lsl e, .lsl e' => linEq e e'
  | .slx b o m e, .slx b' o' m' e' => atB ρ b b' && Nat.beq o o' && Nat.beq m m' && linEq e e'
  | _, _ => false
def sameSs (fs : List Lin) (ρ : List Nat) : List S → List S → Bool
  | [], [] => true
  | x :: l, y :: m => sameS fs ρ x y && sameSs fs ρ l m
  | _, _ => false
def samePs (fs : List Lin) (ρ : List Nat) : List (Bool × List S) → List (Bool × List S) → Bool
  | [], [] => true
  | x :: l, y :: m => boolEq x.1 y.1 && sameSs fs ρ x.2 y.2 && samePs fs ρ l m
  | _, _ => false
def sameV (fs : List Lin) (ρ : List Nat) : V → V → Bool
  | .one x, .one y => sameS fs ρ x y
  | .agg l, .agg m => sameSs fs ρ l m
  | .tup l, .tup m => samePs fs ρ l m
  | _, _ => false
def sameVs (fs : List Lin) (ρ : List Nat) : List V → List V → Bool
  | [], [] => true
  | x :: l, y :: m => sameV fs ρ x y && sameVs fs ρ l m
  | _, _ => false
def sameKv (fs : List Lin) (ρ : List Nat) : List (V × V) → List (V × V) → Bool
  | [], [] => true
  | x :: l, y :: m => sameV fs ρ x.1 y.1 && sameV fs ρ x.2 y.2 && sameKv fs ρ l m
  | _, _ => false
noncomputable def sameRow (fs : List Lin) (ρ : List Nat) (cs : T S) : List S → Nat → Bool
  | [], _ => true
  | x :: l, j => (match cs.get j with
    | some y => sameS fs ρ x y
    | none => false) && sameRow fs ρ cs l (j + 1)
noncomputable def sameO (fs : List Lin) (ρ : List Nat) : OL → O → Bool
  | .cells e l, .cells e' cs n => Nat.beq e e' && Nat.beq l.length n && sameRow fs ρ cs l 0
  | .ro l, .ro cs n => Nat.beq l.length n && sameRow fs ρ cs l 0
  | .map es, .map es' => sameKv fs ρ es es'
  | .ghost vs, .ghost vs' => sameVs fs ρ vs vs'
  | _, _ => false
noncomputable def slotsOk (fs : List Lin) (ρ : List Nat) (T1 : Sl) : List (Nat × V) → Bool
  | [] => true
  | p :: l => (match T1.get p.1 with
    | some y => sameV fs ρ p.2 y
    | none => false) && slotsOk fs ρ T1 l
noncomputable def blocksOk (fs : List Lin) (ρ : List Nat) (h1 : H) : List OL → List Nat → Bool
  | [], [] => true
  | o :: l, b :: m => (match h1.get b with
    | some y => sameO fs ρ o y
    | none => false) && blocksOk fs ρ h1 l m
  | _, _ => false
def allNe (b : Nat) : List Nat → Bool
  | [] => true
  | c :: l => !Nat.beq b c && allNe b l
def nodupB : List Nat → Bool
  | [] => true
  | b :: l => allNe b l && nodupB l
def exEq : Ex → Ex → Bool
  | .normal, .normal => true
  | .exit a, .exit b => Nat.beq a b
  | .goto a, .goto b => Nat.beq a b
  | .ret, .ret => true
  | _, _ => false
theorem exEq_spec {a b : Ex} (h : exEq a b = true) : a = b := by
  cases a <;> cases b <;> first
    | rfl
    | (have := Nat.eq_of_beq_eq_true h; subst this; rfl)
    | cases h
/-- The first so many blocks keep their numbers. -/
def rootsB (ρ : List Nat) : Nat → Bool
  | 0 => true
  | k + 1 => atB ρ k k && rootsB ρ k
noncomputable def asPt (k : Nat) (q : Pt) (ρ : List Nat) (T1 : Sl) (h1 : H) : Bool := rootsB ρ k && nodupB ρ && slotsOk h1.kn.facts ρ T1 q.sl && blocksOk h1.kn.facts ρ h1 q.bl ρ
theorem rootsB_spec {ρ : List Nat} : ∀ {k : Nat}, rootsB ρ k = true → ∀ b, b < k → ρ[b]? = some b
  | 0, _, b, h => by omega
  | k + 1, h, b, hb => by
    unfold rootsB at h
    simp only [Bool.and_eq_true] at h
    rcases Nat.lt_or_ge b k with q | q
    · exact rootsB_spec h.2 b q
    · have : b = k := by omega
      subst this; exact atB_spec h.1
noncomputable def endsAt (k : Nat) (e : Ex) (q : Pt) (ρ : List Nat) : Option (Ex × Sl × H) → Bool
  | some (e', T1, h1) => exEq e e' && asPt k q ρ T1 h1
  | none => false

/-! ### Blocks numbered anew -/
def Inj.ren (ι : Inj) (ρ : List Nat) : Inj := { dom := fun b => ∃ c, ρ[b]? = some c ∧ ι.dom c, blk := fun b => ι.blk (ρ.getD b 0), sh := fun b => ι.sh (ρ.getD b 0), lim := fun b => ι.lim (ρ.getD b 0), caps := fun b => ι.caps (ρ.getD b 0), env := ι.env }
theorem getD_of {ρ : List Nat} {b c : Nat} (h : ρ[b]? = some c) : ρ.getD b 0 = c := by rw [List.getD_eq_getElem?_getD, h]; rfl
theorem tmIn_spec {t : Tm} : ∀ {l : List Tm}, tmIn t l = true → ∃ u ∈ l, u.v = t.v ∧ u.lo = t.lo ∧ u.hi = t.hi
  | [], h => by cases h
  | u :: l, h => by
    unfold tmIn at h
    simp only [Bool.or_eq_true, Bool.and_eq_true] at h
    rcases h with h | h
    · exact ⟨u, List.mem_cons_self, (Nat.eq_of_beq_eq_true h.1.1).symm, (eqI_spec h.1.2).symm, (eqI_spec h.2).symm⟩
    · obtain ⟨u', h1, h2⟩ := tmIn_spec h; exact ⟨u', List.mem_cons_of_mem _ h1, h2⟩
theorem tmOk_spec {env : Nat → Int} {t : Tm} : ∀ {fs : List Lin}, FactsOk env fs → tmOk t fs = true → t.lo ≤ env t.v ∧ env t.v ≤ t.hi
  | [], _, h => by cases h
  | f :: fs, hf, h => by
    unfold tmOk at h
    simp only [Bool.or_eq_true] at h
    rcases h with h | h
    · obtain ⟨u, h1, h2, h3, h4⟩ := tmIn_spec h
      have := (hf f List.mem_cons_self).1 u h1
      rw [h2, h3, h4] at this; exact this
    · exact tmOk_spec (fun g hg => hf g (List.mem_cons_of_mem _ hg)) h
theorem tsOk_spec {env : Nat → Int} {fs : List Lin} (hf : FactsOk env fs) : ∀ {l : List Tm}, tsOk fs l = true → ∀ t ∈ l, t.lo ≤ env t.v ∧ env t.v ≤ t.hi
  | u :: l, h, t, ht => by
    unfold tsOk at h
    simp only [Bool.and_eq_true] at h
    rcases List.mem_cons.1 ht with rfl | ht
    · exact tmOk_spec hf h.1
    · exact tsOk_spec hf h.2 t ht
theorem sameN_spec {ι : Inj} {fs : List Lin} (hf : FactsOk ι.env fs) {k : IntKind} {e : Lin} {x : S} {v : Value} (h : sameN fs k e (asL (some (.one x))) = true) (hx : SR ι x v) : SR ι (.yi k e) v := by
  unfold sameN at h
  split at h
  · rename_i k' e' he
    simp only [Bool.and_eq_true] at h
    obtain ⟨⟨h1, h2⟩, h3⟩ := h
    have h1 := eq_of_beq h1
    subst h1
    have hok : e.ok ι.env := tsOk_spec hf h2
    obtain ⟨_, a2, a3⟩ := asL_some (ι := ι) (u := v) (fun z hz => by cases hz; exact hx) he
    split at h3
    · rename_i b hb
      subst h3
      have := eqL_some hf hok a2 hb
      have : e.eval ι.env = e'.eval ι.env := by simpa using this.symm
      exact ⟨hok, by rw [a3, this]⟩
    · cases h3
  · cases h
theorem SR.ren {ι : Inj} {fs : List Lin} (hf : FactsOk ι.env fs) {ρ : List Nat} {x y : S} {v : Value} (h : sameS fs ρ x y = true) (k : SR ι y v) : SR (ι.ren ρ) x v := by
  cases x <;> cases y <;> simp only [sameS, Bool.false_eq_true, Bool.and_eq_true] at h
  case b.b => rw [boolEq_spec h]; exact k
  case i.i => have h1 := eq_of_beq h.1; subst h1; rw [eqI_spec h.2]; exact k
  case f.f => rw [fkEq_spec h.1, Nat.eq_of_beq_eq_true h.2]; exact k
  case c.c => rw [fkEq_spec h.1.1, Nat.eq_of_beq_eq_true h.1.2, Nat.eq_of_beq_eq_true h.2]; exact k
  case s.s x y =>
    have e : x = y := by
      obtain ⟨⟨x⟩⟩ := x
      obtain ⟨⟨y⟩⟩ := y
      have := eq_of_beq h
      simp only at this
      rw [this]
    rw [e]; exact k
  case p0.p0 => exact k
  case p.p b o b' o' =>
    have h1 := atB_spec h.1
    obtain ⟨kd, kv⟩ := k
    refine ⟨⟨b', h1, kd⟩, ?_⟩
    rw [kv, Nat.eq_of_beq_eq_true h.2]
    simp only [Inj.ren, getD_of h1]
  case sl0.sl0 => exact k
  case sl.sl b o l c z e b' o' l' c' z' e' =>
    obtain ⟨⟨⟨⟨⟨h1, h2⟩, h3⟩, h4⟩, h5⟩, h6⟩ := h
    have h1 := atB_spec h1
    rw [Nat.eq_of_beq_eq_true h2, Nat.eq_of_beq_eq_true h3, Nat.eq_of_beq_eq_true h4, Nat.eq_of_beq_eq_true h5, boolEq_spec h6]
    obtain ⟨kd, k0, a, c, k1, k2, k3, k4, k5, k6, k7⟩ := k
    refine ⟨⟨b', h1, kd⟩, k0, a, c, k1, ?_, k3, ?_, k5, k6, ?_⟩
    · simp only [Inj.ren, getD_of h1]; exact k2
    · simp only [Inj.ren, getD_of h1]; exact k4
    · simp only [Inj.ren, getD_of h1]; exact k7
  case m0.m0 => exact k
  case m.m b b' =>
    have h1 := atB_spec h
    obtain ⟨kd, kv⟩ := k
    exact ⟨⟨b', h1, kd⟩, by rw [kv]; simp only [Inj.ren, getD_of h1]⟩
  case fn0.fn0 => rw [Nat.eq_of_beq_eq_true h]; exact k
  case fn.fn f b g b' =>
    have h1 := atB_spec h.2
    obtain ⟨kd, kv⟩ := k
    exact ⟨⟨b', h1, kd⟩, by rw [kv, Nat.eq_of_beq_eq_true h.1]; simp only [Inj.ren, getD_of h1]⟩
  case nilf.nilf => exact k
  case nili.nili => exact k
  case any.any => exact k
  case anysl.anysl => exact k
  case anysl.sl0 => exact ⟨_, _, _, k⟩
  case anysl.sl => obtain ⟨_, _, a, c, e, _⟩ := k; exact ⟨_, _, _, e⟩
  case anysl.lsl => obtain ⟨_, a, c, n, e, _⟩ := k; exact ⟨_, _, _, e⟩
  case anysl.slx => obtain ⟨_, _, a, c, n, e, _⟩ := k; exact ⟨_, _, _, e⟩
  case lsl.slx =>
    rw [linEq_spec h]
    obtain ⟨_, k0, a, c, n, e, _, _, _, hn, _⟩ := k
    exact ⟨k0, some a, c, n, e, hn⟩
  case nat.nat => exact k
  case yi.yi =>
    simp only [Bool.or_eq_true, Bool.and_eq_true] at h
    rcases h with h | h
    · have h1 := eq_of_beq h.1; subst h1; rw [linEq_spec h.2]; exact k
    · exact sameN_spec hf h k
  case yi.i => exact sameN_spec hf h k
  case fe.fe => rw [linEq_spec h]; exact k
  case ce.ce => rw [linEq_spec h.1, linEq_spec h.2]; exact k
  case lsl.lsl => rw [linEq_spec h]; exact k
  case slx.slx b o m e b' o' m' e' =>
    obtain ⟨⟨⟨h1, h2⟩, h3⟩, h4⟩ := h
    have h1 := atB_spec h1
    rw [Nat.eq_of_beq_eq_true h2, Nat.eq_of_beq_eq_true h3, linEq_spec h4]
    obtain ⟨kd, k0, a, c, n, k1, k2, k3, k4, k5, k6⟩ := k
    exact ⟨⟨b', h1, kd⟩, k0, a, c, n, k1, by simp only [Inj.ren, getD_of h1]; exact k2, k3, by simp only [Inj.ren, getD_of h1]; exact k4, k5, k6⟩
section
variable {P : Program} {ι : Inj} {fs : List Lin} {ρ : List Nat}
theorem sameSs_ren (hf : FactsOk ι.env fs) : ∀ {xs ys : List S} {vs : List Value}, sameSs fs ρ xs ys = true → All2 (SR ι) ys vs → All2 (SR (ι.ren ρ)) xs vs
  | [], [], _, _, k => by cases k; exact .nil
  | [], _ :: _, _, h, _ => by cases h
  | _ :: _, [], _, h, _ => by cases h
  | x :: l, y :: m, _, h, k => by
    unfold sameSs at h
    simp only [Bool.and_eq_true] at h
    cases k with
    | cons k1 k2 => exact .cons (k1.ren hf h.1) (sameSs_ren hf h.2 k2)
theorem sameSs_length : ∀ {xs ys : List S}, sameSs fs ρ xs ys = true → xs.length = ys.length
  | [], [], _ => rfl
  | [], _ :: _, h => by cases h
  | _ :: _, [], h => by cases h
  | x :: l, y :: m, h => by
    unfold sameSs at h
    simp only [Bool.and_eq_true] at h
    simp [sameSs_length h.2]
theorem samePs_ren (hf : FactsOk ι.env fs) : ∀ {xs ys : List (Bool × List S)} {vs : List Value}, samePs fs ρ xs ys = true → All2 (PR ι) ys vs → All2 (PR (ι.ren ρ)) xs vs
  | [], [], _, _, k => by cases k; exact .nil
  | [], _ :: _, _, h, _ => by cases h
  | _ :: _, [], _, h, _ => by cases h
  | (t, x) :: l, (u, y) :: m, _, h, k => by
    unfold samePs at h
    simp only [Bool.and_eq_true] at h
    obtain ⟨⟨h1, h2⟩, h3⟩ := h
    have h1 : t = u := boolEq_spec h1
    subst h1
    cases k with
    | cons k1 k2 =>
      refine .cons ?_ (samePs_ren hf h3 k2)
      cases t with
      | true =>
        obtain ⟨cs, e, k1⟩ := k1
        exact ⟨cs, e, sameSs_ren hf h2 k1⟩
      | false =>
        obtain ⟨z, e, k1⟩ := k1
        subst e
        match x, h2 with
        | [a], h2 =>
          unfold sameSs at h2
          simp only [Bool.and_eq_true] at h2
          exact ⟨a, rfl, k1.ren hf h2.1⟩
        | [], h2 => cases h2
        | a :: b :: r, h2 => have := sameSs_length h2; simp at this
theorem sameV_ren (hf : FactsOk ι.env fs) {x y : V} {v : Value} (h : sameV fs ρ x y = true) (k : VR ι y v) : VR (ι.ren ρ) x v := by
  cases x <;> cases y <;> simp only [sameV, Bool.false_eq_true] at h
  · exact SR.ren hf h k
  · obtain ⟨cs, e, k⟩ := k; exact ⟨cs, e, sameSs_ren hf h k⟩
  · obtain ⟨vs, e, k⟩ := k; exact ⟨vs, e, samePs_ren hf h k⟩
theorem sameVs_ren (hf : FactsOk ι.env fs) : ∀ {xs ys : List V} {vs : List Value}, sameVs fs ρ xs ys = true → All2 (VR ι) ys vs → All2 (VR (ι.ren ρ)) xs vs
  | [], [], _, _, k => by cases k; exact .nil
  | [], _ :: _, _, h, _ => by cases h
  | _ :: _, [], _, h, _ => by cases h
  | x :: l, y :: m, _, h, k => by
    unfold sameVs at h
    simp only [Bool.and_eq_true] at h
    cases k with
    | cons k1 k2 => exact .cons (sameV_ren hf h.1 k1) (sameVs_ren hf h.2 k2)
theorem sameRow_get {cs : T S} : ∀ {l : List S} {j0 : Nat}, sameRow fs ρ cs l j0 = true → ∀ (j : Nat) (x : S), l[j]? = some x → ∃ y, cs.get (j0 + j) = some y ∧ sameS fs ρ x y = true
  | [], _, _, j, x, h => by simp at h
  | z :: l, j0, h, j, x, hj => by
    unfold sameRow at h
    simp only [Bool.and_eq_true] at h
    cases j with
    | zero =>
      simp at hj; subst hj
      have h1 := h.1
      split at h1
      · rename_i y hy; exact ⟨y, hy, h1⟩
      · cases h1
    | succ j =>
      obtain ⟨y, e1, e2⟩ := sameRow_get h.2 j x (by simpa using hj)
      exact ⟨y, by rw [show j0 + (j + 1) = j0 + 1 + j by omega]; exact e1, e2⟩
theorem sameO_ren (hf : FactsOk ι.env fs) {x : OL} {o : O} {b c : Nat} {w : World} (hb : ρ[b]? = some c) (h : sameO fs ρ x o = true) (k : ORel P ι c w o) : ORel P (ι.ren ρ) b w x.obj := by
  have hg := getD_of hb
  cases x <;> cases o <;> simp only [sameO, Bool.false_eq_true, Bool.and_eq_true] at h
  · rename_i e l e' cs n
    obtain ⟨⟨h1, h2⟩, h3⟩ := h
    have h1 := Nat.eq_of_beq_eq_true h1
    have h2 := Nat.eq_of_beq_eq_true h2
    subst h1 h2
    obtain ⟨cc, k1, k2, k3, k4⟩ := k
    refine ⟨cc, by simp only [Inj.ren, hg]; exact k1, by simp only [Inj.ren, hg]; exact k2, by simp only [Inj.ren, hg]; exact k3, fun j hj => ?_⟩
    obtain ⟨y, hy, hs⟩ := sameRow_get h3 j l[j] (List.getElem?_eq_getElem hj)
    obtain ⟨y', v, q1, q2, q3⟩ := k4 j hj
    rw [Nat.zero_add] at hy
    rw [hy] at q1; cases q1
    exact ⟨l[j], v, by rw [T.get_row]; exact List.getElem?_eq_getElem hj, by simp only [Inj.ren, hg]; exact q2, q3.ren hf hs⟩
  · rename_i l cs n
    obtain ⟨h2, h3⟩ := h
    have h2 := Nat.eq_of_beq_eq_true h2
    subst h2
    intro j hj
    obtain ⟨y, hy, hs⟩ := sameRow_get h3 j l[j] (List.getElem?_eq_getElem hj)
    obtain ⟨y', v, q1, q2, q3⟩ := k j hj
    rw [Nat.zero_add] at hy
    rw [hy] at q1; cases q1
    exact ⟨l[j], v, by rw [T.get_row]; exact List.getElem?_eq_getElem hj, by simp only [Inj.ren, hg]; exact q2, q3.ren hf hs⟩
  · rename_i es es'
    obtain ⟨en, cl, k1, k2⟩ := k
    refine ⟨en, cl, by simp only [Inj.ren, hg]; exact k1, ?_⟩
    clear k1
    generalize en.toList = l at k2
    have go : ∀ {es es' : List (V × V)} {l : List MapEntry}, sameKv fs ρ es es' = true → All2 (fun kv e => VR ι kv.1 e.key ∧ VR ι kv.2 e.val) es' l → All2 (fun kv e => VR (ι.ren ρ) kv.1 e.key ∧ VR (ι.ren ρ) kv.2 e.val) es l := by
      intro es
      induction es with
      | nil =>
        intro es' l h k
        cases es' with
        | nil => cases k; exact .nil
        | cons a m => cases h
      | cons a m ih =>
        intro es' l h k
        cases es' with
        | nil => cases h
        | cons a' m' =>
          unfold sameKv at h
          simp only [Bool.and_eq_true] at h
          cases k with
          | cons k1 k2 => exact .cons ⟨sameV_ren hf h.1.1 k1.1, sameV_ren hf h.1.2 k1.2⟩ (ih h.2 k2)
    exact go h k2
  · rename_i vs vs'
    show All2 (VR (ι.ren ρ)) vs ((ι.ren ρ).caps b).toList
    simp only [Inj.ren, hg]
    exact sameVs_ren hf h k
theorem sameO_kind {x : OL} {o : O} (h : sameO fs ρ x o = true) : x.obj.real = o.real ∧ x.obj.ghostly = o.ghostly := by
  cases x <;> cases o <;> simp only [sameO, Bool.false_eq_true] at h <;> exact ⟨rfl, rfl⟩
theorem allNe_spec {b : Nat} : ∀ {l : List Nat}, allNe b l = true → ∀ c ∈ l, b ≠ c
  | c :: l, h, d, hd => by
    unfold allNe at h
    simp only [Bool.and_eq_true, Bool.not_eq_true'] at h
    rcases List.mem_cons.1 hd with rfl | hd
    · intro e; subst e; rw [beq_self] at h; exact absurd h.1 (by simp)
    · exact allNe_spec h.2 d hd
theorem nodupB_spec : ∀ {l : List Nat}, nodupB l = true → ∀ (i j c : Nat), l[i]? = some c → l[j]? = some c → i = j
  | [], _, i, j, c, h, _ => by simp at h
  | b :: l, h, i, j, c, hi, hj => by
    unfold nodupB at h
    simp only [Bool.and_eq_true] at h
    cases i with
    | zero =>
      simp at hi; subst hi
      cases j with
      | zero => rfl
      | succ j => exact absurd rfl (allNe_spec h.1 _ (List.mem_of_getElem? (by simpa using hj)))
    | succ i =>
      cases j with
      | zero => simp at hj; subst hj; exact absurd rfl (allNe_spec h.1 _ (List.mem_of_getElem? (by simpa using hi)))
      | succ j => rw [nodupB_spec h.2 i j c (by simpa using hi) (by simpa using hj)]
theorem slotsOk_mem {T1 : Sl} : ∀ {l : List (Nat × V)}, slotsOk fs ρ T1 l = true → ∀ k v, (k, v) ∈ l → ∃ y, T1.get k = some y ∧ sameV fs ρ v y = true
  | [], _, k, v, h => by cases h
  | p :: l, h, k, v, hm => by
    unfold slotsOk at h
    simp only [Bool.and_eq_true] at h
    rcases List.mem_cons.1 hm with rfl | hm
    · have h1 := h.1
      split at h1
      · rename_i y hy; exact ⟨y, hy, h1⟩
      · cases h1
    · exact slotsOk_mem h.2 k v hm
theorem blocksOk_get {h1 : H} : ∀ {l : List OL} {m : List Nat}, blocksOk fs ρ h1 l m = true → l.length = m.length ∧ ∀ (b : Nat) (x : OL), l[b]? = some x → ∃ c o, m[b]? = some c ∧ h1.get c = some o ∧ sameO fs ρ x o = true
  | [], [], _ => ⟨rfl, fun b x h => by simp at h⟩
  | [], _ :: _, h => by cases h
  | _ :: _, [], h => by cases h
  | o :: l, c :: m, h => by
    unfold blocksOk at h
    simp only [Bool.and_eq_true] at h
    obtain ⟨i1, i2⟩ := blocksOk_get h.2
    refine ⟨by simp [i1], fun b x hb => ?_⟩
    cases b with
    | zero =>
      simp at hb; subst hb
      have h1' := h.1
      split at h1'
      · rename_i y hy; exact ⟨c, y, rfl, hy, h1'⟩
      · cases h1'
    | succ b =>
      obtain ⟨c', o', q1, q2, q3⟩ := i2 b x (by simpa using hb)
      exact ⟨c', o', by simpa using q1, q2, q3⟩
end

/-! ### What is known at a point -/
/-- Blocks that were there: how many, which, from where on. -/
structure Rt where
  n : Nat
  blk : Nat → Nat
  sh : Nat → Nat
structure At (P : Program) (rt : Rt) (env : Nat → Int) (kn : Kn) (nt : Nat) (w0 : World) (T0 : Sl) (h : H) (ι : Inj) (a : Act) (w : World) : Prop where
  rel : Rel P ι T0 h nt a w
  env : ι.env = env
  kn : h.kn = kn
  size : w0.heap.size ≤ w.heap.size
  os : w.os = w0.os
  tape : w.tape = w0.tape
  output : w.output = w0.output
  own : ∀ c, c < w0.heap.size → ¬ Wr ι h c
  same : ∀ c, c < w0.heap.size → w.heap[c]? = w0.heap[c]?
  flat : h.floor = 0 ∧ h.hid = [] ∧ h.frz = []
  root : ∀ b, b < rt.n → ι.dom b ∧ ι.blk b = rt.blk b ∧ ι.sh b = rt.sh b
section
variable {P : Program} {rt : Rt} {env : Nat → Int} {kn : Kn} {nt : Nat} {w0 : World} {ι : Inj} {a : Act} {w : World}
theorem At.step {T0 T1 : Sl} {h h1 : H} (k : At P rt env kn nt w0 T0 h ι a w) {ι' : Inj} {a' : Act} {w' : World} (R : Rel P ι' T1 h1 nt a' w') (s : Step P ι h w ι' h1 w') : At P rt env kn nt w0 T1 h1 ι' a' w' :=
  ⟨R, s.ext.env.trans k.env, s.kn.trans k.kn, Nat.le_trans k.size s.size, s.os.trans k.os, s.tape.trans k.tape, s.output.trans k.output, fun c hc hw => k.own c hc (s.wr c (Nat.lt_of_lt_of_le hc k.size) hw),
    fun c hc => (s.fr c (Nat.lt_of_lt_of_le hc k.size) (k.own c hc)).trans (k.same c hc), ⟨s.floor.trans k.flat.1, s.hid.trans k.flat.2.1, s.frz.trans k.flat.2.2⟩,
    fun b hb => by
      obtain ⟨h1, h2, h3⟩ := k.root b hb
      exact ⟨s.ext.dom b h1, (s.ext.at_ b h1).blk.trans h2, (s.ext.at_ b h1).sh.trans h3⟩⟩
theorem At.point {T1 : Sl} {h1 : H} (k : At P rt env kn nt w0 T1 h1 ι a w) {q : Pt} {ρ : List Nat} (hq : asPt rt.n q ρ T1 h1 = true) : At P rt env kn nt w0 q.tt (q.hh kn) (ι.ren ρ) a w := by
  unfold asPt at hq
  simp only [Bool.and_eq_true] at hq
  obtain ⟨⟨⟨hrt, hn⟩, hs⟩, hb⟩ := hq
  have hf : FactsOk ι.env h1.kn.facts := k.rel.hr.kn.facts
  obtain ⟨hl, hb⟩ := blocksOk_get hb
  have get : ∀ b o, (q.hh kn).get b = some o → ∃ c o1, ρ[b]? = some c ∧ h1.get c = some o1 ∧ ORel P (ι.ren ρ) b w o ∧ o.real = o1.real ∧ o.ghostly = o1.ghostly := fun b o hg => by
    obtain ⟨x, hx, rfl⟩ := Pt.hh_get hg
    obtain ⟨c, o1, e1, e2, e3⟩ := hb b x hx
    obtain ⟨e4, e5⟩ := sameO_kind e3
    exact ⟨c, o1, e1, e2, sameO_ren hf e1 e3 (k.rel.hr.obj c o1 e2).2, e4, e5⟩
  have hr : HR P (ι.ren ρ) (q.hh kn) w := by
    refine ⟨fun b ⟨c, hc, _⟩ => ?_, fun b o hg => ?_, fun b b' o o' hg hg' hre hgh hne => ?_, fun _ _ => rfl, fun b o hg hgh => ?_, fun _ _ => rfl, ?_⟩
    · show b < q.bl.length
      rw [hl]; exact (List.getElem?_eq_some_iff.1 hc).1
    · obtain ⟨c, o1, e1, e2, e3, _⟩ := get b o hg
      exact ⟨⟨c, e1, (k.rel.hr.obj c o1 e2).1⟩, e3⟩
    · obtain ⟨c, o1, e1, e2, _, e4, _⟩ := get b o hg
      obtain ⟨c', o1', e1', e2', _, _, e5'⟩ := get b' o' hg'
      simp only [Inj.ren, getD_of e1, getD_of e1']
      exact k.rel.hr.inj c c' o1 o1' e2 e2' (by rw [← e4]; exact hre) (by rw [← e5']; exact hgh) fun e => hne (nodupB_spec hn b b' c e1 (by rw [e]; exact e1'))
    · obtain ⟨c, o1, e1, e2, _, _, e5⟩ := get b o hg
      simp only [Inj.ren, getD_of e1]
      exact k.rel.hr.lt c o1 e2 (by rw [← e5]; exact hgh)
    · show KnOk P ι.env kn
      rw [← k.kn]; exact k.rel.hr.kn
  refine ⟨⟨hr, fun t x hx => ?_, k.rel.defers, k.rel.size⟩, k.env, rfl, k.size, k.os, k.tape, k.output, fun c hc ⟨b, o, hg, hre, _, e⟩ => ?_, k.same, ⟨rfl, rfl, rfl⟩, fun b hb => by
    have e := rootsB_spec hrt b hb
    obtain ⟨h1, h2, h3⟩ := k.root b hb
    exact ⟨⟨b, e, h1⟩, by simp only [Inj.ren, getD_of e]; exact h2, by simp only [Inj.ren, getD_of e]; exact h3⟩⟩
  · obtain ⟨y, hy, hv⟩ := slotsOk_mem hs t x (Pt.tt_get hx)
    exact sameV_ren hf hv (k.rel.tr t y hy)
  · obtain ⟨c', o1, e1, e2, _, e4, _⟩ := get b o hg
    simp only [Inj.ren, getD_of e1] at e
    exact k.own c hc ⟨c', o1, e2, by rw [← e4]; exact hre, ⟨by rw [k.flat.1]; exact Nat.zero_le _, by rw [k.flat.2.2]; rfl⟩, e⟩
/-- A piece of code, from one point to another one. -/
def Goes (P : Program) (rt : Rt) (env : Nat → Int) (kn : Kn) (nt : Nat) (w0 : World) (c : Code) (p : Pt) (e : Ex) (q : Pt) : Prop := ∀ (ι : Inj) (a : Act) (w : World) (Q : Exit → Act → World → Prop), At P rt env kn nt w0 p.tt (p.hh kn) ι a w →
  (∀ ι' a' w', At P rt env kn nt w0 q.tt (q.hh kn) ι' a' w' → Q e.out a' w') → c.wp P Q a w
/-- In a loop, at the begin of a round. -/
def Rounds (P : Program) (rt : Rt) (env : Nat → Int) (kn : Kn) (nt : Nat) (w0 : World) (body : Code) (p : Pt) (e : Ex) (q : Pt) : Prop := ∀ (ι : Inj) (a : Act) (w : World) (Q : Exit → Act → World → Prop), At P rt env kn nt w0 p.tt (p.hh kn) ι a w →
  (∀ ι' a' w', At P rt env kn nt w0 q.tt (q.hh kn) ι' a' w' → Q e.out a' w') → wpRound P body Q a w
theorem Goes.seq {c1 c2 : Code} {p q r : Pt} {e : Ex} (h1 : Goes P rt env kn nt w0 c1 p .normal q) (h2 : Goes P rt env kn nt w0 c2 q e r) : Goes P rt env kn nt w0 (.seq c1 c2) p e r := fun ι a w Q k K =>
  wp_seq (h1 ι a w _ k fun ι' a' w' k' => h2 ι' a' w' Q k' K)
theorem Goes.loop {body : Code} {p q : Pt} {e : Ex} (h : Rounds P rt env kn nt w0 body p e q) : Goes P rt env kn nt w0 (.loop body) p e q := fun ι a w Q k K => wp_loop_of (h ι a w Q k K)
theorem Goes.block {id : Nat} {body : Code} {p q : Pt} (h : Goes P rt env kn nt w0 body p (.exit id) q) : Goes P rt env kn nt w0 (.block id body) p .normal q := fun ι a w Q k K =>
  wp_block (h ι a w _ k fun ι' a' w' k' => by
    show Exit.inBlock id Q (.exit id) a' w'
    simp only [Exit.inBlock, if_true]
    exact K ι' a' w' k')
theorem Rounds.last {body : Code} {id : Nat} {p q : Pt} (h : Goes P rt env kn nt w0 body p (.exit id) q) : Rounds P rt env kn nt w0 body p (.exit id) q := fun ι a w Q k K =>
  wpRound_of (h ι a w _ k fun ι' a' w' k' => K ι' a' w' k')
theorem Rounds.cons {body : Code} {p q r : Pt} {e : Ex} (h : Goes P rt env kn nt w0 body p .normal q) (h2 : Rounds P rt env kn nt w0 body q e r) : Rounds P rt env kn nt w0 body p e r := fun ι a w Q k K =>
  wpRound_of (h ι a w _ k fun ι' a' w' k' => h2 ι' a' w' Q k' K)
/-- What is known ahead may be another thing from piece to piece. -/
theorem At.know {T0 : Sl} {p : Pt} (k : At P rt env kn nt w0 T0 (p.hh kn) ι a w) {kn' : Kn} (hk : KnOk P env kn') : At P rt env kn' nt w0 T0 (p.hh kn') ι a w := by
  have hr := k.rel.hr
  refine ⟨⟨⟨hr.dom, fun b o hg => hr.obj b o hg, fun b b' o o' hg hg' => hr.inj b b' o o' hg hg', hr.hid, fun b o hg => hr.lt b o hg, hr.frz, by rw [k.env]; exact hk⟩, k.rel.tr, k.rel.defers, k.rel.size⟩, k.env, rfl, k.size, k.os, k.tape, k.output, fun c hc hw => k.own c hc hw, k.same, ⟨rfl, rfl, rfl⟩, k.root⟩
theorem Goes.know {c : Code} {p q : Pt} {e : Ex} (hk : KnOk P env kn) {kn' : Kn} (h : Goes P rt env kn nt w0 c p e q) : Goes P rt env kn' nt w0 c p e q := fun ι a w Q k K => by
  have hk' : KnOk P env kn' := by have := k.rel.hr.kn; rw [k.env] at this; exact this
  exact h ι a w Q (k.know hk) fun ι' a' w' k' => K ι' a' w' (k'.know hk')
theorem slotsT_far {s : Nat} : ∀ (l : List (Nat × V)) {t t' : Sl}, (∀ k, k ≠ s → t.get k = t'.get k) → ∀ k, k ≠ s → (slotsT l t).get k = (slotsT l t').get k
  | [], _, _, h, k, hk => h k hk
  | p :: l, t, t', h, k, hk => slotsT_far l (fun j hj => by
      rw [Sl.get_set', Sl.get_set']
      by_cases e : j = p.1
      · rw [if_pos e, if_pos e]
      · rw [if_neg e, if_neg e]; exact h j hj) k hk
theorem slotsT_at {s : Nat} : ∀ (l : List (Nat × V)) {t : Sl}, (∀ p ∈ l, p.1 ≠ s) → (slotsT l t).get s = t.get s
  | [], _, _ => rfl
  | p :: l, t, h => by
    show (slotsT l (Sl.set t p.1 p.2)).get s = _
    rw [slotsT_at l fun q hq => h q (List.mem_cons_of_mem _ hq), Sl.get_set', if_neg (Ne.symm (h p List.mem_cons_self))]
/-- Of a slice that came in other elements are told. -/
theorem At.widen {s m m' : Nat} {e : Lin} {l l' : List S} {sl : List (Nat × V)} (k : At P rt env kn nt w0 (Pt.tt ⟨(s, .one (.slx 0 0 m e)) :: sl, [.ro l]⟩) (Pt.hh ⟨(s, .one (.slx 0 0 m e)) :: sl, [.ro l]⟩ kn) ι a w) (hs : ∀ p ∈ sl, p.1 ≠ s) (hm : (m' : Int) ≤ e.eval env) (h1 : 1 ≤ rt.n) (hb : rt.blk 0 < w0.heap.size)
    (hl : ∀ (j : Nat) (x : S), l'[j]? = some x → ∃ v, w0.cell? ⟨rt.blk 0, rt.sh 0 + j, none⟩ = some v ∧ ∀ ι : Inj, ι.env = env → SR ι x v) : At P rt env kn nt w0 (Pt.tt ⟨(s, .one (.slx 0 0 m' e)) :: sl, [.ro l']⟩) (Pt.hh ⟨(s, .one (.slx 0 0 m' e)) :: sl, [.ro l']⟩ kn) ι a w := by
  have hr := k.rel.hr
  obtain ⟨r1, r2, r3⟩ := k.root 0 h1
  have get : ∀ b o, (Pt.hh ⟨(s, .one (.slx 0 0 m' e)) :: sl, [.ro l']⟩ kn).get b = some o → b = 0 ∧ o = .ro (T.setMany .e 0 l') l'.length := fun b o hg => by
    obtain ⟨x, hx, rfl⟩ := Pt.hh_get hg
    cases b with
    | zero => simp at hx; subst hx; exact ⟨rfl, rfl⟩
    | succ b => simp at hx
  refine ⟨⟨⟨hr.dom, fun b o hg => ?_, fun b b' o o' hg hg' hre => ?_, hr.hid, fun b o hg hgh => ?_, hr.frz, hr.kn⟩, fun t x hx => ?_, k.rel.defers, k.rel.size⟩, k.env, rfl, k.size, k.os, k.tape, k.output, fun c hc ⟨b, o, hg, hre, _⟩ => ?_, k.same, ⟨rfl, rfl, rfl⟩, k.root⟩
  · obtain ⟨rfl, rfl⟩ := get b o hg
    refine ⟨r1, fun j hj => ?_⟩
    obtain ⟨v, c1, c2⟩ := hl j l'[j] (List.getElem?_eq_getElem hj)
    refine ⟨l'[j], v, by rw [T.get_row]; exact List.getElem?_eq_getElem hj, ?_, c2 ι k.env⟩
    rw [r2, r3]
    have hsame := k.same (rt.blk 0) hb
    unfold World.cell? at c1 ⊢
    rw [hsame]; exact c1
  · obtain ⟨rfl, rfl⟩ := get b o hg
    simp [O.real] at hre
  · obtain ⟨rfl, rfl⟩ := get b o hg
    rw [r2]; exact Nat.lt_of_lt_of_le hb k.size
  · by_cases et : t = s
    · subst et
      have hx' : (slotsT sl (Sl.set Sl.new t (.one (.slx 0 0 m' e)))).get t = some x := hx
      rw [slotsT_at sl hs, Sl.get_set', if_pos rfl] at hx'
      cases hx'
      have h0 : (Pt.tt ⟨(t, .one (.slx 0 0 m e)) :: sl, [.ro l]⟩).get t = some (.one (.slx 0 0 m e)) := by
        show (slotsT sl (Sl.set Sl.new t (.one (.slx 0 0 m e)))).get t = _
        rw [slotsT_at sl hs, Sl.get_set', if_pos rfl]
      obtain ⟨q1, q2, ad, c, n, q3, q4, q5, q6, q7, q8⟩ := k.rel.tr t _ h0
      refine ⟨q1, q2, ad, c, n, q3, q4, q5, q6, q7, ?_⟩
      rw [k.env] at q7
      omega
    · refine k.rel.tr t x ?_
      show (slotsT sl (Sl.set Sl.new s (.one (.slx 0 0 m e)))).get t = some x
      rw [← hx]
      exact slotsT_far sl (fun j hj => by rw [Sl.get_set', Sl.get_set', if_neg hj, if_neg hj]) t et
  · obtain ⟨rfl, rfl⟩ := get b o hg
    simp [O.real] at hre
/-- A point that is known, seen by the kernel to be another one. -/
theorem At.see {p q : Pt} {ρ : List Nat} (k : At P rt env kn nt w0 p.tt (p.hh kn) ι a w) (hx : (p.run kn fun T0 h => asPt rt.n q ρ T0 h) = true) : At P rt env kn nt w0 q.tt (q.hh kn) (ι.ren ρ) a w := by
  rw [Pt.run_eq] at hx
  exact k.point hx
/-- Of the slice that came in (its length E) other elements are told, wherever it stands. -/
def widS (E : Lin) (m : Nat) : S → S
  | .slx 0 o m0 e => cond (linEq e E) (.slx 0 o m e) (.slx 0 o m0 e)
  | x => x
def widSs (E : Lin) (m : Nat) : List S → List S
  | [] => []
  | x :: l => widS E m x :: widSs E m l
def widV (E : Lin) (m : Nat) : V → V
  | .one x => .one (widS E m x)
  | .agg l => .agg (widSs E m l)
  | .tup l => .tup l
def widO (E : Lin) (m : Nat) : OL → OL
  | .cells e l => .cells e (widSs E m l)
  | x => x
def widSl (E : Lin) (m : Nat) : List (Nat × V) → List (Nat × V)
  | [] => []
  | p :: l => (p.1, widV E m p.2) :: widSl E m l
def widBl (E : Lin) (m : Nat) : List OL → List OL
  | [] => []
  | x :: l => widO E m x :: widBl E m l
/-- The point, its first block the row l, of which m elements are told. -/
def wid (E : Lin) (m : Nat) (l : List S) (p : Pt) : Pt := ⟨widSl E m p.sl, .ro l :: widBl E m p.bl⟩
theorem widS_rel {E : Lin} {m m' : Nat} (hm : (m' : Int) ≤ E.eval ι.env) {x : S} {v : Value} (h : SR ι (widS E m x) v) : SR ι (widS E m' x) v := by
  unfold widS at h ⊢
  split at h
  · rename_i o m0 e
    cases hl : linEq e E with
    | false => rw [hl] at h; exact h
    | true =>
      rw [hl] at h
      show SR ι (.slx 0 o m' e) v
      replace h : SR ι (.slx 0 o m e) v := h
      have := linEq_spec hl
      subst this
      obtain ⟨q1, q2, ad, c, n, q3, q4, q5, q6, q7, q8⟩ := h
      exact ⟨q1, q2, ad, c, n, q3, q4, q5, q6, q7, by omega⟩
  · exact h
theorem widSs_rel {E : Lin} {m m' : Nat} (hm : (m' : Int) ≤ E.eval ι.env) : ∀ {l : List S} {vs : List Value}, All2 (SR ι) (widSs E m l) vs → All2 (SR ι) (widSs E m' l) vs
  | [], _, h => h
  | x :: l, _, h => by
    cases h with
    | cons h1 h2 => exact .cons (widS_rel hm h1) (widSs_rel hm h2)
theorem widV_rel {E : Lin} {m m' : Nat} (hm : (m' : Int) ≤ E.eval ι.env) {x : V} {v : Value} (h : VR ι (widV E m x) v) : VR ι (widV E m' x) v := by
  cases x with
  | one x => exact widS_rel hm h
  | agg l => obtain ⟨cs, e, h⟩ := h; exact ⟨cs, e, widSs_rel hm h⟩
  | tup l => exact h
theorem widSs_get {E : Lin} {m : Nat} : ∀ (l : List S) (j : Nat), (widSs E m l)[j]? = (l[j]?).map (widS E m)
  | [], j => by simp [widSs]
  | x :: l, 0 => rfl
  | x :: l, j + 1 => by simp only [widSs, List.getElem?_cons_succ]; exact widSs_get l j
theorem widSs_length {E : Lin} {m : Nat} : ∀ (l : List S), (widSs E m l).length = l.length
  | [] => rfl
  | x :: l => by simp [widSs, widSs_length l]
theorem widBl_get {E : Lin} {m : Nat} : ∀ (l : List OL) (j : Nat), (widBl E m l)[j]? = (l[j]?).map (widO E m)
  | [], j => by simp [widBl]
  | x :: l, 0 => rfl
  | x :: l, j + 1 => by simp only [widBl, List.getElem?_cons_succ]; exact widBl_get l j
theorem widBl_length {E : Lin} {m : Nat} : ∀ (l : List OL), (widBl E m l).length = l.length
  | [] => rfl
  | x :: l => by simp [widBl, widBl_length l]
theorem widO_rel {E : Lin} {m m' : Nat} (hm : (m' : Int) ≤ E.eval ι.env) {x : OL} {b : Nat} {w : World} (h : ORel P ι b w (widO E m x).obj) : ORel P ι b w (widO E m' x).obj := by
  cases x with
  | cells e l =>
    obtain ⟨c, h1, h2, h3, h4⟩ := h
    refine ⟨c, h1, h2, by rw [widSs_length] at h3 ⊢; exact h3, fun j hj => ?_⟩
    have hj' : j < (widSs E m l).length := by rw [widSs_length] at hj ⊢; exact hj
    obtain ⟨x, v, e1, e2, e3⟩ := h4 j hj'
    rw [T.get_row, widSs_get] at e1
    cases hl : l[j]? with
    | none => rw [hl] at e1; cases e1
    | some y =>
      rw [hl] at e1; cases e1
      exact ⟨widS E m' y, v, by rw [T.get_row, widSs_get, hl]; rfl, e2, widS_rel hm e3⟩
  | ro l => exact h
  | map es => exact h
  | ghost vs => exact h
theorem widO_kind {E : Lin} {m m' : Nat} (x : OL) : (widO E m x).obj.real = (widO E m' x).obj.real ∧ (widO E m x).obj.ghostly = (widO E m' x).obj.ghostly := by cases x <;> exact ⟨rfl, rfl⟩
theorem widSl_far {E : Lin} {m m' : Nat} (hm : (m' : Int) ≤ E.eval ι.env) : ∀ (l : List (Nat × V)) {t t' : Sl}, (∀ k x', t'.get k = some x' → ∃ x, t.get k = some x ∧ ∀ v, VR ι x v → VR ι x' v) → ∀ k x', (slotsT (widSl E m' l) t').get k = some x' → ∃ x, (slotsT (widSl E m l) t).get k = some x ∧ ∀ v, VR ι x v → VR ι x' v
  | [], _, _, h, k, x', hx => h k x' hx
  | p :: l, t, t', h, k, x', hx => widSl_far hm l (fun j y' hy => by
      rw [Sl.get_set'] at hy ⊢
      by_cases e : j = p.1
      · rw [if_pos e] at hy ⊢; cases hy; exact ⟨_, rfl, fun v hv => widV_rel hm hv⟩
      · rw [if_neg e] at hy ⊢; exact h j y' hy) k x' hx
theorem At.wid {E : Lin} {m m' : Nat} {l l' : List S} {p : Pt} (k : At P rt env kn nt w0 (Pt.tt (wid E m l p)) (Pt.hh (wid E m l p) kn) ι a w) (hm : (m' : Int) ≤ E.eval env) (h1 : 1 ≤ rt.n) (hb : rt.blk 0 < w0.heap.size)
    (hl : ∀ (j : Nat) (x : S), l'[j]? = some x → ∃ v, w0.cell? ⟨rt.blk 0, rt.sh 0 + j, none⟩ = some v ∧ ∀ ι : Inj, ι.env = env → SR ι x v) : At P rt env kn nt w0 (Pt.tt (wid E m' l' p)) (Pt.hh (wid E m' l' p) kn) ι a w := by
  have hr := k.rel.hr
  have hm' : (m' : Int) ≤ E.eval ι.env := by rw [k.env]; exact hm
  obtain ⟨r1, r2, r3⟩ := k.root 0 h1
  have get : ∀ b o', (Pt.hh (Ai.wid E m' l' p) kn).get b = some o' → (b = 0 ∧ o' = .ro (T.setMany .e 0 l') l'.length) ∨ ∃ x, 0 < b ∧ o' = (widO E m' x).obj ∧ (Pt.hh (Ai.wid E m l p) kn).get b = some (widO E m x).obj := fun b o' hg => by
    obtain ⟨x, hx, rfl⟩ := Pt.hh_get hg
    cases b with
    | zero => simp [Ai.wid] at hx; subst hx; exact .inl ⟨rfl, rfl⟩
    | succ b =>
      simp only [Ai.wid, List.getElem?_cons_succ, widBl_get] at hx
      cases hp : p.bl[b]? with
      | none => rw [hp] at hx; cases hx
      | some y =>
        rw [hp] at hx; cases hx
        refine .inr ⟨y, Nat.succ_pos b, rfl, ?_⟩
        show (T.setMany .e 0 ((Ai.wid E m l p).bl.map OL.obj)).get (b + 1) = _
        rw [T.get_row, List.getElem?_map]
        simp only [Ai.wid, List.getElem?_cons_succ, widBl_get, hp, Option.map_some]
  have hnext : (Pt.hh (Ai.wid E m' l' p) kn).next = (Pt.hh (Ai.wid E m l p) kn).next := by
    show (Ai.wid E m' l' p).bl.length = (Ai.wid E m l p).bl.length
    simp [Ai.wid, widBl_length]
  refine ⟨⟨⟨fun b hb => by rw [hnext]; exact hr.dom b hb, fun b o hg => ?_, fun b b' o o' hg hg' hre hgh hne => ?_, fun _ _ => rfl, fun b o hg hgh => ?_, fun _ _ => rfl, hr.kn⟩, fun t x hx => ?_, k.rel.defers, k.rel.size⟩, k.env, rfl, k.size, k.os, k.tape, k.output, fun c hc ⟨b, o, hg, hre, hfl, e⟩ => ?_, k.same, ⟨rfl, rfl, rfl⟩, k.root⟩
  · rcases get b o hg with ⟨rfl, rfl⟩ | ⟨x, _, rfl, hg0⟩
    · refine ⟨r1, fun j hj => ?_⟩
      obtain ⟨v, c1, c2⟩ := hl j l'[j] (List.getElem?_eq_getElem hj)
      refine ⟨l'[j], v, by rw [T.get_row]; exact List.getElem?_eq_getElem hj, ?_, c2 ι k.env⟩
      rw [r2, r3]
      have hsame := k.same (rt.blk 0) hb
      unfold World.cell? at c1 ⊢
      rw [hsame]; exact c1
    · obtain ⟨q1, q2⟩ := hr.obj b _ hg0
      exact ⟨q1, widO_rel hm' q2⟩
  · rcases get b o hg with ⟨rfl, rfl⟩ | ⟨x, _, rfl, hg0⟩
    · simp [O.real] at hre
    · rcases get b' o' hg' with ⟨rfl, rfl⟩ | ⟨x', _, rfl, hg0'⟩
      · have hz : (Pt.hh (Ai.wid E m l p) kn).get 0 = some (.ro (T.setMany .e 0 l) l.length) := by
          show (T.setMany .e 0 ((Ai.wid E m l p).bl.map OL.obj)).get 0 = _
          rw [T.get_row]; rfl
        exact hr.inj b 0 _ _ hg0 hz (by rw [(widO_kind (E := E) (m := m) (m' := m') x).1]; exact hre) rfl hne
      · exact hr.inj b b' _ _ hg0 hg0' (by rw [(widO_kind (E := E) (m := m) (m' := m') x).1]; exact hre) (by rw [(widO_kind (E := E) (m := m) (m' := m') x').2]; exact hgh) hne
  · rcases get b o hg with ⟨rfl, rfl⟩ | ⟨x, _, rfl, hg0⟩
    · rw [r2]; exact Nat.lt_of_lt_of_le hb k.size
    · exact hr.lt b _ hg0 (by rw [(widO_kind (E := E) (m := m) (m' := m') x).2]; exact hgh)
  · obtain ⟨y, hy, hv⟩ := widSl_far (ι := ι) hm' p.sl (t := Sl.new) (t' := Sl.new) (fun k x' h => by rw [Sl.get_new] at h; cases h) t x hx
    exact hv _ (k.rel.tr t y hy)
  · rcases get b o hg with ⟨rfl, rfl⟩ | ⟨x, _, rfl, hg0⟩
    · simp [O.real] at hre
    · exact k.own c hc ⟨b, _, hg0, by rw [(widO_kind (E := E) (m := m) (m' := m') x).1]; exact hre, ⟨Nat.zero_le _, rfl⟩, e⟩
/-- So many rounds in one piece. -/
def repC (body : Code) : Nat → Code
  | 0 => .skip
  | n + 1 => .seq body (repC body n)
theorem rep_rounds {call : CallF} (hc : CallOk P call) (hd : DrawOk P call nt) (hnt : nt ≤ 1024) {body : Code} {Q : Exit → Act → World → Prop} : ∀ (m n : Nat) {T0 : Sl} {h : H} {T1 : Sl} {h1 : H} {ι : Inj} {a : Act} {w : World}, execC P call nt n (repC body m) none T0 h = some (.normal, T1, h1) → Rel P ι T0 h nt a w →
    (∀ ι' a' w', Rel P ι' T1 h1 nt a' w' → Step P ι h w ι' h1 w' → wpRound P body Q a' w') → wpRound P body Q a w
  | m, 0, _, _, _, _, _, _, _, hx, _, _ => by cases hx
  | 0, n + 1, T0, h, T1, h1, ι, a, w, hx, R, K => by
    have e : some (Ex.normal, T0, h) = some (.normal, T1, h1) := hx
    cases e
    exact K ι a w R (.refl R.hr)
  | m + 1, n + 1, T0, h, T1, h1, ι, a, w, hx, R, K => by
    have hx' : thenC (execC P call nt n (repC body m) none) (execC P call nt n body none T0 h) = some (.normal, T1, h1) := hx
    unfold thenC at hx'
    split at hx'
    · rename_i T2 h2 he
      exact wpRound_of ((execC_ok hnt hc hd n).1 body T0 h _ _ _ he ι a w _ R fun ι' a' w' R' hs =>
        rep_rounds hc hd hnt m n hx' R' fun ι2 a2 w2 R2 hs2 => K ι2 a2 w2 R2 (hs.trans hs2))
    · rename_i hne
      exact absurd hx' (hne _ _)
/-- Pieces one behind the other, ahead of the rest. -/
def seqL : List Code → Code → Code
  | [], x => x
  | c :: l, x => .seq c (seqL l x)
theorem prefix_wp {call : CallF} (hc : CallOk P call) (hd : DrawOk P call nt) (hnt : nt ≤ 1024) {x : Code} {Q : Exit → Act → World → Prop} : ∀ (l : List Code) (n : Nat) {T0 : Sl} {h : H} {T1 : Sl} {h1 : H} {ι : Inj} {a : Act} {w : World}, execC P call nt n (seqL l .skip) none T0 h = some (.normal, T1, h1) → Rel P ι T0 h nt a w →
    (∀ ι' a' w', Rel P ι' T1 h1 nt a' w' → Step P ι h w ι' h1 w' → x.wp P Q a' w') → (seqL l x).wp P Q a w
  | l, 0, _, _, _, _, _, _, _, hx, _, _ => by cases hx
  | [], n + 1, T0, h, T1, h1, ι, a, w, hx, R, K => by
    have e : some (Ex.normal, T0, h) = some (.normal, T1, h1) := hx
    cases e
    exact K ι a w R (.refl R.hr)
  | c :: l, n + 1, T0, h, T1, h1, ι, a, w, hx, R, K => by
    have hx' : thenC (execC P call nt n (seqL l .skip) none) (execC P call nt n c none T0 h) = some (.normal, T1, h1) := hx
    unfold thenC at hx'
    split at hx'
    · rename_i T2 h2 he
      exact wp_seq ((execC_ok hnt hc hd n).1 c T0 h _ _ _ he ι a w _ R fun ι' a' w' R' hs =>
        prefix_wp hc hd hnt l n hx' R' fun ι2 a2 w2 R2 hs2 => K ι2 a2 w2 R2 (hs.trans hs2))
    · rename_i hne
      exact absurd hx' (hne _ _)
theorem Goes.prefix {call : CallF} (hc : CallOk P call) (hd : DrawOk P call nt) (hnt : nt ≤ 1024) {n : Nat} {l : List Code} {x : Code} {p q r : Pt} {e : Ex} {ρ : List Nat} (hx : (p.run kn fun T0 h => endsAt rt.n .normal q ρ (execF P call nt n (seqL l .skip) none T0 h)) = true) (h2 : Goes P rt env kn nt w0 x q e r) : Goes P rt env kn nt w0 (seqL l x) p e r := by
  rw [Pt.run_eq, execF_eq] at hx
  unfold endsAt at hx
  split at hx
  · rename_i e' T1 h1 he
    simp only [Bool.and_eq_true] at hx
    have := exEq_spec hx.1
    subst this
    exact fun ι a w Q k K => prefix_wp hc hd hnt l n he k.rel fun ι' a' w' R hs => h2 _ a' w' Q ((k.step R hs).point hx.2) K
  · cases hx
theorem At.pre {call : CallF} (hc : CallOk P call) (hd : DrawOk P call nt) (hnt : nt ≤ 1024) {n : Nat} {l : List Code} {x : Code} {p q : Pt} {ρ : List Nat} {Q : Exit → Act → World → Prop} (hx : (p.run kn fun T0 h => endsAt rt.n .normal q ρ (execF P call nt n (seqL l .skip) none T0 h)) = true) (k : At P rt env kn nt w0 p.tt (p.hh kn) ι a w)
    (K : ∀ ι' a' w', At P rt env kn nt w0 q.tt (q.hh kn) ι' a' w' → x.wp P Q a' w') : (seqL l x).wp P Q a w := by
  rw [Pt.run_eq, execF_eq] at hx
  unfold endsAt at hx
  split at hx
  · rename_i e' T1 h1 he
    simp only [Bool.and_eq_true] at hx
    have := exEq_spec hx.1
    subst this
    exact prefix_wp hc hd hnt l n he k.rel fun ι' a' w' R hs => K _ a' w' ((k.step R hs).point hx.2)
  · cases hx
/-- No roots any more. -/
theorem At.unroot {T0 : Sl} {h : H} (k : At P rt env kn nt w0 T0 h ι a w) {rt' : Rt} (hr : rt'.n = 0) : At P rt' env kn nt w0 T0 h ι a w :=
  ⟨k.rel, k.env, k.kn, k.size, k.os, k.tape, k.output, k.own, k.same, k.flat, fun b hb => by omega⟩
/-- A piece, seen by the kernel. -/
theorem Goes.seen {call : CallF} (hc : CallOk P call) (hd : DrawOk P call nt) (hnt : nt ≤ 1024) {n : Nat} {c : Code} {p q : Pt} {e : Ex} {ρ : List Nat} (hx : (p.run kn fun T0 h => endsAt rt.n e q ρ (execF P call nt n c none T0 h)) = true) : Goes P rt env kn nt w0 c p e q := by
  rw [Pt.run_eq, execF_eq] at hx
  unfold endsAt at hx
  split at hx
  · rename_i e' T1 h1 he
    simp only [Bool.and_eq_true] at hx
    have := exEq_spec hx.1
    subst this
    exact fun ι a w Q k K => (execC_ok hnt hc hd n).1 c _ _ _ _ _ he ι a w Q k.rel fun ι' a' w' R hs => K _ a' w' ((k.step R hs).point hx.2)
  · cases hx
theorem Rounds.seen {call : CallF} (hc : CallOk P call) (hd : DrawOk P call nt) (hnt : nt ≤ 1024) {m n : Nat} {body : Code} {p q r : Pt} {e : Ex} {ρ : List Nat} (hx : (p.run kn fun T0 h => endsAt rt.n .normal q ρ (execF P call nt n (repC body m) none T0 h)) = true) (h2 : Rounds P rt env kn nt w0 body q e r) : Rounds P rt env kn nt w0 body p e r := by
  rw [Pt.run_eq, execF_eq] at hx
  unfold endsAt at hx
  split at hx
  · rename_i e' T1 h1 he
    simp only [Bool.and_eq_true] at hx
    have := exEq_spec hx.1
    subst this
    exact fun ι a w Q k K => rep_rounds hc hd hnt m n he k.rel fun ι' a' w' R hs => h2 _ a' w' Q ((k.step R hs).point hx.2) K
  · cases hx
end

/-! ### A function's body in pieces -/
theorem runF_calls {P : Program} (hm : P.follows .mixedOrders = true) (hN : namesB P = true) (n : Nat) : CallOk P (runK P n) := by
  rw [runK_eq]; exact runF_sound hm (namesB_spec hN) n
theorem runF_draws {P : Program} (hm : P.follows .mixedOrders = true) (hN : namesB P = true) (n nt : Nat) (hnt : nt ≤ 1024) : DrawOk P (runK P n) nt := by
  rw [runK_eq]; exact draw_ok hm (runF_sound hm (namesB_spec hN) n) (runF_low n) hnt
/-- The slots in which a function begins. -/
def slotsFrom : Nat → List V → List (Nat × V)
  | _, [] => []
  | k, v :: l => (k, v) :: slotsFrom (k + 1) l
theorem slotsFrom_mem : ∀ {l : List V} {k0 k : Nat} {v : V}, (k, v) ∈ slotsFrom k0 l → k0 ≤ k ∧ l[k - k0]? = some v
  | [], _, _, _, h => by cases h
  | x :: l, k0, k, v, h => by
    rcases List.mem_cons.1 h with h | h
    · cases h; exact ⟨Nat.le_refl _, by simp⟩
    · obtain ⟨h1, h2⟩ := slotsFrom_mem h
      exact ⟨by omega, by rw [show k - k0 = (k - (k0 + 1)) + 1 by omega]; simpa using h2⟩
theorem calls_pieces2 {P : Program} {f : FuncId} {fn : Func} {c : Code} (hf : P.funcs[f]? = some fn) (hb : fn.body = some c) {args : List V} {cargs : List Value} {env : Nat → Int} {kn : Kn} (hk : KnOk P env kn) {rows : List (List S)} {blk sh : Nat → Nat} (w : World) (hr : RowsOk (Inj.rows env rows.length blk sh) w rows)
    (ha : All2 (VR (Inj.rows env rows.length blk sh)) args cargs) (hlen : args.length ≤ fn.ntmps) {e : Ex} {q : Pt} (he : e = .normal ∨ e = .ret) (hq : (match resultB P q.tt (q.hh kn) fn.results.toList with
      | some (.one (.b true)) => true
      | _ => false) = true) {rt : Rt} (hrt : rt.n ≤ rows.length ∧ rt.blk = blk ∧ rt.sh = sh) (hg : ∀ (ι : Inj) (a : Act) (w' : World) (Q : Exit → Act → World → Prop), At P rt env kn fn.ntmps w (Pt.tt ⟨slotsFrom 0 args, rows.map OL.ro⟩) (Pt.hh ⟨slotsFrom 0 args, rows.map OL.ro⟩ kn) ι a w' → (∀ ι' a' w'', At P ⟨0, rt.blk, rt.sh⟩ env kn fn.ntmps w q.tt (q.hh kn) ι' a' w'' → Q e.out a' w'') → c.wp P Q a w') : Calls P f cargs.toArray w fun e w' => e = .returned (.bool true) ∧ Below w.heap.size w w' := by
  have hl := ha.length
  refine calls_of_wp hf hb ?_
  have hsize : (cargs.toArray ++ Array.replicate (fn.ntmps - cargs.toArray.size) undef).size = fn.ntmps := by simp; omega
  have hH : Pt.hh ⟨slotsFrom 0 args, rows.map OL.ro⟩ kn = H.rows kn rows := by
    unfold Pt.hh H.rows
    simp only [List.map_map, List.length_map]
    rfl
  have R : Rel P (Inj.rows env rows.length blk sh) (Pt.tt ⟨slotsFrom 0 args, rows.map OL.ro⟩) (Pt.hh ⟨slotsFrom 0 args, rows.map OL.ro⟩ kn) fn.ntmps { tmps := cargs.toArray ++ Array.replicate (fn.ntmps - cargs.toArray.size) undef, defers := [] } w := by
    refine ⟨by rw [hH]; exact HR.rows hk hr, ?_, rfl, hsize⟩
    intro t x hx
    obtain ⟨_, h2⟩ := slotsFrom_mem (Pt.tt_get hx)
    obtain ⟨u, hu, hv⟩ := ha.get t x (by simpa using h2)
    have hlt : t < cargs.length := (List.getElem?_eq_some_iff.1 hu).1
    rw [Array.getD_eq_getD_getElem?, Array.getElem?_append_left (by simpa using hlt)]
    simp [hu]
    exact hv
  have A : At P rt env kn fn.ntmps w (Pt.tt ⟨slotsFrom 0 args, rows.map OL.ro⟩) (Pt.hh ⟨slotsFrom 0 args, rows.map OL.ro⟩ kn) (Inj.rows env rows.length blk sh) { tmps := cargs.toArray ++ Array.replicate (fn.ntmps - cargs.toArray.size) undef, defers := [] } w :=
    ⟨R, rfl, rfl, Nat.le_refl _, rfl, rfl, rfl, fun c _ => by rw [hH]; exact Wr.rows c, fun _ _ => rfl, ⟨rfl, rfl, rfl⟩, fun b hb => ⟨Nat.lt_of_lt_of_le hb hrt.1, by rw [hrt.2.1]; rfl, by rw [hrt.2.2]; rfl⟩⟩
  refine hg _ _ w _ A fun ι' a' w' k => ?_
  split at hq
  · rename_i hres
    obtain ⟨u, hu, hv⟩ := resultB_rel (fn := fn) k.rel.hr k.rel.tr hres
    have hv : u = .bool true := hv
    subst hv
    have hB : Below w.heap.size w w' := ⟨k.os, k.tape, k.output, k.size, k.same⟩
    rcases he with rfl | rfl
    · exact ⟨k.rel.defers, _, hu, rfl, hB⟩
    · exact ⟨k.rel.defers, _, hu, rfl, hB⟩
  · cases hq

theorem calls_pieces {P : Program} {f : FuncId} {fn : Func} {c : Code} (hf : P.funcs[f]? = some fn) (hb : fn.body = some c) {args : List V} {cargs : List Value} {env : Nat → Int} {kn : Kn} (hk : KnOk P env kn) {rows : List (List S)} {blk sh : Nat → Nat} (w : World) (hr : RowsOk (Inj.rows env rows.length blk sh) w rows)
    (ha : All2 (VR (Inj.rows env rows.length blk sh)) args cargs) (hlen : args.length ≤ fn.ntmps) {e : Ex} {q : Pt} (he : e = .normal ∨ e = .ret) (hq : (match resultB P q.tt (q.hh kn) fn.results.toList with
      | some (.one (.b true)) => true
      | _ => false) = true) {rt : Rt} (hrt : rt.n ≤ rows.length ∧ rt.blk = blk ∧ rt.sh = sh) (hg : Goes P rt env kn fn.ntmps w c ⟨slotsFrom 0 args, rows.map OL.ro⟩ e q) : Calls P f cargs.toArray w fun e w' => e = .returned (.bool true) ∧ Below w.heap.size w w' := by
  have hl := ha.length
  refine calls_of_wp hf hb ?_
  have hsize : (cargs.toArray ++ Array.replicate (fn.ntmps - cargs.toArray.size) undef).size = fn.ntmps := by simp; omega
  have hH : Pt.hh ⟨slotsFrom 0 args, rows.map OL.ro⟩ kn = H.rows kn rows := by
    unfold Pt.hh H.rows
    simp only [List.map_map, List.length_map]
    rfl
  have R : Rel P (Inj.rows env rows.length blk sh) (Pt.tt ⟨slotsFrom 0 args, rows.map OL.ro⟩) (Pt.hh ⟨slotsFrom 0 args, rows.map OL.ro⟩ kn) fn.ntmps { tmps := cargs.toArray ++ Array.replicate (fn.ntmps - cargs.toArray.size) undef, defers := [] } w := by
    refine ⟨by rw [hH]; exact HR.rows hk hr, ?_, rfl, hsize⟩
    intro t x hx
    obtain ⟨_, h2⟩ := slotsFrom_mem (Pt.tt_get hx)
    obtain ⟨u, hu, hv⟩ := ha.get t x (by simpa using h2)
    have hlt : t < cargs.length := (List.getElem?_eq_some_iff.1 hu).1
    rw [Array.getD_eq_getD_getElem?, Array.getElem?_append_left (by simpa using hlt)]
    simp [hu]
    exact hv
  have A : At P rt env kn fn.ntmps w (Pt.tt ⟨slotsFrom 0 args, rows.map OL.ro⟩) (Pt.hh ⟨slotsFrom 0 args, rows.map OL.ro⟩ kn) (Inj.rows env rows.length blk sh) { tmps := cargs.toArray ++ Array.replicate (fn.ntmps - cargs.toArray.size) undef, defers := [] } w :=
    ⟨R, rfl, rfl, Nat.le_refl _, rfl, rfl, rfl, fun c _ => by rw [hH]; exact Wr.rows c, fun _ _ => rfl, ⟨rfl, rfl, rfl⟩, fun b hb => ⟨Nat.lt_of_lt_of_le hb hrt.1, by rw [hrt.2.1]; rfl, by rw [hrt.2.2]; rfl⟩⟩
  refine hg _ _ w _ A fun ι' a' w' k => ?_
  split at hq
  · rename_i hres
    obtain ⟨u, hu, hv⟩ := resultB_rel (fn := fn) k.rel.hr k.rel.tr hres
    have hv : u = .bool true := hv
    subst hv
    have hB : Below w.heap.size w w' := ⟨k.os, k.tape, k.output, k.size, k.same⟩
    rcases he with rfl | rfl
    · exact ⟨k.rel.defers, _, hu, rfl, hB⟩
    · exact ⟨k.rel.defers, _, hu, rfl, hB⟩
  · cases hq

/-! ### Pieces of code -/
def fstC : Code → Code
  | .seq a _ => a
  | c => c
def sndC : Code → Code
  | .seq _ b => b
  | c => c
def inC : Code → Code
  | .block _ b => b
  | .loop b => b
  | .scope b => b
  | c => c
def fnAt (P : Program) (f : FuncId) : Func := (P.funcs[f]?).getD default
def bodyAt (P : Program) (f : FuncId) : Code := ((fnAt P f).body).getD .skip
end Go.Ai
