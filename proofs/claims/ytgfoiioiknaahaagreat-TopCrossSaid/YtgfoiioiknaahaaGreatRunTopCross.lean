/-
TopCross answers true: its pieces join.
-/
import Derived.Test.YtgfoiioiknaahaaGreatCrossRun0
import Derived.Test.YtgfoiioiknaahaaGreatCrossRun1
import Derived.Test.YtgfoiioiknaahaaGreatCrossRun2
import Derived.Test.YtgfoiioiknaahaaGreatCrossRun3
import Derived.Test.YtgfoiioiknaahaaGreatCrossRun4
import Derived.Test.YtgfoiioiknaahaaGreatCrossRun5
import Derived.Test.YtgfoiioiknaahaaGreatCrossRun6
import Derived.Test.YtgfoiioiknaahaaGreatCrossRun7
import Derived.Test.YtgfoiioiknaahaaGreatCrossRun8
import Derived.Test.YtgfoiioiknaahaaGreatCrossRun9
import Derived.Test.YtgfoiioiknaahaaGreatCrossRun10
import Derived.Test.YtgfoiioiknaahaaGreatCrossRun11
import Derived.Test.YtgfoiioiknaahaaGreatCrossRun12
set_option linter.unusedVariables false
set_option maxRecDepth 100000
namespace Go.Proofs.YtgfoiioiknaahaaGreat.TopCross
open Go.RowKit Go.Ai
theorem orders : Tryz.prog.follows .mixedOrders = true := by kernel_rfl
theorem names : namesB Tryz.prog = true := by kernel_rfl
section
variable {env : Nat → Int} {w : World}
theorem last {cd : Code} {p q : Pt} {e : Ex} {ρ : List Nat} (hx : (p.run Kn.none fun T0 h => endsAt 0 e q ρ (execF Tryz.prog (runK Tryz.prog 300) 165 300 cd none T0 h)) = true) : Goes Tryz.prog rt env Kn.none 165 w cd p e q :=
  Goes.seen (runF_calls orders names 300) (runF_draws orders names 300 165 (by omega)) (by omega) hx
theorem seen {l : List Code} {x : Code} {p q r : Pt} {e : Ex} {ρ : List Nat} (hx : (p.run Kn.none fun T0 h => endsAt 0 .normal q ρ (execF Tryz.prog (runK Tryz.prog 300) 165 300 (seqL l .skip) none T0 h)) = true) (h2 : Goes Tryz.prog rt env Kn.none 165 w x q e r) : Goes Tryz.prog rt env Kn.none 165 w (seqL l x) p e r :=
  Goes.prefix (runF_calls orders names 300) (runF_draws orders names 300 165 (by omega)) (by omega) hx h2
theorem goes : Goes Tryz.prog rt env Kn.none 165 w C pt0 .ret ptQ := by
  have hC : C = seqL [s0, s1, s2] (seqL [s3] (seqL [s4] (seqL [s5] (seqL [s6] (seqL [s7] (seqL [s8] (seqL [s9] (seqL [s10] (seqL [s11] (seqL [s12] (seqL [s13] (rest)))))))))))) := by kernel_rfl
  rw [hC]
  exact seen piece0 (seen piece1 (seen piece2 (seen piece3 (seen piece4 (seen piece5 (seen piece6 (seen piece7 (seen piece8 (seen piece9 (seen piece10 (seen piece11 (last piece12))))))))))))
end
theorem calls (w : World) (x0 x4 x6 : Int) (A1 A2 A3 A5 : Option Addr) (l1 c1 l2 c2 l3 c3 l5 c5 : Nat) : Calls Tryz.prog 5 #[.agg #[.int .i64 x0, .slice A1 l1 c1, .slice A2 l2 c2, .slice A3 l3 c3, .int .i64 x4, .slice A5 l5 c5, .int .i64 x6]] w fun e w' => e = .returned (.bool true) ∧ Below w.heap.size w w' := by
  have ha : All2 (VR (Inj.rows (fun _ => 0) ([] : List (List S)).length (fun _ => 0) fun _ => 0)) [V.agg [.any, .anysl, .anysl, .anysl, .any, .anysl, .any]] [.agg #[.int .i64 x0, .slice A1 l1 c1, .slice A2 l2 c2, .slice A3 l3 c3, .int .i64 x4, .slice A5 l5 c5, .int .i64 x6]] :=
    .cons ⟨_, rfl, .cons rfl (.cons ⟨_, _, _, rfl⟩ (.cons ⟨_, _, _, rfl⟩ (.cons ⟨_, _, _, rfl⟩ (.cons rfl (.cons ⟨_, _, _, rfl⟩ (.cons rfl .nil))))))⟩ .nil
  have hf : Tryz.prog.funcs[5]? = some (fnAt Tryz.prog 5) := by kernel_rfl
  have hb' : (fnAt Tryz.prog 5).body = some C := by kernel_rfl
  have hnt : (fnAt Tryz.prog 5).ntmps = 165 := by kernel_rfl
  exact calls_pieces hf hb' (Kn.none_ok Tryz.prog fun _ => 0) w (fun b xs hx => by simp at hx) ha (by rw [hnt]; decide) (e := .ret) (q := ptQ) (.inr rfl) (by kernel_rfl) (rt := rt) ⟨Nat.le_refl _, rfl, rfl⟩ (by rw [hnt]; exact goes)
end Go.Proofs.YtgfoiioiknaahaaGreat.TopCross
