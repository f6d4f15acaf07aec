/-
CacheTurns answers true: its pieces join.
-/
import Derived.Test.YtgilkmhpdcfliaaCacheTurnsRun0
import Derived.Test.YtgilkmhpdcfliaaCacheTurnsRun1
import Derived.Test.YtgilkmhpdcfliaaCacheTurnsRun2
import Derived.Test.YtgilkmhpdcfliaaCacheTurnsRun3
import Derived.Test.YtgilkmhpdcfliaaCacheTurnsRun4
import Derived.Test.YtgilkmhpdcfliaaCacheTurnsRun5
import Derived.Test.YtgilkmhpdcfliaaCacheTurnsRun6
import Derived.Test.YtgilkmhpdcfliaaCacheTurnsRun7
import Derived.Test.YtgilkmhpdcfliaaCacheTurnsRun8
set_option linter.unusedVariables false
set_option maxRecDepth 100000
namespace Go.Proofs.Ytgilkmhpdcfliaa.CacheTurns
open Go.RowKit Go.Ai
theorem orders : Try.prog.follows .mixedOrders = true := by kernel_rfl
theorem names : namesB Try.prog = true := by kernel_rfl
section
variable {env : Nat → Int} {w : World}
theorem seen {cd : Code} {p q : Pt} {e : Ex} {ρ : List Nat} (hx : (p.run Kn.none fun T0 h => endsAt 0 e q ρ (execF Try.prog (runK Try.prog 100) 158 100 cd none T0 h)) = true) : Goes Try.prog rt env Kn.none 158 w cd p e q :=
  Goes.seen (runF_calls orders names 100) (runF_draws orders names 100 158 (by omega)) (by omega) hx
theorem rseen {j : Nat} {body : Code} {p q r : Pt} {e : Ex} {ρ : List Nat} (hx : (p.run Kn.none fun T0 h => endsAt 0 .normal q ρ (execF Try.prog (runK Try.prog 100) 158 100 (repC body j) none T0 h)) = true) (h2 : Rounds Try.prog rt env Kn.none 158 w body q e r) : Rounds Try.prog rt env Kn.none 158 w body p e r :=
  Rounds.seen (runF_calls orders names 100) (runF_draws orders names 100 158 (by omega)) (by omega) hx h2
theorem rounds : Rounds Try.prog rt env Kn.none 158 w B pt0 (.exit 0) ptE :=
  rseen round1 (rseen round2 (rseen round3 (rseen round4 (rseen round5 (rseen round6 (rseen round7 ((Rounds.last (seen ends)))))))))
theorem goes : Goes Try.prog rt env Kn.none 158 w C start .ret ptQ := by
  have hC : C = .seq (fstC C) (.seq (fstC (sndC C)) (.seq (fstC (sndC (sndC C))) (.seq (fstC (sndC (sndC (sndC C)))) (.seq (fstC (sndC (sndC (sndC (sndC C))))) (.seq (fstC (sndC (sndC (sndC (sndC (sndC C)))))) (.seq (.seq (fstC (fstC (sndC (sndC (sndC (sndC (sndC (sndC C)))))))) (.block 0 (.loop B))) (sndC (sndC (sndC (sndC (sndC (sndC (sndC C))))))))))))) := by kernel_rfl
  rw [hC]
  exact Goes.seq (seen begin0) (Goes.seq (seen begin1) (Goes.seq (seen begin2) (Goes.seq (seen begin3) (Goes.seq (seen begin4) (Goes.seq (seen begin5) (Goes.seq (Goes.seq (seen begin6) (Goes.block (Goes.loop rounds))) (seen rest)))))))
end
theorem calls (w : World) (A0 A1 A2 : Option Addr) (l0 c0 l1 c1 l2 c2 : Nat) : Calls Try.prog 4 #[.agg #[.slice A0 l0 c0, .slice A1 l1 c1, .slice A2 l2 c2]] w fun e w' => e = .returned (.bool true) ∧ Below w.heap.size w w' := by
  have ha : All2 (VR (Inj.rows (fun _ => 0) ([] : List (List S)).length (fun _ => 0) fun _ => 0)) [V.agg [.anysl, .anysl, .anysl]] [.agg #[.slice A0 l0 c0, .slice A1 l1 c1, .slice A2 l2 c2]] :=
    .cons ⟨_, rfl, .cons ⟨_, _, _, rfl⟩ (.cons ⟨_, _, _, rfl⟩ (.cons ⟨_, _, _, rfl⟩ .nil))⟩ .nil
  have hf : Try.prog.funcs[4]? = some (fnAt Try.prog 4) := by kernel_rfl
  have hb' : (fnAt Try.prog 4).body = some C := by kernel_rfl
  have hnt : (fnAt Try.prog 4).ntmps = 158 := by kernel_rfl
  exact calls_pieces hf hb' (Kn.none_ok Try.prog fun _ => 0) w (fun b xs hx => by simp at hx) ha (by rw [hnt]; decide) (e := .ret) (q := ptQ) (.inr rfl) (by kernel_rfl) (rt := rt) ⟨Nat.le_refl _, rfl, rfl⟩ (by rw [hnt]; exact goes)
end Go.Proofs.Ytgilkmhpdcfliaa.CacheTurns
