/- CheckFirst's walk: at any two numbers the law's call returns true: by their last bits, and the reckoned types. -/
import Derived.Test.YtnlnmbnopdklhaaObs
import Derived.Test.YtnlnmbnopdklhaaTypF
import Derived.Test.YtnlnmbnopdklhaaTypG
namespace Go.Proofs.Ytnlnmbnopdklhaa.Ev
open Go.RowKit
set_option maxRecDepth 1000000
def firstT : List (List Nat × Int × Int) := typL_all ++ (typF_all ++ typG_all)
theorem firstT_ok : ∀ x ∈ firstT, Typed x.1 x.2.1 x.2.2 := by
  intro x hx
  rcases List.mem_append.1 hx with h | h
  · exact typL_ok x h
  · rcases List.mem_append.1 h with h | h
    · exact typF_ok x h
    · exact typG_ok x h
noncomputable def firstTab (q r : Int) : Tab := tab.knows (obT [(0, 1, q), (1, 7, r)]) (fun _ _ => none) (orc firstT)
theorem firstTab_ok {a b q r : Int} (h : a % 2 = q) (h' : b % 8 = r) : TabOK Try.prog (firstTab q r) (injOf [.int .i64 a, .int .i64 b]) :=
  tab_knows (tab_is _) (obT_ok (fun x hx => by
    simp only [List.mem_cons, List.not_mem_nil, or_false] at hx
    rcases hx with rfl | rfl
    · exact ⟨a, 1, by decide, rfl, rfl, h.symm⟩
    · exact ⟨b, 3, by decide, rfl, rfl, h'.symm⟩)) (fun _ _ _ h => by cases h) (orc_ok firstT_ok)
theorem first_ev00 : gives (callA (firstTab 0 0) 3000 6 [.opq 0, .opq 1] ⟨2, .leaf⟩) (.bool true) = true := by kernel_rfl
theorem first_ev01 : gives (callA (firstTab 0 1) 3000 6 [.opq 0, .opq 1] ⟨2, .leaf⟩) (.bool true) = true := by kernel_rfl
theorem first_ev02 : gives (callA (firstTab 0 2) 3000 6 [.opq 0, .opq 1] ⟨2, .leaf⟩) (.bool true) = true := by kernel_rfl
theorem first_ev03 : gives (callA (firstTab 0 3) 3000 6 [.opq 0, .opq 1] ⟨2, .leaf⟩) (.bool true) = true := by kernel_rfl
theorem first_ev04 : gives (callA (firstTab 0 4) 3000 6 [.opq 0, .opq 1] ⟨2, .leaf⟩) (.bool true) = true := by kernel_rfl
theorem first_ev05 : gives (callA (firstTab 0 5) 3000 6 [.opq 0, .opq 1] ⟨2, .leaf⟩) (.bool true) = true := by kernel_rfl
theorem first_ev06 : gives (callA (firstTab 0 6) 3000 6 [.opq 0, .opq 1] ⟨2, .leaf⟩) (.bool true) = true := by kernel_rfl
theorem first_ev07 : gives (callA (firstTab 0 7) 3000 6 [.opq 0, .opq 1] ⟨2, .leaf⟩) (.bool true) = true := by kernel_rfl
theorem first_ev10 : gives (callA (firstTab 1 0) 3000 6 [.opq 0, .opq 1] ⟨2, .leaf⟩) (.bool true) = true := by kernel_rfl
theorem first_ev11 : gives (callA (firstTab 1 1) 3000 6 [.opq 0, .opq 1] ⟨2, .leaf⟩) (.bool true) = true := by kernel_rfl
theorem first_ev12 : gives (callA (firstTab 1 2) 3000 6 [.opq 0, .opq 1] ⟨2, .leaf⟩) (.bool true) = true := by kernel_rfl
theorem first_ev13 : gives (callA (firstTab 1 3) 3000 6 [.opq 0, .opq 1] ⟨2, .leaf⟩) (.bool true) = true := by kernel_rfl
theorem first_ev14 : gives (callA (firstTab 1 4) 3000 6 [.opq 0, .opq 1] ⟨2, .leaf⟩) (.bool true) = true := by kernel_rfl
theorem first_ev15 : gives (callA (firstTab 1 5) 3000 6 [.opq 0, .opq 1] ⟨2, .leaf⟩) (.bool true) = true := by kernel_rfl
theorem first_ev16 : gives (callA (firstTab 1 6) 3000 6 [.opq 0, .opq 1] ⟨2, .leaf⟩) (.bool true) = true := by kernel_rfl
theorem first_ev17 : gives (callA (firstTab 1 7) 3000 6 [.opq 0, .opq 1] ⟨2, .leaf⟩) (.bool true) = true := by kernel_rfl
theorem first_walk (a b : Int) (w : World) : Calls Try.prog 6 #[.int .i64 a, .int .i64 b] w fun e w' => e = .returned (.bool true) ∧ Below w.heap.size w w' := by
  have hl : LRel (injOf [.int .i64 a, .int .i64 b]) [.opq 0, .opq 1] (#[.int .i64 a, .int .i64 b] : Array Value).toList := .cons (opq_mk rfl rfl) (.cons (opq_mk rfl rfl) (.nil _))
  have hq : a % 2 = 0 ∨ a % 2 = 1 := by omega
  have hr : b % 8 = 0 ∨ b % 8 = 1 ∨ b % 8 = 2 ∨ b % 8 = 3 ∨ b % 8 = 4 ∨ b % 8 = 5 ∨ b % 8 = 6 ∨ b % 8 = 7 := by omega
  rcases hq with g | g
  · rcases hr with h | h | h | h | h | h | h | h
    · exact plain_call (l := [.int .i64 a, .int .i64 b]) (v := .bool true) (firstTab_ok g h) rfl first_ev00 hl w
    · exact plain_call (l := [.int .i64 a, .int .i64 b]) (v := .bool true) (firstTab_ok g h) rfl first_ev01 hl w
    · exact plain_call (l := [.int .i64 a, .int .i64 b]) (v := .bool true) (firstTab_ok g h) rfl first_ev02 hl w
    · exact plain_call (l := [.int .i64 a, .int .i64 b]) (v := .bool true) (firstTab_ok g h) rfl first_ev03 hl w
    · exact plain_call (l := [.int .i64 a, .int .i64 b]) (v := .bool true) (firstTab_ok g h) rfl first_ev04 hl w
    · exact plain_call (l := [.int .i64 a, .int .i64 b]) (v := .bool true) (firstTab_ok g h) rfl first_ev05 hl w
    · exact plain_call (l := [.int .i64 a, .int .i64 b]) (v := .bool true) (firstTab_ok g h) rfl first_ev06 hl w
    · exact plain_call (l := [.int .i64 a, .int .i64 b]) (v := .bool true) (firstTab_ok g h) rfl first_ev07 hl w
  · rcases hr with h | h | h | h | h | h | h | h
    · exact plain_call (l := [.int .i64 a, .int .i64 b]) (v := .bool true) (firstTab_ok g h) rfl first_ev10 hl w
    · exact plain_call (l := [.int .i64 a, .int .i64 b]) (v := .bool true) (firstTab_ok g h) rfl first_ev11 hl w
    · exact plain_call (l := [.int .i64 a, .int .i64 b]) (v := .bool true) (firstTab_ok g h) rfl first_ev12 hl w
    · exact plain_call (l := [.int .i64 a, .int .i64 b]) (v := .bool true) (firstTab_ok g h) rfl first_ev13 hl w
    · exact plain_call (l := [.int .i64 a, .int .i64 b]) (v := .bool true) (firstTab_ok g h) rfl first_ev14 hl w
    · exact plain_call (l := [.int .i64 a, .int .i64 b]) (v := .bool true) (firstTab_ok g h) rfl first_ev15 hl w
    · exact plain_call (l := [.int .i64 a, .int .i64 b]) (v := .bool true) (firstTab_ok g h) rfl first_ev16 hl w
    · exact plain_call (l := [.int .i64 a, .int .i64 b]) (v := .bool true) (firstTab_ok g h) rfl first_ev17 hl w
end Go.Proofs.Ytnlnmbnopdklhaa.Ev
