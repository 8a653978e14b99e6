/- CheckParts' walk: at any number the law's call returns true: by the number's last three bits, and the reckoned types. -/
import Derived.Test.YtnlnmbnopdklhaaObs
import Derived.Test.YtnlnmbnopdklhaaTypP
import Derived.Test.YtnlnmbnopdklhaaTypQ
namespace Go.Proofs.Ytnlnmbnopdklhaa.Ev
open Go.RowKit
set_option maxRecDepth 1000000
def partsT : List (List Nat × Int × Int) := typL_all ++ (typP_all ++ typQ_all)
theorem partsT_ok : ∀ x ∈ partsT, Typed x.1 x.2.1 x.2.2 := by
  intro x hx
  rcases List.mem_append.1 hx with h | h
  · exact typL_ok x h
  · rcases List.mem_append.1 h with h | h
    · exact typP_ok x h
    · exact typQ_ok x h
noncomputable def partsTab (r : Int) : Tab := tab.knows (obT [(0, 7, r)]) (fun _ _ => none) (orc partsT)
theorem partsTab_ok {n r : Int} (h : n % 8 = r) : TabOK Try.prog (partsTab r) (injOf [.int .i64 n]) :=
  tab_knows (tab_is _) (obT_ok (fun x hx => by simp only [List.mem_cons, List.not_mem_nil, or_false] at hx; subst hx; exact ⟨n, 3, by decide, rfl, rfl, h.symm⟩)) (fun _ _ _ h => by cases h) (orc_ok partsT_ok)
theorem parts_ev0 : gives (callA (partsTab 0) 3000 5 [.opq 0] ⟨1, .leaf⟩) (.bool true) = true := by kernel_rfl
theorem parts_ev1 : gives (callA (partsTab 1) 3000 5 [.opq 0] ⟨1, .leaf⟩) (.bool true) = true := by kernel_rfl
theorem parts_ev2 : gives (callA (partsTab 2) 3000 5 [.opq 0] ⟨1, .leaf⟩) (.bool true) = true := by kernel_rfl
theorem parts_ev3 : gives (callA (partsTab 3) 3000 5 [.opq 0] ⟨1, .leaf⟩) (.bool true) = true := by kernel_rfl
theorem parts_ev4 : gives (callA (partsTab 4) 3000 5 [.opq 0] ⟨1, .leaf⟩) (.bool true) = true := by kernel_rfl
theorem parts_ev5 : gives (callA (partsTab 5) 3000 5 [.opq 0] ⟨1, .leaf⟩) (.bool true) = true := by kernel_rfl
theorem parts_ev6 : gives (callA (partsTab 6) 3000 5 [.opq 0] ⟨1, .leaf⟩) (.bool true) = true := by kernel_rfl
theorem parts_ev7 : gives (callA (partsTab 7) 3000 5 [.opq 0] ⟨1, .leaf⟩) (.bool true) = true := by kernel_rfl
theorem parts_walk (n : Int) (w : World) : Calls Try.prog 5 #[.int .i64 n] w fun e w' => e = .returned (.bool true) ∧ Below w.heap.size w w' := by
  have hl : LRel (injOf [.int .i64 n]) [.opq 0] (#[.int .i64 n] : Array Value).toList := .cons (opq_mk rfl rfl) (.nil _)
  have hr : n % 8 = 0 ∨ n % 8 = 1 ∨ n % 8 = 2 ∨ n % 8 = 3 ∨ n % 8 = 4 ∨ n % 8 = 5 ∨ n % 8 = 6 ∨ n % 8 = 7 := by omega
  rcases hr with h | h | h | h | h | h | h | h
  · exact plain_call (l := [.int .i64 n]) (v := .bool true) (partsTab_ok h) rfl parts_ev0 hl w
  · exact plain_call (l := [.int .i64 n]) (v := .bool true) (partsTab_ok h) rfl parts_ev1 hl w
  · exact plain_call (l := [.int .i64 n]) (v := .bool true) (partsTab_ok h) rfl parts_ev2 hl w
  · exact plain_call (l := [.int .i64 n]) (v := .bool true) (partsTab_ok h) rfl parts_ev3 hl w
  · exact plain_call (l := [.int .i64 n]) (v := .bool true) (partsTab_ok h) rfl parts_ev4 hl w
  · exact plain_call (l := [.int .i64 n]) (v := .bool true) (partsTab_ok h) rfl parts_ev5 hl w
  · exact plain_call (l := [.int .i64 n]) (v := .bool true) (partsTab_ok h) rfl parts_ev6 hl w
  · exact plain_call (l := [.int .i64 n]) (v := .bool true) (partsTab_ok h) rfl parts_ev7 hl w
end Go.Proofs.Ytnlnmbnopdklhaa.Ev
