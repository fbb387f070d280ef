import Derived.Test.YtekgngedamnmaaaGreatDoorAgE
import Derived.Test.YtekgngedamnmaaaGreatDoorAgO
namespace Go.Proofs.YtekgngedamnmaaaGreatDoor.L
open Go Go.Lift
theorem ok19 : FnOk Tryz.prog GW 19 ⟨s19, d19⟩ := c_fn_ok (tab := ⟨_, ksW⟩) mixed tab_nil Tryz.func19 k19
theorem ok107 : FnOk Tryz.prog GW 107 ⟨s107, d107⟩ := c_fn_ok (tab := ⟨_, ks0⟩) mixed (tab_cons ok14 tab_nil) Tryz.func107 k107
theorem ok57 : FnOk Tryz.prog GW 57 ⟨s57, d57⟩ := c_fn_ok (tab := ⟨_, ks0⟩) mixed (tab_cons ok107 tab_nil) Tryz.func57 k57
theorem ok138 : FnOk Tryz.prog GW 138 ⟨s138, d138⟩ := c_fn_ok (tab := ⟨_, ks0⟩) mixed tab_nil Tryz.func138 k138
theorem ok108 : FnOk Tryz.prog GW 108 ⟨s108, d108⟩ := c_fn_ok (tab := ⟨_, ks0⟩) mixed (tab_cons ok138 tab_nil) Tryz.func108 k108
theorem ok58 : FnOk Tryz.prog GW 58 ⟨s58, d58⟩ := c_fn_ok (tab := ⟨_, ks0⟩) mixed (tab_cons ok107 (tab_cons ok108 tab_nil)) Tryz.func58 k58
theorem ok59 : FnOk Tryz.prog GW 59 ⟨s59, d59⟩ := c_fn_ok (tab := ⟨_, ks0⟩) mixed (tab_cons ok58 tab_nil) Tryz.func59 k59
theorem ok60 : FnOk Tryz.prog GW 60 ⟨s60, d60⟩ := c_fn_ok (tab := ⟨_, ks0⟩) mixed (tab_cons ok107 tab_nil) Tryz.func60 k60
theorem ok20 : FnOk Tryz.prog GW 20 ⟨s20, d20⟩ := c_fn_ok (tab := ⟨_, ks0⟩) mixed (tab_cons ok52 (tab_cons ok57 (tab_cons ok16 (tab_cons ok58 (tab_cons ok17 (tab_cons ok59 (tab_cons ok13 (tab_cons ok60 tab_nil)))))))) Tryz.func20 k20
theorem ok61 : FnOk Tryz.prog GW 61 ⟨s61, d61⟩ := c_fn_ok (tab := ⟨_, ksW⟩) mixed tab_nil Tryz.func61 k61
theorem ok21 : FnOk Tryz.prog GW 21 ⟨s21, d21⟩ := c_fn_ok (tab := ⟨_, ksW⟩) mixed (tab_cons ok61 tab_nil) Tryz.func21 k21
theorem ok5 : FnOk Tryz.prog GW 5 ⟨s5, d5⟩ := c_fn_ok (tab := ⟨_, ksW⟩) mixed (tab_cons ok19 (tab_cons ok15 (tab_cons ok20 (tab_cons ok21 tab_nil)))) Tryz.func5 k5
end Go.Proofs.YtekgngedamnmaaaGreatDoor.L
