import Derived.Test.YtjnnmgjpnbfhlaaGreatDoorCeK
namespace Go.Proofs.YtjnnmgjpnbfhlaaGreatDoor.L
open Go Go.Lift
theorem ok4 : FnOk Tryz.prog GW 4 ⟨s4, d4⟩ := c_fn_ok (tab := ⟨_, ks0⟩) mixed (tab_cons ok9 (tab_cons ok14 (tab_cons ok15 (tab_cons ok16 (tab_cons ok13 (tab_cons ok12 tab_nil)))))) Tryz.func4 k4
theorem ok8 : FnOk Tryz.prog GW 8 ⟨s8, d8⟩ := c_fn_ok (tab := ⟨_, ks0⟩) mixed (tab_cons ok9 (tab_cons ok24 (tab_cons ok7 (tab_cons ok5 (tab_cons ok10 (tab_cons ok6 (tab_cons ok16 tab_nil))))))) Tryz.func8 k8
theorem ok3 : FnOk Tryz.prog GW 3 ⟨s3, d3⟩ := c_fn_ok (tab := ⟨_, ks0⟩) mixed (tab_cons ok4 (tab_cons ok5 (tab_cons ok6 (tab_cons ok7 (tab_cons ok8 (tab_cons ok9 (tab_cons ok10 (tab_cons ok11 (tab_cons ok12 (tab_cons ok13 tab_nil)))))))))) Tryz.func3 k3
end Go.Proofs.YtjnnmgjpnbfhlaaGreatDoor.L
