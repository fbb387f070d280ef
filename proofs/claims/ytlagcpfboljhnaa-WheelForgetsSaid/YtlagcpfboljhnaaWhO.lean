import Derived.Test.YtlagcpfboljhnaaWhG
namespace Go.Proofs.Ytlagcpfboljhnaa.L
open Go Go.Lift
theorem mixed : Try.prog.follows .mixedOrders = true := by kernel_rfl
theorem ok18 : FnOk Try.prog GW 18 ⟨s18, d18⟩ := c_fn_ok (tab := ⟨_, ksN, [], [Ytlagcpfboljhnaa.L.slotPf]⟩) mixed tab_nil Try.func18 k18
theorem ok41 : FnOk Try.prog GW 41 ⟨s41, d41⟩ := c_fn_ok (tab := ⟨_, ks0, [], [Ytlagcpfboljhnaa.L.slotPf]⟩) mixed tab_nil Try.func41 k41
theorem ok42 : FnOk Try.prog GW 42 ⟨s42, d42⟩ := c_fn_ok (tab := ⟨_, ks0, [], [Ytlagcpfboljhnaa.L.slotPf]⟩) mixed tab_nil Try.func42 k42
theorem ok36 : FnOk Try.prog GW 36 ⟨s36, d36⟩ := c_fn_ok (tab := ⟨_, ks0, [], [Ytlagcpfboljhnaa.L.slotPf]⟩) mixed (tab_cons ok41 (tab_cons ok42 tab_nil)) Try.func36 k36
theorem ok26 : FnOk Try.prog GW 26 ⟨s26, d26⟩ := c_fn_ok (tab := ⟨_, ks0, [], [Ytlagcpfboljhnaa.L.slotPf]⟩) mixed tab_nil Try.func26 k26
theorem ok29 : FnOk Try.prog GW 29 ⟨s29, d29⟩ := c_fn_ok (tab := ⟨_, ks0, [], [Ytlagcpfboljhnaa.L.slotPf]⟩) mixed tab_nil Try.func29 k29
theorem ok17 : FnOk Try.prog GW 17 ⟨s17, d17⟩ := c_fn_ok (tab := ⟨_, ks0, [3, 25], [Ytlagcpfboljhnaa.L.slotPf]⟩) mixed (tab_cons ok29 (tab_cons ok28 tab_nil)) Try.func17 k17
theorem ok27 : FnOk Try.prog GW 27 ⟨s27, d27⟩ := c_fn_ok (tab := ⟨_, ks0, [13], [Ytlagcpfboljhnaa.L.slotPf]⟩) mixed tab_nil Try.func27 k27
theorem ok15 : FnOk Try.prog GW 15 ⟨s15, d15⟩ := c_fn_ok (tab := ⟨_, ks0, [], [Ytlagcpfboljhnaa.L.slotPf]⟩) mixed (tab_cons ok17 (tab_cons ok27 tab_nil)) Try.func15 k15
theorem ok6 : FnOk Try.prog GW 6 ⟨s6, d6⟩ := c_fn_ok (tab := ⟨_, ksN, [], [Ytlagcpfboljhnaa.L.slotPf]⟩) mixed (tab_cons ok18 (tab_cons ok15 tab_nil)) Try.func6 k6
theorem ok12 : FnOk Try.prog GW 12 ⟨s12, d12⟩ := c_fn_ok (tab := ⟨_, ks0, [], [Ytlagcpfboljhnaa.L.slotPf]⟩) mixed (tab_cons ok26 tab_nil) Try.func12 k12
theorem ok23 : FnOk Try.prog GW 23 ⟨s23, d23⟩ := c_fn_ok (tab := ⟨_, ks0, [29], [Ytlagcpfboljhnaa.L.slotPf]⟩) mixed (tab_cons ok26 (tab_cons ok27 tab_nil)) Try.func23 k23
theorem ok7 : FnOk Try.prog GW 7 ⟨s7, d7⟩ := c_fn_ok (tab := ⟨_, ks0, [47], [Ytlagcpfboljhnaa.L.slotPf]⟩) mixed (tab_cons ok12 (tab_cons ok23 (tab_cons ok25 tab_nil))) Try.func7 k7
theorem ok8 : FnOk Try.prog GW 8 ⟨s8, d8⟩ := c_fn_ok (tab := ⟨_, ks0, [], [Ytlagcpfboljhnaa.L.slotPf]⟩) mixed tab_nil Try.func8 k8
theorem ok9 : FnOk Try.prog GW 9 ⟨s9, d9⟩ := c_fn_ok (tab := ⟨_, ks0, [], [Ytlagcpfboljhnaa.L.slotPf]⟩) mixed tab_nil Try.func9 k9
theorem ok10 : FnOk Try.prog GW 10 ⟨s10, d10⟩ := c_fn_ok (tab := ⟨_, ks0, [], [Ytlagcpfboljhnaa.L.slotPf]⟩) mixed tab_nil Try.func10 k10
theorem ok16 : FnOk Try.prog GW 16 ⟨s16, d16⟩ := c_fn_ok (tab := ⟨_, ks0, [], [Ytlagcpfboljhnaa.L.slotPf]⟩) mixed tab_nil Try.func16 k16
theorem ok11 : FnOk Try.prog GW 11 ⟨s11, d11⟩ := c_fn_ok (tab := ⟨_, ks0, [], [Ytlagcpfboljhnaa.L.slotPf]⟩) mixed (tab_cons ok16 tab_nil) Try.func11 k11
theorem ok13 : FnOk Try.prog GW 13 ⟨s13, d13⟩ := c_fn_ok (tab := ⟨_, ks0, [], [Ytlagcpfboljhnaa.L.slotPf]⟩) mixed tab_nil Try.func13 k13
theorem ok3 : FnOk Try.prog GW 3 ⟨s3, d3⟩ := c_fn_ok (tab := ⟨_, ksN, [], [Ytlagcpfboljhnaa.L.slotPf]⟩) mixed (tab_cons ok6 (tab_cons ok7 (tab_cons ok8 (tab_cons ok9 (tab_cons ok10 (tab_cons ok11 (tab_cons ok12 (tab_cons ok13 tab_nil)))))))) Try.func3 k3
theorem ok14 : FnOk Try.prog GW 14 ⟨s14, d14⟩ := c_fn_ok (tab := ⟨_, ks0, [], [Ytlagcpfboljhnaa.L.slotPf]⟩) mixed tab_nil Try.func14 k14
theorem ok4 : FnOk Try.prog GW 4 ⟨s4, d4⟩ := c_fn_ok (tab := ⟨_, ksN, [], [Ytlagcpfboljhnaa.L.slotPf]⟩) mixed (tab_cons ok6 (tab_cons ok14 (tab_cons ok9 (tab_cons ok15 (tab_cons ok16 (tab_cons ok17 (tab_cons ok7 tab_nil))))))) Try.func4 k4
end Go.Proofs.Ytlagcpfboljhnaa.L
