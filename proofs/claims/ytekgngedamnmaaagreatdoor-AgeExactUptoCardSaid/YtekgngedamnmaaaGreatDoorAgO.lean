import Derived.Test.YtekgngedamnmaaaGreatDoorAgG
import Derived.Test.YtekgngedamnmaaaGreatDoorLiftC
namespace Go.Proofs.YtekgngedamnmaaaGreatDoor.L
open Go Go.Lift
theorem mixed : Tryz.prog.follows .mixedOrders = true := by kernel_rfl
theorem ok44 : FnOk Tryz.prog GW 44 ⟨s44, d44⟩ := c_fn_ok (tab := ⟨_, ks0⟩) mixed tab_nil Tryz.func44 k44
theorem ok173 : FnOk Tryz.prog GW 173 ⟨s173, d173⟩ := c_fn_ok (tab := ⟨_, ks0⟩) mixed tab_nil Tryz.func173 k173
theorem ok187 : FnOk Tryz.prog GW 187 ⟨s187, d187⟩ := c_fn_ok (tab := ⟨_, ks0⟩) mixed (tab_cons ok173 tab_nil) Tryz.func187 k187
theorem ok188 : FnOk Tryz.prog GW 188 ⟨s188, d188⟩ := c_fn_ok (tab := ⟨_, ks0⟩) mixed (tab_cons ok173 tab_nil) Tryz.func188 k188
theorem ok189 : FnOk Tryz.prog GW 189 ⟨s189, d189⟩ := c_fn_ok (tab := ⟨_, ks0⟩) mixed tab_nil Tryz.func189 k189
theorem ok154 : FnOk Tryz.prog GW 154 ⟨s154, d154⟩ := c_fn_ok (tab := ⟨_, ks0⟩) mixed (tab_cons ok187 (tab_cons ok188 (tab_cons ok189 tab_nil))) Tryz.func154 k154
theorem ok190 : FnOk Tryz.prog GW 190 ⟨s190, d190⟩ := c_fn_ok (tab := ⟨_, ks0⟩) mixed (tab_cons ok173 tab_nil) Tryz.func190 k190
theorem ok191 : FnOk Tryz.prog GW 191 ⟨s191, d191⟩ := c_fn_ok (tab := ⟨_, ks0⟩) mixed tab_nil Tryz.func191 k191
theorem ok195 : FnOk Tryz.prog GW 195 ⟨s195, d195⟩ := c_fn_ok (tab := ⟨_, ks0⟩) mixed (tab_cons ok173 tab_nil) Tryz.func195 k195
theorem ok194 : FnOk Tryz.prog GW 194 ⟨s194, d194⟩ := c_fn_ok (tab := ⟨_, ks0⟩) mixed (tab_cons ok195 tab_nil) Tryz.func194 k194
theorem ok227 : FnOk Tryz.prog GW 227 ⟨s227, d227⟩ := c_fn_ok (tab := ⟨_, ks0⟩) mixed (tab_cons ok194 tab_nil) Tryz.func227 k227
theorem ok238 : FnOk Tryz.prog GW 238 ⟨s238, d238⟩ := c_fn_ok (tab := ⟨_, ks0⟩) mixed (tab_cons ok194 (tab_cons ok227 tab_nil)) Tryz.func238 k238
theorem ok226 : FnOk Tryz.prog GW 226 ⟨s226, d226⟩ := c_fn_ok (tab := ⟨_, ks0⟩) mixed (tab_cons ok238 (tab_cons ok194 (tab_cons ok227 tab_nil))) Tryz.func226 k226
theorem ok193 : FnOk Tryz.prog GW 193 ⟨s193, d193⟩ := c_fn_ok (tab := ⟨_, ks0⟩) mixed (tab_cons ok227 (tab_cons ok226 (tab_cons ok194 tab_nil))) Tryz.func193 k193
theorem ok192 : FnOk Tryz.prog GW 192 ⟨s192, d192⟩ := c_fn_ok (tab := ⟨_, ks0⟩) mixed (tab_cons ok194 (tab_cons ok193 tab_nil)) Tryz.func192 k192
theorem ok198 : FnOk Tryz.prog GW 198 ⟨s198, d198⟩ := c_fn_ok (tab := ⟨_, ks0⟩) mixed (tab_cons ok173 tab_nil) Tryz.func198 k198
theorem ok229 : FnOk Tryz.prog GW 229 ⟨s229, d229⟩ := c_fn_ok (tab := ⟨_, ks0⟩) mixed (tab_cons ok198 tab_nil) Tryz.func229 k229
theorem ok239 : FnOk Tryz.prog GW 239 ⟨s239, d239⟩ := c_fn_ok (tab := ⟨_, ks0⟩) mixed (tab_cons ok198 (tab_cons ok229 tab_nil)) Tryz.func239 k239
theorem ok228 : FnOk Tryz.prog GW 228 ⟨s228, d228⟩ := c_fn_ok (tab := ⟨_, ks0⟩) mixed (tab_cons ok239 (tab_cons ok198 (tab_cons ok229 tab_nil))) Tryz.func228 k228
theorem ok197 : FnOk Tryz.prog GW 197 ⟨s197, d197⟩ := c_fn_ok (tab := ⟨_, ks0⟩) mixed (tab_cons ok229 (tab_cons ok228 (tab_cons ok198 tab_nil))) Tryz.func197 k197
theorem ok196 : FnOk Tryz.prog GW 196 ⟨s196, d196⟩ := c_fn_ok (tab := ⟨_, ks0⟩) mixed (tab_cons ok197 (tab_cons ok198 tab_nil)) Tryz.func196 k196
theorem ok201 : FnOk Tryz.prog GW 201 ⟨s201, d201⟩ := c_fn_ok (tab := ⟨_, ks0⟩) mixed (tab_cons ok173 tab_nil) Tryz.func201 k201
theorem ok231 : FnOk Tryz.prog GW 231 ⟨s231, d231⟩ := c_fn_ok (tab := ⟨_, ks0⟩) mixed (tab_cons ok201 tab_nil) Tryz.func231 k231
theorem ok240 : FnOk Tryz.prog GW 240 ⟨s240, d240⟩ := c_fn_ok (tab := ⟨_, ks0⟩) mixed (tab_cons ok201 (tab_cons ok231 tab_nil)) Tryz.func240 k240
theorem ok230 : FnOk Tryz.prog GW 230 ⟨s230, d230⟩ := c_fn_ok (tab := ⟨_, ks0⟩) mixed (tab_cons ok240 (tab_cons ok201 (tab_cons ok231 tab_nil))) Tryz.func230 k230
theorem ok200 : FnOk Tryz.prog GW 200 ⟨s200, d200⟩ := c_fn_ok (tab := ⟨_, ks0⟩) mixed (tab_cons ok231 (tab_cons ok230 (tab_cons ok201 tab_nil))) Tryz.func200 k200
theorem ok199 : FnOk Tryz.prog GW 199 ⟨s199, d199⟩ := c_fn_ok (tab := ⟨_, ks0⟩) mixed (tab_cons ok200 (tab_cons ok201 tab_nil)) Tryz.func199 k199
theorem ok204 : FnOk Tryz.prog GW 204 ⟨s204, d204⟩ := c_fn_ok (tab := ⟨_, ks0⟩) mixed (tab_cons ok173 tab_nil) Tryz.func204 k204
theorem ok233 : FnOk Tryz.prog GW 233 ⟨s233, d233⟩ := c_fn_ok (tab := ⟨_, ks0⟩) mixed (tab_cons ok204 tab_nil) Tryz.func233 k233
theorem ok241 : FnOk Tryz.prog GW 241 ⟨s241, d241⟩ := c_fn_ok (tab := ⟨_, ks0⟩) mixed (tab_cons ok204 (tab_cons ok233 tab_nil)) Tryz.func241 k241
theorem ok232 : FnOk Tryz.prog GW 232 ⟨s232, d232⟩ := c_fn_ok (tab := ⟨_, ks0⟩) mixed (tab_cons ok241 (tab_cons ok204 (tab_cons ok233 tab_nil))) Tryz.func232 k232
theorem ok203 : FnOk Tryz.prog GW 203 ⟨s203, d203⟩ := c_fn_ok (tab := ⟨_, ks0⟩) mixed (tab_cons ok233 (tab_cons ok232 (tab_cons ok204 tab_nil))) Tryz.func203 k203
theorem ok202 : FnOk Tryz.prog GW 202 ⟨s202, d202⟩ := c_fn_ok (tab := ⟨_, ks0⟩) mixed (tab_cons ok203 (tab_cons ok204 tab_nil)) Tryz.func202 k202
theorem ok205 : FnOk Tryz.prog GW 205 ⟨s205, d205⟩ := c_fn_ok (tab := ⟨_, ks0⟩) mixed (tab_cons ok173 tab_nil) Tryz.func205 k205
theorem ok153 : FnOk Tryz.prog GW 153 ⟨s153, d153⟩ := c_fn_ok (tab := ⟨_, ks0⟩) mixed (tab_cons ok187 (tab_cons ok188 (tab_cons ok189 (tab_cons ok190 (tab_cons ok191 (tab_cons ok192 (tab_cons ok196 (tab_cons ok199 (tab_cons ok202 (tab_cons ok205 tab_nil)))))))))) Tryz.func153 k153
theorem ok146 : FnOk Tryz.prog GW 146 ⟨s146, d146⟩ := c_fn_ok (tab := ⟨_, ks0⟩) mixed (tab_cons ok173 tab_nil) Tryz.func146 k146
theorem ok142 : FnOk Tryz.prog GW 142 ⟨s142, d142⟩ := c_fn_ok (tab := ⟨_, ks0⟩) mixed tab_nil Tryz.func142 k142
theorem ok111 : FnOk Tryz.prog GW 111 ⟨s111, d111⟩ := c_fn_ok (tab := ⟨_, ks0⟩) mixed (tab_cons ok142 tab_nil) Tryz.func111 k111
theorem ok118 : FnOk Tryz.prog GW 118 ⟨s118, d118⟩ := c_fn_ok (tab := ⟨_, ks0⟩) mixed (tab_cons ok146 (tab_cons ok111 tab_nil)) Tryz.func118 k118
theorem ok155 : FnOk Tryz.prog GW 155 ⟨s155, d155⟩ := c_fn_ok (tab := ⟨_, ks0⟩) mixed (tab_cons ok190 (tab_cons ok191 (tab_cons ok192 (tab_cons ok196 (tab_cons ok199 (tab_cons ok202 (tab_cons ok205 tab_nil))))))) Tryz.func155 k155
theorem ok156 : FnOk Tryz.prog GW 156 ⟨s156, d156⟩ := c_fn_ok (tab := ⟨_, ks0⟩) mixed (tab_cons ok173 tab_nil) Tryz.func156 k156
theorem ok206 : FnOk Tryz.prog GW 206 ⟨s206, d206⟩ := c_fn_ok (tab := ⟨_, ks0⟩) mixed (tab_cons ok173 tab_nil) Tryz.func206 k206
theorem ok157 : FnOk Tryz.prog GW 157 ⟨s157, d157⟩ := c_fn_ok (tab := ⟨_, ks0⟩) mixed (tab_cons ok173 (tab_cons ok206 tab_nil)) Tryz.func157 k157
theorem ok135 : FnOk Tryz.prog GW 135 ⟨s135, d135⟩ := c_fn_ok (tab := ⟨_, ks0⟩) mixed (tab_cons ok154 (tab_cons ok153 (tab_cons ok118 (tab_cons ok155 (tab_cons ok156 (tab_cons ok157 tab_nil)))))) Tryz.func135 k135
theorem ok96 : FnOk Tryz.prog GW 96 ⟨s96, d96⟩ := c_fn_ok (tab := ⟨_, ks0⟩) mixed (tab_cons ok135 (tab_cons ok119 tab_nil)) Tryz.func96 k96
theorem ok43 : FnOk Tryz.prog GW 43 ⟨s43, d43⟩ := c_fn_ok (tab := ⟨_, ks0⟩) mixed (tab_cons ok96 (tab_cons ok44 tab_nil)) Tryz.func43 k43
theorem ok121 : FnOk Tryz.prog GW 121 ⟨s121, d121⟩ := c_fn_ok (tab := ⟨_, ks0⟩) mixed tab_nil Tryz.func121 k121
theorem ok106 : FnOk Tryz.prog GW 106 ⟨s106, d106⟩ := c_fn_ok (tab := ⟨_, ks0⟩) mixed (tab_cons ok121 tab_nil) Tryz.func106 k106
theorem ok54 : FnOk Tryz.prog GW 54 ⟨s54, d54⟩ := c_fn_ok (tab := ⟨_, ks0⟩) mixed (tab_cons ok106 tab_nil) Tryz.func54 k54
theorem ok53 : FnOk Tryz.prog GW 53 ⟨s53, d53⟩ := c_fn_ok (tab := ⟨_, ks0⟩) mixed (tab_cons ok54 tab_nil) Tryz.func53 k53
theorem ok43x1 : FnOk Tryz.prog GW 43 ⟨s43x1, d43x1⟩ := c_fn_ok (tab := ⟨_, ks0⟩) mixed (tab_cons ok96 (tab_cons ok53 tab_nil)) Tryz.func43 k43x1
theorem ok105 : FnOk Tryz.prog GW 105 ⟨s105, d105⟩ := c_fn_ok (tab := ⟨_, ks0⟩) mixed tab_nil Tryz.func105 k105
theorem ok43x2 : FnOk Tryz.prog GW 43 ⟨s43x2, d43x2⟩ := c_fn_ok (tab := ⟨_, ks0⟩) mixed (tab_cons ok96 (tab_cons ok105 tab_nil)) Tryz.func43 k43x2
theorem ok13 : FnOk Tryz.prog GW 13 ⟨s13, d13⟩ := c_fn_ok (tab := ⟨_, ks0⟩) mixed (tab_cons ok44 (tab_cons ok43x2 (tab_cons ok43x1 (tab_cons ok43 tab_nil)))) Tryz.func13 k13
theorem ok97 : FnOk Tryz.prog GW 97 ⟨s97, d97⟩ := c_fn_ok (tab := ⟨_, ks0⟩) mixed tab_nil Tryz.func97 k97
theorem ok45 : FnOk Tryz.prog GW 45 ⟨s45, d45⟩ := c_fn_ok (tab := ⟨_, ks0⟩) mixed (tab_cons ok97 tab_nil) Tryz.func45 k45
theorem ok47 : FnOk Tryz.prog GW 47 ⟨s47, d47⟩ := c_fn_ok (tab := ⟨_, ks0⟩) mixed tab_nil Tryz.func47 k47
theorem ok98 : FnOk Tryz.prog GW 98 ⟨s98, d98⟩ := c_fn_ok (tab := ⟨_, ks0⟩) mixed (tab_cons ok97 tab_nil) Tryz.func98 k98
theorem ok46 : FnOk Tryz.prog GW 46 ⟨s46, d46⟩ := c_fn_ok (tab := ⟨_, ks0⟩) mixed (tab_cons ok98 tab_nil) Tryz.func46 k46
theorem ok207 : FnOk Tryz.prog GW 207 ⟨s207, d207⟩ := c_fn_ok (tab := ⟨_, ks0⟩) mixed tab_nil Tryz.func207 k207
theorem ok208 : FnOk Tryz.prog GW 208 ⟨s208, d208⟩ := c_fn_ok (tab := ⟨_, ks0⟩) mixed tab_nil Tryz.func208 k208
theorem ok159 : FnOk Tryz.prog GW 159 ⟨s159, d159⟩ := c_fn_ok (tab := ⟨_, ks0⟩) mixed (tab_cons ok207 (tab_cons ok208 tab_nil)) Tryz.func159 k159
theorem ok158 : FnOk Tryz.prog GW 158 ⟨s158, d158⟩ := c_fn_ok (tab := ⟨_, ks0⟩) mixed (tab_cons ok207 (tab_cons ok208 tab_nil)) Tryz.func158 k158
theorem ok136 : FnOk Tryz.prog GW 136 ⟨s136, d136⟩ := c_fn_ok (tab := ⟨_, ks0⟩) mixed (tab_cons ok159 (tab_cons ok158 tab_nil)) Tryz.func136 k136
theorem ok99 : FnOk Tryz.prog GW 99 ⟨s99, d99⟩ := c_fn_ok (tab := ⟨_, ks0⟩) mixed (tab_cons ok136 tab_nil) Tryz.func99 k99
theorem ok48 : FnOk Tryz.prog GW 48 ⟨s48, d48⟩ := c_fn_ok (tab := ⟨_, ks0⟩) mixed (tab_cons ok46 (tab_cons ok99 tab_nil)) Tryz.func48 k48
theorem ok100 : FnOk Tryz.prog GW 100 ⟨s100, d100⟩ := c_fn_ok (tab := ⟨_, ks0⟩) mixed (tab_cons ok97 tab_nil) Tryz.func100 k100
theorem ok101 : FnOk Tryz.prog GW 101 ⟨s101, d101⟩ := c_fn_ok (tab := ⟨_, ks0⟩) mixed (tab_cons ok97 tab_nil) Tryz.func101 k101
theorem ok102 : FnOk Tryz.prog GW 102 ⟨s102, d102⟩ := c_fn_ok (tab := ⟨_, ks0⟩) mixed (tab_cons ok97 tab_nil) Tryz.func102 k102
theorem ok49 : FnOk Tryz.prog GW 49 ⟨s49, d49⟩ := c_fn_ok (tab := ⟨_, ks0⟩) mixed (tab_cons ok97 (tab_cons ok100 (tab_cons ok101 (tab_cons ok102 tab_nil)))) Tryz.func49 k49
theorem ok50 : FnOk Tryz.prog GW 50 ⟨s50, d50⟩ := c_fn_ok (tab := ⟨_, ks0⟩) mixed (tab_cons ok97 tab_nil) Tryz.func50 k50
theorem ok137 : FnOk Tryz.prog GW 137 ⟨s137, d137⟩ := c_fn_ok (tab := ⟨_, ks0⟩) mixed tab_nil Tryz.func137 k137
theorem ok103 : FnOk Tryz.prog GW 103 ⟨s103, d103⟩ := c_fn_ok (tab := ⟨_, ks0⟩) mixed (tab_cons ok97 (tab_cons ok137 tab_nil)) Tryz.func103 k103
theorem ok104 : FnOk Tryz.prog GW 104 ⟨s104, d104⟩ := c_fn_ok (tab := ⟨_, ks0⟩) mixed (tab_cons ok97 (tab_cons ok137 tab_nil)) Tryz.func104 k104
theorem ok51 : FnOk Tryz.prog GW 51 ⟨s51, d51⟩ := c_fn_ok (tab := ⟨_, ks0⟩) mixed (tab_cons ok97 (tab_cons ok103 (tab_cons ok104 tab_nil))) Tryz.func51 k51
theorem ok14 : FnOk Tryz.prog GW 14 ⟨s14, d14⟩ := c_fn_ok (tab := ⟨_, ks0⟩) mixed (tab_cons ok45 (tab_cons ok47 (tab_cons ok46 (tab_cons ok48 (tab_cons ok49 (tab_cons ok50 (tab_cons ok51 tab_nil))))))) Tryz.func14 k14
theorem ok52 : FnOk Tryz.prog GW 52 ⟨s52, d52⟩ := c_fn_ok (tab := ⟨_, ks0⟩) mixed (tab_cons ok105 (tab_cons ok43x2 (tab_cons ok43x1 (tab_cons ok43 tab_nil)))) Tryz.func52 k52
theorem ok16 : FnOk Tryz.prog GW 16 ⟨s16, d16⟩ := c_fn_ok (tab := ⟨_, ks0⟩) mixed (tab_cons ok53 (tab_cons ok43x2 (tab_cons ok43x1 (tab_cons ok43 tab_nil)))) Tryz.func16 k16
theorem ok15 : FnOk Tryz.prog GW 15 ⟨s15, d15⟩ := c_fn_ok (tab := ⟨_, ks0⟩) mixed (tab_cons ok52 (tab_cons ok16 tab_nil)) Tryz.func15 k15
theorem ok56 : FnOk Tryz.prog GW 56 ⟨s56, d56⟩ := c_fn_ok (tab := ⟨_, ks0⟩) mixed (tab_cons ok54 tab_nil) Tryz.func56 k56
theorem ok55 : FnOk Tryz.prog GW 55 ⟨s55, d55⟩ := c_fn_ok (tab := ⟨_, ks0⟩) mixed (tab_cons ok96 (tab_cons ok56 tab_nil)) Tryz.func55 k55
theorem ok17 : FnOk Tryz.prog GW 17 ⟨s17, d17⟩ := c_fn_ok (tab := ⟨_, ks0⟩) mixed (tab_cons ok56 (tab_cons ok55 tab_nil)) Tryz.func17 k17
end Go.Proofs.YtekgngedamnmaaaGreatDoor.L
