/-
  The code is the code walked; the law in plain words. Conditions: those of each theorem.
-/
import Derived.Test.YtghmnaojmpjglaaGreatDoorPwI
import Derived.Test.YtghmnaojmpjglaaGreatDoorProg
import Derived.KernelRfl
import Derived.Test.YtghmnaojmpjglaaGreatDoorEoD
import Derived.Eval
import Derived.Test.YtghmnaojmpjglaaGreatDoorEoE
import Derived.Deep.Slices
import Derived.OpenShut
import Derived.SizedLaws
import Derived.Below
import Derived.Test.YtghmnaojmpjglaaGreatDoorRows
import Derived.Test.YtghmnaojmpjglaaGreatDoorChecked
set_option linter.all false
namespace Go.Proofs.YtghmnaojmpjglaaGreatDoor.PR
open Go.Proofs.YtghmnaojmpjglaaGreatDoor.Eo
open Go.Proofs (Tryz.prog)
noncomputable section
structure Kn(f k:Nat)(c:CF):Prop where
 has:hasE Tryz.prog f=true
 key:Nat.ble ykey f=false
 cf:cCF Tryz.prog f k=some c
theorem k158:Kn 158 1 c158:=⟨by kernel_rfl,by kernel_rfl,by kernel_rfl⟩
theorem k159:Kn 159 2 c159:=⟨by kernel_rfl,by kernel_rfl,by kernel_rfl⟩
theorem k91:Kn 91 3 c91:=⟨by kernel_rfl,by kernel_rfl,by kernel_rfl⟩
theorem k143:Kn 143 1 c143:=⟨by kernel_rfl,by kernel_rfl,by kernel_rfl⟩
theorem k109:Kn 109 2 c109:=⟨by kernel_rfl,by kernel_rfl,by kernel_rfl⟩
theorem k78:Kn 78 1 c78:=⟨by kernel_rfl,by kernel_rfl,by kernel_rfl⟩
theorem k83:Kn 83 1 c83:=⟨by kernel_rfl,by kernel_rfl,by kernel_rfl⟩
theorem k60:Kn 60 1 c60:=⟨by kernel_rfl,by kernel_rfl,by kernel_rfl⟩
theorem k231:Kn 231 3 c231:=⟨by kernel_rfl,by kernel_rfl,by kernel_rfl⟩
theorem k188:Kn 188 1 c188:=⟨by kernel_rfl,by kernel_rfl,by kernel_rfl⟩
theorem k112:Kn 112 1 c112:=⟨by kernel_rfl,by kernel_rfl,by kernel_rfl⟩
theorem k153:Kn 153 1 c153:=⟨by kernel_rfl,by kernel_rfl,by kernel_rfl⟩
theorem k130:Kn 130 1 c130:=⟨by kernel_rfl,by kernel_rfl,by kernel_rfl⟩
theorem k167:Kn 167 1 c167:=⟨by kernel_rfl,by kernel_rfl,by kernel_rfl⟩
theorem k232:Kn 232 1 c232:=⟨by kernel_rfl,by kernel_rfl,by kernel_rfl⟩
theorem k155:Kn 155 1 c155:=⟨by kernel_rfl,by kernel_rfl,by kernel_rfl⟩
theorem k157:Kn 157 1 c157:=⟨by kernel_rfl,by kernel_rfl,by kernel_rfl⟩
theorem k154:Kn 154 1 c154:=⟨by kernel_rfl,by kernel_rfl,by kernel_rfl⟩
theorem k161:Kn 161 1 c161:=⟨by kernel_rfl,by kernel_rfl,by kernel_rfl⟩
theorem k108:Kn 108 1 c108:=⟨by kernel_rfl,by kernel_rfl,by kernel_rfl⟩
theorem k160:Kn 160 2 c160:=⟨by kernel_rfl,by kernel_rfl,by kernel_rfl⟩
theorem k156:Kn 156 5 c156:=⟨by kernel_rfl,by kernel_rfl,by kernel_rfl⟩
theorem k77:Kn 77 1 c77:=⟨by kernel_rfl,by kernel_rfl,by kernel_rfl⟩
theorem k79:Kn 79 1 c79:=⟨by kernel_rfl,by kernel_rfl,by kernel_rfl⟩
theorem k234:Kn 234 1 c234:=⟨by kernel_rfl,by kernel_rfl,by kernel_rfl⟩
theorem k235:Kn 235 1 c235:=⟨by kernel_rfl,by kernel_rfl,by kernel_rfl⟩
theorem k236:Kn 236 1 c236:=⟨by kernel_rfl,by kernel_rfl,by kernel_rfl⟩
theorem k162:Kn 162 3 c162:=⟨by kernel_rfl,by kernel_rfl,by kernel_rfl⟩
theorem k163:Kn 163 3 c163:=⟨by kernel_rfl,by kernel_rfl,by kernel_rfl⟩
theorem k164:Kn 164 3 c164:=⟨by kernel_rfl,by kernel_rfl,by kernel_rfl⟩
theorem k165:Kn 165 3 c165:=⟨by kernel_rfl,by kernel_rfl,by kernel_rfl⟩
theorem k82:Kn 82 5 c82:=⟨by kernel_rfl,by kernel_rfl,by kernel_rfl⟩
theorem k80:Kn 80 2 c80:=⟨by kernel_rfl,by kernel_rfl,by kernel_rfl⟩
theorem k81:Kn 81 2 c81:=⟨by kernel_rfl,by kernel_rfl,by kernel_rfl⟩
theorem k20:Kn 20 1 c20:=⟨by kernel_rfl,by kernel_rfl,by kernel_rfl⟩
theorem k168:Kn 168 1 c168:=⟨by kernel_rfl,by kernel_rfl,by kernel_rfl⟩
theorem k169:Kn 169 5 c169:=⟨by kernel_rfl,by kernel_rfl,by kernel_rfl⟩
theorem k85:Kn 85 1 c85:=⟨by kernel_rfl,by kernel_rfl,by kernel_rfl⟩
theorem k87:Kn 87 1 c87:=⟨by kernel_rfl,by kernel_rfl,by kernel_rfl⟩
theorem k86:Kn 86 1 c86:=⟨by kernel_rfl,by kernel_rfl,by kernel_rfl⟩
theorem k88:Kn 88 2 c88:=⟨by kernel_rfl,by kernel_rfl,by kernel_rfl⟩
theorem k89:Kn 89 2 c89:=⟨by kernel_rfl,by kernel_rfl,by kernel_rfl⟩
theorem k170:Kn 170 3 c170:=⟨by kernel_rfl,by kernel_rfl,by kernel_rfl⟩
theorem k171:Kn 171 3 c171:=⟨by kernel_rfl,by kernel_rfl,by kernel_rfl⟩
theorem k172:Kn 172 3 c172:=⟨by kernel_rfl,by kernel_rfl,by kernel_rfl⟩
theorem k173:Kn 173 3 c173:=⟨by kernel_rfl,by kernel_rfl,by kernel_rfl⟩
theorem k90:Kn 90 5 c90:=⟨by kernel_rfl,by kernel_rfl,by kernel_rfl⟩
theorem k239:Kn 239 1 c239:=⟨by kernel_rfl,by kernel_rfl,by kernel_rfl⟩
theorem k240:Kn 240 1 c240:=⟨by kernel_rfl,by kernel_rfl,by kernel_rfl⟩
theorem k238:Kn 238 1 c238:=⟨by kernel_rfl,by kernel_rfl,by kernel_rfl⟩
theorem k241:Kn 241 3 c241:=⟨by kernel_rfl,by kernel_rfl,by kernel_rfl⟩
theorem k22:Kn 22 1 c22:=⟨by kernel_rfl,by kernel_rfl,by kernel_rfl⟩
theorem k92:Kn 92 2 c92:=⟨by kernel_rfl,by kernel_rfl,by kernel_rfl⟩
theorem k93:Kn 93 7 c93:=⟨by kernel_rfl,by kernel_rfl,by kernel_rfl⟩
theorem k25:Kn 25 4 c25:=⟨by kernel_rfl,by kernel_rfl,by kernel_rfl⟩
theorem k94:Kn 94 3 c94:=⟨by kernel_rfl,by kernel_rfl,by kernel_rfl⟩
theorem k95:Kn 95 6 c95:=⟨by kernel_rfl,by kernel_rfl,by kernel_rfl⟩
theorem k26:Kn 26 4 c26:=⟨by kernel_rfl,by kernel_rfl,by kernel_rfl⟩
theorem k34:Kn 34 1 c34:=⟨by kernel_rfl,by kernel_rfl,by kernel_rfl⟩
theorem k7:Kn 7 2 c7:=⟨by kernel_rfl,by kernel_rfl,by kernel_rfl⟩
theorem k6:Kn 6 4 c6:=⟨by kernel_rfl,by kernel_rfl,by kernel_rfl⟩
theorem k24:Kn 24 1 c24:=⟨by kernel_rfl,by kernel_rfl,by kernel_rfl⟩
theorem k100:Kn 100 1 c100:=⟨by kernel_rfl,by kernel_rfl,by kernel_rfl⟩
theorem k30:Kn 30 4 c30:=⟨by kernel_rfl,by kernel_rfl,by kernel_rfl⟩
theorem k32:Kn 32 4 c32:=⟨by kernel_rfl,by kernel_rfl,by kernel_rfl⟩
theorem k432:Kn 432 2 c432:=⟨by kernel_rfl,by kernel_rfl,by kernel_rfl⟩
theorem k429:Kn 429 3 c429:=⟨by kernel_rfl,by kernel_rfl,by kernel_rfl⟩
theorem k430:Kn 430 2 c430:=⟨by kernel_rfl,by kernel_rfl,by kernel_rfl⟩
theorem k428:Kn 428 3 c428:=⟨by kernel_rfl,by kernel_rfl,by kernel_rfl⟩
theorem k424:Kn 424 4 c424:=⟨by kernel_rfl,by kernel_rfl,by kernel_rfl⟩
theorem k431:Kn 431 1 c431:=⟨by kernel_rfl,by kernel_rfl,by kernel_rfl⟩
theorem k555:Kn 555 1 c555:=⟨by kernel_rfl,by kernel_rfl,by kernel_rfl⟩
theorem k554:Kn 554 1 c554:=⟨by kernel_rfl,by kernel_rfl,by kernel_rfl⟩
theorem k446:Kn 446 2 c446:=⟨by kernel_rfl,by kernel_rfl,by kernel_rfl⟩
theorem k445:Kn 445 3 c445:=⟨by kernel_rfl,by kernel_rfl,by kernel_rfl⟩
theorem k237:Kn 237 2 c237:=⟨by kernel_rfl,by kernel_rfl,by kernel_rfl⟩
theorem k444:Kn 444 3 c444:=⟨by kernel_rfl,by kernel_rfl,by kernel_rfl⟩
theorem k440:Kn 440 4 c440:=⟨by kernel_rfl,by kernel_rfl,by kernel_rfl⟩
theorem k561:Kn 561 1 c561:=⟨by kernel_rfl,by kernel_rfl,by kernel_rfl⟩
theorem k562:Kn 562 1 c562:=⟨by kernel_rfl,by kernel_rfl,by kernel_rfl⟩
theorem k560:Kn 560 0 c560:=⟨by kernel_rfl,by kernel_rfl,by kernel_rfl⟩
theorem k559:Kn 559 1 c559:=⟨by kernel_rfl,by kernel_rfl,by kernel_rfl⟩
theorem k558:Kn 558 1 c558:=⟨by kernel_rfl,by kernel_rfl,by kernel_rfl⟩
theorem k243:Kn 243 3 c243:=⟨by kernel_rfl,by kernel_rfl,by kernel_rfl⟩
theorem k463:Kn 463 2 c463:=⟨by kernel_rfl,by kernel_rfl,by kernel_rfl⟩
theorem k458:Kn 458 4 c458:=⟨by kernel_rfl,by kernel_rfl,by kernel_rfl⟩
theorem k459:Kn 459 2 c459:=⟨by kernel_rfl,by kernel_rfl,by kernel_rfl⟩
theorem k455:Kn 455 3 c455:=⟨by kernel_rfl,by kernel_rfl,by kernel_rfl⟩
theorem k462:Kn 462 1 c462:=⟨by kernel_rfl,by kernel_rfl,by kernel_rfl⟩
theorem k456:Kn 456 2 c456:=⟨by kernel_rfl,by kernel_rfl,by kernel_rfl⟩
theorem k457:Kn 457 2 c457:=⟨by kernel_rfl,by kernel_rfl,by kernel_rfl⟩
theorem k451:Kn 451 4 c451:=⟨by kernel_rfl,by kernel_rfl,by kernel_rfl⟩
theorem k570:Kn 570 1 c570:=⟨by kernel_rfl,by kernel_rfl,by kernel_rfl⟩
theorem k571:Kn 571 1 c571:=⟨by kernel_rfl,by kernel_rfl,by kernel_rfl⟩
theorem k436:Kn 436 4 c436:=⟨by kernel_rfl,by kernel_rfl,by kernel_rfl⟩
theorem k438:Kn 438 2 c438:=⟨by kernel_rfl,by kernel_rfl,by kernel_rfl⟩
theorem k447:Kn 447 4 c447:=⟨by kernel_rfl,by kernel_rfl,by kernel_rfl⟩
theorem k449:Kn 449 2 c449:=⟨by kernel_rfl,by kernel_rfl,by kernel_rfl⟩
theorem k481:Kn 481 4 c481:=⟨by kernel_rfl,by kernel_rfl,by kernel_rfl⟩
theorem k483:Kn 483 2 c483:=⟨by kernel_rfl,by kernel_rfl,by kernel_rfl⟩
theorem k96:Kn 96 3 c96:=⟨by kernel_rfl,by kernel_rfl,by kernel_rfl⟩
theorem k27:Kn 27 4 c27:=⟨by kernel_rfl,by kernel_rfl,by kernel_rfl⟩
theorem k8:Kn 8 4 c8:=⟨by kernel_rfl,by kernel_rfl,by kernel_rfl⟩
theorem k29:Kn 29 1 c29:=⟨by kernel_rfl,by kernel_rfl,by kernel_rfl⟩
theorem k10:Kn 10 1 c10:=⟨by kernel_rfl,by kernel_rfl,by kernel_rfl⟩
theorem k175:Kn 175 5 c175:=⟨by kernel_rfl,by kernel_rfl,by kernel_rfl⟩
theorem k97:Kn 97 4 c97:=⟨by kernel_rfl,by kernel_rfl,by kernel_rfl⟩
theorem k98:Kn 98 4 c98:=⟨by kernel_rfl,by kernel_rfl,by kernel_rfl⟩
theorem k182:Kn 182 3 c182:=⟨by kernel_rfl,by kernel_rfl,by kernel_rfl⟩
theorem k183:Kn 183 3 c183:=⟨by kernel_rfl,by kernel_rfl,by kernel_rfl⟩
theorem k176:Kn 176 1 c176:=⟨by kernel_rfl,by kernel_rfl,by kernel_rfl⟩
theorem k177:Kn 177 1 c177:=⟨by kernel_rfl,by kernel_rfl,by kernel_rfl⟩
theorem k102:Kn 102 1 c102:=⟨by kernel_rfl,by kernel_rfl,by kernel_rfl⟩
theorem k103:Kn 103 1 c103:=⟨by kernel_rfl,by kernel_rfl,by kernel_rfl⟩
theorem k184:Kn 184 3 c184:=⟨by kernel_rfl,by kernel_rfl,by kernel_rfl⟩
theorem k186:Kn 186 4 c186:=⟨by kernel_rfl,by kernel_rfl,by kernel_rfl⟩
theorem k185:Kn 185 3 c185:=⟨by kernel_rfl,by kernel_rfl,by kernel_rfl⟩
theorem k178:Kn 178 1 c178:=⟨by kernel_rfl,by kernel_rfl,by kernel_rfl⟩
theorem k99:Kn 99 4 c99:=⟨by kernel_rfl,by kernel_rfl,by kernel_rfl⟩
theorem k104:Kn 104 1 c104:=⟨by kernel_rfl,by kernel_rfl,by kernel_rfl⟩
theorem k179:Kn 179 1 c179:=⟨by kernel_rfl,by kernel_rfl,by kernel_rfl⟩
theorem k180:Kn 180 1 c180:=⟨by kernel_rfl,by kernel_rfl,by kernel_rfl⟩
theorem k181:Kn 181 1 c181:=⟨by kernel_rfl,by kernel_rfl,by kernel_rfl⟩
theorem k101:Kn 101 1 c101:=⟨by kernel_rfl,by kernel_rfl,by kernel_rfl⟩
theorem k31:Kn 31 1 c31:=⟨by kernel_rfl,by kernel_rfl,by kernel_rfl⟩
theorem k33:Kn 33 1 c33:=⟨by kernel_rfl,by kernel_rfl,by kernel_rfl⟩
theorem k28:Kn 28 4 c28:=⟨by kernel_rfl,by kernel_rfl,by kernel_rfl⟩
theorem k9:Kn 9 4 c9:=⟨by kernel_rfl,by kernel_rfl,by kernel_rfl⟩
theorem k11:Kn 11 1 c11:=⟨by kernel_rfl,by kernel_rfl,by kernel_rfl⟩
theorem k426:Kn 426 1 c426:=⟨by kernel_rfl,by kernel_rfl,by kernel_rfl⟩
theorem k442:Kn 442 1 c442:=⟨by kernel_rfl,by kernel_rfl,by kernel_rfl⟩
theorem k453:Kn 453 1 c453:=⟨by kernel_rfl,by kernel_rfl,by kernel_rfl⟩
theorem k208:Kn 208 1 c208:=⟨by kernel_rfl,by kernel_rfl,by kernel_rfl⟩
theorem k209:Kn 209 1 c209:=⟨by kernel_rfl,by kernel_rfl,by kernel_rfl⟩
theorem k210:Kn 210 1 c210:=⟨by kernel_rfl,by kernel_rfl,by kernel_rfl⟩
theorem k370:Kn 370 1 c370:=⟨by kernel_rfl,by kernel_rfl,by kernel_rfl⟩
theorem k369:Kn 369 1 c369:=⟨by kernel_rfl,by kernel_rfl,by kernel_rfl⟩
theorem k35:Kn 35 1 c35:=⟨by kernel_rfl,by kernel_rfl,by kernel_rfl⟩
theorem k150:Kn 150 1 c150:=⟨by kernel_rfl,by kernel_rfl,by kernel_rfl⟩
theorem k38:Kn 38 1 c38:=⟨by kernel_rfl,by kernel_rfl,by kernel_rfl⟩
theorem k110:Kn 110 2 c110:=⟨by kernel_rfl,by kernel_rfl,by kernel_rfl⟩
theorem k36:Kn 36 1 c36:=⟨by kernel_rfl,by kernel_rfl,by kernel_rfl⟩
theorem k111:Kn 111 2 c111:=⟨by kernel_rfl,by kernel_rfl,by kernel_rfl⟩
theorem k37:Kn 37 2 c37:=⟨by kernel_rfl,by kernel_rfl,by kernel_rfl⟩
theorem k39:Kn 39 1 c39:=⟨by kernel_rfl,by kernel_rfl,by kernel_rfl⟩
theorem k40:Kn 40 2 c40:=⟨by kernel_rfl,by kernel_rfl,by kernel_rfl⟩
theorem k48:Kn 48 2 c48:=⟨by kernel_rfl,by kernel_rfl,by kernel_rfl⟩
theorem k129:Kn 129 1 c129:=⟨by kernel_rfl,by kernel_rfl,by kernel_rfl⟩
theorem k128:Kn 128 3 c128:=⟨by kernel_rfl,by kernel_rfl,by kernel_rfl⟩
theorem k47:Kn 47 3 c47:=⟨by kernel_rfl,by kernel_rfl,by kernel_rfl⟩
theorem k118:Kn 118 1 c118:=⟨by kernel_rfl,by kernel_rfl,by kernel_rfl⟩
theorem k42:Kn 42 4 c42:=⟨by kernel_rfl,by kernel_rfl,by kernel_rfl⟩
theorem k420:Kn 420 1 c420:=⟨by kernel_rfl,by kernel_rfl,by kernel_rfl⟩
theorem k211:Kn 211 1 c211:=⟨by kernel_rfl,by kernel_rfl,by kernel_rfl⟩
theorem k131:Kn 131 4 c131:=⟨by kernel_rfl,by kernel_rfl,by kernel_rfl⟩
theorem k50:Kn 50 1 c50:=⟨by kernel_rfl,by kernel_rfl,by kernel_rfl⟩
theorem k12:Kn 12 2 c12:=⟨by kernel_rfl,by kernel_rfl,by kernel_rfl⟩
theorem k13:Kn 13 2 c13:=⟨by kernel_rfl,by kernel_rfl,by kernel_rfl⟩
theorem k43:Kn 43 4 c43:=⟨by kernel_rfl,by kernel_rfl,by kernel_rfl⟩
theorem k41:Kn 41 1 c41:=⟨by kernel_rfl,by kernel_rfl,by kernel_rfl⟩
theorem k16:Kn 16 1 c16:=⟨by kernel_rfl,by kernel_rfl,by kernel_rfl⟩
theorem k14:Kn 14 5 c14:=⟨by kernel_rfl,by kernel_rfl,by kernel_rfl⟩
theorem k49:Kn 49 2 c49:=⟨by kernel_rfl,by kernel_rfl,by kernel_rfl⟩
theorem k17:Kn 17 1 c17:=⟨by kernel_rfl,by kernel_rfl,by kernel_rfl⟩
theorem k15:Kn 15 5 c15:=⟨by kernel_rfl,by kernel_rfl,by kernel_rfl⟩
theorem k59:Kn 59 2 c59:=⟨by kernel_rfl,by kernel_rfl,by kernel_rfl⟩
theorem k61:Kn 61 2 c61:=⟨by kernel_rfl,by kernel_rfl,by kernel_rfl⟩
theorem k63:Kn 63 2 c63:=⟨by kernel_rfl,by kernel_rfl,by kernel_rfl⟩
theorem k65:Kn 65 2 c65:=⟨by kernel_rfl,by kernel_rfl,by kernel_rfl⟩
theorem k144:Kn 144 1 c144:=⟨by kernel_rfl,by kernel_rfl,by kernel_rfl⟩
theorem k62:Kn 62 2 c62:=⟨by kernel_rfl,by kernel_rfl,by kernel_rfl⟩
theorem k145:Kn 145 1 c145:=⟨by kernel_rfl,by kernel_rfl,by kernel_rfl⟩
theorem k64:Kn 64 1 c64:=⟨by kernel_rfl,by kernel_rfl,by kernel_rfl⟩
theorem k293:Kn 293 1 c293:=⟨by kernel_rfl,by kernel_rfl,by kernel_rfl⟩
theorem k228:Kn 228 1 c228:=⟨by kernel_rfl,by kernel_rfl,by kernel_rfl⟩
theorem k283:Kn 283 3 c283:=⟨by kernel_rfl,by kernel_rfl,by kernel_rfl⟩
theorem k227:Kn 227 4 c227:=⟨by kernel_rfl,by kernel_rfl,by kernel_rfl⟩
theorem k148:Kn 148 1 c148:=⟨by kernel_rfl,by kernel_rfl,by kernel_rfl⟩
theorem k71:Kn 71 1 c71:=⟨by kernel_rfl,by kernel_rfl,by kernel_rfl⟩
theorem k70:Kn 70 1 c70:=⟨by kernel_rfl,by kernel_rfl,by kernel_rfl⟩
theorem k146:Kn 146 2 c146:=⟨by kernel_rfl,by kernel_rfl,by kernel_rfl⟩
theorem k66:Kn 66 1 c66:=⟨by kernel_rfl,by kernel_rfl,by kernel_rfl⟩
theorem k68:Kn 68 1 c68:=⟨by kernel_rfl,by kernel_rfl,by kernel_rfl⟩
theorem k226:Kn 226 2 c226:=⟨by kernel_rfl,by kernel_rfl,by kernel_rfl⟩
theorem k147:Kn 147 2 c147:=⟨by kernel_rfl,by kernel_rfl,by kernel_rfl⟩
theorem k67:Kn 67 1 c67:=⟨by kernel_rfl,by kernel_rfl,by kernel_rfl⟩
theorem k69:Kn 69 1 c69:=⟨by kernel_rfl,by kernel_rfl,by kernel_rfl⟩
theorem k72:Kn 72 1 c72:=⟨by kernel_rfl,by kernel_rfl,by kernel_rfl⟩
theorem k18:Kn 18 1 c18:=⟨by kernel_rfl,by kernel_rfl,by kernel_rfl⟩
theorem k166:Kn 166 1 c166:=⟨by kernel_rfl,by kernel_rfl,by kernel_rfl⟩
theorem k84:Kn 84 1 c84:=⟨by kernel_rfl,by kernel_rfl,by kernel_rfl⟩
theorem k21:Kn 21 1 c21:=⟨by kernel_rfl,by kernel_rfl,by kernel_rfl⟩
theorem k4:Kn 4 1 c4:=⟨by kernel_rfl,by kernel_rfl,by kernel_rfl⟩
theorem k23:Kn 23 1 c23:=⟨by kernel_rfl,by kernel_rfl,by kernel_rfl⟩
theorem k5:Kn 5 1 c5:=⟨by kernel_rfl,by kernel_rfl,by kernel_rfl⟩
theorem k3:Kn 3 4 c3:=⟨by kernel_rfl,by kernel_rfl,by kernel_rfl⟩
end
end Go.Proofs.YtghmnaojmpjglaaGreatDoor.PR
namespace Go.Proofs.YtghmnaojmpjglaaGreatDoor.PR
open Go.Proofs.YtghmnaojmpjglaaGreatDoor.Eo
noncomputable def xl:List (Nat×ATag):=[(174,.swap),(224,.load),(233,.store),(316,.cas),(468,.add)]
noncomputable def tab:List Int:=[0,1,56,2,57,49,28,3,61,58,42,50,38,29,17,4,62,47,59,36,45,43,51,22,53,39,33,30,24,18,12,5,63,55,48,27,60,41,37,16,46,35,44,21,52,32,23,11,54,26,40,15,34,20,31,10,25,14,19,9,13,8,7,6]
noncomputable def h0:H:=tabH 0 .u8 tab
set_option maxRecDepth 100000
theorem saysAwake:saysF Tryz.prog (drawE Tryz.prog) (lookX xl) (noS) 100000 (59+1) 19 h0=some true:=by
 decide+kernel
end Go.Proofs.YtghmnaojmpjglaaGreatDoor.PR
namespace Go.Proofs.YtghmnaojmpjglaaGreatDoor.PR
open Go.Proofs.YtghmnaojmpjglaaGreatDoor.Eo
open Go.Proofs (Tryz.prog)
set_option maxRecDepth 100000
set_option maxHeartbeats 4000000
noncomputable section
def isSl(P:Program)(t:TypeId):Bool:=match P.underlying t with
 |some (.slice _)=>true
 |_=>false
def isFn(P:Program)(t:TypeId):Bool:=match P.underlying t with
 |some (.func _ _ _)=>true
 |_=>false
theorem slOf{P:Program}{t:TypeId}(h:isSl P t=true):∃e,P.underlying t=some (.slice e):=by
 unfold isSl at h
 split at h
 ·rename_i e he;exact⟨e,he⟩
 ·cases h
theorem fnOf{P:Program}{t:TypeId}(h:isFn P t=true):∃a b c,P.underlying t=some (.func a b c):=by
 unfold isFn at h
 split at h
 ·rename_i a b c he;exact⟨a,b,c,he⟩
 ·cases h
theorem iEq_self(x:Int):iEq x x=true:=by rw[iEq_eq];simp
theorem beq_self'(b:Bool):(b==b)=true:=by cases b<;>rfl
theorem n296(t a k x y:Int)(b:Bool):evBin Tryz.prog .neq 296 false false (.agg [.int .i64 t,.int .i64 a,.int .u8 k,.int .u64 x,.int .u64 y,.bool b]) (.agg [.int .i64 t,.int .i64 a,.int .u8 k,.int .u64 x,.int .u64 y,.bool b])=some (.bool false):=by
 have e:evBin Tryz.prog .neq 296 false false (.agg [.int .i64 t,.int .i64 a,.int .u8 k,.int .u64 x,.int .u64 y,.bool b]) (.agg [.int .i64 t,.int .i64 a,.int .u8 k,.int .u64 x,.int .u64 y,.bool b])=(match(bif iEq t t then bif iEq a a then bif iEq k k then bif iEq x x then bif iEq y y then bif (b==b)then some true else some false else some false else some false else some false else some false else some false)with|some r=>some (.bool (!r))|none=>none):=by kernel_rfl
 rw[e,iEq_self,iEq_self,iEq_self,iEq_self,iEq_self,beq_self']
 rfl
theorem n231(a t k x:Int):evBin Tryz.prog .neq 231 false false (.agg [.int .i64 a,.int .i64 t,.int .u8 k,.int .u64 x]) (.agg [.int .i64 a,.int .i64 t,.int .u8 k,.int .u64 x])=some (.bool false):=by
 have e:evBin Tryz.prog .neq 231 false false (.agg [.int .i64 a,.int .i64 t,.int .u8 k,.int .u64 x]) (.agg [.int .i64 a,.int .i64 t,.int .u8 k,.int .u64 x])=(match(bif iEq a a then bif iEq t t then bif iEq k k then bif iEq x x then some true else some false else some false else some false else some false)with|some r=>some (.bool (!r))|none=>none):=by kernel_rfl
 rw[e,iEq_self,iEq_self,iEq_self,iEq_self]
 rfl
instance pt:PT Tryz.prog where
 ptr:=by kernel_rfl
 agg3:=by kernel_rfl
 sl22:=slOf (by kernel_rfl)
 opA:=fun g G=>by kernel_rfl
 opB:=fun g G=>by kernel_rfl
 opC:=fun g G=>by kernel_rfl
 sl47:=slOf (by kernel_rfl)
 fn78:=fnOf (by kernel_rfl)
 enA:=fun g G=>by kernel_rfl
 enB:=fun g G=>by kernel_rfl
 enC:=fun g G=>by kernel_rfl
 rwA:=fun g G=>by kernel_rfl
 rwB:=fun g G=>by kernel_rfl
 rwC:=fun g G=>by kernel_rfl
 stA:=fun g G=>by kernel_rfl
 stB:=fun g G=>by kernel_rfl
 stC:=fun g G=>by kernel_rfl
 nxA:=fun g G=>by kernel_rfl
 nxB:=fun g G=>by kernel_rfl
 nxC:=fun g G=>by kernel_rfl
 nextE:=fun g G=>by kernel_rfl
 nextM:=fun g G=>by kernel_rfl
instance pq:PQ Tryz.prog where
 agg24:=by kernel_rfl
instance pe:PE Tryz.prog where
 ne296:=n296
 ne231:=n231
instance pl:PL Tryz.prog where
 bool4:=by kernel_rfl
def X(f:FuncId):Option ATag:=cond (Nat.beq f 174) (some .swap) (cond (Nat.beq f 224) (some .load) (cond (Nat.beq f 233) (some .store) (cond (Nat.beq f 468) (some .add) none)))
theorem X_at(f:FuncId)(tag:ATag)(g:FuncId)(t0:ATag)(r:Option ATag)(h:cond (Nat.beq f g) (some t0) r=some tag):(f=g∧tag=t0)∨r=some tag:=by
 cases e:Nat.beq f g with
 |true=>rw[e]at h;exact .inl ⟨Nat.eq_of_beq_eq_true e,(Option.some.inj h).symm⟩
 |false=>rw[e]at h;exact .inr h
theorem X_ok:AtomX Tryz.prog X:=by
 intro f tag ht
 rcases X_at _ _ _ _ _ ht with⟨rfl,rfl⟩|ht
 ·exact⟨by kernel_rfl,_,rfl,by kernel_rfl,by kernel_rfl,by kernel_rfl,by kernel_rfl⟩
 rcases X_at _ _ _ _ _ ht with⟨rfl,rfl⟩|ht
 ·exact⟨by kernel_rfl,_,rfl,by kernel_rfl,by kernel_rfl,by kernel_rfl,by kernel_rfl⟩
 rcases X_at _ _ _ _ _ ht with⟨rfl,rfl⟩|ht
 ·exact⟨by kernel_rfl,_,rfl,by kernel_rfl,by kernel_rfl,by kernel_rfl,by kernel_rfl⟩
 rcases X_at _ _ _ _ _ ht with⟨rfl,rfl⟩|ht
 ·exact⟨by kernel_rfl,_,rfl,by kernel_rfl,by kernel_rfl,by kernel_rfl,by kernel_rfl⟩
 cases ht
def bX:CallE:=fun f args h=>cond (Nat.beq f 19) (match args with| []=>cond (hasTab 0 .u8 tab h) (some (.bool true,h)) none|_=>none) (atomE X f args h)
theorem bX_at{f:FuncId}(hf:Nat.beq f 19=false)(args:List AV)(h:H):bX f args h=atomE X f args h:=by unfold bX;rw[hf];rfl
abbrev cX(n:Nat):CallE:=callX Tryz.prog bX n
theorem exX{n:Nat}{f:FuncId}{args:List AV}{h:H}{v:AV}{h0:H}(e:∃v' h',cX n f args h=some (v',h')∧(v'=v∧h'=h0)):cX n f args h=some (v,h0):=by
 obtain⟨v',h',e,rfl,rfl⟩:=e
 exact e
theorem cO{f k n:Nat}{c:CF}(q:Kn f k c){args:List AV}{h:H}{Post:AV->H->Prop}(hk:args.length=k)(h0:bX f args h=none)(hw:WF Tryz.prog (cX n) c args h Post):∃v h',cX (n+1) f args h=some (v,h')∧Post v h':=
 callX_of h0 q.has q.key (by rw[hk];exact q.cf) hw
theorem eO{f k n:Nat}{c:CF}(q:Kn f k c){args:List AV}{h h1:H}{v:AV}(hk:args.length=k)(h0:bX f args h=none)(hw:WF Tryz.prog (cX n) c args h fun v' h'=>v'=v∧h'=h1):cX (n+1) f args h=some (v,h1):=
 exX (cO q hk h0 hw)
theorem atomE_at{f:FuncId}{tag:ATag}(e:X f=some tag)(args:List AV)(h:H):atomE X f args h=evA h tag args:=by unfold atomE;rw[e]
theorem b174(n:Nat):F174 (cX n):=fun h W i x z cs m e hg hx hn=>callX_base (base:=bX) (by
 rw[bX_at rfl,atomE_at (tag:=.swap) rfl]
 have hb:Nat.ble (i+1) m=true:=by simp;omega
 have hi:=(List.getElem?_eq_some_iff.1 hx).1
 simp only[evA,wordA,putA,hg,rowGet,hx,hb,oneA,Bool.and_self,cond_true,putList_cons,putList_nil,rowSet _ _ _ hi]) n
theorem b224(n:Nat):F224 (cX n):=fun h W i x hx=>callX_base (base:=bX) (by
 obtain⟨cs,m,e,hg,hi⟩:=hx
 rw[bX_at rfl,atomE_at (tag:=.load) rfl]
 simp only[evA,wordA,hg,rowGet,hi]) n
theorem b233(n:Nat):F233 (cX n):=fun h W i x cs m e hg hi hn=>callX_base (base:=bX) (by
 rw[bX_at rfl,atomE_at (tag:=.store) rfl]
 have hb:Nat.ble (i+1) m=true:=by simp;omega
 simp only[evA,putA,hg,hb,oneA,Bool.and_self,cond_true,putList_cons,putList_nil,rowSet _ _ _ hi]) n
theorem b468(n:Nat):FAdd (cX n) 468:=fun h W i x d z cs m e hg hx hn hz=>callX_base (base:=bX) (by
 rw[bX_at rfl,atomE_at (tag:=.add) rfl]
 have hb:Nat.ble (i+1) m=true:=by simp;omega
 have hi:=(List.getElem?_eq_some_iff.1 hx).1
 simp only[evA,wordA,putA,hg,rowGet,hx,hb,oneA,Bool.and_self,cond_true,putList_cons,putList_nil,rowSet _ _ _ hi,hz]) n
theorem b19(n:Nat){cells:T AV}(hc:chkTab .u8 tab cells 0=true):F19 (cX n) (.tab cells):=fun h hg=>callX_base (base:=bX) (by
 show cond (hasTab 0 .u8 tab h) (some (AV.bool true,h)) none=_
 have:hasTab 0 .u8 tab h=true:=by
  unfold hasTab
  rw[hg]
  exact hc
 simp only[this,cond_true]) n
end
end Go.Proofs.YtghmnaojmpjglaaGreatDoor.PR
namespace Go.Proofs.YtghmnaojmpjglaaGreatDoor.PR
open Go.Proofs.YtghmnaojmpjglaaGreatDoor.Eo
open Go.Proofs (Tryz.prog)
set_option maxRecDepth 100000
set_option maxHeartbeats 4000000
noncomputable section
variable(N:Nat)
theorem f166:F166 (cX (N+1)):=by
 unfold F166
 intros
 refine cO k166 rfl rfl ?_
 apply w166<;>try first|assumption
theorem f84:F84 (cX (N+2)):=by
 unfold F84
 intros
 refine cO k84 rfl rfl ?_
 apply w84<;>try first|assumption|exact f166 N
theorem f21:F21 (cX (N+3)):=by
 unfold F21
 intros
 refine cO k21 rfl rfl ?_
 apply w21<;>try first|assumption|exact f84 N
theorem i231:∀h n a b,(cX (N+1)) 231 [.int .i64 n,.int .i64 a,.int .i64 b] h=some (.bool (decide (a<=n∧n<=b)),h):=by
 intros
 refine eO k231 rfl rfl ?_
 apply w231<;>try first|assumption
theorem i188:∀h v (l:List Int),RdL none 1 h v (l.map fun x:Int=>AV.int .u64 x)->(cX (N+1)) 188 [v] h=some (.bool (ascB 0 l),h):=by
 intros
 refine eO k188 rfl rfl ?_
 apply w188<;>try first|assumption
theorem i112:∀h k n v (l:List Int),RdL none 1 h v (l.map fun x:Int=>AV.int .u64 x)->(∀a,own v=some a->a<h.next)->∃v' h',(cX (N+2)) 112 [.agg [.int .u8 k,.int .i64 n,v]] h=some (v',h')∧SaysE (domB k n l) h v' h':=by
 intros
 refine cO k112 rfl rfl ?_
 apply w112<;>try first|assumption|exact i188 N
theorem f153:F153 (cX (N+3)):=by
 unfold F153
 intros
 refine cO k153 rfl rfl ?_
 apply w153<;>try first|assumption|exact i231 (N+1)|exact i112 N
theorem f154:F154 (cX (N+1)):=by
 unfold F154
 intros
 refine cO k154 rfl rfl ?_
 apply w154<;>try first|assumption
theorem i112_8:∀h k n v (l:List Int),RdL none 1 h v (uL l)->(∀a,own v=some a->a<h.next)->∃v' h',(cX (N+2)) 112 [.agg [.int .u8 k,.int .i64 n,v]] h=some (v',h')∧SaysE (domB k n l) h v' h':=by
 intros
 refine cO k112 rfl rfl ?_
 apply w112<;>try first|assumption|exact i188 N
theorem i232:∀h k n v (l:List Int),RdL none 1 h v (uL l)->∃v' h',(cX (N+1)) 232 [.agg [.int .u8 k,.int .i64 n,v]] h=some (v',h')∧v'=.int .i64 (valN k n l)∧StepN h h':=by
 intros
 refine cO k232 rfl rfl ?_
 apply w232<;>try first|assumption
theorem f155:F155 (cX (N+3)):=by
 unfold F155
 intros
 refine cO k155 rfl rfl ?_
 apply w155<;>try first|assumption|exact i112_8 N|exact i232 (N+1)
theorem f157:F157 (cX (N+1)):=by
 unfold F157
 intros
 refine cO k157 rfl rfl ?_
 apply w157<;>try first|assumption
theorem f156:F156 (cX (N+1)):=by
 unfold F156
 intros
 refine cO k156 rfl rfl ?_
 apply w156'<;>try first|assumption
theorem f77:F77 (cX (N+4)):=by
 unfold F77
 intros
 refine cO k77 rfl rfl ?_
 apply w77<;>try first|assumption|exact f153 N|exact f154 (N+2)|exact f155 N|exact f157 (N+2)|exact f156 (N+2)
theorem f160:F160 (cX (N+1)):=by
 unfold F160
 intros
 refine eO k160 rfl rfl ?_
 apply w160<;>try first|assumption
theorem f79:F79 (cX (N+2)):=by
 unfold F79
 intros
 refine cO k79 rfl rfl ?_
 apply w79<;>try first|assumption|exact f160 N
theorem i159:∀h W i (x:Int) cs n e,h.t.get W=some (.row (putList 0 cs T.e) n e)->i<cs.length->i<n->(cX (N+1)) 159 [.ptr W i,.int .u64 x] h=some (.tup [],⟨h.next,h.t.set W (.row (putList 0 (cs.set i (.int .u64 x)) T.e) n e)⟩):=by
 intros
 refine eO k159 rfl rfl ?_
 apply w159<;>try first|assumption|exact b233 N
theorem i158:∀h (n:Int),(cX (N+1)) 158 [.int .i64 n] h=some (.int .i64 (if n=0 then 2 else if 65536<n then 5 else 0),h):=by
 intros
 refine eO k158 rfl rfl ?_
 apply w158<;>try first|assumption
theorem f78:F78 (cX (N+2)):=by
 unfold F78
 intros
 refine cO k78 rfl rfl ?_
 apply w78<;>try first|assumption|exact i159 N|exact i158 N
theorem f83:F83 (cX (N+1)):=by
 unfold F83
 intros
 refine cO k83 rfl rfl ?_
 apply w83'<;>try first|assumption
theorem i91:∀h M W ws (t a:Int),MemH h M W ws->(cX (N+1)) 91 [.ptr M 0,.int .i64 t,.int .i64 a] h=some (.int .i64 (if t<0∨64<=t then 2 else if a<0∨(ws.length:Int)<=a then 3 else 0),h):=by
 intros
 refine eO k91 rfl rfl ?_
 apply w91<;>try first|assumption
theorem i143:∀h W i (x:Int),(∃cs n e,h.t.get W=some (.row (putList 0 cs T.e) n e)∧cs[i]?=some (.int .u64 x))->(cX (N+1)) 143 [.ptr W i] h=some (.int .u64 x,h):=by
 intros
 refine eO k143 rfl rfl ?_
 apply w143<;>try first|assumption|exact b224 N
theorem fPeek:FPeek (cX (N+2)):=by
 unfold FPeek
 intros
 refine eO k109 rfl rfl ?_
 apply w109<;>try first|assumption|exact i91 N|exact i143 N
theorem f161:F161 (cX (N+1)):=by
 unfold F161
 intros
 refine eO k161 rfl rfl ?_
 apply w161<;>try first|assumption
theorem f80:F80 (cX (N+3)):=by
 unfold F80
 intros
 refine cO k80 rfl rfl ?_
 apply w80<;>try first|assumption|exact f83 (N+1)|exact fPeek N|exact f161 (N+1)
theorem f60:F60 (cX (N+2)):=by
 unfold F60
 intros
 refine cO k60 rfl rfl ?_
 apply w60<;>try first|assumption|exact i143 N
theorem f81:F81 (cX (N+3)):=by
 unfold F81
 intros
 refine cO k81 rfl rfl ?_
 apply w81<;>try first|assumption|exact f83 (N+1)|exact f60 N
theorem fFW234:FW (cX (N+1)) 234 64 1:=by
 unfold FW
 simp only[Int.one_mul]
 intros
 refine eO k234 rfl rfl ?_
 apply w234<;>try first|assumption
theorem fFW235:FW (cX (N+1)) 235 64 2:=by
 unfold FW
 intros
 refine eO k235 rfl rfl ?_
 apply w235<;>try first|assumption
theorem fFW236:FW (cX (N+1)) 236 16 4:=by
 unfold FW
 intros
 refine eO k236 rfl rfl ?_
 apply w236<;>try first|assumption
theorem i162:∀h c,EngOK c->(cX (N+2)) 162 [.int .u8 c.engine,.int .i64 c.slots,.int .i64 c.buckets] h=some (.tup [.int .i64 (engN c),.int .i64 0],h):=by
 intros
 refine eO k162 rfl rfl ?_
 apply w162<;>try first|assumption|exact fFW234 N|exact fFW235 N|exact fFW236 N
theorem i163:∀h M W ws n base,MemH h M W ws->1<=n->n<=64->0<=base->base+((n:Nat):Int)<=((ws:List Int).length:Int)->base<=60000->∃v h',(cX (N+3)) 163 [.ptr M 0,.int .i64 base,.int .i64 (n:Int)] h=some (v,h')∧Eng70 M n base h v h':=by
 intros
 refine cO k163 rfl rfl ?_
 apply w163<;>try first|assumption|exact fFW234 (N+1)|exact fPeek N
theorem i164:∀h M W ws n base,MemH h M W ws->M<h.next->W<h.next->1<=n->n<=64->0<=base->base+2*((n:Nat):Int)<=((ws:List Int).length:Int)->base<=60000->∃v h',(cX (N+3)) 164 [.ptr M 0,.int .i64 base,.int .i64 (n:Int)] h=some (v,h')∧Eng71 M n base h v h':=by
 intros
 refine cO k164 rfl rfl ?_
 apply w164<;>try first|assumption|exact fFW235 (N+1)|exact fPeek N
theorem i165:∀h M W ws n base,MemH h M W ws->1<=n->n<=16->0<=base->base+4*n<=((ws:List Int).length:Int)->base<=60000->∃v h',(cX (N+3)) 165 [.ptr M 0,.int .i64 base,.int .i64 n] h=some (v,h')∧Eng72 M base n h v h':=by
 intros
 refine cO k165 rfl rfl ?_
 apply w165<;>try first|assumption|exact fFW236 (N+1)|exact fPeek N
theorem f82:F82 (cX (N+4)):=by
 unfold F82
 intros
 refine cO k82 rfl rfl ?_
 apply w82<;>try first|assumption|exact i162 (N+1)|exact i163 N|exact i164 N|exact i165 N
theorem f20:F20 (cX (N+5)):=by
 unfold F20
 intros
 refine cO k20 rfl rfl ?_
 apply w20<;>try first|assumption|exact f77 N|exact f79 (N+2)|exact f78 (N+2)|exact f80 (N+1)|exact f81 (N+1)|exact f83 (N+3)|exact f82 N
theorem i130:∀h k n v (l:List Int),RdL none 1 h v (l.map fun x:Int=>AV.int .u64 x)->(∀a,own v=some a->a<h.next)->(∀x∈l,inU x)->∃v' h',(cX (N+1)) 130 [.agg [.int .u8 k,.int .i64 n,v]] h=some (v',h')∧SaysE (domB k n l) h v' h':=by
 intros
 refine cO k130 rfl rfl ?_
 apply w130<;>try first|assumption
theorem f167:F167 (cX (N+2)):=by
 unfold F167
 intros
 refine cO k167 rfl rfl ?_
 apply w167<;>try first|assumption|exact i130 N
theorem f130:F130 (cX (N+1)):=by
 unfold F130
 intros
 refine cO k130 rfl rfl ?_
 apply w130<;>try first|assumption
theorem f168:F168 (cX (N+2)):=by
 unfold F168
 intros
 refine cO k168 rfl rfl ?_
 apply w168<;>try first|assumption|exact f130 N
theorem f169:F169 (cX (N+1)):=by
 intro g0 L c cv p hs wl h kd fi pe n nn en ov hn hpe r
 subst en
 exact cO k169 rfl rfl (w169 Tryz.prog ov hn hpe r)
theorem f85:F85 (cX (N+3)):=by
 unfold F85
 intros
 refine cO k85 rfl rfl ?_
 apply w85<;>try first|assumption|exact f167 N|exact f168 N|exact f169 (N+1)
theorem f87:F87 (cX (N+1)):=by
 unfold F87
 intros
 refine cO k87 rfl rfl ?_
 apply w87<;>try first|assumption
theorem f86:F86 (cX (N+1)):=by
 unfold F86
 intros
 refine cO k86 rfl rfl ?_
 apply w86<;>try first|assumption
theorem f88:F88 (cX (N+1)):=by
 unfold F88
 intros
 refine cO k88 rfl rfl ?_
 apply w88<;>try first|assumption
theorem f89:F89 (cX (N+1)):=by
 unfold F89
 intros
 refine cO k89 rfl rfl ?_
 apply w89<;>try first|assumption
theorem fFW239:FW (cX (N+1)) 239 64 1:=by
 intro h n h1 h2
 exact eO k239 rfl rfl (w239 Tryz.prog h1 h2)
theorem fFW240:FW (cX (N+1)) 240 64 2:=by
 unfold FW
 intros
 refine eO k240 rfl rfl ?_
 apply w240<;>try first|assumption
theorem fFW238:FW (cX (N+1)) 238 16 4:=by
 unfold FW
 intros
 refine eO k238 rfl rfl ?_
 apply w238<;>try first|assumption
theorem i170:∀h c,EngOK c->(cX (N+2)) 170 [.int .u8 c.engine,.int .i64 c.slots,.int .i64 c.buckets] h=some (.tup [.int .i64 (engN c),.int .i64 0],h):=by
 intros
 refine eO k170 rfl rfl ?_
 apply w170<;>try first|assumption|exact fFW239 N|exact fFW240 N|exact fFW238 N
theorem f241:F241 (cX (N+1)):=by
 unfold F241
 intros
 refine eO k241 rfl rfl ?_
 apply w241<;>try first|assumption
theorem i171:∀h M W ws lg n base,RMem h M W ws lg->1<=n->n<=64->0<=base->base+((n:Nat):Int)<=((ws:List Int).length:Int)->ws.length<=60000->∃v h',(cX (N+2)) 171 [.ptr M 0,.int .i64 base,.int .i64 (n:Int)] h=some (v,h')∧REng M n 362 base h v h':=by
 intros
 refine cO k171 rfl rfl ?_
 apply w171<;>try first|assumption|exact fFW239 N|exact f241 N
theorem i172:∀h M W ws lg n base,RMem h M W ws lg->1<=n->n<=64->0<=base->base+2*((n:Nat):Int)<=((ws:List Int).length:Int)->ws.length<=60000->∃v h',(cX (N+2)) 172 [.ptr M 0,.int .i64 base,.int .i64 (n:Int)] h=some (v,h')∧REng M n 368 base h v h':=by
 intros
 refine cO k172 rfl rfl ?_
 apply w172<;>try first|assumption|exact fFW240 N|exact f241 N
theorem i173:∀h M W ws lg n base,RMem h M W ws lg->1<=n->n<=16->0<=base->base+4*n<=((ws:List Int).length:Int)->ws.length<=60000->∃v h',(cX (N+2)) 173 [.ptr M 0,.int .i64 base,.int .i64 n] h=some (v,h')∧REngC M base n h v h':=by
 intros
 refine cO k173 rfl rfl ?_
 apply w173<;>try first|assumption|exact fFW238 N|exact f241 N
theorem f90:F90 (cX (N+3)):=by
 unfold F90
 intros
 refine cO k90 rfl rfl ?_
 apply w90<;>try first|assumption|exact i170 N|exact i171 N|exact i172 N|exact i173 N
theorem f22:F22 (cX (N+4)):=by
 unfold F22
 intros
 refine cO k22 rfl rfl ?_
 apply w22<;>try first|assumption|exact f85 N|exact f87 (N+2)|exact f86 (N+2)|exact f88 (N+2)|exact f89 (N+2)|exact f90 N
theorem f4:F4 (cX (N+6)):=by
 unfold F4
 intros
 refine cO k4 rfl rfl ?_
 apply w4<;>try first|assumption|exact f21 (N+2)|exact f20 N|exact f22 (N+1)
theorem f7:F7 (cX (N+1)):=by
 unfold F7
 intros
 refine eO k7 rfl rfl ?_
 apply w7<;>try first|assumption
theorem f23:F23 (cX (N+2)):=by
 unfold F23
 intros
 refine cO k23 rfl rfl ?_
 apply w23<;>try first|assumption|exact f7 N
theorem f5:F5 (cX (N+3)):=by
 unfold F5
 intros
 refine cO k5 rfl rfl ?_
 apply w5<;>try first|assumption|exact f7 (N+1)|exact f23 N
theorem f24:F24 (cX (N+1)):=by
 unfold F24
 intros
 refine eO k24 rfl rfl ?_
 apply w24<;>try first|assumption
theorem f91:F91 (cX (N+1)):=by
 unfold F91
 intros
 refine eO k91 rfl rfl ?_
 apply w91<;>try first|assumption
theorem f92:F92 (cX (N+1)):=by
 unfold F92
 intros
 refine eO k92 rfl rfl ?_
 apply w92<;>try first|assumption|exact b174 N
theorem f93:F93 (cX (N+1)):=by
 unfold F93
 intros
 refine cO k93 rfl rfl ?_
 apply w93<;>try first|assumption
theorem f25:F25 (cX (N+2)):=by
 unfold F25
 intros
 refine cO k25 rfl rfl ?_
 apply w25<;>try first|assumption|exact f91 N|exact f92 N|exact f93 N
theorem f34:F34 (cX (N+1)):=by
 unfold F34
 intros
 refine eO k34 rfl rfl ?_
 apply w34<;>try first|assumption
theorem f94:F94 (cX (N+2)):=by
 unfold F94
 intros
 refine eO k94 rfl rfl ?_
 apply w94<;>try first|assumption|exact f34 N
theorem f95:F95 (cX (N+1)):=by
 unfold F95
 intros
 refine cO k95 rfl rfl ?_
 apply w95<;>try first|assumption
theorem f26:F26 (cX (N+3)):=by
 unfold F26
 intros
 refine cO k26 rfl rfl ?_
 apply w26<;>try first|assumption|exact f94 N|exact f95 (N+1)
theorem f6:F6 (cX (N+4)):=by
 unfold F6
 intros
 refine cO k6 rfl rfl ?_
 apply w6<;>try first|assumption|exact f24 (N+2)|exact f25 (N+1)|exact f26 N
theorem f96:F96 (cX (N+1)):=by
 unfold F96
 intros
 refine eO k96 rfl rfl ?_
 apply w96<;>try first|assumption
theorem fFThr432:FThr (cX (N+1)) 432:=by
 unfold FThr
 intros
 refine eO k432 rfl rfl ?_
 apply w432<;>try first|assumption
theorem f429:F429 (cX (N+2)):=by
 unfold F429
 intros
 refine eO k429 rfl rfl ?_
 apply w429<;>try first|assumption|exact fFThr432 N
theorem f430:F430 (cX (N+1)):=by
 unfold F430
 intros
 refine eO k430 rfl rfl ?_
 apply w430<;>try first|assumption
theorem f424:F424 (cX (N+3)):=by
 unfold F424
 intros
 refine cO k424 rfl rfl ?_
 apply w424<;>try first|assumption|exact f429 N|exact f430 (N+1)
theorem fFThr446:FThr (cX (N+1)) 446:=by
 unfold FThr
 intros
 refine eO k446 rfl rfl ?_
 apply w446<;>try first|assumption
theorem f445:F445 (cX (N+2)):=by
 unfold F445
 intros
 refine eO k445 rfl rfl ?_
 apply w445<;>try first|assumption|exact fFThr446 N
theorem f440:F440 (cX (N+3)):=by
 unfold F440
 intros
 refine cO k440 rfl rfl ?_
 apply w440<;>try first|assumption|exact f445 N
theorem fFThr459:FThr (cX (N+1)) 459:=by
 unfold FThr
 intros
 refine eO k459 rfl rfl ?_
 apply w459<;>try first|assumption
theorem f455:F455 (cX (N+2)):=by
 unfold F455
 intros
 refine eO k455 rfl rfl ?_
 apply w455<;>try first|assumption|exact fFThr459 N
theorem i462:∀h (n:Int),1<=n->n<=16->(cX (N+1)) 462 [.int .i64 n] h=some (.int .i64 0,h):=by
 intros
 refine eO k462 rfl rfl ?_
 apply w462<;>try first|assumption
theorem f456:F456 (cX (N+2)):=by
 unfold F456
 intros
 refine eO k456 rfl rfl ?_
 apply w456<;>try first|assumption|exact i462 N
theorem f457:F457 (cX (N+1)):=by
 unfold F457
 intros
 refine cO k457 rfl rfl ?_
 apply w457<;>try first|assumption
theorem f451:F451 (cX (N+3)):=by
 unfold F451
 intros
 refine cO k451 rfl rfl ?_
 apply w451<;>try first|assumption|exact f455 N|exact f456 N|exact f457 (N+1)
theorem fHold438:FHold (cX (N+1)) 438 576:=by
 intro h
 exact⟨fun X=>eO k438 rfl rfl (w438 Tryz.prog),eO k438 rfl rfl (w438b Tryz.prog)⟩
theorem fHold449:FHold (cX (N+1)) 449 588:=by
 intro h
 exact⟨fun X=>eO k449 rfl rfl (w449 Tryz.prog),eO k449 rfl rfl (w449b Tryz.prog)⟩
theorem fHold483:FHold (cX (N+1)) 483 605:=by
 intro h
 exact⟨fun X=>eO k483 rfl rfl (w483 Tryz.prog),eO k483 rfl rfl (w483b Tryz.prog)⟩
theorem fHe:FHe (cX (N+4)):=by
 intro h M n1 bs ek nu t s x m hn hb t0 t1 hx x1
 have hr:=fun h1 (st:StepN h h1)=>rawE (f424 N) (f440 N) (f451 N) (m.step st) hn hb t0 t1 hx x1
 cases ek with
 |full G Nn B=>exact cO k436 rfl rfl (w436 Tryz.prog (fHold438 (N+2)) hr)
 |each G Nn F=>exact cO k447 rfl rfl (w447 Tryz.prog (fHold449 (N+2)) hr)
 |gate G S nb Sx=>exact cO k481 rfl rfl (w481 Tryz.prog (fHold483 (N+2)) hr)
theorem f27:F27 (cX (N+5)):=by
 unfold F27
 intros
 refine cO k27 rfl rfl ?_
 apply w27<;>try first|assumption|exact f96 (N+3)|exact fHe N
theorem f8:F8 (cX (N+6)):=by
 unfold F8
 intros
 refine cO k8 rfl rfl ?_
 apply w8<;>try first|assumption|exact f27 N
theorem f175:F175 (cX (N+2)):=by
 unfold F175
 intros
 refine eO k175 rfl rfl ?_
 apply w175<;>try first|assumption|exact f34 N
theorem f97:F97 (cX (N+3)):=by
 unfold F97
 intros
 refine cO k97 rfl rfl ?_
 apply w97<;>try first|assumption|exact f175 N
theorem f98:F98 (cX (N+3)):=by
 unfold F98
 intros
 refine cO k98 rfl rfl ?_
 apply w98<;>try first|assumption|exact f175 N
theorem f99:F99 (cX (N+3)):=by
 unfold F99
 intros
 refine cO k99 rfl rfl ?_
 apply w99<;>try first|assumption|exact f175 N
theorem fRw:FRw (cX (N+3)):=by
 intro h M n bs rk nu t s x m hn t0 t1 hx x1
 exact rawEB (f97 N) (f98 N) (f99 N) m hn t0 t1 hx x1
theorem f28:F28 (cX (N+4)):=by
 unfold F28
 intros
 refine cO k28 rfl rfl ?_
 apply w28<;>try first|assumption|exact f34 (N+2)|exact fRw N
theorem f9:F9 (cX (N+5)):=by
 unfold F9
 intros
 refine cO k9 rfl rfl ?_
 apply w9<;>try first|assumption|exact f28 N
theorem f428:F428 (cX (N+3)):=by
 unfold F428
 intros
 refine cO k428 rfl rfl ?_
 apply w428<;>try first|assumption|exact f25 N
theorem f431:F431 (cX (N+4)):=by
 unfold F431
 intros
 refine cO k431 rfl rfl ?_
 apply w431<;>try first|assumption|exact f428 N
theorem f555a:F555a (cX (N+5)):=by
 unfold F555a
 intros
 refine cO k555 rfl rfl ?_
 apply w555<;>try first|assumption|exact f431 N
theorem f555b:F555b (cX (N+1)):=by
 unfold F555b
 intros
 refine eO k555 rfl rfl ?_
 apply w555b<;>try first|assumption
theorem f560:F560 (cX (N+1)):=by
 unfold F560
 intros
 refine cO k560 rfl rfl ?_
 apply w560<;>try first|assumption
theorem f559z:F559z (cX (N+2)):=by
 unfold F559z
 intros
 refine cO k559 rfl rfl ?_
 apply w559z<;>try first|assumption|exact f560 N
theorem f237:F237 (cX (N+1)):=by
 unfold F237
 intros
 refine eO k237 rfl rfl ?_
 apply w237<;>try first|assumption
theorem f561:F561 (cX (N+3)):=by
 unfold F561
 intros
 refine cO k561 rfl rfl ?_
 apply w561<;>try first|assumption|exact f25 N|exact f237 (N+1)
theorem f559a:F559a (cX (N+4)):=by
 unfold F559a
 intros
 refine cO k559 rfl rfl ?_
 apply w559a<;>try first|assumption|exact f560 (N+2)|exact f561 N
theorem f444:F444 (cX (N+3)):=by
 unfold F444
 intros
 refine cO k444 rfl rfl ?_
 apply w444<;>try first|assumption|exact f25 N|exact f237 (N+1)
theorem f562:F562 (cX (N+4)):=by
 unfold F562
 intros
 refine cO k562 rfl rfl ?_
 apply w562<;>try first|assumption|exact f444 N
theorem f559b:F559b (cX (N+5)):=by
 unfold F559b
 intros
 refine cO k559 rfl rfl ?_
 apply w559b<;>try first|assumption|exact f560 (N+3)|exact f562 N
theorem f570:F570 (cX (N+1)):=by
 unfold F570
 intros
 refine eO k570 rfl rfl ?_
 apply w570<;>try first|assumption
theorem f571z:F571z (cX (N+2)):=by
 unfold F571z
 intros
 refine eO k571 rfl rfl ?_
 apply w571z<;>try first|assumption|exact f570 N
theorem f143:F143 (cX (N+1)):=by
 unfold F143
 intros
 refine eO k143 rfl rfl ?_
 apply w143<;>try first|assumption|exact b224 N
theorem f243:F243 (cX (N+2)):=by
 unfold F243
 intros
 refine cO k243 rfl rfl ?_
 apply w243<;>try first|assumption|exact f91 N|exact f143 N|exact f93 N
theorem f571a:F571a (cX (N+3)):=by
 unfold F571a
 intros
 refine cO k571 rfl rfl ?_
 apply w571a<;>try first|assumption|exact f570 (N+1)|exact f243 N
theorem fFAdd463:FAdd (cX (N+1)) 463:=by
 unfold FAdd
 intros
 refine eO k463 rfl rfl ?_
 apply w463<;>try first|assumption|exact b468 N
theorem f458:F458 (cX (N+2)):=by
 unfold F458
 intros
 refine cO k458 rfl rfl ?_
 apply w458<;>try first|assumption|exact f91 N|exact fFAdd463 N|exact f93 N
theorem f571b:F571b (cX (N+3)):=by
 unfold F571b
 intros
 refine cO k571 rfl rfl ?_
 apply w571b<;>try first|assumption|exact f570 (N+1)|exact f458 N
theorem fSt:FSt (cX (N+5)):=by
 intro h M W n bs nu t s X Y ek d lv ws l m mm hl wi hn t0 t1
 exact stepPA (f555a N) (f555b (N+4)) (f559z (N+3)) (f559a (N+1)) (f559b N) (f571z (N+3)) (f571a (N+2)) (f571b (N+2)) m mm hl wi hn t0 t1
theorem f29:F29 (cX (N+6)):=by
 unfold F29
 intros
 refine cO k29 rfl rfl ?_
 apply w29<;>try first|assumption|exact fSt N
theorem f100:F100 (cX (N+1)):=by
 unfold F100
 intros
 refine eO k100 rfl rfl ?_
 apply w100<;>try first|assumption
theorem f30:F30 (cX (N+2)):=by
 unfold F30
 intros
 refine cO k30 rfl rfl ?_
 apply w30<;>try first|assumption|exact f100 N
theorem f10:F10 (cX (N+7)):=by
 unfold F10
 intros
 refine cO k10 rfl rfl ?_
 apply w10<;>try first|assumption|exact f29 N|exact f30 (N+4)
theorem fNil176:FNil (cX (N+1)) 176:=by
 unfold FNil
 intros
 refine eO k176 rfl rfl ?_
 apply w176n<;>try first|assumption
theorem fNil177:FNil (cX (N+1)) 177:=by
 unfold FNil
 intros
 refine eO k177 rfl rfl ?_
 apply w177n<;>try first|assumption
theorem fNil178:FNil (cX (N+1)) 178:=by
 unfold FNil
 intros
 refine eO k178 rfl rfl ?_
 apply w178n<;>try first|assumption
theorem fNil179:FNil (cX (N+1)) 179:=by
 unfold FNil
 intros
 refine eO k179 rfl rfl ?_
 apply w179<;>try first|assumption
theorem fNil180:FNil (cX (N+1)) 180:=by
 unfold FNil
 intros
 refine eO k180 rfl rfl ?_
 apply w180<;>try first|assumption
theorem fNil181:FNil (cX (N+1)) 181:=by
 unfold FNil
 intros
 refine eO k181 rfl rfl ?_
 apply w181<;>try first|assumption
theorem f176:F176 (cX (N+1)):=by
 unfold F176
 intros
 refine eO k176 rfl rfl ?_
 apply w176<;>try first|assumption
theorem f177:F177 (cX (N+1)):=by
 unfold F177
 intros
 refine eO k177 rfl rfl ?_
 apply w177<;>try first|assumption
theorem f178:F178 (cX (N+1)):=by
 unfold F178
 intros
 refine eO k178 rfl rfl ?_
 apply w178<;>try first|assumption
theorem f101:F101 (cX (N+2)):=by
 intro h X Q rk pc gQ hp hk
 exact eO k101 rfl rfl (w101 Tryz.prog (fNil176 N) (fNil177 N) (fNil178 N) (fNil179 N) (fNil180 N) (fNil181 N) gQ hp (hk _ (f176 N) (f177 N) (f178 N)))
theorem f31:F31 (cX (N+3)):=by
 unfold F31
 intros
 refine eO k31 rfl rfl ?_
 apply w31<;>try first|assumption|exact f101 N
theorem f102z:F102z (cX (N+2)):=by
 unfold F102z
 intros
 refine eO k102 rfl rfl ?_
 apply w102z<;>try first|assumption|exact f176 N
theorem f182:F182 (cX (N+4)):=by
 unfold F182
 intros
 refine cO k182 rfl rfl ?_
 apply w182<;>try first|assumption|exact f26 N
theorem f102a:F102a (cX (N+5)):=by
 unfold F102a
 intros
 refine cO k102 rfl rfl ?_
 apply w102<;>try first|assumption|exact f176 (N+3)|exact f182 N
theorem f103z:F103z (cX (N+2)):=by
 unfold F103z
 intros
 refine eO k103 rfl rfl ?_
 apply w103z<;>try first|assumption|exact f177 N
theorem f103a:F103a (cX (N+4)):=by
 unfold F103a
 intros
 refine cO k103 rfl rfl ?_
 apply w103a<;>try first|assumption|exact f177 (N+2)|exact f26 N
theorem f183:F183 (cX (N+4)):=by
 unfold F183
 intros
 refine cO k183 rfl rfl ?_
 apply w183<;>try first|assumption|exact f26 N
theorem f103b:F103b (cX (N+5)):=by
 unfold F103b
 intros
 refine cO k103 rfl rfl ?_
 apply w103b<;>try first|assumption|exact f177 (N+3)|exact f183 N
theorem f104z:F104z (cX (N+2)):=by
 unfold F104z
 intros
 refine eO k104 rfl rfl ?_
 apply w104z<;>try first|assumption|exact f178 N
theorem f184:F184 (cX (N+3)):=by
 unfold F184
 intros
 refine cO k184 rfl rfl ?_
 apply w184<;>try first|assumption|exact f94 N|exact f95 (N+1)
theorem f185:F185 (cX (N+1)):=by
 unfold F185
 intros
 refine eO k185 rfl rfl ?_
 apply w185<;>try first|assumption
theorem f104a:F104a (cX (N+4)):=by
 unfold F104a
 intros
 refine cO k104 rfl rfl ?_
 apply w104a<;>try first|assumption|exact f178 (N+2)|exact f184 N|exact f185 (N+2)
theorem f186:F186 (cX (N+3)):=by
 unfold F186
 intros
 refine cO k186 rfl rfl ?_
 apply w186<;>try first|assumption|exact f94 N|exact f95 (N+1)
theorem f104b:F104b (cX (N+4)):=by
 unfold F104b
 intros
 refine cO k104 rfl rfl ?_
 apply w104b<;>try first|assumption|exact f178 (N+2)|exact f186 N|exact f185 (N+2)
theorem fSr:FSr (cX (N+5)):=by
 intro h M W n bs nu t s X rk d lv ws l m mm hl wi hn t0 t1
 exact stepPB (f102z (N+3)) (f102a N) (f103z (N+3)) (f103a (N+1)) (f103b N) (f104z (N+3)) (f104a (N+1)) (f104b (N+1)) m mm hl wi hn t0 t1
theorem f33:F33 (cX (N+6)):=by
 unfold F33
 intros
 refine cO k33 rfl rfl ?_
 apply w33<;>try first|assumption|exact fSr N
theorem f32:F32 (cX (N+1)):=by
 unfold F32
 intros
 refine cO k32 rfl rfl ?_
 apply w32<;>try first|assumption
theorem f11:F11 (cX (N+7)):=by
 unfold F11
 intros
 refine cO k11 rfl rfl ?_
 apply w11<;>try first|assumption|exact f31 (N+3)|exact f33 N|exact f32 (N+5)
theorem f12:F12 (cX (N+1)):=by
 unfold F12
 intros
 refine cO k12 rfl rfl ?_
 apply w12<;>try first|assumption
theorem f13:F13 (cX (N+2)):=by
 unfold F13
 intros
 refine cO k13 rfl rfl ?_
 apply w13<;>try first|assumption|exact f34 N
theorem f108r:F108r (cX (N+2)):=by
 unfold F108r
 intros
 refine cO k108 rfl rfl ?_
 apply w108r<;>try first|assumption|exact f154 N
theorem f35:F35 (cX (N+3)):=by
 unfold F35
 intros
 refine cO k35 rfl rfl ?_
 apply w35r<;>try first|assumption|exact f108r N
theorem f24b:F24b (cX (N+1)):=by
 intro h A c M R hb
 obtain⟨L,Po,To,ev,V,G,g,_⟩:=hb.ex
 exact f24 N h A L M Po To R ev _ _ _ g
theorem f150:F150 (cX (N+1)):=by
 unfold F150
 intros
 refine cO k150 rfl rfl ?_
 apply w150<;>try first|assumption
theorem f110:F110 (cX (N+2)):=by
 unfold F110
 intros
 refine cO k110 rfl rfl ?_
 apply w110<;>try first|assumption|exact f150 N|exact f83 N
theorem f36:F36 (cX (N+4)):=by
 unfold F36
 intros
 refine cO k36 rfl rfl ?_
 apply w36<;>try first|assumption|exact f35 N|exact f24b (N+2)|exact f110 (N+1)|exact fPeek (N+1)
theorem f38:F38 (cX (N+1)):=by
 unfold F38
 intros
 refine eO k38 rfl rfl ?_
 apply w38<;>try first|assumption
theorem f426:F426 (cX (N+2)):=by
 unfold F426
 intros
 refine cO k426 rfl rfl ?_
 apply w426<;>try first|assumption|exact f430 N
theorem f442:F442 (cX (N+1)):=by
 unfold F442
 intros
 refine cO k442 rfl rfl ?_
 apply w442<;>try first|assumption
theorem f453:F453 (cX (N+1)):=by
 unfold F453
 intros
 refine cO k453 rfl rfl ?_
 apply w453<;>try first|assumption
theorem f39:F39 (cX (N+3)):=by
 unfold F39
 intros
 refine cO k39 rfl rfl ?_
 apply w39<;>try first|assumption|exact f426 N|exact f442 (N+1)|exact f453 (N+1)
theorem f111:F111 (cX (N+1)):=by
 unfold F111
 intros
 refine cO k111 rfl rfl ?_
 apply w111<;>try first|assumption
theorem f37:F37 (cX (N+2)):=by
 unfold F37
 intros
 refine eO k37 rfl rfl ?_
 apply w37<;>try first|assumption|exact f111 N
theorem f112:F112 (cX (N+2)):=by
 unfold F112
 intros
 refine cO k112 rfl rfl ?_
 apply w112<;>try first|assumption|exact i188 N
theorem f40:F40 (cX (N+3)):=by
 unfold F40
 intros
 refine cO k40 rfl rfl ?_
 apply w40<;>try first|assumption|exact f112 N
theorem f424g:F424g (cX (N+3)):=by
 unfold F424g
 intros
 refine cO k424 rfl rfl ?_
 apply w424g<;>try first|assumption|exact f429 N|exact f430 (N+1)
theorem f440g:F440g (cX (N+3)):=by
 unfold F440g
 intros
 refine cO k440 rfl rfl ?_
 apply w440g<;>try first|assumption|exact f445 N
theorem f456g:F456g (cX (N+2)):=by
 unfold F456g
 intros
 refine eO k456 rfl rfl ?_
 apply w456g<;>try first|assumption|exact i462 N
theorem f457g:F457g (cX (N+1)):=by
 unfold F457g
 intros
 refine cO k457 rfl rfl ?_
 apply w457g<;>try first|assumption
theorem f451g:F451g (cX (N+3)):=by
 unfold F451g
 intros
 refine cO k451 rfl rfl ?_
 apply w451g<;>try first|assumption|exact f455 N|exact f456g N|exact f457g (N+1)
theorem fHeg:FHeg (cX (N+4)):=by
 intro h M n1 bs ek nu t u s m hn hb t0 t1 u0 u1 hx
 have hr:=fun h1 (st:StepN h h1)=>rawEg (f424g N) (f440g N) (f451g N) (m.step st) hn hb t0 t1 u0 u1 hx
 cases ek with
 |full G Nn B=>exact cO k436 rfl rfl (w436g Tryz.prog (fHold438 (N+2)) hr)
 |each G Nn F=>exact cO k447 rfl rfl (w447g Tryz.prog (fHold449 (N+2)) hr)
 |gate G S nb Sx=>exact cO k481 rfl rfl (w481g Tryz.prog (fHold483 (N+2)) hr)
theorem f27g:F27g (cX (N+5)):=by
 unfold F27g
 intros
 refine cO k27 rfl rfl ?_
 apply w27g<;>try first|assumption|exact f96 (N+3)|exact fHeg N
theorem f8g:F8g (cX (N+6)):=by
 unfold F8g
 intros
 refine cO k8 rfl rfl ?_
 apply w8g<;>try first|assumption|exact f27g N
theorem f43:F43 (cX (N+1)):=by
 unfold F43
 intros
 refine eO k43 rfl rfl ?_
 apply w43<;>try first|assumption
theorem f41:F41 (cX (N+7)):=by
 unfold F41
 intro _ _ _ _ _ _ _ _ _ _ _ _ _ _ _ _ q0 q1 q2 q3 q4 q5 q6 q7 q8 q9 q10 q11 q12 q13 q14 q15 q16 q17 q18 q19 q20 q21
 refine cO k41 rfl rfl ?_
 exact w41 Tryz.prog (f8g N) (f43 (N+5)) q0 q1 q2 q3 q4 q5 q6 q7 q8 q9 q10 q11 q12 q13 q14 q15 q16 q17 q18 q19 q20 q21
theorem f118:F118 (cX (N+1)):=by
 unfold F118
 intros
 refine cO k118 rfl rfl ?_
 apply w118<;>try first|assumption
theorem f42:F42 (cX (N+2)):=by
 unfold F42
 intros
 refine cO k42 rfl rfl ?_
 apply w42<;>try first|assumption|exact f118 N
theorem f14:F14 (cX (N+8)):=by
 unfold F14
 intros
 refine cO k14 rfl rfl ?_
 apply w14<;>try first|assumption|exact f35 (N+4)|exact f36 (N+3)|exact f38 (N+6)|exact f39 (N+4)|exact f37 (N+5)|exact f40 (N+4)|exact f41 N|exact f42 (N+5)|exact f43 (N+6)
theorem f128:F128 (cX (N+1)):=by
 unfold F128
 intros
 refine eO k128 rfl rfl ?_
 apply w128<;>try first|assumption
theorem f208:F208 (cX (N+1)):=by
 unfold F208
 intros
 refine cO k208 rfl rfl ?_
 apply w208<;>try first|assumption
theorem f209:F209 (cX (N+1)):=by
 unfold F209
 intros
 refine cO k209 rfl rfl ?_
 apply w209<;>try first|assumption
theorem f210:F210 (cX (N+1)):=by
 unfold F210
 intros
 refine cO k210 rfl rfl ?_
 apply w210<;>try first|assumption
theorem f129:F129 (cX (N+2)):=by
 unfold F129
 intros
 refine cO k129 rfl rfl ?_
 apply w129<;>try first|assumption|exact f208 N|exact f209 N|exact f210 N
theorem f47:F47 (cX (N+3)):=by
 unfold F47
 intros
 refine cO k47 rfl rfl ?_
 apply w47<;>try first|assumption|exact f34 (N+1)|exact f128 (N+1)|exact f129 N
theorem f48:F48 (cX (N+2)):=by
 unfold F48
 intros
 refine cO k48 rfl rfl ?_
 apply w48<;>try first|assumption|exact f130 N
theorem f211:F211 (cX (N+1)):=by
 unfold F211
 intros
 refine cO k211 rfl rfl ?_
 apply w211<;>try first|assumption
theorem f131:F131 (cX (N+2)):=by
 unfold F131
 intros
 refine cO k131 rfl rfl ?_
 apply w131<;>try first|assumption|exact f34 N|exact f211 N
theorem f49a:F49a (cX (N+3)):=by
 unfold F49a
 intros
 refine cO k49 rfl rfl ?_
 apply w49a<;>try first|assumption|exact f131 N
theorem f175g:F175g (cX (N+2)):=by
 unfold F175g
 intros
 refine eO k175 rfl rfl ?_
 apply w175g<;>try first|assumption|exact f34 N
theorem f97g:F97g (cX (N+3)):=by
 unfold F97g
 intros
 refine cO k97 rfl rfl ?_
 apply w97g<;>try first|assumption|exact f175g N
theorem f98g:F98g (cX (N+3)):=by
 unfold F98g
 intros
 refine cO k98 rfl rfl ?_
 apply w98g<;>try first|assumption|exact f175g N
theorem f99g:F99g (cX (N+3)):=by
 unfold F99g
 intros
 refine cO k99 rfl rfl ?_
 apply w99g<;>try first|assumption|exact f175g N
theorem fRwg:FRwg (cX (N+3)):=by
 intro h M n bs rk nu t u s m hn t0 t1 u0 u1 hx
 exact rawEBg (f97g N) (f98g N) (f99g N) m hn t0 t1 u0 u1 hx
theorem f28g:F28g (cX (N+4)):=by
 unfold F28g
 intros
 refine cO k28 rfl rfl ?_
 apply w28g<;>try first|assumption|exact f34 (N+2)|exact fRwg N
theorem f9g:F9g (cX (N+5)):=by
 unfold F9g
 intros
 refine cO k9 rfl rfl ?_
 apply w9g<;>try first|assumption|exact f28g N
theorem f49b:F49b (cX (N+6)):=by
 unfold F49b
 intros
 refine cO k49 rfl rfl ?_
 apply w49b<;>try first|assumption|exact f9g N
theorem f15:F15 (cX (N+7)):=by
 unfold F15
 intros
 refine cO k15 rfl rfl ?_
 apply w15<;>try first|assumption|exact f47 (N+3)|exact f48 (N+4)|exact f49a (N+3)|exact f49b N
theorem f554:F554 (cX (N+1)):=by
 unfold F554
 intros
 refine eO k554 rfl rfl ?_
 apply w554<;>try first|assumption
theorem f558:F558 (cX (N+1)):=by
 unfold F558
 intros
 refine cO k558 rfl rfl ?_
 apply w558g<;>try first|assumption
theorem fNx:FNx (cX (N+1)):=by
 intro h X ek m lX
 exact nextEK (f554 N) (f558 N) (f570 N) m lX
theorem f370:F370 (cX (N+2)):=by
 unfold F370
 intros
 refine cO k370 rfl rfl ?_
 apply w370<;>try first|assumption|exact fNx N
theorem f369:F369 (cX (N+3)):=by
 intro h Z ek m
 obtain⟨X,Q,a,b,c,gZ,gQ,nx,lX,lQ,lZ⟩:=m
 exact cO k369 rfl rfl (w369 Tryz.prog (f370 N) gZ gQ nx lX)
theorem f420:F420 (cX (N+1)):=by
 unfold F420
 intros
 refine eO k420 rfl rfl ?_
 apply w420<;>try first|assumption
theorem f16:F16 (cX (N+4)):=by
 unfold F16
 intros
 refine cO k16 rfl rfl ?_
 apply w16<;>try first|assumption|exact f369 N|exact f420 (N+2)
theorem f31y:F31y (cX (N+3)):=by
 intro h Z rk m
 exact nextY (f31 N) m
theorem f50:F50 (cX (N+1)):=by
 unfold F50
 intros
 refine eO k50 rfl rfl ?_
 apply w50<;>try first|assumption
theorem f17:F17 (cX (N+4)):=by
 unfold F17
 intros
 refine eO k17 rfl rfl ?_
 apply w17<;>try first|assumption|exact f31y N|exact f50 (N+2)
theorem f60b:F60b (cX (N+2)):=by
 exact f60 N
theorem f59:F59 (cX (N+1)):=by
 unfold F59
 intros
 refine eO k59 rfl rfl ?_
 apply w59<;>try first|assumption
theorem f144:F144 (cX (N+1)):=by
 unfold F144
 intros
 refine eO k144 rfl rfl ?_
 apply w144<;>try first|assumption
theorem f62:F62 (cX (N+2)):=by
 unfold F62
 intros
 refine cO k62 rfl rfl ?_
 apply w62<;>try first|assumption|exact f144 N
theorem f61:F61 (cX (N+1)):=by
 unfold F61
 intros
 refine eO k61 rfl rfl ?_
 apply w61<;>try first|assumption
theorem f145:F145 (cX (N+1)):=by
 unfold F145
 intros
 refine cO k145 rfl rfl ?_
 apply w145<;>try first|assumption
theorem f64:F64 (cX (N+2)):=by
 unfold F64
 intros
 refine cO k64 rfl rfl ?_
 apply w64<;>try first|assumption|exact f145 N
theorem f63:F63 (cX (N+1)):=by
 unfold F63
 intros
 refine eO k63 rfl rfl ?_
 apply w63<;>try first|assumption
theorem f293:F293 (cX (N+1)):=by
 unfold F293
 intros
 refine eO k293 rfl rfl ?_
 apply w293<;>try first|assumption
theorem f228:F228 (cX (N+2)):=by
 unfold F228
 intros
 refine eO k228 rfl rfl ?_
 apply w228<;>try first|assumption|exact f293 N
theorem f283:F283 (cX (N+1)):=by
 unfold F283
 intros
 refine eO k283 rfl rfl ?_
 apply w283<;>try first|assumption
theorem f227:F227 (cX (N+2)):=by
 unfold F227
 intros
 refine eO k227 rfl rfl ?_
 apply w227<;>try first|assumption|exact f283 N
theorem f148:F148 (cX (N+3)):=by
 unfold F148
 intros
 refine eO k148 rfl rfl ?_
 apply w148<;>try first|assumption|exact f228 N|exact f227 N
theorem f71:F71 (cX (N+4)):=by
 unfold F71
 intros
 refine cO k71 rfl rfl ?_
 apply w71<;>try first|assumption|exact f148 N
theorem f146:F146 (cX (N+5)):=by
 unfold F146
 intros
 refine cO k146 rfl rfl ?_
 apply w146<;>try first|assumption|exact f71 N
theorem f66:F66 (cX (N+6)):=by
 unfold F66
 intros
 refine cO k66 rfl rfl ?_
 apply w66<;>try first|assumption|exact f146 N
theorem f226:F226 (cX (N+1)):=by
 unfold F226
 intros
 refine eO k226 rfl rfl ?_
 apply w226<;>try first|assumption
theorem f147:F147 (cX (N+2)):=by
 unfold F147
 intros
 refine eO k147 rfl rfl ?_
 apply w147<;>try first|assumption|exact f226 N
theorem f67:F67 (cX (N+3)):=by
 unfold F67
 intros
 refine eO k67 rfl rfl ?_
 apply w67<;>try first|assumption|exact f147 N
theorem f65:F65 (cX (N+1)):=by
 unfold F65
 intros
 refine eO k65 rfl rfl ?_
 apply w65<;>try first|assumption
theorem f68:F68 (cX (N+6)):=by
 unfold F68
 intros
 refine cO k68 rfl rfl ?_
 apply w68<;>try first|assumption|exact f146 N
theorem f69:F69 (cX (N+3)):=by
 unfold F69
 intros
 refine eO k69 rfl rfl ?_
 apply w69<;>try first|assumption|exact f147 N
theorem f70:F70 (cX (N+1)):=by
 unfold F70
 intros
 refine eO k70 rfl rfl ?_
 apply w70<;>try first|assumption
theorem f72:F72 (cX (N+1)):=by
 unfold F72
 intros
 refine eO k72 rfl rfl ?_
 apply w72<;>try first|assumption
theorem f18:F18 (cX (N+7)):=by
 unfold F18
 intros
 refine cO k18 rfl rfl ?_
 apply w18<;>try first|assumption|exact f24 (N+5)|exact f60b (N+4)|exact f59 (N+5)|exact f62 (N+4)|exact f61 (N+5)|exact f64 (N+4)|exact f63 (N+5)|exact f66 N|exact f67 (N+3)|exact f65 (N+5)|exact f68 N|exact f69 (N+3)|exact f70 (N+5)|exact f71 (N+2)|exact f72 (N+5)
end
end Go.Proofs.YtghmnaojmpjglaaGreatDoor.PR
namespace Go.Proofs.YtghmnaojmpjglaaGreatDoor.PR
open Go.Proofs.YtghmnaojmpjglaaGreatDoor.Eo Go.RowKit Go.ChangeShapes Go.WideShapes Go.Deep
set_option maxRecDepth 100000
noncomputable section
def nB(b:Nat):Nat:=if b=0 then 0 else glob+b
theorem nB_lt{b n:Nat}(h:b<n):nB b<glob+n:=by unfold nB;split<;>omega
theorem nB_inj{a b:Nat}(h:nB a=nB b):a=b:=by
 unfold nB at h
 have:0<glob:=by decide
 split at h<;>split at h<;>omega
def impS(n es:Nat):Option Addr->Nat->Nat->Option AV
 |none,len,c=>if len=0∧c=0 then some .nils else none
 |some a,len,c=>if len=0∧c=0 then some (.sl 0 0 0 es none)else if a.spot=none∧a.block<n∧len<=c then some (.sl (nB a.block) a.off len es (some c))else none
def impV(n:Nat):Value->Option AV
 | .int k x=>some (.int k x)
 |_=>none
def impC(n:Nat):List Value->Nat->T AV
 | [],_=>T.e
 |V::l,i=>match impV n V with
  |some v=>(impC n l (i+1)).set i v
  |none=>impC n l (i+1)
theorem impC_get(n:Nat):∀(l:List Value) (i j:Nat),(impC n l i).get j=if i<=j then(l[j-i]?).bind (impV n)else none
 | [],i,j=>by rw[impC,T.get_e];simp
 |V::l,i,j=>by
  have ih:=impC_get n l (i+1) j
  rw[impC]
  by_cases hj:j=i
  ·subst hj
   rw[if_pos (Nat.le_refl _),Nat.sub_self]
   simp only[List.getElem?_cons_zero,Option.bind_some]
   cases hv:impV n V with
   |none=>simp only[];rw[ih,if_neg (by omega)]
   |some v=>simp only[];rw[T.get_set,if_pos rfl]
  ·have key:(impC n l (i+1)).get j=if i<=j then((V::l)[j-i]?).bind (impV n)else none:=by
        rw[ih]
        by_cases h:i<=j
        ·rw[if_pos h,if_pos (by omega),show j-i=(j-(i+1))+1 by omega,List.getElem?_cons_succ]
        ·rw[if_neg h,if_neg (by omega)]
   cases hv:impV n V with
   |none=>exact key
   |some v=>simp only[];rw[T.get_set,if_neg hj];exact key
def impO(n:Nat):Obj->Option AO
 | .cells c _ _=>some (.tab (impC n c.toList 0))
 |_=>none
def impT(n:Nat):List Obj->Nat->T AO
 | [],_=>T.e
 |o::l,i=>match impO n o with
  |some x=>(impT n l (i+1)).set (nB i) x
  |none=>impT n l (i+1)
theorem impT_some(n:Nat):∀(l:List Obj) (i j:Nat) (o:AO),(impT n l i).get j=some o->∃k O,l[k]?=some O∧impO n O=some o∧j=nB (i+k)
 | [],i,j,o,h=>by rw[impT,T.get_e]at h;cases h
 |O::l,i,j,o,h=>by
  have ih:=impT_some n l (i+1) j o
  have up:(impT n l (i+1)).get j=some o->∃k O',(O::l)[k]?=some O'∧impO n O'=some o∧j=nB (i+k):=fun h=>by
   obtain⟨k,O',a,b,c⟩:=ih h
   exact⟨k+1,O',a,b,by rw[c,show i+1+k=i+(k+1) by omega]⟩
  rw[impT]at h
  cases hO:impO n O with
  |none=>rw[hO]at h;exact up h
  |some x=>
   rw[hO]at h
   simp only[T.get_set]at h
   by_cases e:j=nB i
   ·rw[if_pos e]at h
    simp only[Option.some.injEq]at h
    subst h
    exact⟨0,O,rfl,hO,e⟩
   ·rw[if_neg e]at h
    exact up h
theorem impT_at(n:Nat):∀(l:List Obj) (i k:Nat) (O:Obj) (o:AO),l[k]?=some O->impO n O=some o->(impT n l i).get (nB (i+k))=some o
 | [],i,k,O,o,h,_=>by simp at h
 |P::l,i,0,O,o,h,e=>by
  simp only[List.getElem?_cons_zero,Option.some.injEq]at h
  subst h
  rw[impT,e]
  simp only[T.get_set,Nat.add_zero,if_true]
 |P::l,i,k+1,O,o,h,e=>by
  have ih:=impT_at n l (i+1) k O o (by simpa using h) e
  rw[show i+1+k=i+(k+1) by omega]at ih
  rw[impT]
  cases hO:impO n P with
  |none=>exact ih
  |some x=>
   have:¬nB (i+(k+1))=nB i:=fun q=>by have:=nB_inj q;omega
   simp only[T.get_set]
   rw[if_neg this]
   exact ih
def rhoW(n:Nat):Rho:=⟨fun a=>if a<glob then some ⟨a,0,0⟩else if a<glob+n then some ⟨a-glob,0,0⟩else none,fun g hg=>⟨0,if_pos hg⟩⟩
theorem rhoW_0(n:Nat):rhoW n 0=some ⟨0,0,0⟩:=by
 show(if 0<glob then some (⟨0,0,0⟩:Go.Proofs.YtghmnaojmpjglaaGreatDoor.Eo.Loc)else if 0<glob+n then some ⟨0-glob,0,0⟩else none)=_
 rw[if_pos (by decide)]
theorem rhoW_at{n b:Nat}(h:b<n):rhoW n (nB b)=some ⟨b,0,0⟩:=by
 unfold nB
 by_cases e:b=0
 ·rw[if_pos e,e];exact rhoW_0 n
 ·rw[if_neg e]
  show(if glob+b<glob then _ else if glob+b<glob+n then some (⟨glob+b-glob,0,0⟩:Go.Proofs.YtghmnaojmpjglaaGreatDoor.Eo.Loc)else none)=_
  rw[if_neg (by omega),if_pos (by omega),Nat.add_sub_cancel_left]
def hW(W:World):H:=⟨glob+W.heap.size,impT W.heap.size W.heap.toList 0⟩
theorem hW_get(W:World){j:Nat}{o:AO}(h:(hW W).t.get j=some o):∃b,j=nB b∧b<W.heap.size∧∃c e f,W.heap[b]?=some (.cells c e f)∧o=.tab (impC W.heap.size c.toList 0):=by
 obtain⟨b,O,h1,h2,h3⟩:=impT_some _ _ _ _ _ h
 rw[Nat.zero_add]at h3
 rw[Array.getElem?_toList]at h1
 have hlt:=(Array.getElem?_eq_some_iff.1 h1).1
 cases O with
 |cells c e f=>
  simp only[impO,Option.some.injEq]at h2
  exact⟨b,h3,hlt,c,e,f,h1,h2.symm⟩
 |_=>simp[impO]at h2
theorem hW_tab(W:World){b:Nat}{c:Array Value}{e:TypeId}{f:Nat×Nat}(h:W.heap[b]?=some (.cells c e f)):(hW W).t.get (nB b)=some (.tab (impC W.heap.size c.toList 0)):=by
 have:=impT_at W.heap.size W.heap.toList 0 b _ _ (by rw[Array.getElem?_toList];exact h) rfl
 rw[Nat.zero_add]at this
 exact this
theorem impS_VR{W:World}{es:Nat}(hes:0<es){p:Option Addr}{len c:Nat}{v:AV}(h:impS W.heap.size es p len c=some v):VR (rhoW W.heap.size) v (.slice p len c):=by
 unfold impS at h
 split at h
 ·split at h
  ·rename_i hh
   simp only[Option.some.injEq]at h
   subst h
   obtain⟨rfl,rfl⟩:=hh
   rfl
  ·cases h
 ·rename_i a
  split at h
  ·rename_i hh
   simp only[Option.some.injEq]at h
   subst h
   obtain⟨rfl,rfl⟩:=hh
   exact⟨_,rhoW_0 _,hes,by simp,.inr ⟨rfl,a,rfl⟩⟩
  ·split at h
   ·rename_i hh
    simp only[Option.some.injEq]at h
    subst h
    obtain⟨h1,h2,h3⟩:=hh
    refine⟨_,rhoW_at h2,h3,?_⟩
    obtain⟨b,o,s⟩:=a
    simp only at h1
    subst h1
    simp
   ·cases h
theorem impV_VR{W:World}{V:Value}{v:AV}(h:impV W.heap.size V=some v):VR (rhoW W.heap.size) v V∧one V=true:=by
 cases V with
 |int k x=>simp only[impV,Option.some.injEq]at h;subst h;exact⟨rfl,rfl⟩
 |_=>simp[impV]at h
theorem hW_mut(W:World):∀a o,(hW W).t.get a=some o->o.mut=false:=fun a o h=>by
 obtain⟨_,_,_,c,e,f,_,rfl⟩:=hW_get W h
 rfl
theorem hW_hr(W:World):HR (rhoW W.heap.size) (hW W).t.get W:=by
 constructor
 ·intro a o l h _ hl
  obtain⟨b,rfl,h2,c,e,f,h3,rfl⟩:=hW_get W h
  rw[rhoW_at h2]at hl
  simp only[Option.some.injEq]at hl
  subst hl
  refine⟨h2,c,e,f,h3,fun i v hv=>?_⟩
  rw[impC_get,if_pos (Nat.zero_le _),Nat.sub_zero,Array.getElem?_toList]at hv
  cases hc:c[i]? with
  |none=>rw[hc]at hv;cases hv
  |some V=>
   rw[hc]at hv
   obtain⟨k1,k2⟩:=impV_VR hv
   exact⟨V,k1,k2,by rw[Nat.zero_add];exact hc⟩
 ·intro a b o p l m h1 _ h2 _ hl hm hb
  obtain⟨x,rfl,a2,_⟩:=hW_get W h1
  obtain⟨y,rfl,b2,_⟩:=hW_get W h2
  rw[rhoW_at a2]at hl
  rw[rhoW_at b2]at hm
  simp only[Option.some.injEq]at hl hm
  subst hl;subst hm
  simp only at hb
  rw[hb]
theorem hW_fresh(W:World):Fresh (rhoW W.heap.size) (hW W).next:=fun a ha=>by
 have h:glob+W.heap.size<=a:=ha
 show(if a<glob then _ else if a<glob+W.heap.size then _ else none)=_
 rw[if_neg (by omega),if_neg (by omega)]
theorem chk_imp{c:Array Value}{n:Nat}(l:List Int)(i:Nat)(h:∀(j:Nat) (x:Int),l[j]?=some x->c[i+j]?=some (Value.int .u8 x)):chkTab .u8 l (impC n c.toList 0) i=true:=by
 induction l generalizing i with
 |nil=>rfl
 |cons x l ih=>
  have e:(impC n c.toList 0).get i=some (.int .u8 x):=by
   rw[impC_get,if_pos (Nat.zero_le _),Nat.sub_zero,Array.getElem?_toList]
   have:=h 0 x rfl
   rw[Nat.add_zero]at this
   rw[this]
   rfl
  unfold chkTab
  rw[e,ih (i+1) fun j y hj=>by
   have:=h (j+1) y (by simpa using hj)
   rw[show i+1+j=i+(j+1) by omega]
   exact this]
  simp[iEq_eq]
theorem hW_tb{W:World}{l:List Int}(hw:TabW 0 .u8 l W):∃cells,(hW W).t.get 0=some (.tab cells)∧chkTab .u8 l cells 0=true:=by
 obtain⟨c,e,f,h1,h2⟩:=hw
 have:=hW_tab W h1
 exact⟨_,this,chk_imp l 0 fun j x hj=>by rw[Nat.zero_add];exact h2 j x hj⟩
theorem cell_tab{W:World}{b o:Nat}{V:Value}{v:AV}(h:W.cell? ⟨b,o,none⟩=some V)(hv:impV W.heap.size V=some v):b<W.heap.size∧ldA (hW W).t.get none (nB b) o=some v:=by
 unfold World.cell? at h
 split at h
 ·rename_i c e f hb
  have hb':W.heap[b]?=some (.cells c e f):=hb
  have ho:c[o]?=some V:=by simpa using h
  refine⟨(Array.getElem?_eq_some_iff.1 hb').1,?_⟩
  rw[rLdA,hW_tab W hb']
  show ldO none o (.tab (impC W.heap.size c.toList 0))=_
  rw[rLdOt,impC_get,if_pos (Nat.zero_le _),Nat.sub_zero,Array.getElem?_toList,ho]
  exact hv
 ·cases h
theorem plain_of_cell{w:World}{a:Addr}{v:Value}(h:w.cell? a=some v):a=⟨a.block,a.off,none⟩:=by
 obtain⟨b,o,s⟩:=a
 cases s with
 |none=>rfl
 |some s=>
  unfold World.cell? at h
  split at h
  ·simp at h
  ·cases h
theorem add_plain(b o i:Nat):(⟨b,o,none⟩:Addr).add i=⟨b,o+i,none⟩:=by
 unfold Addr.add;split
 ·rename_i h0;simp[h0]
 ·simp
theorem wf_u64{y:Int}(h:(Lit.int .u64 y).wf=true):inU y:=by
 simp[Lit.wf,IntKind.min,IntKind.max,IntKind.signed,IntKind.bits]at h
 exact⟨h.1,by omega⟩
theorem wf_u8{y:Int}(h:(Lit.int .u8 y).wf=true):0<=y:=by
 simp[Lit.wf,IntKind.min,IntKind.max,IntKind.signed,IntKind.bits]at h
 exact h.1
end
end Go.Proofs.YtghmnaojmpjglaaGreatDoor.PR
namespace Go.Proofs.YtghmnaojmpjglaaGreatDoor.PR
open Go.Proofs.YtghmnaojmpjglaaGreatDoor.Eo Go.RowKit Go.ChangeShapes Go.WideShapes Go.Deep
open Go.Proofs (Tryz.prog Tryz.checked Tryz.underlying27 Tryz.underlying24 Tryz.underlying25 Tryz.underlying66 Tryz.underlying68 Tryz.underlying28 Tryz.underlying29 Tryz.underlying51 Tryz.underlying22 Tryz.underlying4 Tryz.underlying3 Tryz.underlying5)
set_option maxRecDepth 100000
theorem cells3:Tryz.prog.cellsOf 3=1:=by kernel_rfl
theorem cells5:Tryz.prog.cellsOf 5=1:=by kernel_rfl
theorem cells22:Tryz.prog.cellsOf 22=1:=by kernel_rfl
theorem cells24:Tryz.prog.cellsOf 24=3:=by kernel_rfl
theorem cells25:Tryz.prog.cellsOf 25=6:=by kernel_rfl
theorem cells27:Tryz.prog.cellsOf 27=16:=by kernel_rfl
theorem cells51:Tryz.prog.cellsOf 51=1:=by kernel_rfl
theorem cells66:Tryz.prog.cellsOf 66=7:=by kernel_rfl
theorem cells68:Tryz.prog.cellsOf 68=9:=by kernel_rfl
theorem bytes3:Tryz.prog.bytesOf 3=8:=by kernel_rfl
theorem bytes68:Tryz.prog.bytesOf 68=72:=by kernel_rfl
theorem bytes51:Tryz.prog.bytesOf 51=8:=by kernel_rfl
noncomputable section
section
variable {H:Type} {enc:TypeId×Value->H} {W:World}
theorem openInts{t e:TypeId}{k:IntKind}{fuel:Nat}{cs:List Value}{x:DataW H×List MemPlace}(ht:Tryz.prog.underlying t=some (.slice e))(he:Tryz.prog.underlying e=some (.int k))(hc:Tryz.prog.cellsOf e=1)(hby:Tryz.prog.bytesOf e=8)
 (h:DataW.trod enc Tryz.prog W 0 (fun _=>true) true fuel t cs=some x) (hz:∀n∈x.1.weights Tryz.prog t,n<=reachBytes):∃(v:Value) (l:List Int) (av:AV),cs=[v]∧VR (rhoW W.heap.size) av v∧RdL none 1 (hW W) av (l.map fun x:Int=>AV.int k x)∧(∀a,own av=some a->a<(hW W).next)∧(∀y∈l,(Lit.int k y).wf=true)∧l.length*8<=140737488351232:=by
 rcases open_ints ht he hc h with⟨rfl,-⟩|⟨a,len,cap,zs,rfl,-,hl,hm,hn,hx,hcell,hwf⟩
 ·exact⟨_,[],.nils,rfl,rfl,.inl ⟨rfl,rfl⟩,fun a ha=>by simp[own]at ha,fun y hy=>(by cases hy),by decide⟩
 ·simp only[if_true]at hn
  by_cases h0:len=0∧cap=0
  ·obtain⟨rfl,rfl⟩:=h0
   exact⟨_,[],.sl 0 0 0 1 none,rfl,impS_VR (W:=W) (by decide) rfl,.inr ⟨0,0,none,rfl,Nat.zero_le _,fun i x hi=>by simp at hi⟩,fun b hb=>by simp only[own,Option.some.injEq]at hb;subst hb;show 0<glob+_;unfold glob;omega,fun y hy=>(by cases hy),by decide⟩
  ·have hpos:0<zs.length:=by omega
   have hpl:=plain_of_cell (hcell 0 hpos)
   have hpl:a=⟨a.block,a.off,none⟩:=by simpa [Addr.add]using hpl
   have hlen:(zs.take len).length=len:=by rw[List.length_take];omega
   have hat:∀i y,zs[i]?=some y->a.block<W.heap.size∧ldA (hW W).t.get none (nB a.block) (a.off+i*1)=some (.int k y):=fun i y hi=>by
        have hc:=hcell i (List.getElem?_eq_some_iff.1 hi).1
        have e1:zs.getD i 0=y:=by simp[List.getD,hi]
        rw[e1,hpl,add_plain]at hc
        rw[Nat.mul_one]
        exact cell_tab hc rfl
   have hblk:=(hat 0 zs[0] (List.getElem?_eq_getElem hpos)).1
   have hb:len*8<=140737488351232:=by
        have:=hz ((((lits (H:=H) k (zs.take len)).length+(lits (H:=H) k (zs.drop len)).length))*Tryz.prog.bytesOf e) (by rw[hx];simp[DataW.weights,ht])
        rw[hby]at this
        simp only[lits,List.length_map,List.length_take,List.length_drop]at this
        unfold reachBytes at this
        omega
   have hsp:a.spot=none:=by rw[hpl]
   refine⟨_,zs.take len,.sl (nB a.block) a.off len 1 (some cap),rfl,impS_VR (W:=W) (es:=1) Nat.one_pos ?_,.inr ⟨nB a.block,a.off,some cap,by rw[List.length_map,hlen],by rw[List.length_map,hlen];omega,fun i x hi=>?_⟩,fun b hb=>?_,fun y hy=>hwf y (List.mem_of_mem_take hy),by rw[hlen];exact hb⟩
   ·unfold impS
    simp only[]
    rw[if_neg h0,if_pos ⟨hsp,hblk,hl⟩]
   ·rw[List.getElem?_map,Option.map_eq_some_iff]at hi
    obtain⟨y,hy,rfl⟩:=hi
    rw[List.getElem?_take]at hy
    split at hy
    ·exact(hat i y hy).2
    ·cases hy
   ·simp only[own,Option.some.injEq]at hb
    subst hb
    exact nB_lt hblk
theorem openOp{fuel:Nat}{cs:List Value}{x:DataW H×List MemPlace}(h:DataW.trod enc Tryz.prog W 0 (fun _=>true) true fuel 66 cs=some x):
 ∃kd k o1 o2 o3 o4 o5:Int,0<=k∧cs=[.int .u8 kd,.int .u64 k,.int .u64 o1,.int .u64 o2,.int .u64 o3,.int .u64 o4,.int .u64 o5]:=by
 obtain⟨xs,n,-,hx,hl,hlen,hfi⟩:=DataW.trod_struct Tryz.underlying66 h
 have hsz:cs.length=7:=hl.trans cells66
 match cs,hsz with
 | [c0,c1,c2,c3,c4,c5,c6],_=>
   have t0:=hfi 0 _ rfl
   have t1:=hfi 1 _ rfl
   have t2:=hfi 2 _ rfl
   have t3:=hfi 3 _ rfl
   have t4:=hfi 4 _ rfl
   have t5:=hfi 5 _ rfl
   have t6:=hfi 6 _ rfl
   match xs,hlen with
   | [y0,y1,y2,y3,y4,y5,y6],_=>
     simp[cells51,cells5]at t0 t1 t2 t3 t4 t5 t6
     obtain⟨k,e0,-,w0⟩:=DataW.trod_int Tryz.underlying5 t0
     obtain⟨a,e1,-,w1⟩:=DataW.trod_int Tryz.underlying51 t1
     obtain⟨b,e2,-,w2⟩:=DataW.trod_int Tryz.underlying51 t2
     obtain⟨v,e3,-,w3⟩:=DataW.trod_int Tryz.underlying51 t3
     obtain⟨o,e4,-,w4⟩:=DataW.trod_int Tryz.underlying51 t4
     obtain⟨y,e5,-,w5⟩:=DataW.trod_int Tryz.underlying51 t5
     obtain⟨d,e6,-,w6⟩:=DataW.trod_int Tryz.underlying51 t6
     simp at e0 e1 e2 e3 e4 e5 e6
     subst e0 e1 e2 e3 e4 e5 e6
     exact⟨k,a,b,v,o,y,d,(wf_u64 w1).1,rfl⟩
theorem openDomain{fuel:Nat}{cs:List Value}{x:DataW H×List MemPlace}(h:DataW.trod enc Tryz.prog W 0 (fun _=>true) true fuel 24 cs=some x)(hz:∀n∈x.1.weights Tryz.prog 24,n<=reachBytes):
 ∃(dk dn:Int) (cv:Value) (l:List Int) (av:AV),0<=dk∧cs=[.int .u8 dk,.int .i64 dn,cv]∧VR (rhoW W.heap.size) av cv∧RdL none 1 (hW W) av (l.map fun x:Int=>AV.int .u64 x)∧(∀a,own av=some a->a<(hW W).next)∧(∀y∈l,inU y)∧l.length*8<=140737488351232:=by
 obtain⟨xs,n,-,hx,hl,hlen,hfi⟩:=DataW.trod_struct Tryz.underlying24 h
 have hsz:cs.length=3:=hl.trans cells24
 match cs,hsz with
 | [c0,c1,c2],_=>
   have t0:=hfi 0 _ rfl
   have t1:=hfi 1 _ rfl
   have t2:=hfi 2 _ rfl
   match xs,hlen with
   | [y0,y1,y2],_=>
     simp[cells3,cells5,cells22]at t0 t1 t2
     obtain⟨k,e0,-,w0⟩:=DataW.trod_int Tryz.underlying5 t0
     obtain⟨a,e1,-,w1⟩:=DataW.trod_int Tryz.underlying3 t1
     obtain⟨v,l,av,e2,h1,h2,h3,h4,h5⟩:=openInts Tryz.underlying22 Tryz.underlying51 cells51 bytes51 t2 (fun n hn=>hz n (by
        rw[hx]
        simp only[DataW.weights,Tryz.underlying24,List.map_cons,List.map_nil,DataW.weightsEach,List.mem_append]
        exact .inr (.inr (.inl hn))))
     simp at e0 e1 e2
     subst e0 e1 e2
     exact⟨k,a,_,l,av,wf_u8 w0,rfl,h1,h2,h3,fun y hy=>wf_u64 (h4 y hy),h5⟩
theorem openConfig{fuel:Nat}{cs:List Value}{x:DataW H×List MemPlace}(h:DataW.trod enc Tryz.prog W 0 (fun _=>true) true fuel 27 cs=some x)(hz:∀n∈x.1.weights Tryz.prog 27,n<=reachBytes):
 ∃(th sl en bu dk dn t0 t1 t2 t3 t4 t5 lo tr ba:Int) (cv:Value) (l:List Int) (av:AV),0<=en∧0<=dk∧cs=[.int .i64 th,.int .i64 sl,.int .u8 en,.int .i64 bu,.int .u8 dk,.int .i64 dn,cv,.int .i64 t0,.int .i64 t1,.int .i64 t2,.int .i64 t3,.int .i64 t4,.int .i64 t5,.int .i64 lo,.int .i64 tr,.int .i64 ba]∧VR (rhoW W.heap.size) av cv∧RdL none 1 (hW W) av (l.map fun x:Int=>AV.int .u64 x)∧(∀a,own av=some a->a<(hW W).next)∧(∀y∈l,inU y)∧l.length*8<=140737488351232:=by
 obtain⟨xs,n,-,hx,hl,hlen,hfi⟩:=DataW.trod_struct Tryz.underlying27 h
 have hsz:cs.length=16:=hl.trans cells27
 match cs,hsz with
 | [c0,c1,c2,c3,c4,c5,c6,c7,c8,c9,c10,c11,c12,c13,c14,c15],_=>
   have s0:=hfi 0 _ rfl
   have s1:=hfi 1 _ rfl
   have s2:=hfi 2 _ rfl
   have s3:=hfi 3 _ rfl
   have s4:=hfi 4 _ rfl
   have s5:=hfi 5 _ rfl
   have s6:=hfi 6 _ rfl
   have s7:=hfi 7 _ rfl
   have s8:=hfi 8 _ rfl
   match xs,hlen with
   | [y0,y1,y2,y3,y4,y5,y6,y7,y8],_=>
     simp[cells3,cells5,cells24,cells25]at s0 s1 s2 s3 s4 s5 s6 s7 s8
     obtain⟨th,e0,-,-⟩:=DataW.trod_int Tryz.underlying3 s0
     obtain⟨sl,e1,-,-⟩:=DataW.trod_int Tryz.underlying3 s1
     obtain⟨en,e2,-,w2⟩:=DataW.trod_int Tryz.underlying5 s2
     obtain⟨bu,e3,-,-⟩:=DataW.trod_int Tryz.underlying3 s3
     obtain⟨dk,dn,cv,l,av,dk0,e4,hv⟩:=openDomain s4 (fun n hn=>hz n (by
        rw[hx]
        simp only[DataW.weights,Tryz.underlying27,List.map_cons,List.map_nil,DataW.weightsEach,List.mem_append]
        exact .inr (.inr (.inr (.inr (.inl hn))))))
     obtain⟨zs,m,-,-,hal,hzl,hze⟩:=DataW.trod_array Tryz.underlying25 s5
     obtain⟨lo,e6,-,-⟩:=DataW.trod_int Tryz.underlying3 s6
     obtain⟨tr,e7,-,-⟩:=DataW.trod_int Tryz.underlying3 s7
     obtain⟨ba,e8,-,-⟩:=DataW.trod_int Tryz.underlying3 s8
     rw[cells3]at hze
     match zs,hzl with
     | [z0,z1,z2,z3,z4,z5],_=>
       have u0:=hze 0 (by omega)
       have u1:=hze 1 (by omega)
       have u2:=hze 2 (by omega)
       have u3:=hze 3 (by omega)
       have u4:=hze 4 (by omega)
       have u5:=hze 5 (by omega)
       simp at u0 u1 u2 u3 u4 u5
       obtain⟨t0,f0,-,-⟩:=DataW.trod_int Tryz.underlying3 u0
       obtain⟨t1,f1,-,-⟩:=DataW.trod_int Tryz.underlying3 u1
       obtain⟨t2,f2,-,-⟩:=DataW.trod_int Tryz.underlying3 u2
       obtain⟨t3,f3,-,-⟩:=DataW.trod_int Tryz.underlying3 u3
       obtain⟨t4,f4,-,-⟩:=DataW.trod_int Tryz.underlying3 u4
       obtain⟨t5,f5,-,-⟩:=DataW.trod_int Tryz.underlying3 u5
       simp at e0 e1 e2 e3 e4 e6 e7 e8 f0 f1 f2 f3 f4 f5
       obtain⟨e4,e4',e4''⟩:=e4
       subst e0 e1 e2 e3 e4 e4' e4'' e6 e7 e8 f0 f1 f2 f3 f4 f5
       exact⟨th,sl,en,bu,dk,dn,t0,t1,t2,t3,t4,t5,lo,tr,ba,_,l,av,wf_u8 w2,dk0,rfl,hv⟩
theorem openArg1{fuel:Nat}{cs:List Value}{x:DataW H×List MemPlace}(h:DataW.trod enc Tryz.prog W 0 (fun _=>true) true fuel 68 cs=some x):
 ∃y:ArgT,0<=y.k∧cs=[.int .i64 y.t,.int .i64 y.s,.int .u8 y.kd,.int .u64 y.k,.int .u64 y.o1,.int .u64 y.o2,.int .u64 y.o3,.int .u64 y.o4,.int .u64 y.o5]:=by
 obtain⟨xs,n,-,hx,hl,hlen,hfi⟩:=DataW.trod_struct Tryz.underlying68 h
 have hsz:cs.length=9:=hl.trans cells68
 match cs,hsz with
 | [c0,c1,c2,c3,c4,c5,c6,c7,c8],_=>
   have t0:=hfi 0 _ rfl
   have t1:=hfi 1 _ rfl
   have t2:=hfi 2 _ rfl
   match xs,hlen with
   | [y0,y1,y2],_=>
     simp[cells3,cells66]at t0 t1 t2
     obtain⟨th,e0,-,w0⟩:=DataW.trod_int Tryz.underlying3 t0
     obtain⟨sl,e1,-,-⟩:=DataW.trod_int Tryz.underlying3 t1
     obtain⟨kd,k,o1,o2,o3,o4,o5,k0,e2⟩:=openOp t2
     simp at e0 e1 e2
     obtain⟨q0,q1,q2,q3,q4,q5,q6⟩:=e2
     subst e0 e1 q0 q1 q2 q3 q4 q5 q6
     exact⟨⟨th,sl,kd,k,o1,o2,o3,o4,o5⟩,k0,rfl⟩
theorem exList{α:Type}{P:Nat->α->Prop}:∀n,(∀i,i<n->∃y,P i y)->∃l:List α,l.length=n∧∀i y,l[i]?=some y->P i y
 |0,_=>⟨[],rfl,fun i y h=>by simp at h⟩
 |n+1,h=>by
  obtain⟨l,hl,hp⟩:=exList n fun i hi=>h i (by omega)
  obtain⟨y,hy⟩:=h n (by omega)
  refine⟨l++[y],by rw[List.length_append,hl];rfl,fun i z hz=>?_⟩
  by_cases hi:i<l.length
  ·rw[List.getElem?_append_left hi]at hz
   exact hp i z hz
  ·rw[List.getElem?_append_right (by omega)]at hz
   have h0:i-l.length=0:=by
    have:=(List.getElem?_eq_some_iff.1 hz).1
    simp at this
    omega
   rw[h0]at hz
   obtain rfl:y=z:=by simpa using hz
   rw[show i=n by omega]
   exact hy
theorem openArgL{fuel:Nat}{cs:List Value}{x:DataW H×List MemPlace}(h:DataW.trod enc Tryz.prog W 0 (fun _=>true) true fuel 29 cs=some x)(hz:∀n∈x.1.weights Tryz.prog 29,n<=reachBytes):
 ∃(v:Value) (l:List ArgT) (av:AV),cs=[v]∧VR (rhoW W.heap.size) av v∧ArgR (hW W) av l∧(∀y∈l,0<=y.k)∧l.length<=140737488351232:=by
 rcases DataW.trod_slice Tryz.underlying29 h with⟨rfl,-⟩|⟨a,len,cap,elems,rest,n,_,rfl,hx,-,hl,hm,hlen,hel,hsp,-⟩
 ·exact⟨_,[],.nils,rfl,rfl,.inl ⟨rfl,rfl⟩,fun y hy=>(by cases hy),by decide⟩
 ·by_cases h0:len=0∧cap=0
  ·obtain⟨rfl,rfl⟩:=h0
   exact⟨_,[],.sl 0 0 0 9 none,rfl,impS_VR (W:=W) (by decide) rfl,.inr ⟨0,0,none,rfl,by show 0<glob+_;unfold glob;omega,fun i x hi=>by simp at hi⟩,fun y hy=>(by cases hy),by decide⟩
  ·have one:∀i y,(w:DataW H×List MemPlace)->(W.cells? 0 (a.add (i*Tryz.prog.cellsOf 68)) (Tryz.prog.cellsOf 68)).bind (DataW.trod enc Tryz.prog W 0 (fun _=>true) true n 68)=some w->y=i->∃z:ArgT,0<=z.k∧∀(j:Nat) v,([.int .i64 z.t,.int .i64 z.s,.int .u8 z.kd,.int .u64 z.k,.int .u64 z.o1,.int .u64 z.o2,.int .u64 z.o3,.int .u64 z.o4,.int .u64 z.o5]:List Value)[j]?=some v->W.cell? ((a.add (i*9)).add j)=some v:=fun i y w hw _=>by
        rw[cells68,Option.bind_eq_some_iff]at hw
        obtain⟨cs',hcs,hy'⟩:=hw
        obtain⟨z,z0,rfl⟩:=openArg1 hy'
        obtain⟨_,_,hc⟩:=World.cells?_some hcs
        refine⟨z,z0,fun j v hj=>?_⟩
        rw[hc j (by have:=(List.getElem?_eq_some_iff.1 hj).1;simpa using this)]
        exact hj
   have hfirst:a=⟨a.block,a.off,none⟩:=by
        have hr:=hsp rfl
        have:∃w,(W.cells? 0 (a.add (0*Tryz.prog.cellsOf 68)) (Tryz.prog.cellsOf 68)).bind (DataW.trod enc Tryz.prog W 0 (fun _=>true) true n 68)=some w:=by
         by_cases hl0:0<len
         ·exact⟨elems[0]'(by omega),by rw[hel 0 hl0,List.getElem?_eq_getElem (by omega)]⟩
         ·have:=hr.2 0 (by omega)
          rw[show len+0=0 by omega]at this
          exact⟨rest[0]'(by omega),by rw[this,List.getElem?_eq_getElem (by omega)]⟩
        obtain⟨w,hw⟩:=this
        obtain⟨z,_,hc⟩:=one 0 0 w hw rfl
        have hp:=plain_of_cell (hc 0 _ rfl)
        simpa [Addr.add]using hp
   have hblk:a.block<W.heap.size:=by
        have hr:=hsp rfl
        have:∃w,(W.cells? 0 (a.add (0*Tryz.prog.cellsOf 68)) (Tryz.prog.cellsOf 68)).bind (DataW.trod enc Tryz.prog W 0 (fun _=>true) true n 68)=some w:=by
         by_cases hl0:0<len
         ·exact⟨elems[0]'(by omega),by rw[hel 0 hl0,List.getElem?_eq_getElem (by omega)]⟩
         ·have:=hr.2 0 (by omega)
          rw[show len+0=0 by omega]at this
          exact⟨rest[0]'(by omega),by rw[this,List.getElem?_eq_getElem (by omega)]⟩
        obtain⟨w,hw⟩:=this
        obtain⟨z,_,hc⟩:=one 0 0 w hw rfl
        have h1:=hc 0 _ rfl
        rw[hfirst]at h1
        simp only[Nat.zero_mul,add_plain]at h1
        exact(cell_tab h1 rfl).1
   obtain⟨l,hll,hp⟩:=exList (P:=fun i z=>0<=ArgT.k z∧∀(j:Nat) v,([.int .i64 z.t,.int .i64 z.s,.int .u8 z.kd,.int .u64 z.k,.int .u64 z.o1,.int .u64 z.o2,.int .u64 z.o3,.int .u64 z.o4,.int .u64 z.o5]:List Value)[j]?=some v->W.cell? ((a.add (i*9)).add j)=some v) len fun i hi=>one i i _ (by rw[hel i hi,List.getElem?_eq_getElem (by omega)]) rfl
   have hb:len<=140737488351232:=by
        have:=hz ((elems.length+rest.length)*Tryz.prog.bytesOf 68) (by rw[hx];simp[DataW.weights,Tryz.underlying29])
        rw[bytes68]at this
        unfold reachBytes at this
        omega
   have at1:∀i z j v av,l[i]?=some z->([.int .i64 z.t,.int .i64 z.s,.int .u8 z.kd,.int .u64 z.k,.int .u64 z.o1,.int .u64 z.o2,.int .u64 z.o3,.int .u64 z.o4,.int .u64 z.o5]:List Value)[j]?=some v->impV W.heap.size v=some av->ldA (hW W).t.get none (nB a.block) (a.off+(i*9+j))=some av:=fun i z j v av hz hj hv=>by
        have h1:=(hp i z hz).2 j v hj
        rw[hfirst,add_plain,add_plain,Nat.add_assoc]at h1
        exact(cell_tab h1 hv).2
   have hsp:a.spot=none:=by rw[hfirst]
   refine⟨_,l,.sl (nB a.block) a.off len 9 (some cap),rfl,impS_VR (W:=W) (es:=9) (by decide) ?_,.inr ⟨nB a.block,a.off,some cap,by rw[hll],nB_lt hblk,fun i z hz=>⟨?_,?_,?_⟩⟩,fun y hy=>?_,by omega⟩
   ·unfold impS
    simp only[]
    rw[if_neg h0,if_pos ⟨hsp,hblk,hl⟩]
   ·exact at1 i z 0 _ _ hz rfl rfl
   ·exact at1 i z 1 _ _ hz rfl rfl
   ·have t0:=at1 i z 0 _ _ hz rfl rfl
    unfold ldA at t0⊢
    have at':∀j v av,([.int .i64 z.t,.int .i64 z.s,.int .u8 z.kd,.int .u64 z.k,.int .u64 z.o1,.int .u64 z.o2,.int .u64 z.o3,.int .u64 z.o4,.int .u64 z.o5]:List Value)[j]?=some v->impV W.heap.size v=some av->ldA (hW W).t.get none (nB a.block) (a.off+(i*9+j))=some av:=fun j v av h1 h2=>at1 i z j v av hz h1 h2
    unfold ldA at at'
    cases hg:(hW W).t.get (nB a.block)with
    |none=>rw[hg]at t0;cases t0
    |some o=>
     rw[hg]at at'
     have key:∀cells:T AV,(∀j v av,([.int .i64 z.t,.int .i64 z.s,.int .u8 z.kd,.int .u64 z.k,.int .u64 z.o1,.int .u64 z.o2,.int .u64 z.o3,.int .u64 z.o4,.int .u64 z.o5]:List Value)[j]?=some v->impV W.heap.size v=some av->cells.get (a.off+(i*9+j))=some av)->getList cells (a.off+(i*9+2)) 7=some [.int .u8 z.kd,.int .u64 z.k,.int .u64 z.o1,.int .u64 z.o2,.int .u64 z.o3,.int .u64 z.o4,.int .u64 z.o5]:=fun cells hc=>getList_of cells [.int .u8 z.kd,.int .u64 z.k,.int .u64 z.o1,.int .u64 z.o2,.int .u64 z.o3,.int .u64 z.o4,.int .u64 z.o5] _ fun j x hj=>by
      have hj7:j<7:=(List.getElem?_eq_some_iff.1 hj).1
      rw[show a.off+(i*9+2)+j=a.off+(i*9+(2+j)) by omega]
      match j,hj7 with
      |0,_|1,_|2,_|3,_|4,_|5,_|6,_=>simp at hj;subst hj;exact hc _ _ _ rfl rfl
     cases o with
     |row cells n e=>simp only at at'⊢;rw[key cells at'];rfl
     |tab cells=>simp only at at'⊢;rw[key cells at'];rfl
     |_=>simp at t0;rw[hg]at t0;simp at t0
   ·obtain⟨i,hi⟩:=List.getElem?_of_mem hy
    exact(hp i y hi).1
theorem openCfg{base:Nat}{v0:Value}{d0:DataW H}{p0:List MemPlace}(o0:Value.okWide Tryz.prog W .any base 27 v0)(h0:DataW.Trod enc Tryz.prog W 0 (fun _=>true) true 27 v0 d0 p0)(hz:∀n∈d0.weights Tryz.prog 27,n<=reachBytes):
 ∃(c:CfgT) (av:AV),0<=c.kind∧0<=c.engine∧VR (rhoW W.heap.size) (.agg (cfgC c av)) v0∧RdL none 1 (hW W) av (uL c.cuts)∧(∀a,own av=some a->a<(hW W).next)∧(∀y∈c.cuts,inU y)∧c.cuts.length*8<=140737488351232:=by
 obtain⟨cs,rfl,hsz⟩:=okWide_struct Tryz.underlying27 o0
 obtain⟨fuel,hf⟩:=h0
 obtain⟨th,sl,en,bu,dk,dn,t0,t1,t2,t3,t4,t5,lo,tr,ba,cv,l,ac,en0,dk0,e0,h1,h2,h3,h4,z1⟩:=openConfig hf hz
 refine⟨⟨th,sl,en,bu,dk,dn,l,t0,t1,t2,t3,t4,t5,lo,tr,ba⟩,ac,dk0,en0,⟨cs.toList,?_,?_⟩,h2,h3,h4,z1⟩
 ·have e0':cs.toList=_:=e0
  rw[e0']
  unfold cfgC
  simp only[VRs,VR]
  exact⟨_,_,rfl,⟨_,_,rfl,⟨_,_,rfl,⟨_,_,rfl,⟨_,_,rfl,⟨_,_,rfl,⟨_,_,h1,⟨_,_,rfl,⟨_,_,rfl,⟨_,_,rfl,⟨_,_,rfl,⟨_,_,rfl,⟨_,_,rfl,⟨_,_,rfl,⟨_,_,rfl,⟨_,_,rfl,rfl,rfl⟩,rfl⟩,rfl⟩,rfl⟩,rfl⟩,rfl⟩,rfl⟩,rfl⟩,rfl⟩,rfl⟩,rfl⟩,rfl⟩,rfl⟩,rfl⟩,rfl⟩,rfl⟩
 ·rfl
theorem openSl{t e:TypeId}{k:IntKind}{base:Nat}{v0:Value}{d0:DataW H}{p0:List MemPlace}(ht:Tryz.prog.underlying t=some (.slice e))(he:Tryz.prog.underlying e=some (.int k))(hc:Tryz.prog.cellsOf e=1)(hby:Tryz.prog.bytesOf e=8)(o0:Value.okWide Tryz.prog W .any base t v0)(h0:DataW.Trod enc Tryz.prog W 0 (fun _=>true) true t v0 d0 p0)(hz:∀n∈d0.weights Tryz.prog t,n<=reachBytes):
 ∃(l:List Int) (av:AV),VR (rhoW W.heap.size) av v0∧RdL none 1 (hW W) av (l.map fun x:Int=>AV.int k x)∧(∀a,own av=some a->a<(hW W).next)∧l.length<=140737488351232:=by
 obtain⟨a,len,cap,rfl⟩:=okWide_slice ht o0
 obtain⟨fuel,hf⟩:=h0
 obtain⟨v,l,av,e,h1,h2,h3,-,h5⟩:=openInts ht he hc hby hf hz
 have e:Value.slice a len cap=v:=by simpa [Value.cells]using e
 subst e
 exact⟨l,av,h1,h2,h3,by omega⟩
theorem openAr{base:Nat}{v0:Value}{d0:DataW H}{p0:List MemPlace}(o0:Value.okWide Tryz.prog W .any base 29 v0)(h0:DataW.Trod enc Tryz.prog W 0 (fun _=>true) true 29 v0 d0 p0)(hz:∀n∈d0.weights Tryz.prog 29,n<=reachBytes):
 ∃(l:List ArgT) (av:AV),VR (rhoW W.heap.size) av v0∧ArgR (hW W) av l∧(∀y∈l,0<=y.k)∧l.length<=140737488351232:=by
 obtain⟨a,len,cap,rfl⟩:=okWide_slice Tryz.underlying29 o0
 obtain⟨fuel,hf⟩:=h0
 obtain⟨v,l,av,e,h1,h2,h3,h5⟩:=openArgL hf hz
 have e:Value.slice a len cap=v:=by simpa [Value.cells]using e
 subst e
 exact⟨l,av,h1,h2,h3,h5⟩
end
end
end Go.Proofs.YtghmnaojmpjglaaGreatDoor.PR
namespace Go.Proofs.YtghmnaojmpjglaaGreatDoor.PR
open Go.Proofs.YtghmnaojmpjglaaGreatDoor.Eo Go.RowKit Go.ChangeShapes Go.WideShapes Go.Deep
open Go.Proofs (Tryz.prog Tryz.checked Tryz.underlying27 Tryz.underlying24 Tryz.underlying25 Tryz.underlying66 Tryz.underlying68 Tryz.underlying28 Tryz.underlying29 Tryz.underlying51 Tryz.underlying22 Tryz.underlying4 Tryz.underlying3 Tryz.underlying5)
set_option maxRecDepth 100000
noncomputable section
theorem calls_from{f:FuncId}{cf:CF}{k:Nat}{call:CallE}(hcall:CallOK true Tryz.prog call)(hpl:Plain call){W:World}{args:List AV}{ARGS:List Value}(ha:VRs (rhoW W.heap.size) args ARGS)(hk:args.length=k)(h1:hasE Tryz.prog f=true)(h2:Nat.ble ykey f=false)(h3:cCF Tryz.prog f k=some cf)
 (hw:WF Tryz.prog call cf args (hW W) fun v h'=>v=.bool true):Calls Tryz.prog f ARGS.toArray W fun e W'=>e=.returned (.bool true)∧Below W.heap.size W W':=by
 obtain⟨v,h',r,rfl⟩:=WF_sound Tryz.checked.mixed hcall hpl h1 h2 h3 hk hw
 refine(r.ret (rhoW W.heap.size) W ARGS ha (hW_hr W) (hW_fresh W)).mono fun e w' hh=>?_
 obtain⟨ρ',V,rfl,hv,way⟩:=hh
 simp only[VR]at hv
 subst hv
 exact⟨rfl,way.nx.env.os,way.nx.env.tape,way.nx.env.output,way.nx.size,fun r hr=>way.nx.frame r hr fun a o l q1 q2=>by rw[hW_mut W a o q1]at q2;cases q2⟩
theorem xk:∀p∈xl,okX Tryz.prog p:=by
 intro p hp
 simp only[xl,List.mem_cons,List.not_mem_nil,or_false]at hp
 rcases hp with rfl|rfl|rfl|rfl|rfl<;>exact⟨by kernel_rfl,by kernel_rfl⟩
theorem g0:0<glob:=by decide
theorem hNG:noNG Tryz.prog=true:=by decide+kernel
theorem has19:hasE Tryz.prog 19=true:=by kernel_rfl
theorem bX_plain:Plain bX:=fun f args h hb=>by
 have hf:Nat.beq f 19=false:=by
  cases e:Nat.beq f 19 with
  |false=>rfl
  |true=>
   have:=Nat.eq_of_beq_eq_true e
   subst this
   cases hb
 rw[bX_at hf]
 exact atom_plain X_ok f args h hb
theorem awake_calls{ρ:Rho}{h:H}{w:World}(hr:HR ρ h.t.get w)(ht:hasTab 0 .u8 tab h=true):Calls Tryz.prog 19 #[] w fun e w'=>e=.returned (.bool true)∧Below w.heap.size w w':=
 (says_closed (drawE_ok Tryz.checked.mixed) (lookX_known xk) noS_known has19 (by kernel_rfl) rfl tabH_mut ((saysF_eq hNG _ _ _ _ _ _ _).symm.trans saysAwake) w (tabH_hr g0 (hasTab_w g0 ht hr))).mono fun e w' hh=>
   ⟨hh.1,hh.2.1.os,hh.2.1.tape,hh.2.1.output,hh.2.2.1,hh.2.2.2⟩
theorem bX_ok:CallOK true Tryz.prog bX:=by
 intro f args h v h' e ρ w ARGS ha hr hf
 cases e9:Nat.beq f 19 with
 |false=>
  rw[bX_at e9]at e
  exact atom_ok X_ok f args h v h' e ρ w ARGS ha hr hf
 |true=>
  have:=Nat.eq_of_beq_eq_true e9
  subst this
  cases args with
  |cons a l=>unfold bX at e;rw[e9]at e;cases e
  |nil=>
   cases ht:hasTab 0 .u8 tab h with
   |false=>unfold bX at e;rw[e9]at e;simp only[ht,cond_true,cond_false]at e;cases e
   |true=>
    unfold bX at e
    rw[e9]at e
    simp only[ht,cond_true,Option.some.injEq,Prod.mk.injEq]at e
    obtain⟨rfl,rfl⟩:=e
    have:ARGS=[]:=ha
    subst this
    exact .inl ⟨by kernel_rfl,known_out hr hf rfl has19 (awake_calls hr ht)⟩
theorem cX_ok(n:Nat):CallOK true Tryz.prog (cX n):=callX_ok Tryz.checked.mixed bX_plain bX_ok n
theorem cX_plain(n:Nat):Plain (cX n):=callX_plain bX_plain n
theorem law3{W:World}{V0 V1 V2 V3:Value}{c:CfgT}{av ow se ar:AV}{owl sel:List Int}{arl:List ArgT}(tw:TabW 0 .u8 tab W)(k0:0<=c.kind)(e0:0<=c.engine)(r0:VR (rhoW W.heap.size) (.agg (cfgC c av)) V0)(hv:RdL none 1 (hW W) av (uL c.cuts))(hlv:∀a,own av=some a->a<(hW W).next)(hin:∀y∈c.cuts,inU y)(hl:c.cuts.length*8<=140737488351232)
 (r1:VR (rhoW W.heap.size) ow V1) (ro:RdL none 1 (hW W) ow (uL owl)) (bo:∀a,own ow=some a->a<(hW W).next) (lo:owl.length<=140737488351232) (r2:VR (rhoW W.heap.size) se V2) (rs:RdL none 1 (hW W) se (iL sel)) (bs:∀a,own se=some a->a<(hW W).next) (ls:sel.length<=140737488351232)
 (r3:VR (rhoW W.heap.size) ar V3) (ra:ArgR (hW W) ar arl) (key:∀x∈arl,0<=x.k) (la:arl.length<=140737488351232):
 Calls Tryz.prog 3 #[V0,V1,V2,V3] W fun e W'=>e=.returned (.bool true)∧Below W.heap.size W W':=by
 obtain⟨cells,g0,hc⟩:=hW_tb tw
 exact calls_from (cX_ok 8) (cX_plain 8) (f:=3) (k:=4) (args:=[.agg (cfgC c av),ow,se,ar]) (ARGS:=[V0,V1,V2,V3]) ⟨_,_,r0,⟨_,_,r1,⟨_,_,r2,⟨_,_,r3,rfl,rfl⟩,rfl⟩,rfl⟩,rfl⟩ rfl k3.has k3.key k3.cf
  (w3 Tryz.prog (f4 (0+2)) (f5 (0+5)) (f6 (0+4)) (f7 (0+7)) (f8 (0+2)) (f9 (0+3)) (f10 (0+1)) (f11 (0+1)) (f12 (0+7)) (f13 (0+6)) (f14 0) (f15 (0+1)) (f16 (0+4)) (f17 (0+4)) (f18 (0+1)) (b19 _ hc) k0 e0 hv hlv (by omega) hin ⟨ro,bo,rs,bs,ra,lo,ls,la,key⟩ g0 (by show 0<glob+_;unfold glob;omega))
end
end Go.Proofs.YtghmnaojmpjglaaGreatDoor.PR
