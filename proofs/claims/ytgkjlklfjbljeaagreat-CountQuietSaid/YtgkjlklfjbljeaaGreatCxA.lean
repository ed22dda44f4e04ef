/-
  The law in plain words. Conditions: those of each theorem.
-/
import Derived.Test.YtgkjlklfjbljeaaGreatCwJ
import Derived.Test.YtgkjlklfjbljeaaGreatCwG
import Derived.Test.YtgkjlklfjbljeaaGreatProg
import Derived.KernelRfl
import Derived.Test.YtgkjlklfjbljeaaGreatEoD
import Derived.Eval
import Derived.Test.YtgkjlklfjbljeaaGreatShelf
import Derived.Deep.Slices
import Derived.OpenShut
import Derived.SizedLaws
import Derived.Below
import Derived.Test.YtgkjlklfjbljeaaGreatChecked
set_option linter.all false
namespace Go.Proofs.YtgkjlklfjbljeaaGreat.CQ
open Go.Proofs.YtgkjlklfjbljeaaGreat.Eo
open Go.Proofs (Tryz.prog)
noncomputable section
structure Kn(f k:Nat)(c:CF):Prop where
 has:mJ Tryz.prog f=true
 key:Nat.ble dW f=false
 cf:Mz Tryz.prog f k=some c
theorem amU:Kn 121 1 Yd:=⟨by kernel_rfl,rfl,by kernel_rfl⟩
theorem amV:Kn 122 2 Ye:=⟨by kernel_rfl,rfl,by kernel_rfl⟩
theorem k35:Kn 35 3 c35:=⟨by kernel_rfl,rfl,by kernel_rfl⟩
theorem NR:Kn 42 1 c42:=⟨by kernel_rfl,rfl,by kernel_rfl⟩
theorem k90:Kn 90 2 c90:=⟨by kernel_rfl,rfl,by kernel_rfl⟩
theorem k56:Kn 56 1 c56:=⟨by kernel_rfl,rfl,by kernel_rfl⟩
theorem Ha:Kn 18 1 c18:=⟨by kernel_rfl,rfl,by kernel_rfl⟩
theorem V7:Kn 17 1 c17:=⟨by kernel_rfl,rfl,by kernel_rfl⟩
theorem NT:Kn 34 3 c34:=⟨by kernel_rfl,rfl,by kernel_rfl⟩
theorem amW:Kn 159 1 RN:=⟨by kernel_rfl,rfl,by kernel_rfl⟩
theorem k96:Kn 96 1 c96:=⟨by kernel_rfl,rfl,by kernel_rfl⟩
theorem amX:Kn 118 1 MP:=⟨by kernel_rfl,rfl,by kernel_rfl⟩
theorem acy:Kn 116 1 Yi:=⟨by kernel_rfl,rfl,by kernel_rfl⟩
theorem amY:Kn 130 1 dp:=⟨by kernel_rfl,rfl,by kernel_rfl⟩
theorem k97:Kn 97 1 c97:=⟨by kernel_rfl,rfl,by kernel_rfl⟩
theorem k47:Kn 47 1 c47:=⟨by kernel_rfl,rfl,by kernel_rfl⟩
theorem amZ:Kn 120 1 Yk:=⟨by kernel_rfl,rfl,by kernel_rfl⟩
theorem k92:Kn 92 1 c92:=⟨by kernel_rfl,rfl,by kernel_rfl⟩
theorem Pe:Kn 124 1 Yl:=⟨by kernel_rfl,rfl,by kernel_rfl⟩
theorem k41:Kn 41 1 c41:=⟨by kernel_rfl,rfl,by kernel_rfl⟩
theorem acz:Kn 123 2 RW:=⟨by kernel_rfl,rfl,by kernel_rfl⟩
theorem am0:Kn 119 5 RY:=⟨by kernel_rfl,rfl,by kernel_rfl⟩
theorem k55:Kn 55 1 c55:=⟨by kernel_rfl,rfl,by kernel_rfl⟩
theorem k57:Kn 57 1 c57:=⟨by kernel_rfl,rfl,by kernel_rfl⟩
theorem am1:Kn 175 1 YJ:=⟨by kernel_rfl,rfl,by kernel_rfl⟩
theorem am2:Kn 176 1 YK:=⟨by kernel_rfl,rfl,by kernel_rfl⟩
theorem am3:Kn 177 1 YL:=⟨by kernel_rfl,rfl,by kernel_rfl⟩
theorem am4:Kn 125 3 YM:=⟨by kernel_rfl,rfl,by kernel_rfl⟩
theorem am5:Kn 126 3 YN:=⟨by kernel_rfl,rfl,by kernel_rfl⟩
theorem am6:Kn 127 3 YO:=⟨by kernel_rfl,rfl,by kernel_rfl⟩
theorem am7:Kn 128 3 YP:=⟨by kernel_rfl,rfl,by kernel_rfl⟩
theorem k60:Kn 60 5 c60:=⟨by kernel_rfl,rfl,by kernel_rfl⟩
theorem k58:Kn 58 2 c58:=⟨by kernel_rfl,rfl,by kernel_rfl⟩
theorem k59:Kn 59 2 c59:=⟨by kernel_rfl,rfl,by kernel_rfl⟩
theorem k23:Kn 23 1 IC:=⟨by kernel_rfl,rfl,by kernel_rfl⟩
theorem k53:Kn 53 1 c53:=⟨by kernel_rfl,rfl,by kernel_rfl⟩
theorem am8:Kn 131 5 Y6:=⟨by kernel_rfl,rfl,by kernel_rfl⟩
theorem k62:Kn 62 1 c62:=⟨by kernel_rfl,rfl,by kernel_rfl⟩
theorem k64:Kn 64 1 c64:=⟨by kernel_rfl,rfl,by kernel_rfl⟩
theorem k63:Kn 63 1 c63:=⟨by kernel_rfl,rfl,by kernel_rfl⟩
theorem k65:Kn 65 2 c65:=⟨by kernel_rfl,rfl,by kernel_rfl⟩
theorem k66:Kn 66 2 c66:=⟨by kernel_rfl,rfl,by kernel_rfl⟩
theorem am9:Kn 132 3 Zb:=⟨by kernel_rfl,rfl,by kernel_rfl⟩
theorem ana:Kn 133 3 Zc:=⟨by kernel_rfl,rfl,by kernel_rfl⟩
theorem anb:Kn 134 3 Zd:=⟨by kernel_rfl,rfl,by kernel_rfl⟩
theorem anc:Kn 135 3 Ze:=⟨by kernel_rfl,rfl,by kernel_rfl⟩
theorem k67:Kn 67 5 c67:=⟨by kernel_rfl,rfl,by kernel_rfl⟩
theorem ane:Kn 180 1 Zf:=⟨by kernel_rfl,rfl,by kernel_rfl⟩
theorem anf:Kn 181 1 Zg:=⟨by kernel_rfl,rfl,by kernel_rfl⟩
theorem ang:Kn 179 1 Zh:=⟨by kernel_rfl,rfl,by kernel_rfl⟩
theorem anh:Kn 182 3 Zi:=⟨by kernel_rfl,rfl,by kernel_rfl⟩
theorem k25:Kn 25 1 ID:=⟨by kernel_rfl,rfl,by kernel_rfl⟩
theorem k36:Kn 36 2 c36:=⟨by kernel_rfl,rfl,by kernel_rfl⟩
theorem k37:Kn 37 7 mE:=⟨by kernel_rfl,rfl,by kernel_rfl⟩
theorem uH:Kn 13 4 c13:=⟨by kernel_rfl,rfl,by kernel_rfl⟩
theorem Js:Kn 157 3 iV:=⟨by kernel_rfl,rfl,by kernel_rfl⟩
theorem Jt:Kn 158 6 Zl:=⟨by kernel_rfl,rfl,by kernel_rfl⟩
theorem k87:Kn 87 4 c87:=⟨by kernel_rfl,rfl,by kernel_rfl⟩
theorem JE:Kn 142 1 Zo:=⟨by kernel_rfl,rfl,by kernel_rfl⟩
theorem Ea:Kn 11 2 c11:=⟨by kernel_rfl,rfl,by kernel_rfl⟩
theorem Mx:Kn 31 4 c31:=⟨by kernel_rfl,rfl,by kernel_rfl⟩
theorem mW:Kn 12 1 c12:=⟨by kernel_rfl,rfl,by kernel_rfl⟩
theorem ani:Kn 198 1 Zr:=⟨by kernel_rfl,rfl,by kernel_rfl⟩
theorem yr:Kn 167 4 Zs:=⟨by kernel_rfl,rfl,by kernel_rfl⟩
theorem lu:Kn 169 3 Zu:=⟨by kernel_rfl,rfl,by kernel_rfl⟩
theorem anj:Kn 299 2 Zv:=⟨by kernel_rfl,rfl,by kernel_rfl⟩
theorem Ey:Kn 296 4 Zw:=⟨by kernel_rfl,rfl,by kernel_rfl⟩
theorem S0:Kn 197 3 Zy:=⟨by kernel_rfl,rfl,by kernel_rfl⟩
theorem Ep:Kn 160 5 Zz:=⟨by kernel_rfl,rfl,by kernel_rfl⟩
theorem JD:Kn 145 3 ZA:=⟨by kernel_rfl,rfl,by kernel_rfl⟩
theorem TE:Kn 148 5 ZB:=⟨by kernel_rfl,rfl,by kernel_rfl⟩
theorem NU:Kn 33 2 c33:=⟨by kernel_rfl,rfl,by kernel_rfl⟩
theorem JF:Kn 10 3 c10:=⟨by kernel_rfl,rfl,by kernel_rfl⟩
theorem k91:Kn 91 2 c91:=⟨by kernel_rfl,rfl,by kernel_rfl⟩
theorem OA:Kn 40 3 c40:=⟨by kernel_rfl,rfl,by kernel_rfl⟩
theorem yj:Kn 153 2 ZD:=⟨by kernel_rfl,rfl,by kernel_rfl⟩
theorem Jy:Kn 138 3 S3:=⟨by kernel_rfl,rfl,by kernel_rfl⟩
theorem Mn:Kn 84 3 c84:=⟨by kernel_rfl,rfl,by kernel_rfl⟩
theorem S9:Kn 137 2 ZG:=⟨by kernel_rfl,rfl,by kernel_rfl⟩
theorem Jz:Kn 136 3 ZH:=⟨by kernel_rfl,rfl,by kernel_rfl⟩
theorem N9:Kn 70 2 c70:=⟨by kernel_rfl,rfl,by kernel_rfl⟩
theorem Ih:Kn 69 2 c69:=⟨by kernel_rfl,rfl,by kernel_rfl⟩
theorem ZK:Kn 68 3 c68:=⟨by kernel_rfl,rfl,by kernel_rfl⟩
theorem k27:Kn 27 2 c27:=⟨by kernel_rfl,rfl,by kernel_rfl⟩
theorem k83:Kn 83 4 c83:=⟨by kernel_rfl,rfl,by kernel_rfl⟩
theorem Tm:Kn 183 1 ZM:=⟨by kernel_rfl,rfl,by kernel_rfl⟩
theorem Tn:Kn 184 1 ZN:=⟨by kernel_rfl,rfl,by kernel_rfl⟩
theorem Tp:Kn 185 2 ZO:=⟨by kernel_rfl,rfl,by kernel_rfl⟩
theorem Tu:Kn 187 1 ZP:=⟨by kernel_rfl,rfl,by kernel_rfl⟩
theorem Tj:Kn 201 1 ZQ:=⟨by kernel_rfl,rfl,by kernel_rfl⟩
theorem Tq:Kn 186 2 ZR:=⟨by kernel_rfl,rfl,by kernel_rfl⟩
theorem k139:Kn 139 1 ZS:=⟨by kernel_rfl,rfl,by kernel_rfl⟩
theorem k140:Kn 140 1 ZT:=⟨by kernel_rfl,rfl,by kernel_rfl⟩
theorem k141:Kn 141 1 ZU:=⟨by kernel_rfl,rfl,by kernel_rfl⟩
theorem Tx:Kn 143 1 ZV:=⟨by kernel_rfl,rfl,by kernel_rfl⟩
theorem k75:Kn 75 1 c75:=⟨by kernel_rfl,rfl,by kernel_rfl⟩
theorem k72:Kn 72 4 c72:=⟨by kernel_rfl,rfl,by kernel_rfl⟩
theorem k77:Kn 77 1 c77:=⟨by kernel_rfl,rfl,by kernel_rfl⟩
theorem k71:Kn 71 1 c71:=⟨by kernel_rfl,rfl,by kernel_rfl⟩
theorem CP:Kn 144 1 Z3:=⟨by kernel_rfl,rfl,by kernel_rfl⟩
theorem TD:Kn 146 2 Z4:=⟨by kernel_rfl,rfl,by kernel_rfl⟩
theorem TC:Kn 147 1 Z5:=⟨by kernel_rfl,rfl,by kernel_rfl⟩
theorem T6:Kn 74 1 c74:=⟨by kernel_rfl,rfl,by kernel_rfl⟩
theorem Oj:Kn 76 1 c76:=⟨by kernel_rfl,rfl,by kernel_rfl⟩
theorem k73:Kn 73 4 c73:=⟨by kernel_rfl,rfl,by kernel_rfl⟩
theorem k78:Kn 78 1 c78:=⟨by kernel_rfl,rfl,by kernel_rfl⟩
theorem TF:Kn 202 1 Z9:=⟨by kernel_rfl,rfl,by kernel_rfl⟩
theorem TG:Kn 188 3 aaa:=⟨by kernel_rfl,rfl,by kernel_rfl⟩
theorem TH:Kn 189 1 aab:=⟨by kernel_rfl,rfl,by kernel_rfl⟩
theorem TI:Kn 190 1 aac:=⟨by kernel_rfl,rfl,by kernel_rfl⟩
theorem TJ:Kn 191 1 aad:=⟨by kernel_rfl,rfl,by kernel_rfl⟩
theorem TS:Kn 149 1 aae:=⟨by kernel_rfl,rfl,by kernel_rfl⟩
theorem TL:Kn 192 3 aaf:=⟨by kernel_rfl,rfl,by kernel_rfl⟩
theorem TM:Kn 193 1 aag:=⟨by kernel_rfl,rfl,by kernel_rfl⟩
theorem TN:Kn 194 1 aah:=⟨by kernel_rfl,rfl,by kernel_rfl⟩
theorem TP:Kn 195 1 aai:=⟨by kernel_rfl,rfl,by kernel_rfl⟩
theorem TK:Kn 203 1 aaj:=⟨by kernel_rfl,rfl,by kernel_rfl⟩
theorem TY:Kn 151 1 aak:=⟨by kernel_rfl,rfl,by kernel_rfl⟩
theorem k79:Kn 79 5 c79:=⟨by kernel_rfl,rfl,by kernel_rfl⟩
theorem TU:Kn 150 3 aal:=⟨by kernel_rfl,rfl,by kernel_rfl⟩
theorem T1:Kn 81 1 c81:=⟨by kernel_rfl,rfl,by kernel_rfl⟩
theorem k80:Kn 80 5 c80:=⟨by kernel_rfl,rfl,by kernel_rfl⟩
theorem T0:Kn 152 1 aam:=⟨by kernel_rfl,rfl,by kernel_rfl⟩
theorem T2:Kn 82 1 c82:=⟨by kernel_rfl,rfl,by kernel_rfl⟩
theorem T3:Kn 14 1 c14:=⟨by kernel_rfl,rfl,by kernel_rfl⟩
theorem k29:Kn 29 5 c29:=⟨by kernel_rfl,rfl,by kernel_rfl⟩
theorem k28:Kn 28 3 c28:=⟨by kernel_rfl,rfl,by kernel_rfl⟩
theorem T9:Kn 88 2 c88:=⟨by kernel_rfl,rfl,by kernel_rfl⟩
theorem k86:Kn 86 2 c86:=⟨by kernel_rfl,rfl,by kernel_rfl⟩
theorem JJ:Kn 154 2 aaq:=⟨by kernel_rfl,rfl,by kernel_rfl⟩
theorem Ud:Kn 155 2 aar:=⟨by kernel_rfl,rfl,by kernel_rfl⟩
theorem k44:Kn 44 2 c44:=⟨by kernel_rfl,rfl,by kernel_rfl⟩
theorem k85:Kn 85 2 c85:=⟨by kernel_rfl,rfl,by kernel_rfl⟩
theorem k95:Kn 95 2 c95:=⟨by kernel_rfl,rfl,by kernel_rfl⟩
theorem k30:Kn 30 4 c30:=⟨by kernel_rfl,rfl,by kernel_rfl⟩
theorem k6:Kn 6 2 c6:=⟨by kernel_rfl,rfl,by kernel_rfl⟩
theorem k7:Kn 7 1 c7:=⟨by kernel_rfl,rfl,by kernel_rfl⟩
theorem k32:Kn 32 2 c32:=⟨by kernel_rfl,rfl,by kernel_rfl⟩
theorem k8:Kn 8 1 c8:=⟨by kernel_rfl,rfl,by kernel_rfl⟩
theorem k9:Kn 9 1 c9:=⟨by kernel_rfl,rfl,by kernel_rfl⟩
theorem k45:Kn 45 1 c45:=⟨by kernel_rfl,rfl,by kernel_rfl⟩
theorem VI:Kn 199 1 aaK:=⟨by kernel_rfl,rfl,by kernel_rfl⟩
theorem Um:Kn 39 3 c39:=⟨by kernel_rfl,rfl,by kernel_rfl⟩
theorem Up:Kn 38 3 c38:=⟨by kernel_rfl,rfl,by kernel_rfl⟩
theorem k15:Kn 15 2 c15:=⟨by kernel_rfl,rfl,by kernel_rfl⟩
theorem Eb:Kn 16 1 c16:=⟨by kernel_rfl,rfl,by kernel_rfl⟩
theorem k94:Kn 94 2 c94:=⟨by kernel_rfl,rfl,by kernel_rfl⟩
theorem k43:Kn 43 1 c43:=⟨by kernel_rfl,rfl,by kernel_rfl⟩
theorem Ou:Kn 156 1 A7:=⟨by kernel_rfl,rfl,by kernel_rfl⟩
theorem CX:Kn 172 3 aaU:=⟨by kernel_rfl,rfl,by kernel_rfl⟩
theorem UA:Kn 162 2 aaV:=⟨by kernel_rfl,rfl,by kernel_rfl⟩
theorem Ew:Kn 165 3 aaW:=⟨by kernel_rfl,rfl,by kernel_rfl⟩
theorem Jn:Kn 100 1 aaX:=⟨by kernel_rfl,rfl,by kernel_rfl⟩
theorem OH:Kn 163 1 aaY:=⟨by kernel_rfl,rfl,by kernel_rfl⟩
theorem UE:Kn 101 1 aaZ:=⟨by kernel_rfl,rfl,by kernel_rfl⟩
theorem UF:Kn 104 1 aa0:=⟨by kernel_rfl,rfl,by kernel_rfl⟩
theorem UG:Kn 105 1 aa1:=⟨by kernel_rfl,rfl,by kernel_rfl⟩
theorem UH:Kn 106 1 aa2:=⟨by kernel_rfl,rfl,by kernel_rfl⟩
theorem UI:Kn 107 1 aa3:=⟨by kernel_rfl,rfl,by kernel_rfl⟩
theorem Kf:Kn 108 1 UD:=⟨by kernel_rfl,rfl,by kernel_rfl⟩
theorem k49:Kn 49 1 c49:=⟨by kernel_rfl,rfl,by kernel_rfl⟩
theorem VN:Kn 109 1 aa4:=⟨by kernel_rfl,rfl,by kernel_rfl⟩
theorem VO:Kn 114 3 aa5:=⟨by kernel_rfl,rfl,by kernel_rfl⟩
theorem k98:Kn 98 1 c98:=⟨by kernel_rfl,rfl,by kernel_rfl⟩
theorem k48:Kn 48 4 c48:=⟨by kernel_rfl,rfl,by kernel_rfl⟩
theorem UL:Kn 277 2 aa6:=⟨by kernel_rfl,rfl,by kernel_rfl⟩
theorem JV:Kn 274 3 aa7:=⟨by kernel_rfl,rfl,by kernel_rfl⟩
theorem Bd:Kn 275 2 aa8:=⟨by kernel_rfl,rfl,by kernel_rfl⟩
theorem JW:Kn 273 3 aa9:=⟨by kernel_rfl,rfl,by kernel_rfl⟩
theorem Vf:Kn 270 4 aba:=⟨by kernel_rfl,rfl,by kernel_rfl⟩
theorem ank:Kn 271 3 abb:=⟨by kernel_rfl,rfl,by kernel_rfl⟩
theorem anl:Kn 272 1 abc:=⟨by kernel_rfl,rfl,by kernel_rfl⟩
theorem UO:Kn 276 1 abd:=⟨by kernel_rfl,rfl,by kernel_rfl⟩
theorem acA:Kn 321 1 OL:=⟨by kernel_rfl,rfl,by kernel_rfl⟩
theorem anm:Kn 322 1 abe:=⟨by kernel_rfl,rfl,by kernel_rfl⟩
theorem US:Kn 286 2 abg:=⟨by kernel_rfl,rfl,by kernel_rfl⟩
theorem JY:Kn 285 3 abh:=⟨by kernel_rfl,rfl,by kernel_rfl⟩
theorem JX:Kn 178 2 abi:=⟨by kernel_rfl,rfl,by kernel_rfl⟩
theorem JZ:Kn 284 3 abj:=⟨by kernel_rfl,rfl,by kernel_rfl⟩
theorem Vh:Kn 281 4 abk:=⟨by kernel_rfl,rfl,by kernel_rfl⟩
theorem ann:Kn 282 3 abl:=⟨by kernel_rfl,rfl,by kernel_rfl⟩
theorem ano:Kn 283 1 abm:=⟨by kernel_rfl,rfl,by kernel_rfl⟩
theorem UW:Kn 329 1 abn:=⟨by kernel_rfl,rfl,by kernel_rfl⟩
theorem UY:Kn 330 1 abo:=⟨by kernel_rfl,rfl,by kernel_rfl⟩
theorem J0:Kn 328 0 abp:=⟨by kernel_rfl,rfl,by kernel_rfl⟩
theorem acB:Kn 327 1 UR:=⟨by kernel_rfl,rfl,by kernel_rfl⟩
theorem anp:Kn 326 1 abq:=⟨by kernel_rfl,rfl,by kernel_rfl⟩
theorem U4:Kn 297 2 abx:=⟨by kernel_rfl,rfl,by kernel_rfl⟩
theorem J1:Kn 293 3 aby:=⟨by kernel_rfl,rfl,by kernel_rfl⟩
theorem U6:Kn 298 1 abz:=⟨by kernel_rfl,rfl,by kernel_rfl⟩
theorem U9:Kn 294 2 abA:=⟨by kernel_rfl,rfl,by kernel_rfl⟩
theorem Va:Kn 295 2 abB:=⟨by kernel_rfl,rfl,by kernel_rfl⟩
theorem Vj:Kn 290 4 abC:=⟨by kernel_rfl,rfl,by kernel_rfl⟩
theorem J3:Kn 338 1 abD:=⟨by kernel_rfl,rfl,by kernel_rfl⟩
theorem acC:Kn 339 1 U0:=⟨by kernel_rfl,rfl,by kernel_rfl⟩
theorem anq:Kn 291 3 abE:=⟨by kernel_rfl,rfl,by kernel_rfl⟩
theorem anr:Kn 292 1 abF:=⟨by kernel_rfl,rfl,by kernel_rfl⟩
theorem ans:Kn 278 4 abI:=⟨by kernel_rfl,rfl,by kernel_rfl⟩
theorem Vg:Kn 280 2 abJ:=⟨by kernel_rfl,rfl,by kernel_rfl⟩
theorem ant:Kn 287 4 abK:=⟨by kernel_rfl,rfl,by kernel_rfl⟩
theorem Vi:Kn 289 2 abL:=⟨by kernel_rfl,rfl,by kernel_rfl⟩
theorem anu:Kn 301 4 abM:=⟨by kernel_rfl,rfl,by kernel_rfl⟩
theorem Vk:Kn 303 2 abN:=⟨by kernel_rfl,rfl,by kernel_rfl⟩
theorem J8:Kn 200 3 abO:=⟨by kernel_rfl,rfl,by kernel_rfl⟩
theorem VC:Kn 173 4 abP:=⟨by kernel_rfl,rfl,by kernel_rfl⟩
theorem VD:Kn 166 1 abQ:=⟨by kernel_rfl,rfl,by kernel_rfl⟩
theorem VE:Kn 168 1 abR:=⟨by kernel_rfl,rfl,by kernel_rfl⟩
theorem VF:Kn 171 3 abS:=⟨by kernel_rfl,rfl,by kernel_rfl⟩
theorem k46:Kn 46 1 c46:=⟨by kernel_rfl,rfl,by kernel_rfl⟩
theorem EA:Kn 115 4 abU:=⟨by kernel_rfl,rfl,by kernel_rfl⟩
theorem Kh:Kn 110 1 abV:=⟨by kernel_rfl,rfl,by kernel_rfl⟩
theorem Bi:Kn 111 1 abW:=⟨by kernel_rfl,rfl,by kernel_rfl⟩
theorem Ki:Kn 113 3 abX:=⟨by kernel_rfl,rfl,by kernel_rfl⟩
theorem Ri:Kn 19 3 c19:=⟨by kernel_rfl,rfl,by kernel_rfl⟩
theorem XL:Kn 50 1 c50:=⟨by kernel_rfl,rfl,by kernel_rfl⟩
theorem k52:Kn 52 1 c52:=⟨by kernel_rfl,rfl,by kernel_rfl⟩
theorem VL:Kn 170 1 ab2:=⟨by kernel_rfl,rfl,by kernel_rfl⟩
theorem Bj:Kn 112 1 Pd:=⟨by kernel_rfl,rfl,by kernel_rfl⟩
theorem MD:Kn 51 1 Kb:=⟨by kernel_rfl,rfl,by kernel_rfl⟩
theorem k20:Kn 20 1 c20:=⟨by kernel_rfl,rfl,by kernel_rfl⟩
theorem anv:Kn 129 1 aco:=⟨by kernel_rfl,rfl,by kernel_rfl⟩
theorem k61:Kn 61 1 c61:=⟨by kernel_rfl,rfl,by kernel_rfl⟩
theorem k24:Kn 24 1 c24:=⟨by kernel_rfl,rfl,by kernel_rfl⟩
theorem k4:Kn 4 1 c4:=⟨by kernel_rfl,rfl,by kernel_rfl⟩
theorem k26:Kn 26 1 c26:=⟨by kernel_rfl,rfl,by kernel_rfl⟩
theorem k5:Kn 5 1 c5:=⟨by kernel_rfl,rfl,by kernel_rfl⟩
theorem k21:Kn 21 1 c21:=⟨by kernel_rfl,rfl,by kernel_rfl⟩
theorem k3:Kn 3 3 c3:=⟨by kernel_rfl,rfl,by kernel_rfl⟩
end
end Go.Proofs.YtgkjlklfjbljeaaGreat.CQ
namespace Go.Proofs.YtgkjlklfjbljeaaGreat.CQ
open Go.Proofs.YtgkjlklfjbljeaaGreat.Eo
open Go.Proofs (Tryz.prog)
noncomputable def xl:List (Nat×eZ):=[(89,.swap),(93,.load),(174,.store),(206,.Uw),(300,.add)]
noncomputable def h0:H:=⟨eC,.e⟩
set_option maxRecDepth 100000
theorem Hk:Ky Tryz.prog (Kz Tryz.prog) (KA xl) (noS) 100000 (59+1) 22 h0=some true:=by
 decide+kernel
end Go.Proofs.YtgkjlklfjbljeaaGreat.CQ
namespace Go.Proofs.YtgkjlklfjbljeaaGreat.CQ
open Go.Proofs.YtgkjlklfjbljeaaGreat.Eo Go.Sort
open Go.Proofs (Tryz.prog)
theorem acD:FJ Tryz.prog:=fun b9 off cap zs w hH hb hl=>Tryz.slices_Sort_int b9 off cap zs w hH hb hl
end Go.Proofs.YtgkjlklfjbljeaaGreat.CQ
namespace Go.Proofs.YtgkjlklfjbljeaaGreat.CQ
open Go.Proofs.YtgkjlklfjbljeaaGreat.Eo
open Go.Proofs (Tryz.prog)
set_option maxRecDepth 100000
set_option maxHeartbeats 4000000
noncomputable section
def acE(P:Program)(t:TypeId):Bool:=match P.underlying t with
 |some (.slice _)=>true
 |_=>false
def acF(P:Program)(t:TypeId):Bool:=match P.underlying t with
 |some (.func _ _ _)=>true
 |_=>false
theorem acG{P:Program}{t:TypeId}(h:acE P t=true):∃e,P.underlying t=some (.slice e):=by
 unfold acE at h;split at h
 ·rename_i e he;exact⟨e,he⟩
 ·cases h
theorem anw{P:Program}{t:TypeId}(h:acF P t=true):∃a b c,P.underlying t=some (.func a b c):=by
 unfold acF at h;split at h
 ·rename_i a b c he;exact⟨a,b,c,he⟩
 ·cases h
theorem C6(x:Int):yK x x=true:=by rw[gJ];simp
theorem Bn(a b:Int):yK a b=decide (a=b):=by rw[gJ,Bool.eq_iff_iff];simp
theorem n296(k a b k' a' b':Int):bT Tryz.prog .eql 296 false false (.agg [.int .u8 k,.int .i64 a,.int .i64 b]) (.agg [.int .u8 k',.int .i64 a',.int .i64 b'])=some (.bool (decide ((k,a,b)=(k',a',b')))):=by
 have e:bT Tryz.prog .eql 296 false false (.agg [.int .u8 k,.int .i64 a,.int .i64 b]) (.agg [.int .u8 k',.int .i64 a',.int .i64 b'])=(match(bif yK k k' then bif yK a a' then bif yK b b' then some true else some false else some false else some false)with|some r=>some (.bool r)|none=>none):=by kernel_rfl
 rw[e,Bn,Bn,Bn]
 by_cases h1:k=k'
 ·by_cases h2:a=a'
  ·by_cases h3:b=b'
   ·simp[h1,h2,h3]
   ·simp[h1,h2,h3]
  ·simp[h1,h2]
 ·simp[h1]
theorem n66(n:Int):bT Tryz.prog .eql 66 false false (.agg [.int .i64 0,.bool false,.int .u64 0,.int .u64 0,.int .i64 n]) (.agg [.int .i64 0,.bool false,.int .u64 0,.int .u64 0,.int .i64 n])=some (.bool true):=by
 have e:bT Tryz.prog .eql 66 false false (.agg [.int .i64 0,.bool false,.int .u64 0,.int .u64 0,.int .i64 n]) (.agg [.int .i64 0,.bool false,.int .u64 0,.int .u64 0,.int .i64 n])=(match(bif yK n n then some true else some false)with|some r=>some (.bool r)|none=>none):=by kernel_rfl
 rw[e,C6];rfl
theorem n4(a b:Bool):bT Tryz.prog .neq 4 false false (.bool a) (.bool b)=some (.bool (a !=b)):=by cases a<;>cases b<;>kernel_rfl
instance pt:PT Tryz.prog where
 ptr:=by kernel_rfl
 X8:=by kernel_rfl
 RH:=acG (by kernel_rfl)
 opA:=fun g G=>by kernel_rfl
 opB:=fun g G=>by kernel_rfl
 opC:=fun g G=>by kernel_rfl
 afy:=acG (by kernel_rfl)
 RI:=anw (by kernel_rfl)
 enA:=fun g G=>by kernel_rfl
 enB:=fun g G=>by kernel_rfl
 enC:=fun g G=>by kernel_rfl
 rwA:=fun g G=>by kernel_rfl
 rwB:=fun g G=>by kernel_rfl
 rwC:=fun g G=>by kernel_rfl
 stA:=fun g G=>by kernel_rfl
 stB:=fun g G=>by kernel_rfl
 stC:=fun g G=>by kernel_rfl
 nxA:=fun g G=>by kernel_rfl
 nxB:=fun g G=>by kernel_rfl
 nxC:=fun g G=>by kernel_rfl
 X9:=fun g G=>by kernel_rfl
 rq:=fun g G=>by kernel_rfl
instance pf:PF Tryz.prog where
 QD:=n296
 ZE:=n66
 exA:=fun g G=>by kernel_rfl
 exB:=fun g G=>by kernel_rfl
 exC:=fun g G=>by kernel_rfl
 S4:=n4
instance pg:PG Tryz.prog where
 QV:=by kernel_rfl
 abY:=by kernel_rfl
def X(f:FuncId):Option eZ:=cond (Nat.beq f 89) (some .swap) (cond (Nat.beq f 93) (some .load) (cond (Nat.beq f 174) (some .store) (cond (Nat.beq f 206) (some .Uw) (cond (Nat.beq f 300) (some .add) none))))
theorem KB(f:FuncId)(tag:eZ)(g:FuncId)(t0:eZ)(r:Option eZ)(h:cond (Nat.beq f g) (some t0) r=some tag):(f=g/\tag=t0)\/r=some tag:=by
 cases e:Nat.beq f g with
 |true=>rw[e]at h;exact .inl ⟨Nat.eq_of_beq_eq_true e,(Option.some.inj h).symm⟩
 |false=>rw[e]at h;exact .inr h
theorem acH:KC Tryz.prog X:=by
 intro f tag ht;rcases KB _ _ _ _ _ ht with⟨rfl,rfl⟩|ht
 ·exact⟨by kernel_rfl,_,rfl,by kernel_rfl,by kernel_rfl,by kernel_rfl,by kernel_rfl⟩
 rcases KB _ _ _ _ _ ht with⟨rfl,rfl⟩|ht
 ·exact⟨by kernel_rfl,_,rfl,by kernel_rfl,by kernel_rfl,by kernel_rfl,by kernel_rfl⟩
 rcases KB _ _ _ _ _ ht with⟨rfl,rfl⟩|ht
 ·exact⟨by kernel_rfl,_,rfl,by kernel_rfl,by kernel_rfl,by kernel_rfl,by kernel_rfl⟩
 rcases KB _ _ _ _ _ ht with⟨rfl,rfl⟩|ht
 ·exact⟨by kernel_rfl,_,rfl,by kernel_rfl,by kernel_rfl,by kernel_rfl,by kernel_rfl⟩
 rcases KB _ _ _ _ _ ht with⟨rfl,rfl⟩|ht
 ·exact⟨by kernel_rfl,_,rfl,by kernel_rfl,by kernel_rfl,by kernel_rfl,by kernel_rfl⟩
 cases ht
def bX:ab:=fun f args h=>cond (Nat.beq f 156) (mo Tryz.prog OG f args h) (cond (Nat.beq f 22) (match args with| []=>some (.bool true,h)|_=>none) (tX X f args h))
theorem wL{f:FuncId}(h1:Nat.beq f 156=false)(h2:Nat.beq f 22=false)(args:List AV)(h:H):bX f args h=tX X f args h:=by unfold bX;rw[h1,h2];rfl
abbrev cX(n:Nat):ab:=iu Tryz.prog bX n
theorem exX{n:Nat}{f:FuncId}{args:List AV}{h:H}{v:AV}{h0:H}(e:∃v' h',cX n f args h=some (v',h')/\(v'=v/\h'=h0)):cX n f args h=some (v,h0):=by
 obtain⟨v',h',e,rfl,rfl⟩:=e;exact e
theorem cO{f k n:Nat}{c:CF}(q:Kn f k c){args:List AV}{h:H}{iB:AV->H->Prop}(hw:WF Tryz.prog (cX n) c args h iB)(hk:args.length=k:=by rfl)(h0:bX f args h=none:=by rfl):∃v h',cX (n+1) f args h=some (v,h')/\iB v h':=
 KD h0 q.has q.key (by rw[hk];exact q.cf) hw
theorem eO{f k n:Nat}{c:CF}(q:Kn f k c){args:List AV}{h h1:H}{v:AV}(hw:WF Tryz.prog (cX n) c args h fun v' h'=>v'=v/\h'=h1)(hk:args.length=k:=by rfl)(h0:bX f args h=none:=by rfl):cX (n+1) f args h=some (v,h1):=
 exX (cO q hw hk h0)
theorem mZ{f:FuncId}{tag:eZ}(e:X f=some tag)(args:List AV)(h:H):tX X f args h=F9 h tag args:=by unfold tX;rw[e]
theorem anx:Tryz.prog.follows .mixedOrders=true:=by kernel_rfl
theorem b89(n:Nat):F89 (cX n):=fun h W i x z cs m e hg hx hn=>fD (base:=bX) (by
 rw[wL rfl rfl,mZ (tag:=.swap) rfl];have hb:Nat.ble (i+1) m=true:=by simp;omega
 have hi:=(List.getElem?_eq_some_iff.1 hx).1;simp only[F9,pj,yv,hg,fA,hx,hb,aY,Bool.and_self,cond_true,fa,fJ,wM _ _ _ hi]) n
theorem b93(n:Nat):F93 (cX n):=fun h W i x hx=>fD (base:=bX) (by
 obtain⟨cs,m,e,hg,hi⟩:=hx;rw[wL rfl rfl,mZ (tag:=.load) rfl];simp only[F9,pj,hg,fA,hi]) n
theorem anz(n:Nat):Yf (cX n):=fun h W i x cs m e hg hi hn=>fD (base:=bX) (by
 rw[wL rfl rfl,mZ (tag:=.store) rfl];have hb:Nat.ble (i+1) m=true:=by simp;omega
 simp only[F9,yv,hg,hb,aY,Bool.and_self,cond_true,fa,fJ,wM _ _ _ hi]) n
theorem anA(n:Nat):NQ (cX n) 206:=fun h W i x z cs m e hg hx hn=>fD (base:=bX) (by
 rw[wL rfl rfl,mZ (tag:=.Uw) rfl];have hb:Nat.ble (i+1) m=true:=by simp;omega
 have hi:=(List.getElem?_eq_some_iff.1 hx).1;have hq:yK x x=true:=C6 x;simp only[F9,pj,yv,hg,fA,hx,hb,hq,aY,Bool.and_self,cond_true,fa,fJ,wM _ _ _ hi]) n
theorem anB(n:Nat):Jo (cX n) 300:=fun h W i x d z cs m e hg hx hn hz=>fD (base:=bX) (by
 rw[wL rfl rfl,mZ (tag:=.add) rfl];have hb:Nat.ble (i+1) m=true:=by simp;omega
 have hi:=(List.getElem?_eq_some_iff.1 hx).1;simp only[F9,pj,yv,hg,fA,hx,hb,aY,Bool.and_self,cond_true,fa,fJ,wM _ _ _ hi,hz]) n
theorem b22(n:Nat):F22 (cX n):=fun h=>fD (base:=bX) rfl n
theorem anC(n:Nat):Ub (cX n):=fun h M Ly O Po po li gv tk a1 a2 a3 a4 a5 a6 a7=>by
 obtain⟨v,h',e,r⟩:=JS anx acD (by kernel_rfl) Ou.has Ou.cf h M Ly O Po po li gv tk a1 a2 a3 a4 a5 a6 a7;exact⟨v,h',fD (base:=bX) (show bX 156 [.ptr Po 0] h=some (v,h')from e) n,r⟩
end
end Go.Proofs.YtgkjlklfjbljeaaGreat.CQ
namespace Go.Proofs.YtgkjlklfjbljeaaGreat.CQ
open Go.Proofs.YtgkjlklfjbljeaaGreat.Eo
open Go.Proofs (Tryz.prog)
set_option maxRecDepth 100000
set_option maxHeartbeats 800000
noncomputable section
variable(N:Nat)
theorem f129:VV (cX (N+1)):=by
 unfold VV
 intros
 refine cO anv ?_
 apply amx<;>try first|assumption
theorem f61:F61 (cX (N+2)):=by
 unfold F61
 intros
 refine cO k61 ?_
 apply w61<;>try first|assumption|exact f129 N
theorem f24:F24 (cX (N+3)):=by
 unfold F24
 intros
 refine cO k24 ?_
 apply w24<;>try first|assumption|exact f61 N
theorem i34:∀h n a b,(cX (N+1)) 34 [.int .i64 n,.int .i64 a,.int .i64 b] h=some (.bool (decide (a<=n/\n<=b)),h):=by
 intros
 refine eO NT ?_
 apply w34<;>try first|assumption
theorem i159:∀h v (l:List Int),cm none 1 h v (l.map fun x:Int=>AV.int .u64 x)->(cX (N+1)) 159 [v] h=some (.bool (fB 0 l),h):=by
 intros
 refine eO amW ?_
 apply afL<;>try first|assumption
theorem i96:∀h k n v (l:List Int),cm none 1 h v (l.map fun x:Int=>AV.int .u64 x)->(∀a,own v=some a->a<h.next)->∃v' h',(cX (N+2)) 96 [.agg [.int .u8 k,.int .i64 n,v]] h=some (v',h')/\dg (cJ k n l) h v' h':=by
 intros
 refine cO k96 ?_
 apply w96<;>try first|assumption|exact i159 N
theorem f118:R7 (cX (N+3)):=by
 unfold R7
 intros
 refine cO amX ?_
 apply afN<;>try first|assumption|exact i34 (N+1)|exact i96 N
theorem f92:F92 (cX (N+1)):=by
 unfold F92
 intros
 refine cO k92 ?_
 apply w92<;>try first|assumption
theorem acI:∀h k n v (l:List Int),cm none 1 h v (uL l)->(∀a,own v=some a->a<h.next)->∃v' h',(cX (N+2)) 96 [.agg [.int .u8 k,.int .i64 n,v]] h=some (v',h')/\dg (cJ k n l) h v' h':=by
 intros
 refine cO k96 ?_
 apply w96<;>try first|assumption|exact i159 N
theorem i97:∀h k n v (l:List Int),cm none 1 h v (uL l)->∃v' h',(cX (N+1)) 97 [.agg [.int .u8 k,.int .i64 n,v]] h=some (v',h')/\v'=.int .i64 (db k n l)/\ae h h':=by
 intros
 refine cO k97 ?_
 apply w97<;>try first|assumption
theorem f47:F47 (cX (N+3)):=by
 unfold F47
 intros
 refine cO k47 ?_
 apply w47<;>try first|assumption|exact acI N|exact i97 (N+1)
theorem f120:R8 (cX (N+1)):=by
 unfold R8
 intros
 refine cO amZ ?_
 apply afR<;>try first|assumption
theorem f119:R4 (cX (N+1)):=by
 unfold R4
 intros
 refine cO am0 ?_
 apply Yo<;>try first|assumption
theorem f55:F55 (cX (N+4)):=by
 unfold F55
 intros
 refine cO k55 ?_
 apply w55<;>try first|assumption|exact f118 N|exact f92 (N+2)|exact f47 N|exact f120 (N+2)|exact f119 (N+2)
theorem f123:Nv (cX (N+1)):=by
 unfold Nv
 intros
 refine eO acz ?_
 apply afU<;>try first|assumption
theorem f57:F57 (cX (N+2)):=by
 unfold F57
 intros
 refine cO k57 ?_
 apply w57<;>try first|assumption|exact f123 N
theorem i122:∀h W i (x:Int) cs n e,h.t.get W=some (.row (aa 0 cs T.e) n e)->i<cs.length->i<n->(cX (N+1)) 122 [.ptr W i,.int .u64 x] h=some (.aE [],⟨h.next,h.t.set W (.row (aa 0 (cs.set i (.int .u64 x)) T.e) n e)⟩):=by
 intros
 refine eO amV ?_
 apply afD<;>try first|assumption|exact anz N
theorem i121:∀h (n:Int),(cX (N+1)) 121 [.int .i64 n] h=some (.int .i64 (if n=0 then 2 else if 65536<n then 5 else 0),h):=by
 intros
 refine eO amU ?_
 apply afB<;>try first|assumption
theorem f56:F56 (cX (N+2)):=by
 unfold F56
 intros
 refine cO k56 ?_
 apply w56<;>try first|assumption|exact i122 N|exact i121 N
theorem f18:IV (cX (N+1)):=by
 unfold IV
 intros
 refine cO Ha ?_
 apply agH<;>try first|assumption
theorem i35:∀h M W ws (t a:Int),dK h M W ws->(cX (N+1)) 35 [.ptr M 0,.int .i64 t,.int .i64 a] h=some (.int .i64 (if t<0\/64<=t then 2 else if a<0\/(ws.length:Int)<=a then 3 else 0),h):=by
 intros
 refine eO k35 ?_
 apply w35<;>try first|assumption
theorem i42:∀h W i (x:Int),(∃cs n e,h.t.get W=some (.row (aa 0 cs T.e) n e)/\cs[i]?=some (.int .u64 x))->(cX (N+1)) 42 [.ptr W i] h=some (.int .u64 x,h):=by
 intros
 refine eO NR ?_
 apply w42<;>try first|assumption|exact b93 N
theorem wN:iK (cX (N+2)):=by
 unfold iK
 intros
 refine eO k90 ?_
 apply w90<;>try first|assumption|exact i35 N|exact i42 N
theorem f124:IW (cX (N+1)):=by
 unfold IW
 intros
 refine eO Pe ?_
 apply afS<;>try first|assumption
theorem f58:F58 (cX (N+3)):=by
 unfold F58
 intros
 refine cO k58 ?_
 apply w58<;>try first|assumption|exact f18 (N+1)|exact wN N|exact f124 (N+1)
theorem f17:F17 (cX (N+2)):=by
 unfold F17
 intros
 refine cO V7 ?_
 apply w17<;>try first|assumption|exact i42 N
theorem f59:F59 (cX (N+3)):=by
 unfold F59
 intros
 refine cO k59 ?_
 apply w59<;>try first|assumption|exact f18 (N+1)|exact f17 N
theorem KE:FW (cX (N+1)) 175 64 1:=by
 unfold FW;simp only[Int.one_mul]
 intros
 refine eO am1 ?_
 apply agy<;>try first|assumption
theorem KF:FW (cX (N+1)) 176 64 2:=by
 unfold FW
 intros
 refine eO am2 ?_
 apply agz<;>try first|assumption
theorem KG:FW (cX (N+1)) 177 16 4:=by
 unfold FW
 intros
 refine eO am3 ?_
 apply agA<;>try first|assumption
theorem i125:∀h c,mQ c->(cX (N+2)) 125 [.int .u8 c.az,.int .i64 c.aq,.int .i64 c.buckets] h=some (.aE [.int .i64 (bD c),.int .i64 0],h):=by
 intros
 refine eO am4 ?_
 apply agB<;>try first|assumption|exact KE N|exact KF N|exact KG N
theorem i126:∀h M W ws n base,dK h M W ws->1<=n->n<=64->0<=base->base+((n:Nat):Int)<=((ws:List Int).length:Int)->base<=60000->∃v h',(cX (N+3)) 126 [.ptr M 0,.int .i64 base,.int .i64 (n:Int)] h=some (v,h')/\IP M n base h v h':=by
 intros
 refine cO am5 ?_
 apply agC<;>try first|assumption|exact KE (N+1)|exact wN N
theorem i127:∀h M W ws n base,dK h M W ws->M<h.next->W<h.next->1<=n->n<=64->0<=base->base+2*((n:Nat):Int)<=((ws:List Int).length:Int)->base<=60000->∃v h',(cX (N+3)) 127 [.ptr M 0,.int .i64 base,.int .i64 (n:Int)] h=some (v,h')/\IQ M n base h v h':=by
 intros
 refine cO am6 ?_
 apply agD<;>try first|assumption|exact KF (N+1)|exact wN N
theorem i128:∀h M W ws n base,dK h M W ws->1<=n->n<=16->0<=base->base+4*n<=((ws:List Int).length:Int)->base<=60000->∃v h',(cX (N+3)) 128 [.ptr M 0,.int .i64 base,.int .i64 n] h=some (v,h')/\IU M base n h v h':=by
 intros
 refine cO am7 ?_
 apply agF<;>try first|assumption|exact KG (N+1)|exact wN N
theorem f60:F60 (cX (N+4)):=by
 unfold F60
 intros
 refine cO k60 ?_
 apply w60<;>try first|assumption|exact i125 (N+1)|exact i126 N|exact i127 N|exact i128 N
theorem f23:F23 (cX (N+5)):=by
 unfold F23
 intros
 refine cO k23 ?_
 apply w23<;>try first|assumption|exact f55 N|exact f57 (N+2)|exact f56 (N+2)|exact f58 (N+1)|exact f59 (N+1)|exact f18 (N+3)|exact f60 N
theorem i116:∀h k n v (l:List Int),cm none 1 h v (l.map fun x:Int=>AV.int .u64 x)->(∀a,own v=some a->a<h.next)->(∀x∈l,kB x)->∃v' h',(cX (N+1)) 116 [.agg [.int .u8 k,.int .i64 n,v]] h=some (v',h')/\dg (cJ k n l) h v' h':=by
 intros
 refine cO acy ?_
 apply Yj<;>try first|assumption
theorem f130:SE (cX (N+2)):=by
 unfold SE
 intros
 refine cO amY ?_
 apply afQ<;>try first|assumption|exact i116 N
theorem f116:ND (cX (N+1)):=by
 unfold ND
 intros
 refine cO acy ?_
 apply Yj<;>try first|assumption
theorem f53:F53 (cX (N+2)):=by
 unfold F53
 intros
 refine cO k53 ?_
 apply w53<;>try first|assumption|exact f116 N
theorem f131:SC (cX (N+1)):=by
 intro g0 L c cv p hs wl sP h kd fi pe n nn en ov hn hpe r;subst en;exact cO am8 (ag7 Tryz.prog ov hn hpe r)
theorem f62:F62 (cX (N+3)):=by
 unfold F62
 intros
 refine cO k62 ?_
 apply w62<;>try first|assumption|exact f130 N|exact f53 N|exact f131 (N+1)
theorem f64:F64 (cX (N+1)):=by
 unfold F64
 intros
 refine cO k64 ?_
 apply w64<;>try first|assumption
theorem f63:F63 (cX (N+1)):=by
 unfold F63
 intros
 refine cO k63 ?_
 apply w63<;>try first|assumption
theorem f65:F65 (cX (N+1)):=by
 unfold F65
 intros
 refine cO k65 ?_
 apply w65<;>try first|assumption
theorem f66:F66 (cX (N+1)):=by
 unfold F66
 intros
 refine cO k66 ?_
 apply w66<;>try first|assumption
theorem KH:FW (cX (N+1)) 180 64 1:=by
 unfold FW
 intros
 refine eO ane ?_
 apply aid<;>try first|assumption
theorem KI:FW (cX (N+1)) 181 64 2:=by
 unfold FW
 intros
 refine eO anf ?_
 apply aie<;>try first|assumption
theorem KJ:FW (cX (N+1)) 179 16 4:=by
 unfold FW
 intros
 refine eO ang ?_
 apply aif<;>try first|assumption
theorem i132:∀h c,mQ c->(cX (N+2)) 132 [.int .u8 c.az,.int .i64 c.aq,.int .i64 c.buckets] h=some (.aE [.int .i64 (bD c),.int .i64 0],h):=by
 intros
 refine eO am9 ?_
 apply aih<;>try first|assumption|exact KH N|exact KI N|exact KJ N
theorem f182:Jd (cX (N+1)):=by
 unfold Jd
 intros
 refine eO anh ?_
 apply aii<;>try first|assumption
theorem i133:∀h M W ws lg n base,fN h M W ws lg->1<=n->n<=64->0<=base->base+((n:Nat):Int)<=((ws:List Int).length:Int)->ws.length<=60000->∃v h',(cX (N+2)) 133 [.ptr M 0,.int .i64 base,.int .i64 (n:Int)] h=some (v,h')/\GZ M n 324 base h v h':=by
 intros
 refine cO ana ?_
 apply aij<;>try first|assumption|exact KH N|exact f182 N
theorem i134:∀h M W ws lg n base,fN h M W ws lg->1<=n->n<=64->0<=base->base+2*((n:Nat):Int)<=((ws:List Int).length:Int)->ws.length<=60000->∃v h',(cX (N+2)) 134 [.ptr M 0,.int .i64 base,.int .i64 (n:Int)] h=some (v,h')/\GZ M n 325 base h v h':=by
 intros
 refine cO anb ?_
 apply aik<;>try first|assumption|exact KI N|exact f182 N
theorem i135:∀h M W ws lg n base,fN h M W ws lg->1<=n->n<=16->0<=base->base+4*n<=((ws:List Int).length:Int)->ws.length<=60000->∃v h',(cX (N+2)) 135 [.ptr M 0,.int .i64 base,.int .i64 n] h=some (v,h')/\Jf M base n h v h':=by
 intros
 refine cO anc ?_
 apply ail<;>try first|assumption|exact KJ N|exact f182 N
theorem f67:F67 (cX (N+3)):=by
 unfold F67
 intros
 refine cO k67 ?_
 apply w67<;>try first|assumption|exact i132 N|exact i133 N|exact i134 N|exact i135 N
theorem f25:F25 (cX (N+4)):=by
 unfold F25
 intros
 refine cO k25 ?_
 apply w25<;>try first|assumption|exact f62 N|exact f64 (N+2)|exact f63 (N+2)|exact f65 (N+2)|exact f66 (N+2)|exact f67 N
theorem f4:F4 (cX (N+6)):=by
 unfold F4
 intros
 refine cO k4 ?_
 apply w4<;>try first|assumption|exact f24 (N+2)|exact f23 N|exact f25 (N+1)
theorem f11:NN (cX (N+1)):=by
 unfold NN
 intros
 refine eO Ea ?_
 apply w11<;>try first|assumption
theorem f26:F26 (cX (N+2)):=by
 unfold F26
 intros
 refine cO k26 ?_
 apply w26<;>try first|assumption|exact f11 N
theorem f5:F5 (cX (N+3)):=by
 unfold F5
 intros
 refine cO k5 ?_
 apply w5<;>try first|assumption|exact f11 (N+1)|exact f26 N
theorem f137:S8 (cX (N+2)):=by
 unfold S8
 intros
 refine cO S9 ?_
 apply ai6<;>try first|assumption|exact f116 N
theorem f69:F69 (cX (N+3)):=by
 unfold F69
 intros
 refine cO Ih ?_
 apply w69<;>try first|assumption|exact f137 N
theorem f153:G1 (cX (N+1)):=by
 unfold G1
 intros
 refine cO yj ?_
 apply ai1<;>try first|assumption
theorem f84:Xw (cX (N+2)):=by
 unfold Xw
 intros
 refine cO Mn ?_
 apply ai4<;>try first|assumption|exact f153 N
theorem f136:NZ (cX (N+3)):=by
 unfold NZ
 intros
 refine cO Jz ?_
 apply ai7<;>try first|assumption|exact f84 N
theorem f68:F68 (cX (N+4)):=by
 unfold F68
 intros
 refine cO ZK ?_
 apply w68<;>try first|assumption|exact f84 (N+1)|exact f136 N
theorem f138:NY (cX (N+2)):=by
 unfold NY
 intros
 refine cO Jy ?_
 apply ZF<;>try first|assumption|exact f153 N
theorem f70:Xx (cX (N+3)):=by
 unfold Xx
 intros
 refine cO N9 ?_
 apply w70<;>try first|assumption|exact f138 N
theorem f27:F27 (cX (N+5)):=by
 unfold F27
 intros
 refine cO k27 ?_
 apply w27<;>try first|assumption|exact f69 (N+1)|exact f68 N|exact f70 (N+1)
theorem anD:FB (cX (N+1)) 71 2:=by
 intro h B cs v g hl hi
 match cs,hl with
 |a::b::c::d::r,_=>
  obtain rfl:c=v:=by simpa using hi
  exact eO k71 (w71 Tryz.prog g)
theorem f72:F72 (cX (N+1)):=by
 unfold F72
 intros
 refine cO k72 ?_
 apply w72<;>try first|assumption
theorem f142:Ji (cX (N+1)):=by
 unfold Ji
 intros
 refine eO JE ?_
 apply aiB<;>try first|assumption
theorem f73:F73 (cX (N+2)):=by
 unfold F73
 intros
 refine cO k73 ?_
 apply w73<;>try first|assumption|exact f142 N
theorem f74:F74 (cX (N+1)):=by
 unfold F74
 intros
 refine eO T6 ?_
 apply w74<;>try first|assumption
theorem f144:JC (cX (N+1)):=by
 unfold JC
 intros
 refine eO CP ?_
 apply ajn<;>try first|assumption
theorem f157:Jj (cX (N+2)):=by
 unfold Jj
 intros
 refine eO Js ?_
 apply aiC<;>try first|assumption|exact f142 N
theorem f158:Jl (cX (N+1)):=by
 unfold Jl
 intros
 refine cO Jt ?_
 apply aiD<;>try first|assumption
theorem f145:NS (cX (N+3)):=by
 unfold NS;intro h L n M W lv ws m t i x s hc hm t0 t1 hx;obtain⟨v,h',e,rfl,dU,nx,s'⟩:=cO (n:=N+2) JD (aiW Tryz.prog (f157 N) (f158 (N+1)) s hc hm t0 t1 hx);exact⟨h',dU,e,nx,s'⟩
theorem anE:Of (cX (N+4)):=by
 unfold Of
 intros
 refine cO Oj ?_
 apply ajq<;>try first|assumption|exact f144 (N+2)|exact f145 N
theorem anF:Og (cX (N+4)):=by
 unfold Og
 intros
 refine cO Oj ?_
 apply ajr<;>try first|assumption|exact f144 (N+2)|exact f145 N
theorem f147:Tz (cX (N+1)):=by
 unfold Tz
 intros
 refine eO TC ?_
 apply ajo<;>try first|assumption
theorem f146:TA (cX (N+1)):=by
 unfold TA
 intros
 refine eO TD ?_
 apply ajp<;>try first|assumption
theorem f148:S1 (cX (N+3)):=by
 unfold S1;intro h L n M W lv ws m t i x z s hc hm t0 t1 hx;obtain⟨v,h',e,rfl,dU,nx,s'⟩:=cO (n:=N+2) TE (aiX (z:=z) Tryz.prog (f157 N) (f158 (N+1)) s hc hm t0 t1 hx);exact⟨h',dU,e,nx,s'⟩
theorem anG:Oh (cX (N+4)):=by
 unfold Oh
 intros
 refine cO Oj ?_
 apply ajs<;>try first|assumption|exact f144 (N+2)|exact f147 (N+2)|exact f146 (N+2)|exact f148 N
theorem f77:F77 (cX (N+1)):=by
 unfold F77
 intros
 refine eO k77 ?_
 apply w77<;>try first|assumption
theorem f78:F78 (cX (N+1)):=by
 unfold F78
 intros
 refine eO k78 ?_
 apply w78<;>try first|assumption
theorem f35:Xo (cX (N+1)):=by
 unfold Xo
 intros
 refine eO k35 ?_
 apply w35<;>try first|assumption
theorem f42:Zx (cX (N+1)):=by
 unfold Zx
 intros
 refine eO NR ?_
 apply w42<;>try first|assumption|exact b93 N
theorem f37:Xp (cX (N+1)):=by
 unfold Xp
 intros
 refine cO k37 ?_
 apply w37<;>try first|assumption
theorem f169:sW (cX (N+2)):=by
 unfold sW
 intros
 refine cO lu ?_
 apply aiM<;>try first|assumption|exact f35 N|exact f42 N|exact f37 N
theorem f183:Te (cX (N+3)):=by
 unfold Te
 intros
 refine cO Tm ?_
 apply aje<;>try first|assumption|exact f169 N
theorem f184:Ti (cX (N+1)):=by
 unfold Ti
 intros
 refine eO Tn ?_
 apply ajc<;>try first|assumption
theorem f139:Oc (cX (N+4)):=by
 unfold Oc
 intros
 refine cO k139 ?_
 apply aji<;>try first|assumption|exact f183 N|exact f184 (N+2)
theorem f185:Tf (cX (N+1)):=by
 unfold Tf
 intros
 refine eO Tp ?_
 apply ajf<;>try first|assumption
theorem f140:Od (cX (N+3)):=by
 unfold Od
 intros
 refine cO k140 ?_
 apply ajj<;>try first|assumption|exact f185 (N+1)|exact f169 N
theorem f201:Th (cX (N+1)):=by
 unfold Th
 intros
 refine eO Tj ?_
 apply ajd<;>try first|assumption
theorem anH:Tg (cX (N+1)):=by
 unfold Tg
 intros
 refine eO acz ?_
 apply Z1<;>try first|assumption
theorem f197:SZ (cX (N+1)):=by
 unfold SZ NQ
 intros
 refine eO S0 ?_
 apply aiS<;>try first|assumption|exact anA N
theorem f160:Jr (cX (N+2)):=by
 unfold Jr;intro h L n M W lv ws m t i x z s hc hm t0 t1 hx;obtain⟨v,h',e,rfl,dU,nx,s'⟩:=cO (n:=N+1) Ep (aiU (z:=z) Tryz.prog (f35 N) (i42 N) (f197 N) (f37 N) s hc hm t0 t1 hx);exact⟨h',dU,e,nx,s'⟩
theorem f186:Tl (cX (N+3)):=by
 unfold Tl
 intros
 refine cO Tq ?_
 apply ajg<;>try first|assumption|exact f201 (N+1)|exact anH (N+1)|exact f160 N
theorem f141:Oe (cX (N+4)):=by
 unfold Oe
 intros
 refine cO k141 ?_
 apply ajk<;>try first|assumption|exact f186 N
theorem f187:Tt (cX (N+1)):=by
 unfold Tt
 intros
 refine eO Tu ?_
 apply ajl<;>try first|assumption
theorem f143:Tv (cX (N+2)):=by
 unfold Tv
 intros
 refine eO Tx ?_
 apply ajm<;>try first|assumption|exact f187 N
theorem f75:XD (cX (N+2)) (cX (N+3)):=by
 unfold XD;intro h L k lv ws m tw w pc bl e f L' cz m' Ij w' D9 Mq e' p Ty kf;exact cO k75 (w75 Tryz.prog (f143 N) p Ty kf)
theorem f28:F28 (cX (N+6)):=by
 unfold F28
 intros
 refine cO k28 ?_
 apply w28 (P:=Tryz.prog) (cl:=cX (N+4)) (k75:=f75 (N+2)) (k139:=f139 N) (k140:=f140 (N+1)) (k141:=f141 N)<;>try first|assumption|exact anD (N+4)|exact f72 (N+4)|exact f73 (N+3)|exact f74 (N+4)|exact anE (N+1)|exact anF (N+1)|exact anG (N+1)|exact f77 (N+4)|exact f78 (N+4)
theorem acJ:FB (cX (N+1)) 14 3:=by
 intro h B cs v g hl hi
 match cs,hl with
 |a::b::c::d::r,_=>
  obtain rfl:d=v:=by simpa using hi
  exact eO T3 (w14 Tryz.prog g)
theorem f34:ZC (cX (N+1)):=by
 unfold ZC
 intros
 refine eO NT ?_
 apply w34<;>try first|assumption
theorem f33:Xu (cX (N+2)):=by
 unfold Xu
 intros
 refine eO NU ?_
 apply w33<;>try first|assumption|exact f34 N
theorem V8:FC (cX (N+1)) 202 [.int .u8 1] (.int .i64 1):=by
 unfold FC
 intros
 refine eO TF ?_
 apply ajt<;>try first|assumption
theorem V9:FC (cX (N+2)) 188 [.int .u8 1,.int .i64 0,.int .u64 0] (.bool true):=by
 unfold FC
 intros
 refine eO TG ?_
 apply aju<;>try first|assumption|exact V8 N
theorem Wc:FC (cX (N+1)) 189 [.int .u64 1] (.int .u8 1):=by
 unfold FC
 intros
 refine eO TH ?_
 apply ajv<;>try first|assumption
theorem Wd:FC (cX (N+1)) 190 [.int .u64 1] (.int .i64 0):=by
 unfold FC
 intros
 refine eO TI ?_
 apply ajw<;>try first|assumption
theorem We:FC (cX (N+1)) 191 [.int .u64 1] (.int .u64 0):=by
 unfold FC
 intros
 refine eO TJ ?_
 apply ajx<;>try first|assumption
theorem Wf:FC (cX (N+3)) 149 [.int .u64 1] (.int .i64 0):=by
 unfold FC
 intros
 refine eO TS ?_
 apply ajy<;>try first|assumption|exact V9 N|exact Wc (N+1)|exact Wd (N+1)|exact We (N+1)
theorem f79:F79 (cX (N+4)):=by
 unfold F79
 intros
 refine cO k79 ?_
 apply w79<;>try first|assumption|exact f33 (N+1)|exact Wf N
theorem Wg:FC (cX (N+1)) 203 [.int .u8 1] (.bool true):=by
 unfold FC
 intros
 refine eO TK ?_
 apply ajz<;>try first|assumption
theorem Wh:FC (cX (N+2)) 192 [.int .u8 1,.int .i64 0,.int .u64 0] (.bool true):=by
 unfold FC
 intros
 refine eO TL ?_
 apply ajA<;>try first|assumption|exact Wg N
theorem Wi:FC (cX (N+1)) 193 [.int .u64 1] (.int .u8 1):=by
 unfold FC
 intros
 refine eO TM ?_
 apply ajB<;>try first|assumption
theorem Wj:FC (cX (N+1)) 194 [.int .u64 1] (.int .i64 0):=by
 unfold FC
 intros
 refine eO TN ?_
 apply ajC<;>try first|assumption
theorem Wk:FC (cX (N+1)) 195 [.int .u64 1] (.int .u64 0):=by
 unfold FC
 intros
 refine eO TP ?_
 apply ajD<;>try first|assumption
theorem Wl:FC (cX (N+3)) 151 [.int .u64 1] (.int .i64 0):=by
 unfold FC
 intros
 refine eO TY ?_
 apply ajE<;>try first|assumption|exact Wh N|exact Wi (N+1)|exact Wj (N+1)|exact Wk (N+1)
theorem f80:F80 (cX (N+4)):=by
 unfold F80
 intros
 refine cO k80 ?_
 apply w80<;>try first|assumption|exact f142 (N+2)|exact f138 (N+1)|exact Wl N
theorem f10:S2 (cX (N+3)):=by
 unfold S2
 intros
 refine eO JF ?_
 apply w10<;>try first|assumption|exact f33 N|exact f34 (N+1)
theorem f150:TT (cX (N+4)):=by
 unfold TT
 intros
 refine eO TU ?_
 apply ajF<;>try first|assumption|exact f10 N
theorem f36:F36 (cX (N+1)):=by
 unfold F36
 intros
 refine eO k36 ?_
 apply w36<;>try first|assumption|exact b89 N
theorem f13:D6 (cX (N+2)):=by
 unfold D6
 intros
 refine cO uH ?_
 apply w13<;>try first|assumption|exact f35 N|exact f36 N|exact f37 N
theorem f81:F81 (cX (N+5)):=by
 unfold F81
 intros
 refine cO T1 ?_
 apply w81<;>try first|assumption|exact f150 N|exact f13 (N+2)
theorem f152:TZ (cX (N+1)):=by
 unfold TZ
 intros
 refine eO T0 ?_
 apply ajI<;>try first|assumption
theorem f87:Xq (cX (N+3)):=by
 unfold Xq
 intros
 refine cO k87 ?_
 apply w87<;>try first|assumption|exact f157 N|exact f158 (N+1)
theorem f82:F82 (cX (N+4)):=by
 unfold F82
 intros
 refine cO T2 ?_
 apply w82<;>try first|assumption|exact f152 (N+2)|exact f87 N
theorem f29:F29 (cX (N+6)):=by
 unfold F29
 intros
 refine cO k29 ?_
 apply w29<;>try first|assumption|exact acJ (N+4)|exact f79 (N+1)|exact f80 (N+1)|exact f81 N|exact f82 (N+1)
theorem f83:F83 (cX (N+5)):=by
 unfold F83
 intros
 refine cO k83 ?_
 apply w83<;>try first|assumption|exact f68 N|exact f70 (N+1)
theorem wO:FB (cX (N+1)) 12 1:=by
 intro h B cs v g hl hi
 match cs,hl with
 |a::b::c::d::r,_=>
  obtain rfl:b=v:=by simpa using hi
  exact eO mW (ajK Tryz.prog g)
theorem acK:G8 (cX (N+4)):=by
 unfold G8
 intros
 refine cO Mx ?_
 apply ajL<;>try first|assumption|exact wO (N+2)|exact f13 (N+1)|exact f87 N
theorem f154:Ot (cX (N+1)):=by
 unfold Ot
 intros
 refine eO JJ ?_
 apply aj8<;>try first|assumption
theorem f155:Uc (cX (N+2)):=by
 unfold Uc
 intros
 refine cO Ud ?_
 apply aj9<;>try first|assumption|exact f154 N
theorem f95:F95 (cX (N+1)):=by
 unfold F95
 intros
 refine cO k95 ?_
 apply w95<;>try first|assumption
theorem f44:F44 (cX (N+2)):=by
 unfold F44
 intros
 refine eO k44 ?_
 apply w44<;>try first|assumption|exact f95 N
theorem f85:F85 (cX (N+3)):=by
 unfold F85
 intros
 refine cO k85 ?_
 apply w85<;>try first|assumption|exact f154 (N+1)|exact f155 N|exact anC (N+2)|exact f44 N
theorem f88:F88 (cX (N+1)):=by
 unfold F88
 intros
 refine eO T9 ?_
 apply w88<;>try first|assumption
theorem f86:F86 (cX (N+2)):=by
 unfold F86
 intros
 refine cO k86 ?_
 apply w86<;>try first|assumption|exact f88 N
theorem f30:F30 (cX (N+6)):=by
 unfold F30
 intros
 refine cO k30 ?_
 apply w30<;>try first|assumption|exact f69 (N+2)|exact f83 N|exact f84 (N+3)|exact acK (N+1)|exact f85 (N+2)|exact f86 (N+3)
theorem f6:F6 (cX (N+7)):=by
 unfold F6
 intros
 refine cO k6 ?_
 apply w6<;>try first|assumption|exact f27 (N+1)|exact f11 (N+5)|exact f28 N|exact f29 N|exact f30 N
theorem f7:F7 (cX (N+5)):=by
 unfold F7
 intros
 refine cO k7 ?_
 apply w7<;>try first|assumption|exact acK N
theorem f32:F32 (cX (N+2)):=by
 unfold F32
 intros
 refine cO k32 ?_
 apply w32<;>try first|assumption|exact f88 N
theorem f8:F8 (cX (N+3)):=by
 unfold F8
 intros
 refine cO k8 ?_
 apply w8<;>try first|assumption|exact f32 N
theorem Rj:FB (cX (N+1)) 9 0:=by
 intro h B cs v g hl hi
 match cs,hl with
 |a::b::c::d::r,_=>
  obtain rfl:a=v:=by simpa using hi
  exact eO k9 (w9 Tryz.prog g)
theorem f39:F39 (cX (N+3)):=by
 unfold F39
 intros
 refine eO Um ?_
 apply w39<;>try first|assumption|exact wN N
theorem f38:F38 (cX (N+4)):=by
 unfold F38
 intros
 refine eO Up ?_
 apply w38<;>try first|assumption|exact f10 N|exact f39 N
theorem f91:F91 (cX (N+1)):=by
 unfold F91
 intros
 refine eO k91 ?_
 apply w91<;>try first|assumption
theorem f40:Xv (cX (N+3)):=by
 unfold Xv
 intros
 refine eO OA ?_
 apply w40<;>try first|assumption|exact f33 N|exact f34 (N+1)|exact f91 (N+1)
theorem f15:F15 (cX (N+5)):=by
 unfold F15
 intros
 refine cO k15 ?_
 apply w15<;>try first|assumption|exact f33 (N+2)|exact f38 N|exact f39 (N+1)|exact f40 (N+1)
theorem i92:∀h v (l:List Int),cm none 1 h v (uL l)->(∀a,own v=some a->a<h.next)->l.length<=1000->∃v' h',(cX (N+1)) 92 [v] h=some (v',h')/\oQ l h v' h':=by
 intros
 refine cO k92 ?_
 apply w92<;>try first|assumption
theorem f41:F41 (cX (N+2)):=by
 unfold F41
 intros
 refine cO k41 ?_
 apply w41<;>try first|assumption|exact i92 N
theorem f16:QP (cX (N+3)):=by
 unfold QP
 intros
 refine cO Eb ?_
 apply w16<;>try first|assumption|exact f41 N
theorem anI:Pl (cX (N+2)):=by
 unfold Pl
 intros
 refine cO V7 ?_
 apply amH<;>try first|assumption|exact f42 N
theorem f94:F94 (cX (N+2)):=by
 unfold F94
 intros
 refine cO k94 ?_
 apply w94<;>try first|assumption|exact Rj N|exact f18 N
theorem f43:F43 (cX (N+4)):=by
 unfold F43
 intros
 refine cO k43 ?_
 apply w43<;>try first|assumption|exact f16 N|exact wO (N+2)|exact f94 (N+1)|exact wN (N+1)
theorem acL:FB (cX (N+1)) 45 4:=by
 intro h B cs v g hl hi
 match cs,hl with
 | [a,b,c,d],_=>simp at hi
 |a::b::c::d::e::r,_=>
  obtain rfl:e=v:=by simpa using hi
  exact eO k45 (w45 Tryz.prog g)
theorem f275:He (cX (N+1)):=by
 unfold He
 intros
 refine eO Bd ?_
 apply ak0<;>try first|assumption
theorem f272:Vu (cX (N+2)):=by
 unfold Vu
 intros
 refine eO anl ?_
 apply ak8<;>try first|assumption|exact f275 N
theorem f283:Vv (cX (N+1)):=by
 unfold Vv
 intros
 refine cO ano ?_
 apply alj<;>try first|assumption
theorem f292:Vw (cX (N+1)):=by
 unfold Vw
 intros
 refine eO anr ?_
 apply alv<;>try first|assumption
theorem fOp:FOp (cX (N+2)):=by
 exact Vx (f272 N) (f283 (N+1)) (f292 (N+1))
theorem f46:F46 (cX (N+3)):=by
 unfold F46
 intros
 refine cO k46 ?_
 apply w46<;>try first|assumption|exact fOp N
theorem f98:F98 (cX (N+1)):=by
 unfold F98
 intros
 refine cO k98 ?_
 apply w98<;>try first|assumption
theorem f48:F48 (cX (N+2)):=by
 unfold F48
 intros
 refine cO k48 ?_
 apply w48<;>try first|assumption|exact f98 N
theorem f49:F49 (cX (N+1)):=by
 unfold F49
 intros
 refine eO k49 ?_
 apply w49<;>try first|assumption
theorem anJ:Pc (cX (N+5)):=by
 unfold Pc
 intros
 refine cO Ri ?_
 apply alW<;>try first|assumption|exact f16 (N+1)|exact f43 N|exact acL (N+3)|exact f46 (N+1)|exact f44 (N+2)|exact f47 (N+1)|exact f48 (N+2)|exact f49 (N+3)
theorem f100:Uy (cX (N+3)):=by
 unfold Uy
 intros
 refine cO Jn ?_
 apply akJ<;>try first|assumption|exact wO (N+1)|exact Rj (N+1)|exact f18 (N+1)|exact f160 N
theorem f172:JT (cX (N+2)):=by
 unfold JT
 intros
 refine cO CX ?_
 apply akG<;>try first|assumption|exact Rj N|exact f18 N
theorem f162:Ux (cX (N+3)):=by
 unfold Ux
 intros
 refine cO UA ?_
 apply akH<;>try first|assumption|exact wO (N+1)|exact f172 N|exact f169 N|rfl
theorem f163:Uz (cX (N+4)):=by
 unfold Uz
 intros
 refine cO OH ?_
 apply akK<;>try first|assumption|exact f16 N
theorem f101:UB (cX (N+5)):=by
 unfold UB
 intros
 refine cO UE ?_
 apply akM<;>try first|assumption|exact f162 (N+1)|exact f163 N
theorem f165:JU (cX (N+3)):=by
 unfold JU
 intros
 refine cO Ew ?_
 apply akI<;>try first|assumption|exact wO (N+1)|exact f172 N|exact f13 N
theorem KL:Ba (cX (N+4)) 104 1 0 41:=by
 unfold Ba
 intros
 refine cO UF ?_
 apply akO<;>try first|assumption|exact f165 N
theorem KM:Ba (cX (N+4)) 105 2 18446744073709551615 42:=by
 unfold Ba
 intros
 refine cO UG ?_
 apply akP<;>try first|assumption|exact f165 N
theorem KN:Ba (cX (N+4)) 106 0 1 3:=by
 unfold Ba
 intros
 refine cO UH ?_
 apply akQ<;>try first|assumption|exact f165 N
theorem f107:UC (cX (N+3)):=by
 unfold UC
 intros
 refine cO UI ?_
 apply akR<;>try first|assumption|exact wO (N+1)|exact Rj (N+1)|exact f18 (N+1)|exact f13 N
theorem f108:OK (cX (N+6)):=by
 unfold OK
 intros
 refine cO Kf ?_
 apply akS<;>try first|assumption|exact f100 (N+2)|exact f101 N|exact KL (N+1)|exact KM (N+1)|exact KN (N+1)|exact f107 (N+2)
theorem f109:UJ (cX (N+1)):=by
 unfold UJ
 intros
 refine eO VN ?_
 apply akT<;>try first|assumption
theorem f200:O5 (cX (N+1)):=by
 unfold O5
 intros
 refine eO J8 ?_
 apply alH<;>try first|assumption
theorem Hl:rN (cX (N+1)) 277:=by
 unfold rN
 intros
 refine eO UL ?_
 apply akY<;>try first|assumption
theorem f274:OM (cX (N+2)):=by
 unfold OM
 intros
 refine eO JV ?_
 apply akZ<;>try first|assumption|exact Hl N
theorem f270:Vc (cX (N+3)):=by
 unfold Vc
 intros
 refine cO Vf ?_
 apply ak2<;>try first|assumption|exact f274 N|exact f275 (N+1)
theorem Hm:rR (cX (N+1)) 280 417:=by
 unfold rR
 intros
 refine eO Vg ?_
 apply alw<;>try first|assumption
theorem Hn:rN (cX (N+1)) 286:=by
 unfold rN
 intros
 refine eO US ?_
 apply ak9<;>try first|assumption
theorem f285:OS (cX (N+2)):=by
 unfold OS
 intros
 refine eO JY ?_
 apply ala<;>try first|assumption|exact Hn N
theorem f281:Vd (cX (N+3)):=by
 unfold Vd
 intros
 refine cO Vh ?_
 apply ald<;>try first|assumption|exact f285 N
theorem Ho:rR (cX (N+1)) 289 425:=by
 unfold rR
 intros
 refine eO Vi ?_
 apply alx<;>try first|assumption
theorem Hp:rN (cX (N+1)) 297:=by
 unfold rN
 intros
 refine eO U4 ?_
 apply alk<;>try first|assumption
theorem f293:OX (cX (N+2)):=by
 unfold OX
 intros
 refine eO J1 ?_
 apply alm<;>try first|assumption|exact Hp N
theorem f298:U5 (cX (N+1)):=by
 unfold U5
 intros
 refine eO U6 ?_
 apply aln<;>try first|assumption
theorem f294:U7 (cX (N+2)):=by
 unfold U7
 intros
 refine eO U9 ?_
 apply alo<;>try first|assumption|exact f298 N
theorem f295:U8 (cX (N+1)):=by
 unfold U8
 intros
 refine cO Va ?_
 apply alp<;>try first|assumption
theorem f290:Ve (cX (N+3)):=by
 unfold Ve
 intros
 refine cO Vj ?_
 apply alq<;>try first|assumption|exact f293 N|exact f294 N|exact f295 (N+1)
theorem Hq:rR (cX (N+1)) 303 438:=by
 unfold rR
 intros
 refine eO Vk ?_
 apply aly<;>try first|assumption
theorem fHe:FHe (cX (N+4)):=by
 intro h k ws m vm e q v X R ok x v0 v1;cases e with
 |full n1 b1=>
  have q:=alz (P:=Tryz.prog) (call:=cX (N+3)) (f270 N) (Hm (N+2)) x v0 v1;exact cO (f:=278) ans q
 |each n1 f1=>
  have q:=alA (P:=Tryz.prog) (call:=cX (N+3)) (f281 N) (Ho (N+2)) x v0 v1;exact cO (f:=287) ant q
 |gate s1=>
  have q:=alC (P:=Tryz.prog) (call:=cX (N+3)) (f290 N) (Hq (N+2)) ok.en x v0 v1;exact cO (f:=301) anu q
theorem f173:Vy (cX (N+5)):=by
 unfold Vy
 intros
 refine cO VC ?_
 apply alJ<;>try first|assumption|exact f200 (N+3)|exact fHe N
theorem f115:J9 (cX (N+6)):=by
 unfold J9
 intros
 refine cO EA ?_
 apply alQ<;>try first|assumption|exact f173 N
theorem f321:abT (cX (N+1)):=by
 intro h X a b c;exact⟨fun g=>eO acA (ak6 Tryz.prog g),fun g=>eO acA (abf Tryz.prog g)⟩
theorem f326:Vn (cX (N+1)):=by
 unfold Vn
 intros
 refine cO anp ?_
 apply alh<;>try first|assumption
theorem f338:J2 (cX (N+1)):=by
 unfold J2
 intros
 refine eO J3 ?_
 apply alr<;>try first|assumption
theorem fNx:FNx (cX (N+1)):=by
 exact Vo (f321 N) (f326 N) (f338 N)
theorem f168:VA (cX (N+2)):=by
 unfold VA
 intros
 refine cO VE ?_
 apply alL<;>try first|assumption|exact fNx N
theorem f111:Hh (cX (N+3)):=by
 unfold Hh
 intros
 refine cO Bi ?_
 apply alS<;>try first|assumption|exact f168 N
theorem f273:OP (cX (N+3)):=by
 unfold OP
 intros
 refine cO JW ?_
 apply ak1<;>try first|assumption|exact f13 N
theorem f276:UN (cX (N+4)):=by
 unfold UN
 intros
 refine cO UO ?_
 apply ak3<;>try first|assumption|exact f273 N
theorem f322:Vl (cX (N+5)):=by
 unfold Vl
 intros
 refine cO anm ?_
 apply ak5<;>try first|assumption|exact f276 N
theorem f328:OV (cX (N+1)):=by
 unfold OV
 intros
 refine cO J0 ?_
 apply alg<;>try first|assumption
theorem f178:OT (cX (N+1)):=by
 unfold OT
 intros
 refine eO JX ?_
 apply alb<;>try first|assumption
theorem f329:UT (cX (N+3)):=by
 unfold UT
 intros
 refine cO UW ?_
 apply ale<;>try first|assumption|exact f178 (N+1)|exact f13 N
theorem acM:J4 (cX (N+4)):=by
 unfold J4
 intros
 refine cO acB ?_
 apply abu<;>try first|assumption|exact f328 (N+2)|exact f329 N
theorem f284:OU (cX (N+3)):=by
 unfold OU
 intros
 refine cO JZ ?_
 apply alc<;>try first|assumption|exact f178 (N+1)|exact f13 N
theorem f330:UU (cX (N+4)):=by
 unfold UU
 intros
 refine cO UY ?_
 apply alf<;>try first|assumption|exact f284 N
theorem acN:J5 (cX (N+5)):=by
 unfold J5
 intros
 refine cO acB ?_
 apply abv<;>try first|assumption|exact f328 (N+3)|exact f330 N
theorem acO:J6 (cX (N+3)):=by
 unfold J6
 intros
 refine cO acC ?_
 apply abG<;>try first|assumption|exact f338 (N+1)|exact f169 N
theorem KO:Jo (cX (N+1)) 299:=by
 unfold Jo
 intros
 refine eO anj ?_
 apply aiO<;>try first|assumption|exact anB N
theorem f296:Jp (cX (N+2)):=by
 unfold Jp
 intros
 refine cO Ey ?_
 apply aiQ<;>try first|assumption|exact f35 N|exact KO N|exact f37 N
theorem acP:J7 (cX (N+3)):=by
 unfold J7
 intros
 refine cO acC ?_
 apply abH<;>try first|assumption|exact f338 (N+1)|exact f296 N
theorem fSt:FSt (cX (N+5)):=by
 exact Vm (f322 N) (acM (N+1)) (acN N) (acO (N+2)) (acP (N+2))
theorem f166:Vz (cX (N+6)):=by
 unfold Vz
 intros
 refine cO VD ?_
 apply alK<;>try first|assumption|exact fSt N
theorem f198:SV (cX (N+1)):=by
 unfold SV
 intros
 refine eO ani ?_
 apply aiK<;>try first|assumption
theorem f167:Hg (cX (N+2)):=by
 unfold Hg
 intros
 refine cO yr ?_
 apply aiL<;>try first|assumption|exact f198 N
theorem f110:O7 (cX (N+7)):=by
 unfold O7
 intros
 refine cO Kh ?_
 apply alR<;>try first|assumption|exact f166 N|exact f167 (N+4)
theorem acQ:Kc (cX (N+4)):=by
 unfold Kc
 intros
 refine cO Bj ?_
 apply ab3<;>try first|assumption|exact Rj (N+2)|exact wO (N+2)|exact f10 N|exact f169 (N+1)
theorem f199:Ul (cX (N+1)):=by
 unfold Ul
 intros
 refine eO VI ?_
 apply akt<;>try first|assumption
theorem f170:VK (cX (N+2)):=by
 unfold VK
 intros
 refine eO VL ?_
 apply al3<;>try first|assumption|exact acL N|exact f199 N
theorem acR:Kd (cX (N+4)):=by
 unfold Kd
 intros
 refine cO Bj ?_
 apply ab4<;>try first|assumption|exact Rj (N+2)|exact wO (N+2)|exact f40 N|exact f124 (N+2)|exact f169 (N+1)|exact f170 (N+1)
theorem acS:Ke (cX (N+4)):=by
 unfold Ke
 intros
 refine cO Bj ?_
 apply ab5<;>try first|assumption|exact Rj (N+2)|exact wO (N+2)|exact f40 N|exact f124 (N+2)|exact f169 (N+1)
theorem f271:Vp (cX (N+4)):=by
 unfold Vp
 intros
 refine cO ank ?_
 apply ak7<;>try first|assumption|exact f274 (N+1)|exact f275 (N+2)|exact f273 N
theorem f282:Vq (cX (N+4)):=by
 unfold Vq
 intros
 refine cO ann ?_
 apply ali<;>try first|assumption|exact f285 (N+1)|exact f284 N
theorem f291:Vr (cX (N+3)):=by
 unfold Vr
 intros
 refine cO anq ?_
 apply als<;>try first|assumption|exact f293 N|exact f296 N
theorem fEx:FEx (cX (N+4)):=by
 exact Vt (f271 N) (f282 N) (f291 (N+1))
theorem f171:VB (cX (N+5)):=by
 unfold VB
 intros
 refine cO VF ?_
 apply alM<;>try first|assumption|exact f200 (N+3)|exact fEx N
theorem f113:O8 (cX (N+6)):=by
 unfold O8
 intros
 refine cO Ki ?_
 apply alT<;>try first|assumption|exact f171 N|exact f167 (N+3)
theorem f114:UK (cX (N+4)):=by
 unfold UK
 intros
 refine cO VO ?_
 apply akU<;>try first|assumption|exact f16 N|exact wO (N+2)|exact f172 (N+1)|exact wN (N+1)|exact f13 (N+1)
theorem f51:F51 (cX (N+8)):=by
 exact⟨by
  intros
  refine cO MD ?_
  apply al4<;>try first|assumption|exact f108 (N+1)|exact f49 (N+6),by
  intros
  refine cO MD ?_
  apply al5<;>try first|assumption|exact f108 (N+1)|exact f109 (N+6)|exact f115 (N+1)|exact f111 (N+4),by
  intros
  refine cO MD ?_
  apply al6<;>try first|assumption|exact f110 N|exact f111 (N+4),by
  intros
  refine cO MD ?_
  apply al7<;>try first|assumption|exact f110 N,by
  intros
  refine cO MD ?_
  apply al8<;>try first|assumption|exact acQ (N+3),by
  intros
  refine cO MD ?_
  apply al9<;>try first|assumption|exact acR (N+3),by
  intros
  refine cO MD ?_
  apply ama<;>try first|assumption|exact acS (N+3),by
  intros
  refine cO MD ?_
  apply amb<;>try first|assumption|exact f113 (N+1)|exact f115 (N+1)|exact f111 (N+4),by
  intros
  refine cO MD ?_
  apply amc<;>try first|assumption|exact f113 (N+1),by
  intros
  refine cO MD ?_
  apply amd<;>try first|assumption|exact f114 (N+3)⟩
theorem f50:F50 (cX (N+1)):=by
 unfold F50
 intros
 refine eO XL ?_
 apply w50<;>try first|assumption
theorem f52:F52 (cX (N+1)):=by
 unfold F52
 intros
 refine cO k52 ?_
 apply w52<;>try first|assumption
theorem f20:F20 (cX (N+9)):=by
 unfold F20
 intros
 refine cO k20 ?_
 apply w20<;>try first|assumption|exact f51 N|exact f50 (N+7)|exact f52 (N+7)
theorem f21:F21 (cX (N+3)):=by
 unfold F21
 intros
 refine cO k21 ?_
 apply w21<;>try first|assumption|exact f53 N
end
end Go.Proofs.YtgkjlklfjbljeaaGreat.CQ
namespace Go.Proofs.YtgkjlklfjbljeaaGreat.CQ
open Go.Proofs.YtgkjlklfjbljeaaGreat.Eo Go.RowKit Go.ChangeShapes Go.WideShapes Go.Deep
set_option maxRecDepth 100000
noncomputable section
def nB(b:Nat):Nat:=if b=0 then 0 else eC+b
theorem Rk{b n:Nat}(h:b<n):nB b<eC+n:=by unfold nB;split<;>omega
theorem Wm{a b:Nat}(h:nB a=nB b):a=b:=by
 unfold nB at h;have:0<eC:=by decide
 split at h<;>split at h<;>omega
def Pp(n es:Nat):Option Addr->Nat->Nat->Option AV
 |none,len,c=>if len=0/\c=0 then some .ax else none
 |some a,len,c=>if len=0/\c=0 then some (.sl 0 0 0 es none)else if a.spot=none/\a.block<n/\len<=c then some (.sl (nB a.block) a.off len es (some c))else none
def yw(n:Nat):Value->Option AV
 | .int k x=>some (.int k x)
 |_=>none
def yx(n:Nat):List Value->Nat->T AV
 | [],_=>T.e
 |V::l,i=>match yw n V with
  |some v=>(yx n l (i+1)).set i v
  |none=>yx n l (i+1)
theorem wP(n:Nat):∀(l:List Value) (i j:Nat),(yx n l i).get j=if i<=j then(l[j-i]?).bind (yw n)else none
 | [],i,j=>by rw[yx,T.di];simp
 |V::l,i,j=>by
  have ih:=wP n l (i+1) j;rw[yx]
  by_cases hj:j=i
  ·subst hj;rw[if_pos (Nat.le_refl _),Nat.sub_self];simp only[List.getElem?_cons_zero,Option.bind_some];cases hv:yw n V with
   |none=>simp only[];rw[ih,if_neg (by omega)]
   |some v=>simp only[];rw[T.ay,if_pos rfl]
  ·have key:(yx n l (i+1)).get j=if i<=j then((V::l)[j-i]?).bind (yw n)else none:=by
        rw[ih]
        by_cases h:i<=j
        ·rw[if_pos h,if_pos (by omega),show j-i=(j-(i+1))+1 by omega,List.getElem?_cons_succ]
        ·rw[if_neg h,if_neg (by omega)]
   cases hv:yw n V with
   |none=>exact key
   |some v=>simp only[];rw[T.ay,if_neg hj];exact key
def C7(n:Nat):Obj->Option AO
 | .cells c _ _=>some (.Aw (yx n c.toList 0))
 |_=>none
def yz(n:Nat):List Obj->Nat->T AO
 | [],_=>T.e
 |o::l,i=>match C7 n o with
  |some x=>(yz n l (i+1)).set (nB i) x
  |none=>yz n l (i+1)
theorem yS(n:Nat):∀(l:List Obj) (i j:Nat) (o:AO),(yz n l i).get j=some o->∃k O,l[k]?=some O/\C7 n O=some o/\j=nB (i+k)
 | [],i,j,o,h=>by rw[yz,T.di]at h;cases h
 |O::l,i,j,o,h=>by
  have ih:=yS n l (i+1) j o;have up:(yz n l (i+1)).get j=some o->∃k O',(O::l)[k]?=some O'/\C7 n O'=some o/\j=nB (i+k):=fun h=>by
   obtain⟨k,O',a,b,c⟩:=ih h;exact⟨k+1,O',a,b,by rw[c,show i+1+k=i+(k+1) by omega]⟩
  rw[yz]at h;cases hO:C7 n O with
  |none=>rw[hO]at h;exact up h
  |some x=>
   rw[hO]at h;simp only[T.ay]at h
   by_cases e:j=nB i
   ·rw[if_pos e]at h;simp only[Option.some.injEq]at h;subst h;exact⟨0,O,rfl,hO,e⟩
   ·rw[if_neg e]at h;exact up h
theorem Ga(n:Nat):∀(l:List Obj) (i k:Nat) (O:Obj) (o:AO),l[k]?=some O->C7 n O=some o->(yz n l i).get (nB (i+k))=some o
 | [],i,k,O,o,h,_=>by simp at h
 |P::l,i,0,O,o,h,e=>by
  simp only[List.getElem?_cons_zero,Option.some.injEq]at h;subst h;rw[yz,e];simp only[T.ay,Nat.add_zero,if_true]
 |P::l,i,k+1,O,o,h,e=>by
  have ih:=Ga n l (i+1) k O o (by simpa using h) e;rw[show i+1+k=i+(k+1) by omega]at ih;rw[yz];cases hO:C7 n P with
  |none=>exact ih
  |some x=>
   have:¬nB (i+(k+1))=nB i:=fun q=>by have:=Wm q;omega
   simp only[T.ay];rw[if_neg this];exact ih
def mK(n:Nat):aR:=⟨fun a=>if a<eC then some ⟨a,0,0⟩else if a<eC+n then some ⟨a-eC,0,0⟩else none,fun g hg=>⟨0,if_pos hg⟩⟩
theorem KP(n:Nat):mK n 0=some ⟨0,0,0⟩:=by
 show(if 0<eC then some (⟨0,0,0⟩:Go.Proofs.YtgkjlklfjbljeaaGreat.Eo.Loc)else if 0<eC+n then some ⟨0-eC,0,0⟩else none)=_
 rw[if_pos (by decide)]
theorem vw{n b:Nat}(h:b<n):mK n (nB b)=some ⟨b,0,0⟩:=by
 unfold nB
 by_cases e:b=0
 ·rw[if_pos e,e];exact KP n
 ·rw[if_neg e]
  show(if eC+b<eC then _ else if eC+b<eC+n then some (⟨eC+b-eC,0,0⟩:Go.Proofs.YtgkjlklfjbljeaaGreat.Eo.Loc)else none)=_
  rw[if_neg (by omega),if_pos (by omega),Nat.add_sub_cancel_left]
def hW(W:World):H:=⟨eC+W.heap.size,yz W.heap.size W.heap.toList 0⟩
theorem Bo(W:World){j:Nat}{o:AO}(h:(hW W).t.get j=some o):∃b,j=nB b/\b<W.heap.size/\∃c e f,W.heap[b]?=some (.cells c e f)/\o=.Aw (yx W.heap.size c.toList 0):=by
 obtain⟨b,O,h1,h2,h3⟩:=yS _ _ _ _ _ h;rw[Nat.zero_add]at h3;rw[Array.getElem?_toList]at h1;have df:=(Array.getElem?_eq_some_iff.1 h1).1;cases O with
 |cells c e f=>
  simp only[C7,Option.some.injEq]at h2;exact⟨b,h3,df,c,e,f,h1,h2.symm⟩
 |_=>simp[C7]at h2
theorem Wn(W:World){b:Nat}{c:Array Value}{e:TypeId}{f:Nat×Nat}(h:W.heap[b]?=some (.cells c e f)):(hW W).t.get (nB b)=some (.Aw (yx W.heap.size c.toList 0)):=by
 have:=Ga W.heap.size W.heap.toList 0 b _ _ (by rw[Array.getElem?_toList];exact h) rfl;rw[Nat.zero_add]at this;exact this
theorem vx{W:World}{es:Nat}(sQ:0<es){p:Option Addr}{len c:Nat}{v:AV}(h:Pp W.heap.size es p len c=some v):VR (mK W.heap.size) v (.slice p len c):=by
 unfold Pp at h;split at h
 ·split at h
  ·rename_i hh;simp only[Option.some.injEq]at h;subst h;obtain⟨rfl,rfl⟩:=hh;rfl
  ·cases h
 ·rename_i a;split at h
  ·rename_i hh;simp only[Option.some.injEq]at h;subst h;obtain⟨rfl,rfl⟩:=hh;exact⟨_,KP _,sQ,by simp,.inr ⟨rfl,a,rfl⟩⟩
  ·split at h
   ·rename_i hh;simp only[Option.some.injEq]at h;subst h;obtain⟨h1,h2,h3⟩:=hh;refine⟨_,vw h2,h3,?_⟩;obtain⟨b,o,s⟩:=a;simp only at h1;subst h1;simp
   ·cases h
theorem Pq{W:World}{V:Value}{v:AV}(h:yw W.heap.size V=some v):VR (mK W.heap.size) v V/\Go.Proofs.YtgkjlklfjbljeaaGreat.Eo.one V=true:=by
 cases V with
 |int k x=>simp only[yw,Option.some.injEq]at h;subst h;exact⟨rfl,rfl⟩
 |_=>simp[yw]at h
theorem Wo(W:World):∀a o,(hW W).t.get a=some o->o.mut=false:=fun a o h=>by
 obtain⟨_,_,_,c,e,f,_,rfl⟩:=Bo W h;rfl
theorem acT(W:World):HR (mK W.heap.size) (hW W).t.get W:=by
 constructor
 ·intro a o l h _ hl;obtain⟨b,rfl,h2,c,e,f,h3,rfl⟩:=Bo W h;rw[vw h2]at hl;simp only[Option.some.injEq]at hl;subst hl;refine⟨h2,c,e,f,h3,fun i v hv=>?_⟩;rw[wP,if_pos (Nat.zero_le _),Nat.sub_zero,Array.getElem?_toList]at hv;cases hc:c[i]? with
  |none=>rw[hc]at hv;cases hv
  |some V=>
   rw[hc]at hv;obtain⟨k1,k2⟩:=Pq hv;exact⟨V,k1,k2,by rw[Nat.zero_add];exact hc⟩
 ·intro a b o p l m h1 _ h2 _ hl hm hb;obtain⟨x,rfl,a2,_⟩:=Bo W h1;obtain⟨y,rfl,b2,_⟩:=Bo W h2;rw[vw a2]at hl;rw[vw b2]at hm;simp only[Option.some.injEq]at hl hm;subst hl;subst hm;simp only at hb;rw[hb]
theorem KQ(W:World):cC (mK W.heap.size) (hW W).next:=fun a ha=>by
 have h:eC+W.heap.size<=a:=ha
 show(if a<eC then _ else if a<eC+W.heap.size then _ else none)=_
 rw[if_neg (by omega),if_neg (by omega)]
theorem wQ{W:World}{b o:Nat}{V:Value}{v:AV}(h:W.cell? ⟨b,o,none⟩=some V)(hv:yw W.heap.size V=some v):b<W.heap.size/\uT (hW W).t.get none (nB b) o=some v:=by
 unfold World.cell? at h;split at h
 ·rename_i c e f hb;have C0:W.heap[b]?=some (.cells c e f):=hb;have ho:c[o]?=some V:=by simpa using h
  refine⟨(Array.getElem?_eq_some_iff.1 C0).1,?_⟩;rw[ko,Wn W C0]
  show Gb none o (.Aw (yx W.heap.size c.toList 0))=_
  rw[acU,wP,if_pos (Nat.zero_le _),Nat.sub_zero,Array.getElem?_toList,ho];exact hv
 ·cases h
theorem pn{w:World}{a:Addr}{v:Value}(h:w.cell? a=some v):a=⟨a.block,a.off,none⟩:=by
 obtain⟨b,o,s⟩:=a;cases s with
 |none=>rfl
 |some s=>
  unfold World.cell? at h;split at h
  ·simp at h
  ·cases h
theorem add_plain(b o i:Nat):(⟨b,o,none⟩:Addr).add i=⟨b,o+i,none⟩:=by
 unfold Addr.add;split
 ·rename_i h0;simp[h0]
 ·simp
theorem wf_u64{y:Int}(h:(Lit.int .u64 y).wf=true):kB y:=by
 simp[Lit.wf,IntKind.min,IntKind.max,IntKind.signed,IntKind.bits]at h;exact⟨h.1,by omega⟩
theorem wf_u8{y:Int}(h:(Lit.int .u8 y).wf=true):0<=y:=by
 simp[Lit.wf,IntKind.min,IntKind.max,IntKind.signed,IntKind.bits]at h;exact h.1
end
end Go.Proofs.YtgkjlklfjbljeaaGreat.CQ
namespace Go.Proofs.YtgkjlklfjbljeaaGreat.CQ
open Go.Proofs.YtgkjlklfjbljeaaGreat.Eo Go.RowKit Go.ChangeShapes Go.WideShapes Go.Deep
open Go.Proofs (Tryz.prog Tryz.checked Tryz.underlying27 Tryz.underlying24 Tryz.underlying25 Tryz.underlying28 Tryz.underlying29 Tryz.underlying79 Tryz.underlying50 Tryz.underlying22 Tryz.underlying4 Tryz.underlying3 Tryz.underlying5)
set_option maxRecDepth 100000
theorem vQ:Tryz.prog.cellsOf 3=1:=by kernel_rfl
theorem KR:Tryz.prog.cellsOf 5=1:=by kernel_rfl
theorem Pr:Tryz.prog.cellsOf 22=1:=by kernel_rfl
theorem Gc:Tryz.prog.cellsOf 24=3:=by kernel_rfl
theorem Ps:Tryz.prog.cellsOf 25=6:=by kernel_rfl
theorem Pt:Tryz.prog.cellsOf 27=16:=by kernel_rfl
theorem Gd:Tryz.prog.cellsOf 50=1:=by kernel_rfl
theorem Ge:Tryz.prog.cellsOf 79=3:=by kernel_rfl
theorem RE:Tryz.prog.bytesOf 3=8:=by kernel_rfl
theorem Pu:Tryz.prog.bytesOf 50=8:=by kernel_rfl
noncomputable section
section
variable {H:Type} {enc:TypeId×Value->H} {W:World}
theorem C8{t e:TypeId}{k:IntKind}{fuel:Nat}{cs:List Value}{x:DataW H×List MemPlace}(ht:Tryz.prog.underlying t=some (.slice e))(he:Tryz.prog.underlying e=some (.int k))(hc:Tryz.prog.cellsOf e=1)(hby:Tryz.prog.bytesOf e=8)
 (h:DataW.trod enc Tryz.prog W 0 (fun _=>true) true fuel t cs=some x) (hz:∀n∈x.1.weights Tryz.prog t,n<=reachBytes):∃(v:Value) (l:List Int) (av:AV),cs=[v]/\VR (mK W.heap.size) av v/\cm none 1 (hW W) av (l.map fun x:Int=>AV.int k x)/\(∀a,own av=some a->a<(hW W).next)/\(∀y∈l,(Lit.int k y).wf=true)/\l.length*8<=140737488351232:=by
 rcases open_ints ht he hc h with⟨rfl,-⟩|⟨a,len,cap,zs,rfl,-,hl,hm,hn,hx,iq,hwf⟩
 ·exact⟨_,[],.ax,rfl,rfl,.inl ⟨rfl,rfl⟩,fun a ha=>by simp[own]at ha,fun y hy=>(by cases hy),by decide⟩
 ·simp only[if_true]at hn
  by_cases h0:len=0/\cap=0
  ·obtain⟨rfl,rfl⟩:=h0;exact⟨_,[],.sl 0 0 0 1 none,rfl,vx (W:=W) (by decide) rfl,.inr ⟨0,0,none,rfl,Nat.zero_le _,fun i x hi=>by simp at hi⟩,fun b hb=>by simp only[own,Option.some.injEq]at hb;subst hb;show 0<eC+_;unfold eC;omega,fun y hy=>(by cases hy),by decide⟩
  ·have eA:0<zs.length:=by omega
   have nV:=pn (iq 0 eA);have nV:a=⟨a.block,a.off,none⟩:=by simpa [Addr.add]using nV
   have hlen:(zs.take len).length=len:=by rw[List.length_take];omega
   have B7:∀i y,zs[i]?=some y->a.block<W.heap.size/\uT (hW W).t.get none (nB a.block) (a.off+i*1)=some (.int k y):=fun i y hi=>by
        have hc:=iq i (List.getElem?_eq_some_iff.1 hi).1;have e1:zs.getD i 0=y:=by simp[List.getD,hi]
        rw[e1,nV,add_plain]at hc;rw[Nat.mul_one];exact wQ hc rfl
   have wD:=(B7 0 zs[0] (List.getElem?_eq_getElem eA)).1;have hb:len*8<=140737488351232:=by
        have:=hz ((((lits (H:=H) k (zs.take len)).length+(lits (H:=H) k (zs.drop len)).length))*Tryz.prog.bytesOf e) (by rw[hx];simp[DataW.weights,ht]);rw[hby]at this;simp only[lits,List.length_map,List.length_take,List.length_drop]at this;unfold reachBytes at this;omega
   have hsp:a.spot=none:=by rw[nV]
   refine⟨_,zs.take len,.sl (nB a.block) a.off len 1 (some cap),rfl,vx (W:=W) (es:=1) Nat.one_pos ?_,.inr ⟨nB a.block,a.off,some cap,by rw[List.length_map,hlen],by rw[List.length_map,hlen];omega,fun i x hi=>?_⟩,fun b hb=>?_,fun y hy=>hwf y (List.mem_of_mem_take hy),by rw[hlen];exact hb⟩
   ·unfold Pp;simp only[];rw[if_neg h0,if_pos ⟨hsp,wD,hl⟩]
   ·rw[List.getElem?_map,Option.map_eq_some_iff]at hi;obtain⟨y,hy,rfl⟩:=hi;rw[List.getElem?_take]at hy;split at hy
    ·exact(B7 i y hy).2
    ·cases hy
   ·simp only[own,Option.some.injEq]at hb;subst hb;exact Rk wD
theorem EI{fuel:Nat}{cs:List Value}{x:DataW H×List MemPlace}(h:DataW.trod enc Tryz.prog W 0 (fun _=>true) true fuel 24 cs=some x)(hz:∀n∈x.1.weights Tryz.prog 24,n<=reachBytes):
 ∃(dk dn:Int) (cv:Value) (l:List Int) (av:AV),0<=dk/\cs=[.int .u8 dk,.int .i64 dn,cv]/\VR (mK W.heap.size) av cv/\cm none 1 (hW W) av (l.map fun x:Int=>AV.int .u64 x)/\(∀a,own av=some a->a<(hW W).next)/\(∀y∈l,kB y)/\l.length*8<=140737488351232:=by
 obtain⟨xs,n,-,hx,hl,hlen,C9⟩:=DataW.trod_struct Tryz.underlying24 h;have rn:cs.length=3:=hl.trans Gc
 match cs,rn with
 | [c0,c1,c2],_=>
   have t0:=C9 0 _ rfl;have t1:=C9 1 _ rfl;have t2:=C9 2 _ rfl
   match xs,hlen with
   | [y0,y1,y2],_=>
     simp[vQ,KR,Pr]at t0 t1 t2;obtain⟨k,e0,-,w0⟩:=DataW.trod_int Tryz.underlying5 t0;obtain⟨a,e1,-,w1⟩:=DataW.trod_int Tryz.underlying3 t1;obtain⟨v,l,av,e2,h1,h2,h3,h4,h5⟩:=C8 Tryz.underlying22 Tryz.underlying50 Gd Pu t2 (fun n hn=>hz n (by
        rw[hx];simp only[DataW.weights,Tryz.underlying24,List.map_cons,List.map_nil,DataW.weightsEach,List.mem_append];exact .inr (.inr (.inl hn))))
     simp at e0 e1 e2;subst e0 e1 e2;exact⟨k,a,_,l,av,wf_u8 w0,rfl,h1,h2,h3,fun y hy=>wf_u64 (h4 y hy),h5⟩
theorem EJ{fuel:Nat}{cs:List Value}{x:DataW H×List MemPlace}(h:DataW.trod enc Tryz.prog W 0 (fun _=>true) true fuel 27 cs=some x)(hz:∀n∈x.1.weights Tryz.prog 27,n<=reachBytes):
 ∃(th sl en bu dk dn t0 t1 t2 t3 t4 t5 lo tr ba:Int) (cv:Value) (l:List Int) (av:AV),0<=en/\0<=dk/\cs=[.int .i64 th,.int .i64 sl,.int .u8 en,.int .i64 bu,.int .u8 dk,.int .i64 dn,cv,.int .i64 t0,.int .i64 t1,.int .i64 t2,.int .i64 t3,.int .i64 t4,.int .i64 t5,.int .i64 lo,.int .i64 tr,.int .i64 ba]/\VR (mK W.heap.size) av cv/\cm none 1 (hW W) av (l.map fun x:Int=>AV.int .u64 x)/\(∀a,own av=some a->a<(hW W).next)/\(∀y∈l,kB y)/\l.length*8<=140737488351232:=by
 obtain⟨xs,n,-,hx,hl,hlen,C9⟩:=DataW.trod_struct Tryz.underlying27 h;have rn:cs.length=16:=hl.trans Pt
 match cs,rn with
 | [c0,c1,c2,c3,c4,c5,c6,c7,c8,c9,c10,c11,c12,c13,c14,c15],_=>
   have s0:=C9 0 _ rfl;have s1:=C9 1 _ rfl;have s2:=C9 2 _ rfl;have s3:=C9 3 _ rfl;have s4:=C9 4 _ rfl;have s5:=C9 5 _ rfl;have s6:=C9 6 _ rfl;have s7:=C9 7 _ rfl;have s8:=C9 8 _ rfl
   match xs,hlen with
   | [y0,y1,y2,y3,y4,y5,y6,y7,y8],_=>
     simp[vQ,KR,Gc,Ps]at s0 s1 s2 s3 s4 s5 s6 s7 s8;obtain⟨th,e0,-,-⟩:=DataW.trod_int Tryz.underlying3 s0;obtain⟨sl,e1,-,-⟩:=DataW.trod_int Tryz.underlying3 s1;obtain⟨en,e2,-,w2⟩:=DataW.trod_int Tryz.underlying5 s2;obtain⟨bu,e3,-,-⟩:=DataW.trod_int Tryz.underlying3 s3;obtain⟨dk,dn,cv,l,av,dk0,e4,hv⟩:=EI s4 (fun n hn=>hz n (by
        rw[hx];simp only[DataW.weights,Tryz.underlying27,List.map_cons,List.map_nil,DataW.weightsEach,List.mem_append];exact .inr (.inr (.inr (.inr (.inl hn))))))
     obtain⟨zs,m,-,-,MU,Co,Wp⟩:=DataW.trod_array Tryz.underlying25 s5;obtain⟨lo,e6,-,-⟩:=DataW.trod_int Tryz.underlying3 s6;obtain⟨tr,e7,-,-⟩:=DataW.trod_int Tryz.underlying3 s7;obtain⟨ba,e8,-,-⟩:=DataW.trod_int Tryz.underlying3 s8;rw[vQ]at Wp
     match zs,Co with
     | [z0,z1,z2,z3,z4,z5],_=>
       have u0:=Wp 0 (by omega);have u1:=Wp 1 (by omega);have u2:=Wp 2 (by omega);have u3:=Wp 3 (by omega);have u4:=Wp 4 (by omega);have u5:=Wp 5 (by omega);simp at u0 u1 u2 u3 u4 u5;obtain⟨t0,f0,-,-⟩:=DataW.trod_int Tryz.underlying3 u0;obtain⟨t1,f1,-,-⟩:=DataW.trod_int Tryz.underlying3 u1;obtain⟨t2,f2,-,-⟩:=DataW.trod_int Tryz.underlying3 u2;obtain⟨t3,f3,-,-⟩:=DataW.trod_int Tryz.underlying3 u3;obtain⟨t4,f4,-,-⟩:=DataW.trod_int Tryz.underlying3 u4;obtain⟨t5,f5,-,-⟩:=DataW.trod_int Tryz.underlying3 u5;simp at e0 e1 e2 e3 e4 e6 e7 e8 f0 f1 f2 f3 f4 f5;obtain⟨e4,e4',anL⟩:=e4;subst e0 e1 e2 e3 e4 e4' anL e6 e7 e8 f0 f1 f2 f3 f4 f5;exact⟨th,sl,en,bu,dk,dn,t0,t1,t2,t3,t4,t5,lo,tr,ba,_,l,av,wf_u8 w2,dk0,rfl,hv⟩
theorem MJ{base:Nat}{v0:Value}{d0:DataW H}{p0:List MemPlace}(o0:Value.okWide Tryz.prog W .any base 27 v0)(h0:DataW.Trod enc Tryz.prog W 0 (fun _=>true) true 27 v0 d0 p0)(hz:∀n∈d0.weights Tryz.prog 27,n<=reachBytes):
 ∃(c:aj) (av:AV),0<=c.kind/\0<=c.az/\VR (mK W.heap.size) (.agg (au c av)) v0/\cm none 1 (hW W) av (uL c.aI)/\(∀a,own av=some a->a<(hW W).next)/\(∀y∈c.aI,kB y)/\c.aI.length*8<=140737488351232:=by
 obtain⟨cs,rfl,rn⟩:=okWide_struct Tryz.underlying27 o0;obtain⟨fuel,hf⟩:=h0;obtain⟨th,sl,en,bu,dk,dn,t0,t1,t2,t3,t4,t5,lo,tr,ba,cv,l,ac,en0,dk0,e0,h1,h2,h3,h4,z1⟩:=EJ hf hz;refine⟨⟨th,sl,en,bu,dk,dn,l,t0,t1,t2,t3,t4,t5,lo,tr,ba⟩,ac,dk0,en0,⟨cs.toList,?_,?_⟩,h2,h3,h4,z1⟩
 ·have e0':cs.toList=_:=e0;rw[e0'];unfold au;simp only[bE,VR];exact⟨_,_,rfl,⟨_,_,rfl,⟨_,_,rfl,⟨_,_,rfl,⟨_,_,rfl,⟨_,_,rfl,⟨_,_,h1,⟨_,_,rfl,⟨_,_,rfl,⟨_,_,rfl,⟨_,_,rfl,⟨_,_,rfl,⟨_,_,rfl,⟨_,_,rfl,⟨_,_,rfl,⟨_,_,rfl,rfl,rfl⟩,rfl⟩,rfl⟩,rfl⟩,rfl⟩,rfl⟩,rfl⟩,rfl⟩,rfl⟩,rfl⟩,rfl⟩,rfl⟩,rfl⟩,rfl⟩,rfl⟩,rfl⟩
 ·rfl
theorem Hr{fuel:Nat}{cs:List Value}{x:DataW H×List MemPlace}(h:DataW.trod enc Tryz.prog W 0 (fun _=>true) true fuel 79 cs=some x):
 ∃y:Int×Int×Int,0<=y.1/\0<=y.2.1/\cs=[.int .u64 y.1,.int .u64 y.2.1,.int .i64 y.2.2]:=by
 obtain⟨xs,n,-,hx,hl,hlen,C9⟩:=DataW.trod_struct Tryz.underlying79 h;have rn:cs.length=3:=hl.trans Ge
 match cs,rn with
 | [c0,c1,c2],_=>
   have t0:=C9 0 _ rfl;have t1:=C9 1 _ rfl;have t2:=C9 2 _ rfl
   match xs,hlen with
   | [y0,y1,y2],_=>
     simp[vQ,Gd]at t0 t1 t2;obtain⟨a,e0,-,w0⟩:=DataW.trod_int Tryz.underlying50 t0;obtain⟨b,e1,-,w1⟩:=DataW.trod_int Tryz.underlying50 t1;obtain⟨d,e2,-,-⟩:=DataW.trod_int Tryz.underlying3 t2;simp at e0 e1 e2;subst e0 e1 e2;exact⟨⟨a,b,d⟩,(wf_u64 w0).1,(wf_u64 w1).1,rfl⟩
theorem KS{α:Type}{P:Nat->α->Prop}:∀n,(∀i,i<n->∃y,P i y)->∃l:List α,l.length=n/\∀i y,l[i]?=some y->P i y
 |0,_=>⟨[],rfl,fun i y h=>by simp at h⟩
 |n+1,h=>by
  obtain⟨l,hl,hp⟩:=KS n fun i hi=>h i (by omega)
  obtain⟨y,hy⟩:=h n (by omega);refine⟨l++[y],by rw[List.length_append,hl];rfl,fun i z hz=>?_⟩
  by_cases hi:i<l.length
  ·rw[List.getElem?_append_left hi]at hz;exact hp i z hz
  ·rw[List.getElem?_append_right (by omega)]at hz;have h0:i-l.length=0:=by
    have:=(List.getElem?_eq_some_iff.1 hz).1;simp at this;omega
   rw[h0]at hz;obtain rfl:y=z:=by simpa using hz
   rw[show i=n by omega];exact hy
theorem KT{fuel:Nat}{cs:List Value}{x:DataW H×List MemPlace}(h:DataW.trod enc Tryz.prog W 0 (fun _=>true) true fuel 28 cs=some x):
 ∃(v:Value) (l:List (Int×Int×Int)) (av:AV),cs=[v]/\VR (mK W.heap.size) av v/\kI (hW W) av l/\∀a,own av=some a->a<(hW W).next:=by
 rcases DataW.trod_slice Tryz.underlying28 h with⟨rfl,-⟩|⟨a,len,cap,elems,rest,n,_,rfl,hx,-,hl,hm,hlen,hel,hsp,-⟩
 ·exact⟨_,[],.ax,rfl,rfl,.inl ⟨rfl,rfl⟩,fun a ha=>by simp[own]at ha⟩
 ·by_cases h0:len=0/\cap=0
  ·obtain⟨rfl,rfl⟩:=h0;exact⟨_,[],.sl 0 0 0 3 none,rfl,vx (W:=W) (by decide) rfl,.inr ⟨0,0,none,rfl,fun i x hi=>by simp at hi⟩,fun b hb=>by simp only[own,Option.some.injEq]at hb;subst hb;show 0<eC+_;unfold eC;omega⟩
  ·have one:∀i,(w:DataW H×List MemPlace)->(W.cells? 0 (a.add (i*Tryz.prog.cellsOf 79)) (Tryz.prog.cellsOf 79)).bind (DataW.trod enc Tryz.prog W 0 (fun _=>true) true n 79)=some w->∃z:Int×Int×Int,0<=z.1/\0<=z.2.1/\∀(j:Nat) v,([.int .u64 z.1,.int .u64 z.2.1,.int .i64 z.2.2]:List Value)[j]?=some v->W.cell? ((a.add (i*3)).add j)=some v:=fun i w hw=>by
        rw[Ge,Option.bind_eq_some_iff]at hw;obtain⟨cs',uD,sV⟩:=hw;obtain⟨z,z0,z1,rfl⟩:=Hr sV;obtain⟨_,_,hc⟩:=World.cells?_some uD;refine⟨z,z0,z1,fun j v hj=>?_⟩;rw[hc j (by have:=(List.getElem?_eq_some_iff.1 hj).1;simpa using this)];exact hj
   have hex:∃w,(W.cells? 0 (a.add (0*Tryz.prog.cellsOf 79)) (Tryz.prog.cellsOf 79)).bind (DataW.trod enc Tryz.prog W 0 (fun _=>true) true n 79)=some w:=by
        have hr:=hsp rfl
        by_cases hl0:0<len
        ·exact⟨elems[0]'(by omega),by rw[hel 0 hl0,List.getElem?_eq_getElem (by omega)]⟩
        ·have:=hr.2 0 (by omega);rw[show len+0=0 by omega]at this;exact⟨rest[0]'(by omega),by rw[this,List.getElem?_eq_getElem (by omega)]⟩
   obtain⟨w0,CG⟩:=hex;obtain⟨z0,_,_,Cv⟩:=one 0 w0 CG;have EK:a=⟨a.block,a.off,none⟩:=by
        have hp:=pn (Cv 0 _ rfl);simpa [Addr.add]using hp
   have wD:a.block<W.heap.size:=by
        have h1:=Cv 0 _ rfl;rw[EK]at h1;simp only[Nat.zero_mul,add_plain]at h1;exact(wQ h1 rfl).1
   obtain⟨l,yg,hp⟩:=KS (P:=fun i z=>0<=(z:Int×Int×Int).1/\0<=z.2.1/\∀(j:Nat) v,([.int .u64 z.1,.int .u64 z.2.1,.int .i64 z.2.2]:List Value)[j]?=some v->W.cell? ((a.add (i*3)).add j)=some v) len fun i hi=>one i _ (by rw[hel i hi,List.getElem?_eq_getElem (by omega)])
   have at1:∀i z j v av,l[i]?=some z->([.int .u64 z.1,.int .u64 z.2.1,.int .i64 z.2.2]:List Value)[j]?=some v->yw W.heap.size v=some av->uT (hW W).t.get none (nB a.block) (a.off+(i*3+j))=some av:=fun i z j v av hz hj hv=>by
        have h1:=(hp i z hz).2.2 j v hj;rw[EK,add_plain,add_plain,Nat.add_assoc]at h1;exact(wQ h1 hv).2
   have hsp:a.spot=none:=by rw[EK]
   refine⟨_,l,.sl (nB a.block) a.off len 3 (some cap),rfl,vx (W:=W) (es:=3) (by decide) ?_,.inr ⟨nB a.block,a.off,some cap,by rw[yg],fun i z hz=>⟨?_,?_,?_,(hp i z hz).1,(hp i z hz).2.1⟩⟩,fun b hb=>?_⟩
   ·unfold Pp;simp only[];rw[if_neg h0,if_pos ⟨hsp,wD,hl⟩]
   ·exact at1 i z 0 _ _ hz rfl rfl
   ·exact at1 i z 1 _ _ hz rfl rfl
   ·exact at1 i z 2 _ _ hz rfl rfl
   ·simp only[own,Option.some.injEq]at hb;subst hb;exact Rk wD
theorem RC{base:Nat}{v0:Value}{d0:DataW H}{p0:List MemPlace}(o0:Value.okWide Tryz.prog W .any base 28 v0)(h0:DataW.Trod enc Tryz.prog W 0 (fun _=>true) true 28 v0 d0 p0):
 ∃(l:List (Int×Int×Int)) (av:AV),VR (mK W.heap.size) av v0/\kI (hW W) av l/\∀a,own av=some a->a<(hW W).next:=by
 obtain⟨a,len,cap,rfl⟩:=okWide_slice Tryz.underlying28 o0;obtain⟨fuel,hf⟩:=h0;obtain⟨v,l,av,e,h1,h2,h3⟩:=KT hf;have e:Value.slice a len cap=v:=by simpa [Value.cells]using e
 subst e;exact⟨l,av,h1,h2,h3⟩
theorem RD{t e:TypeId}{k:IntKind}{base:Nat}{v0:Value}{d0:DataW H}{p0:List MemPlace}(ht:Tryz.prog.underlying t=some (.slice e))(he:Tryz.prog.underlying e=some (.int k))(hc:Tryz.prog.cellsOf e=1)(hby:Tryz.prog.bytesOf e=8)(o0:Value.okWide Tryz.prog W .any base t v0)(h0:DataW.Trod enc Tryz.prog W 0 (fun _=>true) true t v0 d0 p0)(hz:∀n∈d0.weights Tryz.prog t,n<=reachBytes):
 ∃(l:List Int) (av:AV),VR (mK W.heap.size) av v0/\cm none 1 (hW W) av (l.map fun x:Int=>AV.int k x)/\(∀a,own av=some a->a<(hW W).next)/\l.length<=140737488351232:=by
 obtain⟨a,len,cap,rfl⟩:=okWide_slice ht o0;obtain⟨fuel,hf⟩:=h0;obtain⟨v,l,av,e,h1,h2,h3,-,h5⟩:=C8 ht he hc hby hf hz;have e:Value.slice a len cap=v:=by simpa [Value.cells]using e
 subst e;exact⟨l,av,h1,h2,h3,by omega⟩
end
end
end Go.Proofs.YtgkjlklfjbljeaaGreat.CQ
namespace Go.Proofs.YtgkjlklfjbljeaaGreat.CQ
open Go.Proofs.YtgkjlklfjbljeaaGreat.Eo Go.RowKit Go.ChangeShapes Go.WideShapes Go.Deep
open Go.Proofs (Tryz.prog Tryz.checked Tryz.underlying27 Tryz.underlying24 Tryz.underlying25 Tryz.underlying28 Tryz.underlying29 Tryz.underlying79 Tryz.underlying50 Tryz.underlying22 Tryz.underlying4 Tryz.underlying3 Tryz.underlying5)
set_option maxRecDepth 100000
noncomputable section
theorem EL{f:FuncId}{cf:CF}{k:Nat}{call:ab}(aO:bF true Tryz.prog call)(nV:Plain call){W:World}{args:List AV}{ARGS:List Value}(ha:bE (mK W.heap.size) args ARGS)(hk:args.length=k)(h1:mJ Tryz.prog f=true)(h2:Nat.ble dW f=false)(h3:Mz Tryz.prog f k=some cf)
 (hw:WF Tryz.prog call cf args (hW W) fun v h'=>v=.bool true):Calls Tryz.prog f ARGS.toArray W fun e W'=>e=.returned (.bool true)/\Below W.heap.size W W':=by
 obtain⟨v,h',r,rfl⟩:=Da Tryz.checked.mixed aO nV h1 h2 h3 hk hw;refine(r.ret (mK W.heap.size) W ARGS ha (acT W) (KQ W)).mono fun e w' hh=>?_
 obtain⟨ρ',V,rfl,hv,way⟩:=hh;simp only[VR]at hv;subst hv;exact⟨rfl,way.nx.env.os,way.nx.env.tape,way.nx.env.output,way.nx.size,fun r hr=>way.nx.frame r hr fun a o l q1 q2=>by rw[Wo W a o q1]at q2;cases q2⟩
theorem xk:∀p∈xl,okX Tryz.prog p:=by
 intro p hp;simp only[xl,List.mem_cons,List.not_mem_nil,or_false]at hp;rcases hp with rfl|rfl|rfl|rfl|rfl<;>exact⟨by kernel_rfl,by kernel_rfl⟩
theorem hNG:Pv Tryz.prog=true:=by decide+kernel
theorem Rl:mJ Tryz.prog 22=true:=by kernel_rfl
theorem Db:Plain bX:=fun f args h hb=>by
 have h1:Nat.beq f 156=false:=by
  cases e:Nat.beq f 156 with
  |false=>rfl
  |true=>
   have:=Nat.eq_of_beq_eq_true e;subst this;cases hb
 have h2:Nat.beq f 22=false:=by
  cases e:Nat.beq f 22 with
  |false=>rfl
  |true=>
   have:=Nat.eq_of_beq_eq_true e;subst this;cases hb
 rw[wL h1 h2];exact EM acH f args h hb
theorem Dc(w:World):Calls Tryz.prog 22 #[] w fun e w'=>e=.returned (.bool true)/\Below w.heap.size w w':=
 (Dd (KU Tryz.checked.mixed) (tY xk) Hs Rl (by kernel_rfl) rfl (fun a o h=>by unfold h0 at h;rw[T.di]at h;cases h) ((KV hNG _ _ _ _ _ _ _).symm.trans Hk) w ⟨fun a o l h _ _=>(by unfold h0 at h;rw[T.di]at h;cases h),fun a b o p l m h _ _ _ _ _ _=>(by unfold h0 at h;rw[T.di]at h;cases h)⟩).mono fun e w' hh=>
   ⟨hh.1,hh.2.1.os,hh.2.1.tape,hh.2.1.output,hh.2.2.1,hh.2.2.2⟩
theorem acZ:bF true Tryz.prog bX:=by
 intro f args h v h' e ρ w ARGS ha hr hf;cases e1:Nat.beq f 156 with
 |true=>
  unfold bX at e;rw[e1]at e;exact wG OG f args h v h' e ρ w ARGS ha hr hf
 |false=>
  cases e9:Nat.beq f 22 with
  |false=>
   rw[wL e1 e9]at e;exact Pw acH f args h v h' e ρ w ARGS ha hr hf
  |true=>
   have:=Nat.eq_of_beq_eq_true e9;subst this;cases args with
   |cons a l=>unfold bX at e;rw[e1,e9]at e;cases e
   |nil=>
    unfold bX at e;rw[e1,e9]at e;simp only[cond_true,cond_false,Option.some.injEq,Prod.mk.injEq]at e;obtain⟨rfl,rfl⟩:=e;have:ARGS=[]:=ha;subst this;exact .inl ⟨by kernel_rfl,Ht hr hf rfl Rl (Dc w)⟩
theorem ac0(n:Nat):bF true Tryz.prog (cX n):=De Tryz.checked.mixed Db acZ n
theorem KX(n:Nat):Plain (cX n):=tZ Db n
theorem aft{W:World}{V0 V1 V2:Value}{c:aj}{av lw dv:AV}{ls:List (Int×Int×Int)}{dl:List Int}(q0:0<=c.kind)(e0:0<=c.az)(r0:VR (mK W.heap.size) (.agg (au c av)) V0)(hv:cm none 1 (hW W) av (uL c.aI))(dE:∀a,own av=some a->a<(hW W).next)(fH:∀y∈c.aI,kB y)(hl:c.aI.length*8<=140737488351232)
 (r1:VR (mK W.heap.size) lw V1) (lr:kI (hW W) lw ls) (XE:∀a,own lw=some a->a<(hW W).next) (r2:VR (mK W.heap.size) dv V2) (dr:cm none 1 (hW W) dv (iL dl)) (QO:∀a,own dv=some a->a<(hW W).next):
 Calls Tryz.prog 3 #[V0,V1,V2] W fun e W'=>e=.returned (.bool true)/\Below W.heap.size W W':=
 EL (ac0 9) (KX 9) (f:=3) (k:=3) (args:=[.agg (au c av),lw,dv]) (ARGS:=[V0,V1,V2]) ⟨_,_,r0,⟨_,_,r1,⟨_,_,r2,rfl,rfl⟩,rfl⟩,rfl⟩ rfl k3.has k3.key k3.cf
  (w3 Tryz.prog (f4 (0+3)) (f5 (0+6)) (f6 (0+2)) (f7 (0+4)) (f8 (0+6)) (Rj (0+8)) (wO (0+8)) (acJ (0+8)) (f11 (0+8)) (f10 (0+6)) (f13 (0+7)) (f15 (0+4)) (f16 (0+6)) (anI (0+7)) (f18 (0+8)) (anJ (0+4)) (f20 0) (f21 (0+6)) (b22 (0+9)) q0 e0 hv dE (by omega) fH lr XE dr QO)
end
end Go.Proofs.YtgkjlklfjbljeaaGreat.CQ
