/-
  What functions of the program compute, one by one. Conditions: those of each theorem.
-/
import Derived.Test.YtghmnaojmpjglaaGreatDoorPwG
set_option linter.all false
namespace Go.Proofs.YtghmnaojmpjglaaGreatDoor.PR
open Go.Proofs.YtghmnaojmpjglaaGreatDoor.Eo
noncomputable section
variable(P:Program)[PT P]{call:CallE}
@[go_sem]def c49:CF:=⟨2,(Sq [a 9 0,a 10 1,m 11 9,d 12 12 11,t 1 12 10] (Qq (.drw ⟨[([g 0 0,n 1 13 0,j 2 14 1 0,k 3 15 2,g 4 0,n 5 17 4,j 6 18 5 1,k 7 19 6,g 8 0,n 9 21 8,j 10 22 9 0,k 11 23 10,n 12 24 11,j 13 25 12 0,k 14 26 13,n 15 27 14,j 16 28 15 0,j 17 29 16 14,k 18 30 17,y 19 16 3,y 20 20 7,y 21 31 18],none)],[(0,13),(1,14),(2,15),(3,16),(4,17),(5,18),(6,19),(7,20),(8,21),(9,22),(10,23),(11,24),(12,25),(13,26),(14,27),(15,28),(16,29),(17,30),(18,31),(19,4),(20,5),(21,6)],[]⟩) (Sq [a 32 1] (.block 0 (Sq [U 34 3 32 1,a 33 34] (Cq 33 (.drw ⟨[([g 0 0,g 1 4,g 2 5,g 3 0,n 4 39 3,j 5 40 4 3,j 6 41 5 1,k 7 42 6,g 8 0,n 9 44 8,j 10 45 9 3,j 11 46 10 1,k 12 47 11,zP 13 43 7 48 12 0 0 0 1 1 1,g 14 6],some (qp 15 37 1 38 2 49 13 50 14 131)),([y 16 51 15,N 17 35 16 0,N 18 35 16 1,n 19 36 0,j 20 54 19 13],some (R 21 55 20 52 17 1)),([],none)],[(0,36),(1,37),(2,38),(3,39),(4,40),(5,41),(6,42),(7,43),(8,44),(9,45),(10,46),(11,47),(12,48),(13,49),(14,50),(15,51),(16,35),(17,52),(18,53),(19,54),(20,55)],[]⟩) (Sq [U 57 3 32 2,a 56 57] (Cq 56 (.drw ⟨[([g 0 0,g 1 4,g 2 5,g 3 0,n 4 62 3,j 5 63 4 2,k 6 64 5,g 7 0,n 8 66 7,j 9 67 8 11,k 10 68 9],some (qp 11 60 1 61 2 65 6 69 10 9)),([y 12 70 11,N 13 58 12 0,N 14 58 12 1,n 15 59 0,j 16 73 15 14],some (R 17 74 16 71 13 1)),([],none)],[(0,59),(1,60),(2,61),(3,62),(4,63),(5,64),(6,65),(7,66),(8,67),(9,68),(10,69),(11,70),(12,58),(13,71),(14,72),(15,73),(16,74)],[]⟩) (Sq [U 76 3 32 3,a 75 76] (Cq 75 (.drw ⟨[([g 0 0,g 1 4,g 2 5,g 3 0,n 4 81 3,j 5 82 4 11,k 6 83 5,g 7 0,n 8 85 7,j 9 86 8 3,j 10 87 9 1,k 11 88 10],some (qp 12 79 1 80 2 84 6 89 11 132)),([y 13 90 12,N 14 77 13 0,N 15 77 13 1,n 16 78 0,j 17 93 16 15],some (R 18 94 17 91 14 1)),([],none)],[(0,78),(1,79),(2,80),(3,81),(4,82),(5,83),(6,84),(7,85),(8,86),(9,87),(10,88),(11,89),(12,90),(13,77),(14,91),(15,92),(16,93),(17,94)],[]⟩) (Sq [U 96 3 32 4,a 95 96] (Cq 95 (Oq [a 98 0,a 99 4,a 100 5,a 101 0,m 102 101,d 103 23 102,i 104 103,a 105 6,qv 106 133 99 100 104 105,a 97 106,o 107 97 0,o 108 97 1,m 109 98,d 110 16 109,t 1 110 107]) (Sq [U 112 3 32 7,a 111 112] (Cq 111 (.drw ⟨[([g 0 0,g 1 4,g 2 5,g 3 0,n 4 117 3,j 5 118 4 23,k 6 119 5,g 7 0,n 8 121 7,j 9 122 8 3,j 10 123 9 1,k 11 124 10,g 12 6],some (qZ 13 115 1 116 2 120 6 125 11 126 12 134)),([y 14 127 13,N 15 113 14 0,N 16 113 14 1,n 17 114 0,j 18 130 17 17],some (R 19 131 18 128 15 1)),([],none)],[(0,114),(1,115),(2,116),(3,117),(4,118),(5,119),(6,120),(7,121),(8,122),(9,123),(10,124),(11,125),(12,126),(13,127),(14,113),(15,128),(16,129),(17,130),(18,131)],[]⟩) (Sq [U 133 3 32 8,a 132 133] (Cq 132 (.drw ⟨[([g 0 0,g 1 4,n 2 136 1,j 3 137 2 2,k 4 138 3,g 5 5,g 6 0,n 7 141 6,j 8 142 7 3,j 9 143 8 6,k 10 144 9,g 12 6],some (qg 11 145 10 136)),([],some (qp 13 139 4 140 5 146 11 147 12 135)),([y 14 148 13,N 15 134 14 0,N 16 134 14 1,n 17 135 0,j 18 151 17 18],some (R 19 152 18 149 15 1)),([],none)],[(0,135),(1,136),(2,137),(3,138),(4,139),(5,140),(6,141),(7,142),(8,143),(9,144),(10,145),(11,146),(12,147),(13,148),(14,134),(15,149),(16,150),(17,151),(18,152)],[(⟨4,[(138,(some 3))],none,.r (.ld none (.t 138))⟩,[1])]⟩) (Sq [U 154 3 32 9,a 153 154] (Cq 153 (Sq [⟨some 156,none,.cv (.c (.fn (.func 137) [] [])) [.c (.int .u8 0),.c (.int .i64 0),.c (.int .u64 0)]⟩,a 155 156,o 157 155 0,o 158 155 1,a 7 157,a 8 158] (.drw ⟨[([g 0 0,g 1 4,n 2 161 1,j 3 162 2 3,k 4 163 3,g 5 5,g 6 0,n 7 166 6,j 8 167 7 23,k 9 168 8,g 10 0,n 11 170 10,j 12 171 11 3,j 13 172 12 1,k 14 173 13,g 15 0,n 16 175 15,j 17 176 16 3,j 18 177 17 3,k 19 178 18,zP 20 174 14 179 19 0 0 0 1 1 1,g 21 7],some (qZ 22 164 4 165 5 169 9 180 20 181 21 138)),([y 23 182 22,N 24 159 23 0,N 25 159 23 1,n 26 160 0,j 27 185 26 19],some (R 28 186 27 183 24 1)),([],none)],[(0,160),(1,161),(2,162),(3,163),(4,164),(5,165),(6,166),(7,167),(8,168),(9,169),(10,170),(11,171),(12,172),(13,173),(14,174),(15,175),(16,176),(17,177),(18,178),(19,179),(20,180),(21,181),(22,182),(23,159),(24,183),(25,184),(26,185),(27,186)],[]⟩)) (Sq [U 188 3 32 10,a 187 188] (Cq 187 (.drw ⟨[([g 0 0,g 1 4,g 2 5,g 3 0,n 4 193 3,j 5 194 4 23,k 6 195 5,g 7 0,n 8 197 7,j 9 198 8 3,j 10 199 9 1,k 11 200 10,g 12 6],some ⟨13,[(191,some 1),(192,some 2),(196,some 6),(201,some 11),(202,some 12)],none,.cv (.c (.fn (.func 139) [] [])) [.t 191,.t 192,.t 196,.t 201,.c (.bool true),.t 202]⟩),([y 14 203 13,N 15 189 14 0,N 16 189 14 1,n 17 190 0,j 18 206 17 20],some (R 19 207 18 204 15 1)),([],none)],[(0,190),(1,191),(2,192),(3,193),(4,194),(5,195),(6,196),(7,197),(8,198),(9,199),(10,200),(11,201),(12,202),(13,203),(14,189),(15,204),(16,205),(17,206),(18,207)],[]⟩) (Sq [U 209 3 32 11,a 208 209] (Cq 208 (.drw ⟨[([g 0 0,g 1 4,n 2 212 1,j 3 213 2 2,k 4 214 3,g 5 5,g 6 0,n 7 217 6,j 8 218 7 23,k 9 219 8],some (qL 10 215 4 216 5 220 9 140)),([y 11 221 10,N 12 210 11 0,N 13 210 11 1,n 14 211 0,j 15 224 14 21],some (R 16 225 15 222 12 1)),([],none)],[(0,211),(1,212),(2,213),(3,214),(4,215),(5,216),(6,217),(7,218),(8,219),(9,220),(10,221),(11,210),(12,222),(13,223),(14,224),(15,225)],[]⟩) (Sq [U 227 3 32 14,a 226 227] (Cq 226 (Oq [a 229 0,a 230 0,m 231 230,d 232 10 231,i 233 232,q 234 141 233,a 228 234,o 235 228 0,o 236 228 1,m 237 229,d 238 22 237,t 1 238 235]) .skip)))))))))))))))))))))))),[]⟩
@[go_sem]def c17:CF:=⟨1,(Sq [v 2 0] (Qq (Sq [a 3 0,u 4 75 3] (Kq 4 [v 2 0] .skip)) (Qq (Sq [a 5 0,m 6 5,d 7 12 6,i 8 7] (.block 0 (Sq [U 10 3 8 1,a 9 10] (Kq 9 [a 11 0,m 12 11,d 13 13 12,i 14 13,q 15 50 14,a 2 15] (Sq [U 17 3 8 2,a 16 17] (Kq 16 [a 18 0,m 19 18,d 20 14 19,i 21 20,q 22 31 21,a 2 22] (Sq [U 24 3 8 3,a 23 24] (Kq 23 [a 25 0,m 26 25,d 27 15 26,i 28 27,q 29 51 28,a 2 29] (Sq [U 31 3 8 4,a 30 31] (Kq 30 [a 32 0,m 33 32,d 34 16 33,i 35 34,q 36 52 35,a 2 36] (Sq [U 38 3 8 5,a 37 38] (Kq 37 [v 2 25] (Sq [U 40 3 8 6,a 39 40] (Kq 39 [v 2 44] (Sq [U 42 3 8 7,a 41 42] (Kq 41 [a 43 0,m 44 43,d 45 17 44,i 46 45,q 47 53 46,a 2 47] (Sq [U 49 3 8 8,a 48 49] (Kq 48 [a 50 0,m 51 50,d 52 18 51,i 53 52,q 54 54 53,a 2 54] (Sq [U 56 3 8 9,a 55 56] (Kq 55 [a 57 0,m 58 57,d 59 19 58,i 60 59,q 61 55 60,a 2 61] (Sq [U 63 3 8 10,a 62 63] (Kq 62 [a 64 0,m 65 64,d 66 20 65,i 67 66,q 68 56 67,a 2 68] (Sq [U 70 3 8 11,a 69 70] (Kq 69 [a 71 0,m 72 71,d 73 21 72,i 74 73,q 75 54 74,a 2 75] (Sq [U 77 3 8 12,a 76 77] (Kq 76 [a 78 0,m 79 78,d 80 0 79,i 81 80,q 82 57 81,a 2 82] (Sq [U 84 3 8 13,a 83 84] (Kq 83 [v 2 43] (Sq [U 86 3 8 14,a 85 86] (Kq 85 [a 87 0,m 88 87,d 89 22 88,i 90 89,q 91 58 90,a 2 91] .skip)))))))))))))))))))))))))))))) (Rq [v 2 0])))),[.tmp 2]⟩
def PtB(h:H)(D:Nat)(rk:RK)(get:Bool):Prop:=D<h.next∧∃cells:List AV,h.t.get D=some (.row (putList 0 cells T.e) 32 147)∧cells.length=32∧(if get then∃Z,cells[12]?=some (.int .i64 2)∧cells[14]?=some (.ptr Z 0)∧NxY h Z rk else∃L,cells[12]?=some (.int .i64 1)∧cells[13]?=some (.ptr L 0)∧L<h.next∧RLockO h L)
def F31y(call:CallE):Prop:=∀h Z rk,NxY h Z rk->call 31 [.ptr Z 0] h=some (.int .u8 (pcK (RK.tag rk) 0),h)
theorem w17(P:Program)[pt:PT P]{call:CallE}(h31:F31y call)(h50:F50 call){h:H}{D:Nat}{rk:RK}{get:Bool}(m:PtB h D rk get):WF P call c17 [.ptr D 0] h fun v h'=>v=.int .u8 (ptPc rk.tag get)∧h'=h:=by
 obtain⟨lD,cells,gD,hl,mm⟩:=m
 cases get with
 |true=>
  rw[if_pos rfl]at mm
  obtain⟨Z,c12,c14,nz⟩:=mm
  have k:=h31 h Z rk nz
  simp only[go_sem,seval,gD,hl,c12,c14,k]
  rfl
 |false=>
  rw[if_neg (by decide)]at mm
  obtain⟨L,c12,c13,_,nz⟩:=mm
  have k:=h50 h L nz
  simp only[go_sem,seval,gD,hl,c12,c13,k]
  rfl
def F17(call:CallE):Prop:=∀h D rk get,PtB h D rk get->call 17 [.ptr D 0] h=some (.int .u8 (ptPc (RK.tag rk) get),h)
theorem set_offY{h:H}{D:Nat}{c c':T AV}{k k':Nat}{Z:Nat}{rk:RK}(g:h.t.get D=some (.row c k 147))(m:NxY h Z rk):NxY ⟨h.next,h.t.set D (.row c' k' 147)⟩ Z rk:=by
 obtain⟨X,Q,x,y,z,u,v,gZ,gQ,nx,lX,lQ,lZ⟩:=m
 have q:∀{b:Nat} {c'' k'' e},h.t.get b=some (.row c'' k'' e)->e≠147->(h.t.set D (.row c' k' 147)).get b=h.t.get b:=fun{b c'' k'' e} g' hne=>by
  have:¬b=D:=rowL_ne g' g hne
  simp only[go_sem,seval,this]
 have nX:∀{o:AO},rk.run X=o->∃c'' k'',o=.row c'' k'' 222:=fun ho=>by
  subst ho
  cases rk<;>exact⟨_,_,rfl⟩
 obtain⟨c2,k2,hr⟩:=nX rfl
 refine⟨X,Q,x,y,z,u,v,(q gZ (by decide)).trans gZ,(q (gQ.trans (congrArg some hr)) (by decide)).trans gQ,nx.step ?_,lX,lQ,lZ⟩
 cases rk with
 |full G N=>obtain⟨a,b,c,g⟩:=nx;exact q g (by decide)
 |each G N=>obtain⟨a,b,c,d,g⟩:=nx;exact q g (by decide)
 |gate G nb=>obtain⟨a,b,c,g⟩:=nx;exact q g (by decide)
structure BM(h:H)(a:AdB)(z:AdS)(rk:RK)(c:CfgT)(n:Nat)(lv ev:AV)(ws:List Int)(l:List AccT)(es:List EvT)(nu:List Int):Prop where
 bl:BL h a z rk c n lv ev ws l es nu
 rd:RdL none 1 h z.cv (uL c.cuts)
 lc:∀b,own z.cv=some b->b<h.next
 lL:a.L<h.next
 lay:layB c
 cu:∀x∈c.cuts,inU x
 lE:∀b,rkF rk b->b<h.next
theorem BM.step{h h':H}{a:AdB}{z:AdS}{rk:RK}{c:CfgT}{n:Nat}{lv ev:AV}{ws:List Int}{l:List AccT}{es:List EvT}{nu:List Int}(m:BM h a z rk c n lv ev ws l es nu)(s:StepN h h'):BM h' a z rk c n lv ev ws l es nu:=
 ⟨⟨m.bl.sb.step s,(s.old _ m.lL).trans m.bl.gL,m.bl.en.step s,m.bl.sl,m.bl.nw,m.bl.n64,m.bl.nu01⟩,m.rd.keep fun b hb=>s.old b (m.lc b hb),fun b hb=>Nat.lt_of_lt_of_le (m.lc b hb) s.next,Nat.lt_of_lt_of_le m.lL s.next,m.lay,m.cu,fun b hb=>Nat.lt_of_lt_of_le (m.lE b hb) s.next⟩
def Post49(a:AdB)(rk:RK)(n:Nat)(lv ev:AV)(ws:List Int)(l:List AccT)(es:List EvT)(D:Nat)(get:Bool)(h:H)(v:AV)(h':H):Prop:=v=.tup []∧PtB h' D rk get∧SB h' a rk n lv ev ws l es∧Tch (fun b=>rkM rk b∨b=a.V∨b=D) h h'
theorem w49a(h131:F131 call){h:H}{a:AdB}{z:AdS}{rk:RK}{c:CfgT}{n:Nat}{lv ev:AV}{ws:List Int}{l:List AccT}{es:List EvT}{nu:List Int}(m:BM h a z rk c n lv ev ws l es nu){t s kd k:Int}{D:Nat}{cells:List AV}(lD:D<h.next)(gD:h.t.get D=some (.row (putList 0 cells T.e) 32 147))(hl:cells.length=32)(c0:cells[0]?=some (.ptr a.B 0))(c1:cells[1]?=some (.int .i64 t))(c4:cells[4]?=some (.int .u64 k))(t0:0<=t)(t1:t<64)
 (dS:∀b,sbF a lv ev b->b≠D) (dL:a.L≠D):
 WF P call c49 [.ptr D 0,.int .i64 1] h (Post49 a rk n lv ev ws l es D false h):=by
 have gB:=m.bl.sb.gB
 have gL:=m.bl.gL
 obtain⟨_,_,⟨_,_⟩,_,_,_,_,hd,_,⟨tr0,tr1⟩,_⟩:=m.lay
 have BD:¬a.B=D:=dS a.B (.inr (.inl rfl))
 have LD:¬a.L=D:=dL
 have d0:(cells.set 12 (.int .i64 1))[0]?=some (.ptr a.B 0):=(List.getElem?_set_ne (by decide)).trans c0
 have d1:(cells.set 12 (.int .i64 1))[1]?=some (.int .i64 t):=(List.getElem?_set_ne (by decide)).trans c1
 have d4:(cells.set 12 (.int .i64 1))[4]?=some (.int .u64 k):=(List.getElem?_set_ne (by decide)).trans c4
 simp only[go_sem,seval,gD,hl,d0,d1,d4,BD,LD,gB,gL,cfgC]
 refine opt_by (h131 _ a.B t k k c.tries t0 t1 (by omega) tr1 (by omega)) fun v1 h1 p1=>?_
 obtain⟨st1,L,rfl,lL,oL,lo⟩:=p1
 have gD1:=st1.old D lD
 have L1:¬L=D:=by have:h.next<=L:=oL;omega
 simp only[go_sem,seval]at gD1
 have nx:h.next<=h1.next:=st1.next
 simp only[go_sem,seval,gD1,hl,List.length_set,nx]
 have kb:∀b,b<h.next->b≠D->(h1.t.set D (.row (putList 0 ((cells.set 12 (.int .i64 1)).set 13 (.ptr L 0)) T.e) 32 147)).get b=h.t.get b:=fun b lb hb=>by
  have:=st1.old b lb
  simp only[go_sem,seval,hb]at this
  simp only[go_sem,seval,hb,this]
 refine⟨rfl,⟨by show D<h1.next;omega,_,by simp only[go_sem,seval];rfl,by rw[List.length_set,List.length_set];exact hl,?_⟩,m.bl.sb.keep st1.next fun b lb hb=>kb b lb (dS b hb),st1.next,fun b lb hb=>kb b lb fun q=>hb (.inr (.inr q))⟩
 rw[if_neg (by decide)]
 exact⟨L,by rw[List.getElem?_set_ne (by decide),List.getElem?_set_self (by rw[hl];decide)],by rw[List.getElem?_set_self (by rw[List.length_set,hl];decide)],lL,lo.step (by simp[go_sem,L1])⟩
theorem w49b(h9:F9g call){h:H}{a:AdB}{z:AdS}{rk:RK}{c:CfgT}{n:Nat}{lv ev:AV}{ws:List Int}{l:List AccT}{es:List EvT}{nu:List Int}(m:BM h a z rk c n lv ev ws l es nu){t u:Int}{s:Nat}{D:Nat}{cells:List AV}(lD:D<h.next)(gD:h.t.get D=some (.row (putList 0 cells T.e) 32 147))(hl:cells.length=32)(c0:cells[0]?=some (.ptr a.B 0))(c1:cells[1]?=some (.int .i64 t))(c2:cells[2]?=some (.int .i64 (s:Int)))(c11:cells[11]?=some (.int .i64 u))(t0:0<=t)(t1:t<64)(u0:0<=u)(u1:u<64)(hs:s<n)(hx:nu[s]?=some 0)
 (dS:∀b,sbF a lv ev b->b≠D) (dL:a.L≠D) (dE:∀b,rkF rk b->b≠D):
 WF P call c49 [.ptr D 0,.int .i64 2] h (Post49 a rk n lv ev ws l es D true h):=by
 have gB:=m.bl.sb.gB
 have gL:=m.bl.gL
 have BD:¬a.B=D:=dS a.B (.inr (.inl rfl))
 have LD:¬a.L=D:=dL
 have d0:(cells.set 12 (.int .i64 2))[0]?=some (.ptr a.B 0):=(List.getElem?_set_ne (by decide)).trans c0
 have d1:(cells.set 12 (.int .i64 2))[1]?=some (.int .i64 t):=(List.getElem?_set_ne (by decide)).trans c1
 have d2:(cells.set 12 (.int .i64 2))[2]?=some (.int .i64 (s:Int)):=(List.getElem?_set_ne (by decide)).trans c2
 have d11:(cells.set 12 (.int .i64 2))[11]?=some (.int .i64 u):=(List.getElem?_set_ne (by decide)).trans c11
 have kD:∀b,b<h.next->b≠D->(h.t.set D (.row (putList 0 (cells.set 12 (.int .i64 2)) T.e) 32 147)).get b=h.t.get b:=fun b lb hb=>by simp only[go_sem,seval,hb]
 simp only[go_sem,seval,gD,hl,d0,d1,d2,d11,BD,LD,gB,gL,cfgC]
 refine opt_by (h9 _ a n n rk nu t u s lv ev ws l es (m.bl.sb.keep (Nat.le_refl _) fun b lb hb=>kD b lb (dS b hb)) (m.bl.en.keep (Nat.le_refl _) fun b lb hb=>kD b lb (dE b hb)) m.bl.n64 t0 t1 u0 u1 hs hx) fun v1 h1 p1=>?_
 obtain⟨Z,rfl,oZ,nz,sb1,st1⟩:=p1
 have nx:h.next<=h1.next:=st1.next
 have nM:∀b,rkM rk b->rkF rk b:=fun b hb=>by
  cases rk with
  |full G N=>exact .inr hb
  |each G N=>exact .inr hb
  |gate G nb=>exact hb
 have gD1:=st1.old D lD fun q=>q.elim (fun q=>dE D (nM D q) rfl) fun q=>dS a.V (.inr (.inr (.inr (.inl rfl)))) q.symm
 simp only[go_sem,seval]at gD1
 simp only[go_sem,seval,gD1,hl,List.length_set,nx]
 have kb:∀b,b≠D->(h1.t.set D (.row (putList 0 ((cells.set 12 (.int .i64 2)).set 14 (.ptr Z 0)) T.e) 32 147)).get b=h1.t.get b:=fun b hb=>by simp only[go_sem,seval,hb]
 refine⟨rfl,⟨by show D<h1.next;omega,_,by simp only[go_sem,seval];rfl,by rw[List.length_set,List.length_set];exact hl,?_⟩,sb1.keep (Nat.le_refl _) fun b lb hb=>kb b (dS b hb),nx,fun b lb hb=>?_⟩
 ·rw[if_pos rfl]
  exact⟨Z,by rw[List.getElem?_set_ne (by decide),List.getElem?_set_self (by rw[hl];decide)],by rw[List.getElem?_set_self (by rw[List.length_set,hl];decide)],set_offY gD1 nz⟩
 ·have q:b≠D:=fun q=>hb (.inr (.inr q))
  exact((kb b q).trans (st1.old b lb fun q'=>hb (q'.imp id .inl))).trans (kD b lb q)
@[go_sem]def c15:CF:=⟨5,(Sq [w 8 66 3,p 10,b 11 0] (Qq (Sq [a 14 0,u 15 31 14,a 16 15,s 17 16 4,qA 18 16 69 17,r 19 16 18] (Kq 19 [p 10,b 11 1] .skip)) (Qq (Sq [d 20 0 8,i 21 20,jb 22 5 21 3,a 23 22,M 24 23 0 8,L 25 23 24,q3 26 23 5 25 7,r 27 23 26] (Kq 27 [p 10,b 11 2] .skip)) (Qq (Sq [a 28 0,a 29 1,a 30 2,qa 31 47 28 29 30,a 12 31] (Sq [a 32 12,z 33 54 32 0] (Kq 33 [a 34 12,p 10,a 11 34] .skip))) (Sq [a 35 0,a 36 1,a 37 2,V 38 7 8,a 39 4,⟨some 40,none,.p (.build [.nilp,iz,iz,bz,uz,uz,uz,uz,uz,uz,.nilp,iz,iz,.nilp,.nilp,.nilp,.nilp,.nilp,.nilp,.nilp,.nilp,.nilp,.nilp,iz,iz,fz,fz,iz,fz,uz,uz,iz] [(0,1,.t 35),(1,1,.t 36),(2,1,.t 37),(3,7,.t 38),(10,1,.t 39)])⟩,w 41 147 40,a 13 41] (Qq (.drw ⟨[([g 0 13,g 1 0,n 2 44 1,j 3 45 2 0,k 4 46 3,n 5 47 4,j 6 48 5 0,j 7 49 6 4,qD 8 50 7 3,S 9 8 1,k 10 52 9],some (q1 11 51 8 53 10 48)),([y 12 54 11,N 13 42 12 0,N 14 42 12 1,n 15 43 0,j 16 57 15 11],some (R 17 58 16 55 13 1)),([],none)],[(0,43),(1,44),(2,45),(3,46),(4,47),(5,48),(6,49),(7,50),(8,51),(9,52),(10,53),(11,54),(12,42),(13,55),(14,56),(15,57),(16,58)],[]⟩) (Qq (Sq [d 59 0 8,i 60 59,J 61 5 60 3] (Cq 61 (Oq [a 62 13,qT 63 49 62 2]) (Oq [a 64 13,qT 65 49 64 1]))) (Rq [a 66 13,a 10 66,b 11 0])))))))),[.tmp 10,.tmp 11]⟩
def F49a(call:CallE):Prop:=∀h a z rk c n lv ev ws l es nu (t k:Int) D cells,BM h a z rk c n lv ev ws l es nu->D<h.next->h.t.get D=some (.row (putList 0 cells T.e) 32 147)->cells.length=32->cells[0]?=some (.ptr a.B 0)->cells[1]?=some (.int .i64 t)->cells[4]?=some (.int .u64 k)->0<=t->t<64->(∀b,sbF a lv ev b->b≠D)->a.L≠D->Does call 49 [.ptr D 0,.int .i64 1] h (Post49 a rk n lv ev ws l es D false h)
def F49b(call:CallE):Prop:=∀h a z rk c n lv ev ws l es nu (t u:Int) (s:Nat) D cells,BM h a z rk c n lv ev ws l es nu->D<h.next->h.t.get D=some (.row (putList 0 cells T.e) 32 147)->cells.length=32->cells[0]?=some (.ptr a.B 0)->cells[1]?=some (.int .i64 t)->cells[2]?=some (.int .i64 (s:Int))->cells[11]?=some (.int .i64 u)->0<=t->t<64->0<=u->u<64->s<n->nu[s]?=some 0->(∀b,sbF a lv ev b->b≠D)->a.L≠D->(∀b,rkF rk b->b≠D)->Does call 49 [.ptr D 0,.int .i64 2] h (Post49 a rk n lv ev ws l es D true h)
theorem EngB.len{h:H}{M n bs:Nat}{nu:List Int}{rk:RK}(m:EngB h M n bs nu rk):nu.length=n:=by
 cases rk with
 |full G N=>
  have m':TriE h M n bs G N 362 (tZ nu):=m
  have:=m'.ln
  unfold tZ at this
  rw[List.length_map]at this
  exact this
 |each G N=>
  have m':TriE h M n bs G N 368 (tZ nu):=m
  have:=m'.ln
  unfold tZ at this
  rw[List.length_map]at this
  exact this
 |gate G nb=>exact m.1
def PostNB(a:AdB)(rk:RK)(n:Nat)(lv ev:AV)(ws:List Int)(l:List AccT)(es:List EvT)(nu:List Int)(kd t s:Int)(h:H)(v:AV)(h':H):Prop:=
 (newE n ws nu kd t s≠0∧v=.tup [.nilp,.int .i64 (newE n ws nu kd t s)]∧StepN h h')∨(newE n ws nu kd t s=0∧∃D,v=.tup [.ptr D 0,.int .i64 0]∧PtB h' D rk (decide (kd=3))∧SB h' a rk n lv ev ws l es∧Tch (fun b=>rkM rk b∨b=a.V) h h')
theorem w15(P:Program)[pt:PT P]{call:CallE}(h47:F47 call)(h48:F48 call)(ha:F49a call)(hb:F49b call){h:H}{a:AdB}{z:AdS}{rk:RK}{c:CfgT}{n:Nat}{lv ev:AV}{ws:List Int}{l:List AccT}{es:List EvT}{nu:List Int}(m:BM h a z rk c n lv ev ws l es nu)(t s kd k o1 o2 o3 o4 o5:Int)(k0:0<=k)(Q:Nat):
 WF P call c15 [.ptr a.B 0,.int .i64 t,.int .i64 s,.agg [.int .u8 kd,.int .u64 k,.int .u64 o1,.int .u64 o2,.int .u64 o3,.int .u64 o4,.int .u64 o5],.ptr Q 0] h (PostNB a rk n lv ev ws l es nu kd t s h):=by
 have st0:=StepN.new h (.row (putList 0 [.int .u8 kd,.int .u64 k,.int .u64 o1,.int .u64 o2,.int .u64 o3,.int .u64 o4,.int .u64 o5] T.e) 7 66)
 have err:∀(e:Int) h',StepN h h'->newE n ws nu kd t s=e->e≠0->PostNB a rk n lv ev ws l es nu kd t s h (.tup [.nilp,.int .i64 e]) h':=fun e h' st he h0=>.inl ⟨by rw[he];exact h0,by rw[he],st⟩
 by_cases q0:kd<3
 ·simp only[go_sem,seval,q0]
  exact err 2 _ st0 (by unfold newE;rw[if_pos (.inl q0)]) (by decide)
 by_cases q1:7<kd
 ·simp only[go_sem,seval,q0,q1]
  exact err 2 _ st0 (by unfold newE;rw[if_pos (.inr q1)]) (by decide)
 have ne:newE n ws nu kd t s=freeE n ws nu t s:=by unfold newE;rw[if_neg (by omega)]
 simp only[go_sem,seval,q0,q1]
 refine opt_by (h47 _ a z rk c n lv ev ws l es nu t s (m.step st0).bl) fun v1 h1 p1=>?_
 obtain⟨rfl,st1⟩:=p1
 have st01:=st0.trans st1
 by_cases fe:freeE n ws nu t s=0
 rotate_left
 ·simp only[go_sem,seval,fe]
  exact err _ _ st01 ne fe
 have e0:newE n ws nu kd t s=0:=ne.trans fe
 have inv:(0<=t∧t<64)∧(0<=s∧s<(n:Int))∧nu[s.toNat]?≠some 1:=by
  unfold freeE at fe
  split at fe
  ·cases fe
  rename_i q2
  split at fe
  ·cases fe
  rename_i q3
  split at fe
  ·cases fe
  split at fe
  ·cases fe
  rename_i q4
  exact⟨Decidable.not_not.1 q2,by omega,q4⟩
 obtain⟨⟨t0,t1⟩,⟨s0,s1⟩,nin⟩:=inv
 obtain⟨s,rfl⟩:∃k:Nat,s=(k:Int):=⟨s.toNat,by omega⟩
 have hs:s<n:=by omega
 rw[Int.toNat_natCast]at nin
 have hx0:nu[s]?=some 0:=by
  have hl:=m.bl.en.len
  obtain⟨y,hy⟩:∃y,nu[s]?=some y:=⟨_,List.getElem?_eq_getElem (by omega)⟩
  rcases m.bl.nu01 s y hy with rfl|rfl
  ·exact hy
  ·exact absurd hy nin
 have m1:=m.step st01
 have gX1:=st1.old h.next (Nat.lt_succ_self _)
 simp only[go_sem,seval]at gX1
 have gB:=m1.bl.sb.gB
 have gL:=m1.bl.gL
 have lX:h.next<h1.next:=Nat.lt_of_lt_of_le (Nat.lt_succ_self _) st1.next
 have lB:=m1.bl.sb.lB
 have lL:=m1.lL
 have x1:¬h.next=h1.next:=by omega
 have x2:¬a.B=h1.next:=by omega
 have x3:¬a.L=h1.next:=by omega
 have ov:=m1.rd.one
 obtain⟨_,_,⟨_,_⟩,_,_,_,_,hd,_,⟨tr0,tr1⟩,_⟩:=m.lay
 simp only[go_sem,seval,fe,gX1,gB,gL,cfgC,x1,x2,x3,ov]
 have st2:∀x,StepN h1 ⟨h1.next+1,h1.t.set h1.next x⟩:=fun x=>StepN.new h1 x
 refine opt_by (h48 _ c.kind c.n k z.cv c.cuts hd ((m1.step (st2 _)).rd) (fun b hb=>(m1.step (st2 _)).lc b hb) m.cu k0) fun v3 h3 p3=>?_
 obtain⟨⟨u,rfl,u0,u1⟩,st3⟩:=p3
 have nx3:h1.next+1<=h3.next:=st3.next
 have gD3:=st3.old h1.next (Nat.lt_succ_self _)
 have gX3:=st3.old h.next (by show h.next<h1.next+1;omega)
 simp only[go_sem,seval,x1,gX1]at gD3 gX3
 have st4:∀x,StepN h1 ⟨h3.next,h3.t.set h1.next x⟩:=fun x=>⟨by show h1.next<=h3.next;omega,fun b hb=>by
  have e1:¬b=h1.next:=by omega
  simp only[go_sem,seval,e1]
  exact((st2 _).trans st3).old b hb⟩
 have fin:∀(get:Bool) (v:AV) (h5:H) x,get=decide (kd=3)->Post49 a rk n lv ev ws l es h1.next get ⟨h3.next,h3.t.set h1.next x⟩ v h5->PostNB a rk n lv ev ws l es nu kd t (s:Int) h (.tup [.ptr h1.next 0,.int .i64 0]) h5:=fun get v h5 x hg p=>by
  obtain⟨_,pb,sb,st5⟩:=p
  refine .inr ⟨e0,h1.next,rfl,hg▸pb,sb,by have:=st5.next;have:=((st01.trans (st4 x))).next;simp only at*;omega,fun b lb hb=>?_⟩
  rw[st5.old b (Nat.lt_of_lt_of_le lb (st01.trans (st4 x)).next) fun q=>by
   rcases q with q|q|q
   ·exact hb (.inl q)
   ·exact hb (.inr q)
   ·omega]
  exact(st01.trans (st4 x)).old b lb
 have dS:∀b,sbF a lv ev b->b≠h1.next:=fun b hb q=>by have:=m1.bl.sb.lt hb;omega
 have dE:∀b,rkF rk b->b≠h1.next:=fun b hb q=>by have:=m1.lE b hb;omega
 by_cases k3:kd=3
 ·subst k3
  have ks:true=decide ((3:Int)=3):=rfl
  simp only[go_sem,seval,nx3,gD3,gX3,gX1,gB,gL,x1,x2,x3]
  refine opt_by (hb _ a z rk c n lv ev ws l es nu t u s h1.next _ (m1.step (st4 _)) (by show h1.next<h3.next;omega) (by simp only[go_sem,seval];rfl) rfl rfl rfl rfl rfl t0 t1 u0 u1 hs hx0 dS (by omega) dE) fun v5 h5 p5=>?_
  simp only[go_sem,seval]
  exact fin true v5 h5 _ ks p5
 ·have ks:false=decide (kd=3):=(decide_eq_false k3).symm
  simp only[go_sem,seval,nx3,gD3,gX3,gX1,gB,gL,x1,x2,x3,k3]
  refine opt_by (ha _ a z rk c n lv ev ws l es nu t k h1.next _ (m1.step (st4 _)) (by show h1.next<h3.next;omega) (by simp only[go_sem,seval];rfl) rfl rfl rfl rfl t0 t1 dS (by omega)) fun v5 h5 p5=>?_
  simp only[go_sem,seval]
  exact fin false v5 h5 _ ks p5
def F15(call:CallE):Prop:=∀h a z rk c n lv ev ws l es nu (t s kd k o1 o2 o3 o4 o5:Int) (Q:Nat),BM h a z rk c n lv ev ws l es nu->0<=k->Does call 15 [.ptr a.B 0,.int .i64 t,.int .i64 s,.agg [.int .u8 kd,.int .u64 k,.int .u64 o1,.int .u64 o2,.int .u64 o3,.int .u64 o4,.int .u64 o5],.ptr Q 0] h (PostNB a rk n lv ev ws l es nu kd t s h)
def TwoE(hL h:H)(A B:Nat)(c:CfgT)(n m:Nat):Prop:=∃a ek lv ev b z rk lv2 ev2 ws l es,a.A=A∧b.B=B∧SA h a ek n lv ev ws l es∧StaA h a c hL∧SB h b rk n lv2 ev2 ws l es∧StaB h b z c∧l.length<=m∧es.length<=m∧ws.length<=65536
theorem TwoE.step{hL h h':H}{A B:Nat}{c:CfgT}{n m:Nat}(t:TwoE hL h A B c n m)(s:StepN h h'):TwoE hL h' A B c n m:=by
 obtain⟨a,ek,lv,ev,b,z,rk,lv2,ev2,ws,l,es,ea,eb,sa,ta,sb,tb,ll,le⟩:=t
 exact⟨a,ek,lv,ev,b,z,rk,lv2,ev2,ws,l,es,ea,eb,sa.step s,ta.keep s.next fun b lb _=>s.old b lb,sb.step s,tb.keep s.next fun b lb _=>s.old b lb,ll,le⟩
theorem TwoE.fz{hL h:H}{A B:Nat}{c:CfgT}{n m:Nat}(t:TwoE hL h A B c n m):StepN hL h:=by
 obtain⟨a,ek,lv,ev,b,z,rk,lv2,ev2,ws,l,es,ea,eb,sa,ta,_⟩:=t
 exact ta.fz
theorem TwoS.e{hL h:H}{P:Nat->Prop}{A B:Nat}{c:CfgT}{n m:Nat}{nu:List Int}(t:TwoS hL h P A B c n m nu):TwoE hL h A B c n m:=by
 obtain⟨a,ek,lv,ev,b,z,rk,lv2,ev2,ws,l,es,ea,eb,t⟩:=t
 exact⟨a,ek,lv,ev,b,z,rk,lv2,ev2,ws,l,es,ea,eb,t.A.sa,t.A.st,t.B.sb,t.B.st,t.w.ll,t.w.le,t.w.wl⟩
def tyB(e:TypeId):Prop:=e=364∨e=375∨e=3
theorem PtA.keepT{h h':H}{D:Nat}{ek:EK}{get:Bool}(m:PtA h D ek get)(hn:h.next<=h'.next)(k:∀b c k e,b<h.next->h.t.get b=some (.row c k e)->¬tyB e->h'.t.get b=h.t.get b):PtA h' D ek get:=by
 obtain⟨lD,cells,gD,hl,c19,mm⟩:=m
 have l:∀{b},b<h.next->b<h'.next:=fun hb=>Nat.lt_of_lt_of_le hb hn
 have k':∀{b c n e},b<h.next->h.t.get b=some (.row c n e)->¬tyB e->h'.t.get b=some (.row c n e):=fun lb g hne=>(k _ _ _ _ lb g hne).trans g
 refine⟨l lD,cells,k' lD gD (by unfold tyB;decide),hl,c19,?_⟩
 cases get with
 |true=>
  rw[if_pos rfl]at mm⊢
  obtain⟨Z,c12,X,Q,x,y,z,gZ,gQ,nx,lX,lQ,lZ⟩:=mm
  refine⟨Z,c12,X,Q,x,y,z,k' lZ gZ (by unfold tyB;decide),k' lQ gQ (by unfold tyB;decide),?_,l lX,l lQ,l lZ⟩
  cases ek with
  |full G N B=>obtain⟨a,b,c,f,x,y,g⟩:=nx;exact⟨a,b,c,f,x,y,k' lX g (by unfold tyB;decide)⟩
  |each G N F=>obtain⟨a,b,c,d,g⟩:=nx;exact⟨a,b,c,d,k' lX g (by unfold tyB;decide)⟩
  |gate G S nb Sx=>obtain⟨a,b,c,d,e,f,Y,g,gY,lY⟩:=nx;exact⟨a,b,c,d,e,f,Y,k' lX g (by unfold tyB;decide),k' lY gY (by unfold tyB;decide),l lY⟩
 |false=>
  rw[if_neg (by decide)]at mm⊢
  obtain⟨L,c12,lL,lc,g,l12⟩:=mm
  exact⟨L,c12,l lL,lc,k' lL g (by unfold tyB;decide),l12⟩
theorem PtB.step{h h':H}{D:Nat}{rk:RK}{get:Bool}(m:PtB h D rk get)(s:StepN h h'):PtB h' D rk get:=by
 obtain⟨lD,cells,gD,hl,mm⟩:=m
 refine⟨Nat.lt_of_lt_of_le lD s.next,cells,(s.old D lD).trans gD,hl,?_⟩
 cases get with
 |true=>
  rw[if_pos rfl]at mm⊢
  obtain⟨Z,c12,c14,nz⟩:=mm
  exact⟨Z,c12,c14,nz.step s⟩
 |false=>
  rw[if_neg (by decide)]at mm⊢
  obtain⟨L,c12,c13,lL,nz⟩:=mm
  exact⟨L,c12,c13,Nat.lt_of_lt_of_le lL s.next,nz.step (s.old L lL)⟩
theorem SideB.bm{h:H}{a:AdB}{z:AdS}{rk:RK}{c:CfgT}{n:Nat}{lv ev:AV}{ws:List Int}{l:List AccT}{es:List EvT}{nu:List Int}(m:SideB h a z rk c n lv ev ws l es nu)(nw:n<=ws.length)(n64:n<=64)(nu01:∀(i:Nat) (x:Int),nu[i]?=some x->x=0∨x=1)(lay:layB c)(cu:∀x∈c.cuts,inU x):BM h a z rk c n lv ev ws l es nu:=
 ⟨⟨m.sb,m.st.gL,m.en,m.sl,nw,n64,nu01⟩,m.st.rd,m.st.lc,m.st.lL,lay,cu,fun b hb=>m.en.lt hb⟩
def opV(kd k o1 o2 o3 o4 o5:Int):AV:=.agg [.int .u8 kd,.int .u64 k,.int .u64 o1,.int .u64 o2,.int .u64 o3,.int .u64 o4,.int .u64 o5]
theorem two_new{call:CallE}(h14:F14 call)(h15:F15 call)(h16:F16 call)(h17:F17 call){hL h:H}{P:Nat->Prop}{A B:Nat}{c:CfgT}{n m:Nat}{nu:List Int}(q:TwoS hL h P A B c n m nu)(lay:layB c)(cu:∀x∈c.cuts,inU x)(t s kd k o1 o2 o3 o4 o5:Int)(k0:0<=k)(Q Q2:Nat):
 ∃v1 h1,call 14 [.ptr A 0,.int .i64 t,.int .i64 s,opV kd k o1 o2 o3 o4 o5,.ptr Q 0] h=some (v1,h1)∧∃v2 h2,call 15 [.ptr B 0,.int .i64 t,.int .i64 s,opV kd k o1 o2 o3 o4 o5,.ptr Q2 0] h1=some (v2,h2)∧Kp2 (fun x=>P x∨x<hL.next) h h1∧Kp2 (fun x=>P x∨x<hL.next) h1 h2∧((∃e:Int,e≠0∧v1=.tup [.nilp,.int .i64 e]∧v2=.tup [.nilp,.int .i64 e]∧TwoS hL h2 P A B c n m nu)∨∃D D2,v1=.tup [.ptr D 0,.int .i64 0]∧v2=.tup [.ptr D2 0,.int .i64 0]∧∃pc h3,call 16 [.ptr D 0] h2=some (.int .u8 pc,h3)∧call 17 [.ptr D2 0] h3=some (.int .u8 pc,h3)∧Kp2 (fun x=>P x∨x<hL.next) h h3∧TwoE hL h3 A B c n m):=by
 obtain⟨a,ek,lv,ev,b,z,rk,lv2,ev2,ws,l,es,rfl,rfl,q⟩:=q
 obtain⟨v1,h1,k1,p1⟩:=h14 h a ek c n hL lv ev ws l es nu t s kd k o1 o2 o3 o4 o5 Q ⟨q.A,lay,q.w.nw,q.n64,q.nu01⟩ k0
 have n1:h.next<=h1.next:=by
  rcases p1 with⟨_,_,st⟩|⟨_,D,_,_,_,st⟩
  ·exact st.next
  ·exact st.next
 have eV:∀y,engM ek y∨y=a.V->footA a ek lv ev hL y:=fun y hy=>hy.elim (fun q=>.inr (.inl (engM_F q))) fun q=>.inl (.inr (.inr (.inr (.inl q))))
 have o1':∀y,y<h.next->¬footA a ek lv ev hL y->h1.t.get y=h.t.get y:=fun y ly hy=>by
  rcases p1 with⟨_,_,st⟩|⟨_,D,_,_,_,st⟩
  ·exact st.old y ly
  ·exact st.old y ly fun q=>hy (eV y q)
 have B1:=q.B.keep n1 fun y ly hy=>o1' y ly fun hq=>q.d y hq hy
 obtain⟨v2,h2,k2,p2⟩:=h15 h1 b z rk c n lv2 ev2 ws l es nu t s kd k o1 o2 o3 o4 o5 Q2 (B1.bm q.w.nw q.n64 q.nu01 lay cu) k0
 have n2:h1.next<=h2.next:=by
  rcases p2 with⟨_,_,st⟩|⟨_,D,_,_,_,st⟩
  ·exact st.next
  ·exact st.next
 have rV:∀y,rkM rk y∨y=b.V->footB b z rk lv2 ev2 y:=fun y hy=>hy.elim (fun q=>.inr (.inl (rkM_F q))) fun q=>.inl (.inr (.inr (.inr (.inl q))))
 have o2':∀y,y<h1.next->¬footB b z rk lv2 ev2 y->h2.t.get y=h1.t.get y:=fun y ly hy=>by
  rcases p2 with⟨_,_,st⟩|⟨_,D,_,_,_,st⟩
  ·exact st.old y ly
  ·exact st.old y ly fun q=>hy (rV y q)
 have lS:∀y,y<hL.next->y<h.next:=fun y hy=>Nat.lt_of_lt_of_le hy q.A.st.fz.next
 have o1s:∀y,y<hL.next->h1.t.get y=h.t.get y:=fun y hy=>by
  rcases p1 with⟨_,_,st⟩|⟨_,D,_,_,_,st⟩
  ·exact st.old y (lS y hy)
  ·exact st.old y (lS y hy) fun hq=>q.A.ds y (hq.elim (fun q=>.inr (engM_F q)) fun q=>.inl (.inr (.inr (.inr (.inl q))))) (.inl hy)
 have k1P:∀y,P y∨y<hL.next->y<h.next∧h1.t.get y=h.t.get y∧¬footB b z rk lv2 ev2 y:=fun y hy=>hy.elim (fun hy=>⟨q.lP y hy,o1' y (q.lP y hy) fun hq=>q.p y (.inl hq) hy,fun hq=>q.p y (.inr hq) hy⟩) fun hy=>⟨lS y hy,o1s y hy,q.d y (.inr (.inr (.inl hy)))⟩
 have K1:Kp2 (fun x=>P x∨x<hL.next) h h1:=⟨n1,fun y hy=>(k1P y hy).2.1⟩
 have K12:Kp2 (fun x=>P x∨x<hL.next) h1 h2:=⟨n2,fun y hy=>o2' y (Nat.lt_of_lt_of_le (k1P y hy).1 n1) (k1P y hy).2.2⟩
 have K2:Kp2 (fun x=>P x∨x<hL.next) h h2:=⟨Nat.le_trans n1 n2,fun y hy=>(o2' y (Nat.lt_of_lt_of_le (k1P y hy).1 n1) (k1P y hy).2.2).trans (k1P y hy).2.1⟩
 refine⟨v1,h1,k1,v2,h2,k2,K1,K12,?_⟩
 rcases p1 with⟨e1,rfl,st1⟩|⟨e1,D,rfl,pa,sa,st1⟩
 ·rcases p2 with⟨e2,rfl,st2⟩|⟨e2,D,_⟩
  ·exact .inl ⟨_,e1,rfl,rfl,a,ek,lv,ev,b,z,rk,lv2,ev2,ws,l,es,rfl,rfl,(q.keep st1.next fun x lx _=>st1.old x lx).keep st2.next fun x lx _=>st2.old x lx⟩
  ·exact absurd e2 e1
 ·rcases p2 with⟨e2,_⟩|⟨_,D2,rfl,pb,sb,st2⟩
  ·exact absurd e1 e2
  ·have et:=tag_eq q.A.tg q.B.tg
   have tB:∀y,rkM rk y∨y=b.V->∃c k e,h1.t.get y=some (.row c k e)∧tyB e:=fun y hy=>by
        rcases hy with hy|rfl
        ·obtain⟨⟨c,k,e,g,o⟩,_⟩:=B1.en.ty hy
         exact⟨c,k,e,g,o.elim .inl fun q=>.inr (.inl q)⟩
        ·obtain⟨cs,g,_⟩:=B1.sb.gV
         exact⟨_,_,_,g,.inr (.inr rfl)⟩
   have pa2:=pa.keepT n2 fun y c k e ly g hne=>st2.old y ly fun hq=>by
        obtain⟨c',k',e',g',o⟩:=tB y hq
        exact hne (ty_ne g' g▸o)
   obtain⟨v3,h3,k3,rfl,st3⟩:=h16 h2 D ek (decide (kd=3)) pa2
   have k4:=h17 h3 D2 rk (decide (kd=3)) (pb.step st3)
   rw[et]at k4
   have sa2:=sa.keep n2 fun y ly hy=>st2.old y ly fun hq=>q.d y (.inl hy) (rV y hq)
   have ta1:=q.A.st.keep n1 fun y ly hy=>st1.old y ly fun hq=>q.A.ds y (hq.elim (fun q=>.inr (engM_F q)) fun q=>.inl (.inr (.inr (.inr (.inl q))))) hy
   have ta2:=ta1.keep n2 fun y ly hy=>st2.old y ly fun hq=>q.d y (.inr (.inr hy)) (rV y hq)
   have tb2:=B1.st.keep n2 fun y ly hy=>st2.old y ly fun hq=>B1.ds y (hq.elim (fun q=>.inr (rkM_F q)) fun q=>.inl (.inr (.inr (.inr (.inl q))))) hy
   have te:TwoE hL h2 a.A b.B c n m:=⟨a,ek,lv,ev,b,z,rk,lv2,ev2,ws,l,es,rfl,rfl,sa2,ta2,sb,tb2,q.w.ll,q.w.le,q.w.wl⟩
   exact .inr ⟨D,D2,rfl,rfl,_,h3,k3,k4,⟨Nat.le_trans K2.next st3.next,fun y hy=>(st3.old y (Nat.lt_of_lt_of_le (k1P y hy).1 K2.next)).trans (K2.old y hy)⟩,te.step st3⟩
def c59_l8:CC:=(Qq (Sq [a 11 5,a 12 0,A 13 12,qb 14 3 11 13] (Cq 14 .skip (.exit 0))) (Qq (.block 1 (Qq (.drw ⟨[([g 0 0,g 1 5,Q 2 17 0 18 1 1,k 3 19 2,g 4 1,g 5 5,Q 6 21 4 22 5 1,k 7 23 6,q0 8 20 3 24 7 51],none)],[(0,17),(1,18),(2,19),(3,20),(4,21),(5,22),(6,23),(7,24),(8,25)],[]⟩) (Kq 25 [G 4] .skip))) (Oq [a 15 5,C 16 3 15 1,a 5 16])))
@[go_sem]def c59:CF:=⟨2,(Sq [G 4] (Qq (Sq [a 6 0,A 7 6,a 8 1,A 9 8,qK 10 3 7 9] (Kq 10 [G 4] .skip)) (Qq (Sq [b 5 0] (.block 0 (.loop c59_l8))) (Rq [qx 4])))),[.tmp 4]⟩
def c61_l8:CC:=(Qq (Sq [a 11 5,a 12 0,A 13 12,qb 14 3 11 13] (Cq 14 .skip (.exit 0))) (Qq (.block 1 (Qq (.drw ⟨[([g 0 0,g 1 5,Q 2 17 0 18 1 6,qD 3 19 2 6,g 4 1,g 5 5,Q 6 21 4 22 5 6,qD 7 23 6 6,q0 8 20 3 24 7 296],none)],[(0,17),(1,18),(2,19),(3,20),(4,21),(5,22),(6,23),(7,24),(8,25)],[]⟩) (Kq 25 [G 4] .skip))) (Oq [a 15 5,C 16 3 15 1,a 5 16])))
@[go_sem]def c61:CF:=⟨2,(Sq [G 4] (Qq (Sq [a 6 0,A 7 6,a 8 1,A 9 8,qK 10 3 7 9] (Kq 10 [G 4] .skip)) (Qq (Sq [b 5 0] (.block 0 (.loop c61_l8))) (Rq [qx 4])))),[.tmp 4]⟩
def c63_l8:CC:=(Qq (Sq [a 11 5,a 12 0,A 13 12,qb 14 3 11 13] (Cq 14 .skip (.exit 0))) (Qq (.block 1 (Qq (.drw ⟨[([g 0 0,g 1 5,Q 2 17 0 18 1 4,qD 3 19 2 4,g 4 1,g 5 5,Q 6 21 4 22 5 4,qD 7 23 6 4,q0 8 20 3 24 7 231],none)],[(0,17),(1,18),(2,19),(3,20),(4,21),(5,22),(6,23),(7,24),(8,25)],[]⟩) (Kq 25 [G 4] .skip))) (Oq [a 15 5,C 16 3 15 1,a 5 16])))
@[go_sem]def c63:CF:=⟨2,(Sq [G 4] (Qq (Sq [a 6 0,A 7 6,a 8 1,A 9 8,qK 10 3 7 9] (Kq 10 [G 4] .skip)) (Qq (Sq [b 5 0] (.block 0 (.loop c63_l8))) (Rq [qx 4])))),[.tmp 4]⟩
def c65_l8:CC:=(Qq (Sq [a 11 5,a 12 0,A 13 12,qb 14 3 11 13] (Cq 14 .skip (.exit 0))) (Qq (.block 1 (Qq (.drw ⟨[([g 0 0,g 1 5,Q 2 17 0 18 1 1,k 3 19 2,g 4 1,g 5 5,Q 6 21 4 22 5 1,k 7 23 6,q0 8 20 3 24 7 3],none)],[(0,17),(1,18),(2,19),(3,20),(4,21),(5,22),(6,23),(7,24),(8,25)],[]⟩) (Kq 25 [G 4] .skip))) (Oq [a 15 5,C 16 3 15 1,a 5 16])))
@[go_sem]def c65:CF:=⟨2,(Sq [G 4] (Qq (Sq [a 6 0,A 7 6,a 8 1,A 9 8,qK 10 3 7 9] (Kq 10 [G 4] .skip)) (Qq (Sq [b 5 0] (.block 0 (.loop c65_l8))) (Rq [qx 4])))),[.tmp 4]⟩
@[go_sem]def c144:CF:=⟨1,(Sq [b 2 0] (Qq (Sq [a 3 0,u 4 86 3] (Kq 4 [b 2 0] .skip)) (Rq [a 5 0,m 6 5,d 7 1 6,i 8 7,A 9 8,a 2 9]))),[.tmp 2]⟩
@[go_sem]def c62:CF:=⟨2,(Sq [D 4] (Qq (Sq [a 6 1,K 7 3 6 0,a 8 7,s 9 8 1,s 10 8 0,q4 11 8 144 10,qw 12 8 3 9 11,r 13 8 12] (Kq 13 [D 4] .skip)) (Sq [a 14 0,m 15 14,d 16 1 15,i 17 16,A 18 17,a 19 1,qH 20 3 18 19,⟨some 21,none,.n (.mksl 296 6 48 [iz,iz,bz,uz,uz,fz] (.t 20) (.t 20))⟩,a 5 21] (Sq [a 22 5,a 23 0,m 24 23,d 25 1 24,i 26 25,a 27 1,⟨some 28,none,.p (.slc 6 (.t 26) (some (.t 27)) none none)⟩,⟨some 29,none,.w ⟨6,.t 22,.t 28⟩⟩] (Rq [a 30 5,a 4 30]))))),[.tmp 4]⟩
@[go_sem]def c145:CF:=⟨1,(Sq [D 2] (Qq (Sq [a 3 0,z0 4 47 3] (Kq 4 [D 2] .skip)) (Rq [zh 5 231 4 0,a 6 0,qj 7 231 4 32 5 6,a 2 7]))),[.tmp 2]⟩
@[go_sem]def c64:CF:=⟨1,(Sq [D 2] (Qq (Sq [a 3 0,u 4 30 3] (Kq 4 [D 2] .skip)) (Rq [a 5 0,m 6 5,d 7 6 6,i 8 7,q 9 145 8,a 2 9]))),[.tmp 2]⟩
class PE(P:Program):Prop extends PQ P where
 ne296:∀t a k x y b,evBin P .neq 296 false false (.agg [.int .i64 t,.int .i64 a,.int .u8 k,.int .u64 x,.int .u64 y,.bool b]) (.agg [.int .i64 t,.int .i64 a,.int .u8 k,.int .u64 x,.int .u64 y,.bool b])=some (.bool false)
 ne231:∀a t k x,evBin P .neq 231 false false (.agg [.int .i64 a,.int .i64 t,.int .u8 k,.int .u64 x]) (.agg [.int .i64 a,.int .i64 t,.int .u8 k,.int .u64 x])=some (.bool false)
def aL{α:Type}(C:α->List AV)(l:List α):List AV:=l.map fun a=>.agg (C a)
theorem flat_part{α:Type}{C:α->List AV}{k:Nat}(hC:∀a,(C a).length=k):∀(l:List α) (i:Nat) (x:α),l[i]?=some x->((l.flatMap C).drop (i*k)).take k=C x
 | [],i,x,h=>by simp at h
 |a::l,0,x,h=>by
  obtain rfl:a=x:=by simpa using h
  rw[Nat.zero_mul,List.drop_zero,List.flatMap_cons,List.take_left' (hC a)]
 |a::l,i+1,x,h=>by
  have:=flat_part hC l i x (by simpa using h)
  rw[List.flatMap_cons,Nat.succ_mul,Nat.add_comm (i*k) k,←List.drop_drop,List.drop_left' (hC a)]
  exact this
theorem flat_len{α:Type}{C:α->List AV}{k:Nat}(hC:∀a,(C a).length=k):∀l:List α,(l.flatMap C).length=l.length*k
 | []=>by simp
 |a::l=>by rw[List.flatMap_cons,List.length_append,flat_len hC l,hC,List.length_cons,Nat.succ_mul,Nat.add_comm]
theorem own_rdA{α:Type}{C:α->List AV}{k:Nat}(hC:∀a,(C a).length=k){e:TypeId}{h:H}{v:AV}{l:List α}(o:Own k e h v l.length (l.flatMap C))(hl:l.length<=281474976710656):RdL (some k) k h v (aL C l):=by
 have la:(aL C l).length=l.length:=List.length_map _
 generalize hn:l.length=n at*
 generalize hc:l.flatMap C=cs at*
 cases o with
 |nil=>exact .inl ⟨rfl,by rw[List.length_eq_zero_iff.1 la]⟩
 |sl a len cs cap hc0 hp hcl ha hg=>
  refine .inr ⟨a,0,cap,by rw[la],by omega,fun i x hx=>?_⟩
  unfold aL at hx
  rw[List.getElem?_map]at hx
  obtain⟨y,hy,rfl⟩:∃y,l[i]?=some y∧AV.agg (C y)=x:=by
   cases hq:l[i]? with
   |none=>rw[hq]at hx;cases hx
   |some y=>rw[hq]at hx;exact⟨y,rfl,Option.some.inj hx⟩
  have hi:=(List.getElem?_eq_some_iff.1 hy).1
  have hp:=flat_part hC l i y hy
  rw[hc]at hp
  unfold ldA
  rw[hg]
  show(match getList (putList 0 cs T.e) (0+i*k) k with|some l=>some (AV.agg l)|none=>none)=_
  have hle:i*k+k<=cs.length:=by
   rw[hcl,←Nat.succ_mul]
   exact Nat.mul_le_mul_right k (by omega)
  rw[Nat.zero_add,getList_row,if_pos (.inl hle),hp]
theorem rdA_get{α:Type}{C:α->List AV}{k:Nat}{h:H}{v:AV}{l:List α}{i:Nat}{x:α}(r:RdL (some k) k h v (aL C l))(hx:l[i]?=some x):∃a o cap,v=.sl a o l.length k cap∧ldA h.t.get (some k) a (o+i*k)=some (.agg (C x)):=by
 have la:(aL C l).length=l.length:=List.length_map _
 rcases r with⟨_,e⟩|⟨a,o,cap,e,_,g⟩
 ·rw[e]at la
  have:=(List.getElem?_eq_some_iff.1 hx).1
  simp at la;omega
 ·exact⟨a,o,cap,by rw[e,la],g i _ (by unfold aL;rw[List.getElem?_map,hx];rfl)⟩
def I59(h0:H)(v w:AV)(l:List Int)(k:Nat)(tm:T AV)(h:H):Prop:=tm.get 0=some v∧tm.get 1=some w∧h=h0∧∃i:Nat,i+k=l.length∧tm.get 5=some (.int .i64 (i:Int))
theorem step59(P:Program)[pe:PE P]{call:CallE}{h0:H}{v w:AV}{l:List Int}(hv:RdL none 1 h0 v (uL l))(hw:RdL none 1 h0 w (uL l))(hl:l.length<=1000000)(k:Nat)(tm:T AV)(h:H)(hI:I59 h0 v w l k tm h):
 WC P call c59_l8 (loopQ 0 (fun tm h=>∃j,j<k∧I59 h0 v w l j tm h) (fun tm h=>h=h0) (fun _ _=>False)) tm h:=by
 obtain⟨t0,t1,rfl,i,hik,t5⟩:=hI
 have hla:=hv.lenA
 rw[uL_len]at hla
 cases k with
 |zero=>
  have e1:¬(i:Int)<(l.length:Int):=by omega
  simp only[go_sem,seval,c59_l8,t0,t5,hla,e1]
 |succ k=>
  have e1:(i:Int)<(l.length:Int):=by omega
  have f1:fw .i64 ((i:Int)+1)=(i:Int)+1:=fwI (by omega) (by omega)
  have e3:((i+1:Nat):Int)=(i:Int)+1:=rfl
  obtain⟨x,hx⟩:∃x,l[i]?=some x:=⟨_,List.getElem?_eq_getElem (by omega)⟩
  obtain⟨a,o,cap,rfl,g⟩:=rd_get hv hx
  obtain⟨a',o',cap',rfl,g'⟩:=rd_get hw hx
  rw[rLdA]at g g'
  simp only[go_sem,seval,c59_l8,t0,t1,t5,e1,Nat.mul_one,g,g',f1]
  exact⟨k,Nat.lt_succ_self k,by simp[go_sem,t0],by simp[go_sem,t1],rfl,i+1,by omega,by simp[go_sem,e3]⟩
theorem w59(P:Program)[PE P]{call:CallE}{h:H}{v w:AV}{l:List Int}(hv:RdL none 1 h v (uL l))(hw:RdL none 1 h w (uL l))(hl:l.length<=1000000):WF P call c59 [v,w] h fun v' h'=>v'=.bool true∧h'=h:=by
 have l1:=hv.lenA
 have l2:=hw.lenA
 rw[uL_len]at l1 l2
 simp only[go_sem,seval,l1,l2]
 refine loop_in (I59 h v w l) _ _ (fun k tm h' hI=>step59 P hv hw hl k tm h' hI) (fun tm2 h2 hR=>?_) (fun _ _ hh=>hh.elim) l.length _ _
  ⟨by simp[go_sem],by simp[go_sem],rfl,0,by omega,by simp[go_sem]⟩
 subst hR
 simp only[go_sem,seval]
def F59(call:CallE):Prop:=∀h v w (l:List Int),RdL none 1 h v (uL l)->RdL none 1 h w (uL l)->l.length<=1000000->call 59 [v,w] h=some (.bool true,h)
theorem aL_len{α:Type}(C:α->List AV)(l:List α):(aL C l).length=l.length:=List.length_map _
def I61(h0:H)(v w:AV)(l:List AccT)(k:Nat)(tm:T AV)(h:H):Prop:=tm.get 0=some v∧tm.get 1=some w∧h=h0∧∃i:Nat,i+k=l.length∧tm.get 5=some (.int .i64 (i:Int))
theorem step61(P:Program)[pe:PE P]{call:CallE}{h0:H}{v w:AV}{l:List AccT}(hv:RdL (some 6) 6 h0 v (aL accC l))(hw:RdL (some 6) 6 h0 w (aL accC l))(hl:l.length<=1000000)(k:Nat)(tm:T AV)(h:H)(hI:I61 h0 v w l k tm h):
 WC P call c61_l8 (loopQ 0 (fun tm h=>∃j,j<k∧I61 h0 v w l j tm h) (fun tm h=>h=h0) (fun _ _=>False)) tm h:=by
 obtain⟨t0,t1,rfl,i,hik,t5⟩:=hI
 have hla:=hv.lenA
 rw[aL_len]at hla
 cases k with
 |zero=>
  have e1:¬(i:Int)<(l.length:Int):=by omega
  simp only[go_sem,seval,c61_l8,t0,t5,hla,e1]
 |succ k=>
  have e1:(i:Int)<(l.length:Int):=by omega
  have f1:fw .i64 ((i:Int)+1)=(i:Int)+1:=fwI (by omega) (by omega)
  have e3:((i+1:Nat):Int)=(i:Int)+1:=rfl
  obtain⟨x,hx⟩:∃x,l[i]?=some x:=⟨_,List.getElem?_eq_getElem (by omega)⟩
  obtain⟨a,o,cap,rfl,g⟩:=rdA_get hv hx
  obtain⟨a',o',cap',rfl,g'⟩:=rdA_get hw hx
  rw[rLdA]at g g'
  simp only[go_sem,seval,c61_l8,t0,t1,t5,e1,Nat.mul_one,g,g',f1,accC,pe.ne296]
  exact⟨k,Nat.lt_succ_self k,by simp[go_sem,t0],by simp[go_sem,t1],rfl,i+1,by omega,by simp[go_sem,e3]⟩
theorem w61(P:Program)[PE P]{call:CallE}{h:H}{v w:AV}{l:List AccT}(hv:RdL (some 6) 6 h v (aL accC l))(hw:RdL (some 6) 6 h w (aL accC l))(hl:l.length<=1000000):WF P call c61 [v,w] h fun v' h'=>v'=.bool true∧h'=h:=by
 have l1:=hv.lenA
 have l2:=hw.lenA
 rw[aL_len]at l1 l2
 simp only[go_sem,seval,l1,l2]
 refine loop_in (I61 h v w l) _ _ (fun k tm h' hI=>step61 P hv hw hl k tm h' hI) (fun tm2 h2 hR=>?_) (fun _ _ hh=>hh.elim) l.length _ _
  ⟨by simp[go_sem],by simp[go_sem],rfl,0,by omega,by simp[go_sem]⟩
 subst hR
 simp only[go_sem,seval]
def F61(call:CallE):Prop:=∀h v w (l:List AccT),RdL (some 6) 6 h v (aL accC l)->RdL (some 6) 6 h w (aL accC l)->l.length<=1000000->call 61 [v,w] h=some (.bool true,h)
def I63(h0:H)(v w:AV)(l:List EvT)(k:Nat)(tm:T AV)(h:H):Prop:=tm.get 0=some v∧tm.get 1=some w∧h=h0∧∃i:Nat,i+k=l.length∧tm.get 5=some (.int .i64 (i:Int))
theorem step63(P:Program)[pe:PE P]{call:CallE}{h0:H}{v w:AV}{l:List EvT}(hv:RdL (some 4) 4 h0 v (aL evC l))(hw:RdL (some 4) 4 h0 w (aL evC l))(hl:l.length<=1000000)(k:Nat)(tm:T AV)(h:H)(hI:I63 h0 v w l k tm h):
 WC P call c63_l8 (loopQ 0 (fun tm h=>∃j,j<k∧I63 h0 v w l j tm h) (fun tm h=>h=h0) (fun _ _=>False)) tm h:=by
 obtain⟨t0,t1,rfl,i,hik,t5⟩:=hI
 have hla:=hv.lenA
 rw[aL_len]at hla
 cases k with
 |zero=>
  have e1:¬(i:Int)<(l.length:Int):=by omega
  simp only[go_sem,seval,c63_l8,t0,t5,hla,e1]
 |succ k=>
  have e1:(i:Int)<(l.length:Int):=by omega
  have f1:fw .i64 ((i:Int)+1)=(i:Int)+1:=fwI (by omega) (by omega)
  have e3:((i+1:Nat):Int)=(i:Int)+1:=rfl
  obtain⟨x,hx⟩:∃x,l[i]?=some x:=⟨_,List.getElem?_eq_getElem (by omega)⟩
  obtain⟨a,o,cap,rfl,g⟩:=rdA_get hv hx
  obtain⟨a',o',cap',rfl,g'⟩:=rdA_get hw hx
  rw[rLdA]at g g'
  simp only[go_sem,seval,c63_l8,t0,t1,t5,e1,Nat.mul_one,g,g',f1,evC,pe.ne231]
  exact⟨k,Nat.lt_succ_self k,by simp[go_sem,t0],by simp[go_sem,t1],rfl,i+1,by omega,by simp[go_sem,e3]⟩
theorem w63(P:Program)[PE P]{call:CallE}{h:H}{v w:AV}{l:List EvT}(hv:RdL (some 4) 4 h v (aL evC l))(hw:RdL (some 4) 4 h w (aL evC l))(hl:l.length<=1000000):WF P call c63 [v,w] h fun v' h'=>v'=.bool true∧h'=h:=by
 have l1:=hv.lenA
 have l2:=hw.lenA
 rw[aL_len]at l1 l2
 simp only[go_sem,seval,l1,l2]
 refine loop_in (I63 h v w l) _ _ (fun k tm h' hI=>step63 P hv hw hl k tm h' hI) (fun tm2 h2 hR=>?_) (fun _ _ hh=>hh.elim) l.length _ _
  ⟨by simp[go_sem],by simp[go_sem],rfl,0,by omega,by simp[go_sem]⟩
 subst hR
 simp only[go_sem,seval]
def F63(call:CallE):Prop:=∀h v w (l:List EvT),RdL (some 4) 4 h v (aL evC l)->RdL (some 4) 4 h w (aL evC l)->l.length<=1000000->call 63 [v,w] h=some (.bool true,h)
theorem w65(P:Program){call:CallE}{h:H}:WF P call c65 [.nils,.nils] h fun v' h'=>v'=.bool true∧h'=h:=by
 simp only[go_sem,seval]
 refine unroll 1 ?_
 simp only[go_sem,seval,c65_l8]
def F65(call:CallE):Prop:=∀h,call 65 [.nils,.nils] h=some (.bool true,h)
theorem own_src{k:Nat}{e:TypeId}{h:H}{v:AV}{len:Nat}{cs:List AV}(o:Own k e h v len cs)(hl:len*k<=281474976710656):srcA h.t.get k v=some (len,cs):=by
 cases o with
 |nil=>rfl
 |sl a len cs cap hc0 hp hcl ha hg=>
  obtain⟨m,rfl⟩:∃m,len=m+1:=⟨len-1,by omega⟩
  have c1:Nat.beq k k=true:=by simp
  have hg2:getList (putList 0 cs T.e) 0 ((m+1)*k)=some cs:=by
   rw[getList_row,if_pos (.inl (by omega)),List.drop_zero,List.take_of_length_le (by omega)]
  unfold srcA
  simp only[c1,cond_true,hg]
  show(match getList (putList 0 cs T.e) 0 ((m+1)*k)with|some l=>some (m+1,l)|none=>none)=_
  rw[hg2]
theorem w144{h:H}{M W:Nat}{lv:AV}{ws:List Int}{l:List AccT}(m:MemL h M W lv ws l):WF P call c144 [.ptr M 0] h fun v h'=>v=.int .i64 (l.length:Int)∧h'=h:=by
 have gM:=m.g
 have hl:=m.l.lenA
 simp only[go_sem,seval,gM,hl]
def F144(call:CallE):Prop:=∀h M W lv ws l,MemL h M W lv ws l->call 144 [.ptr M 0] h=some (.int .i64 ((l:List AccT).length:Int),h)
theorem accC_len(a:AccT):(accC a).length=6:=rfl
theorem evC_len(a:EvT):(evC a).length=4:=rfl
def PostLs(k:Nat)(xs:List AV)(h:H)(v:AV)(h':H):Prop:=StepN h h'∧RdL (some k) k h' v xs∧∀b,own v=some b->b<h'.next
theorem w145{h:H}{v:AV}{l:List EvT}(o:Own 4 231 h v l.length (evL l))(hl:l.length<=1000000):WF P call c145 [v] h (PostLs 4 (aL evC l) h):=by
 have la:=flat_len (C:=evC) evC_len l
 have hL:∀X:H,∀cap,h.next+1<X.next->0<l.length->X.t.get (h.next+1)=some (rowL (evL l) 231)->(cap=none∨cap=some l.length)->RdL (some 4) 4 X (.sl (h.next+1) 0 l.length 4 cap) (aL evC l):=fun X cap hn h0 hg hc=>own_rdA evC_len (.sl _ _ _ _ hc h0 la hn hg) (by omega)
 have os:=own_src o (by omega)
 have st0:=StepN.new h (.row (putList 0 [] T.e) 0 231)
 generalize hn:l.length=n at*
 generalize hcs:evL l=cs at*
 cases o with
 |nil=>
  have:l=[]:=List.length_eq_zero_iff.1 hn
  subst this
  simp only[go_sem,seval,snil470]
  exact⟨StepN.refl _,.inl ⟨rfl,rfl⟩,fun b hb=>(by cases hb)⟩
 |sl a len cs cap hc0 hp hcl ha hg=>
  have os':srcA (h.t.set h.next (.row (putList 0 [] T.e) 0 231)).get 4 (.sl a 0 n 4 cap)=some (n,cs):=by
   have e1:¬a=h.next:=by omega
   have:=own_src (h:=⟨h.next+1,h.t.set h.next (.row (putList 0 [] T.e) 0 231)⟩) (.sl a n cs cap hc0 hp hcl (Nat.lt_succ_of_lt ha) (by simp only[go_sem,seval,e1];exact hg)) (by omega)
   exact this
  simp only[go_sem,seval]at os'
  simp only[go_sem,seval,snil47,os']
  refine opt_some (appA_emp (by simp only[go_sem,seval];rfl) hp (by omega) (by omega)) ?_
  simp only[go_sem,seval]
  refine⟨⟨by show h.next<=h.next+1+1;omega,fun b hb=>?_⟩,hL _ _ (by show h.next+1<h.next+1+1;omega) (by omega) (by unfold appT;simp only[go_sem,seval]) (.inl rfl),fun b hb=>by cases hb;show h.next+1<h.next+1+1;omega⟩
  have e1:¬b=h.next:=by omega
  have e2:¬b=h.next+1:=by omega
  unfold appT
  simp only[go_sem,seval,e1,e2]
theorem evW_copy{tm:T AV}{h:H}{es a b n bl:Nat}{d s:Opd}{cs zs:List AV}{e e':TypeId}{cap cap':Option Nat}(hd:evo tm d=some (.sl a 0 n es cap))(hs:evo tm s=some (.sl b 0 n es cap'))(h0:0<n)(gb:h.t.get b=some (.row (putList 0 cs T.e) bl e'))(hl:cs.length=n*es)(ga:h.t.get a=some (.row (putList 0 zs T.e) (n*es) e))(hz:zs.length=n*es):
 evW tm h ⟨es,d,s⟩=some (.int .i64 (n:Int),⟨h.next,h.t.set a (.row (putList 0 cs T.e) (n*es) e)⟩):=by
 obtain⟨k,rfl⟩:∃k,n=k+1:=⟨n-1,by omega⟩
 have b1:Nat.ble (k+1) (k+1)=true:=Nat.ble_eq_true_of_le (Nat.le_refl _)
 have b2:Nat.beq es es=true:=by simp
 have b3:Nat.ble (0+(k+1)*es) ((k+1)*es)=true:=Nat.ble_eq_true_of_le (by omega)
 have g:getList (putList 0 cs T.e) 0 ((k+1)*es)=some cs:=by
  rw[getList_row,if_pos (.inl (by omega)),List.drop_zero,List.take_of_length_le (by omega)]
 unfold evW
 simp only[hd,hs,lenS,b1,b2,Bool.and_self,gb,ga,g,b3]
 rw[rowPutAll zs cs (by omega)]
 rfl
def F145(call:CallE):Prop:=∀h v (l:List EvT),Own 4 231 h v l.length (evL l)->l.length<=1000000->Does call 145 [v] h (PostLs 4 (aL evC l) h)
theorem w64(h145:F145 call){h:H}{a:AdA}{ek:EK}{n:Nat}{lv ev:AV}{ws:List Int}{l:List AccT}{es:List EvT}(sa:SA h a ek n lv ev ws l es)(hl:es.length<=1000000):WF P call c64 [.ptr a.A 0] h (PostLs 4 (aL evC es) h):=by
 have gA:=sa.gA
 simp only[go_sem,seval,gA]
 refine opt_by (h145 h ev es sa.oe hl) fun v1 h1 p1=>?_
 simp only[go_sem,seval]
 exact p1
def F64(call:CallE):Prop:=∀h a ek n lv ev ws l es,SA h a ek n lv ev ws l es->es.length<=1000000->Does call 64 [.ptr a.A 0] h (PostLs 4 (aL evC es) h)
theorem w62(h144:F144 call){h:H}{M W:Nat}{lv:AV}{ws:List Int}{l:List AccT}(m:MemL h M W lv ws l)(hl:l.length<=1000000):WF P call c62 [.ptr M 0,.int .i64 0] h (PostLs 6 (aL accC l) h):=by
 have gM:=m.g
 have k:=h144 h M W lv ws l m
 have o:=m.l
 have la:=flat_len (C:=accC) accC_len l
 have lM:=m.lM
 have M1:¬M=h.next:=by omega
 have hL:∀X:H,∀cap,h.next<X.next->0<l.length->X.t.get h.next=some (rowL (accL l) 296)->(cap=none∨cap=some l.length)->RdL (some 6) 6 X (.sl h.next 0 l.length 6 cap) (aL accC l):=fun X cap hn h0 hg hc=>own_rdA accC_len (.sl _ _ _ _ hc h0 la hn hg) (by omega)
 generalize hn:l.length=n at*
 generalize hcs:accL l=cs at*
 cases o with
 |nil=>
  have:l=[]:=List.length_eq_zero_iff.1 hn
  subst this
  simp only[go_sem,seval,k]
  exact⟨StepN.refl _,.inl ⟨rfl,rfl⟩,fun b hb=>(by cases hb)⟩
 |sl a len cs cap hc0 hp hcl ha hg=>
  have e1:(0:Int)<(n:Int):=by omega
  have e2:48*n<=281474976710656:=by omega
  have e3:n<=281474976710656:=by omega
  have f1:fw .i64 (n:Int)=(n:Int):=fwI (by omega) (by omega)
  have e4:0<n:=hp
  have A1:¬a=h.next:=by omega
  have e5:¬n=0:=by omega
  rcases hc0 with rfl|rfl
  ·simp only[go_sem,seval,k,gM,e1,Int.sub_zero,f1,evLenN,Nat.le_refl,e2,e3,decide_true,Bool.and_self,cond_true,M1]
   refine opt_some (evW_copy (a:=h.next) (b:=a) (n:=n) (cap:=some n) (cap':=none) (bl:=cs.length) (e:=296) (e':=296) (cs:=cs) (zs:=rep [.int .i64 0,.int .i64 0,.int .u8 0,.int .u64 0,.int .u64 0,.bool false] (n*6)) (by simp[go_sem]) (by simp[go_sem,Nat.sub_zero,decide_false,decide_true,cond_true,cond_false,e5,Option.isSome]) e4 (by simp only[go_sem,seval,A1];exact hg) hcl (by simp[go_sem]) (rep_length _ _)) ?_
   simp only[go_sem,seval]
   exact⟨StepN.new h _,hL _ _ (Nat.lt_succ_self _) e4 (by show _=some (AO.row _ cs.length 296);rw[hcl];simp only[go_sem,seval]) (.inr rfl),fun b hb=>by cases hb;exact Nat.lt_succ_self _⟩
  ·simp only[go_sem,seval,k,gM,e1,Int.sub_zero,f1,evLenN,Nat.le_refl,e2,e3,decide_true,decide_false,Bool.and_self,Bool.or_true,cond_true,cond_false,M1,e4,e5,Option.isSome]
   refine opt_some (evW_copy (a:=h.next) (b:=a) (n:=n) (cap:=some n) (cap':=some n) (bl:=cs.length) (e:=296) (e':=296) (cs:=cs) (zs:=rep [.int .i64 0,.int .i64 0,.int .u8 0,.int .u64 0,.int .u64 0,.bool false] (n*6)) (by simp[go_sem]) (by simp[go_sem,Nat.sub_zero,decide_false,decide_true,cond_true,cond_false,e5,Option.isSome]) e4 (by simp only[go_sem,seval,A1];exact hg) hcl (by simp[go_sem]) (rep_length _ _)) ?_
   simp only[go_sem,seval]
   exact⟨StepN.new h _,hL _ _ (Nat.lt_succ_self _) e4 (by show _=some (AO.row _ cs.length 296);rw[hcl];simp only[go_sem,seval]) (.inr rfl),fun b hb=>by cases hb;exact Nat.lt_succ_self _⟩
def F62(call:CallE):Prop:=∀h M W lv ws l,MemL h M W lv ws l->l.length<=1000000->Does call 62 [.ptr M 0,.int .i64 0] h (PostLs 6 (aL accC l) h)
@[go_sem]def c293:CF:=⟨1,(Sq [b 2 0] (Qq (Sq [a 3 0,zq 4 51 3 4294967296] (Cq 4 (Sq [a 5 0,zQ 6 51 5 32,a 0 6] (Oq [b 2 32])) .skip)) (Qq (Sq [a 7 0,zq 8 51 7 65536] (Cq 8 (Sq [a 9 0,zQ 10 51 9 16,a 0 10] (Oq [a 11 2,C 12 3 11 16,a 2 12])) .skip)) (Qq (Sq [a 13 0,zq 14 51 13 256] (Cq 14 (Sq [a 15 0,zQ 16 51 15 8,a 0 16] (Oq [a 17 2,C 18 3 17 8,a 2 18])) .skip)) (Rq [a 19 2,a 20 0,⟨some 21,none,.p (.conv .u8 (.t 20))⟩,⟨some 22,none,.s (.idx (.c (.str ⟨#[0,1,2,2,3,3,3,3,4,4,4,4,4,4,4,4,5,5,5,5,5,5,5,5,5,5,5,5,5,5,5,5,6,6,6,6,6,6,6,6,6,6,6,6,6,6,6,6,6,6,6,6,6,6,6,6,6,6,6,6,6,6,6,6,7,7,7,7,7,7,7,7,7,7,7,7,7,7,7,7,7,7,7,7,7,7,7,7,7,7,7,7,7,7,7,7,7,7,7,7,7,7,7,7,7,7,7,7,7,7,7,7,7,7,7,7,7,7,7,7,7,7,7,7,7,7,7,7,8,8,8,8,8,8,8,8,8,8,8,8,8,8,8,8,8,8,8,8,8,8,8,8,8,8,8,8,8,8,8,8,8,8,8,8,8,8,8,8,8,8,8,8,8,8,8,8,8,8,8,8,8,8,8,8,8,8,8,8,8,8,8,8,8,8,8,8,8,8,8,8,8,8,8,8,8,8,8,8,8,8,8,8,8,8,8,8,8,8,8,8,8,8,8,8,8,8,8,8,8,8,8,8,8,8,8,8,8,8,8,8,8,8,8,8,8,8,8,8,8,8,8,8,8,8,8,8]⟩)) (.t 21))⟩,zr 23 22,qf 24 3 19 23,a 2 24]))))),[.tmp 2]⟩
@[go_sem]def c228:CF:=⟨1,(Sq [b 2 0] (Qq (.cond (.c (.bool false)) (Rq [a 3 0,⟨some 4,none,.p (.conv .u32 (.t 3))⟩,q 5 292 4,a 2 5]) .skip) (Rq [a 6 0,q 7 293 6,a 2 7]))),[.tmp 2]⟩
def c283_l6:CC:=(Qq (Qq (.drw ⟨[([g 0 7,g 1 1,⟨2,[(16,some 0),(17,some 1)],none,.p (.bin .gtr 3 false false (.t 16) (.t 17))⟩,y 3 18 2,qN 4 19 3 0 19,qN 5 19 3 7 19,zs 6 19 3 20 4 21 5 19 1,qh 7 19 3 22 6 19,qN 8 19 3 0 19,qN 9 19 3 7 19,jv 10 19 3 25 9 19 3 1,zs 11 19 3 24 8 26 10 19 1,qh 12 19 3 27 11 19],some (qU 13 19 3 23 7 28 12 19 289)),([qV 14 19 3 29 13],none)],[(0,16),(1,17),(2,18),(3,19),(4,20),(5,21),(6,22),(7,23),(8,24),(9,25),(10,26),(11,27),(12,28),(13,29),(14,30)],[]⟩) (Cq 30 .skip (.exit 2))) (Qq (.block 3 (.drw ⟨[([g 0 0,g 1 7,g 2 0,g 3 7,qJ 4 36 3 3 1,g 5 0,g 6 7,qJ 7 39 6 3 1,Q 8 38 5 40 7 1,k 9 41 8,g 10 0,g 11 7,Q 12 43 10 44 11 1,k 13 45 12,Q 14 33 0 34 1 1],some (R 15 47 14 42 9 1)),([Q 16 35 2 37 4 1],some (R 17 48 16 46 13 1)),([],none)],[(0,33),(1,34),(2,35),(3,36),(4,37),(5,38),(6,39),(7,40),(8,41),(9,42),(10,43),(11,44),(12,45),(13,46),(14,47),(16,48)],[]⟩)) (Oq [a 31 7,qo 32 3 31 1,a 7 32])))
def c283_l8:CC:=(Qq (Sq [a 10 6,a 11 2,qb 12 3 10 11] (Cq 12 .skip (.exit 0))) (Qq (.block 1 (Sq [a 15 6,a 7 15] (.block 2 (.loop c283_l6)))) (Oq [a 13 6,C 14 3 13 1,a 6 14])))
@[go_sem]def c283:CF:=⟨3,(Sq [a 8 1,C 9 3 8 1,a 6 9] (.block 0 (.loop c283_l8))),[]⟩
def c227_l31:CC:=(.block 1 (Sq [a 19 2,a 20 1,qH 21 3 19 20,a 10 21] (Qq (Sq [a 22 10,z9 23 3 22 12] (Kq 23 [a 24 0,a 25 1,a 26 2,qa 27 283 24 25 26] .skip)) (Qq (Sq [a 28 3,U 29 3 28 0] (Kq 29 [a 30 0,a 31 1,a 32 2,qa 33 284 30 31 32] .skip)) (Qq (Sq [a 34 8,qe 35 34] (Cq 35 (Sq [a 36 0,a 37 1,a 38 2,qa 39 285 36 37 38] (Oq [a 40 3,qo 41 3 40 1,a 3 41])) .skip)) (Sq [a 43 0,a 44 1,a 45 2,qa 46 286 43 44 45,a 42 46,o 47 42 0,o 48 42 1,a 11 47,a 12 48] (Qq (Sq [a 49 12,U 50 473 49 2] (Cq 50 (Sq [a 51 0,a 52 1,a 53 2,qa 54 287 51 52 53] (Sq [a 55 2,qo 56 3 55 1,a 57 11,a 58 1,qH 59 3 57 58,qH 60 3 56 59,a 11 60] (Oq [b 12 1]))) .skip)) (Qq (Sq [a 61 8,a 62 61,B 63 62 9,O 64 62 63,a 65 64,B 66 65 12,qP 67 65 473 66 1,O 68 65 67] (Cq 68 (Sq [a 69 0,a 70 1,a 71 2,qa 72 288 69 70 71] (Cq 72 .ret .skip)) .skip)) (Qq (Qq (.drw ⟨[([g 0 1,⟨1,[(73,some 0)],none,.p (.bin .gtr 3 false true (.t 73) (.c (.int .i64 0)))⟩,y 2 74 1,qN 3 75 2 0 75,qN 4 75 2 1 75,jv 5 75 2 77 4 75 3 1,zs 6 75 2 76 3 78 5 75 1,qh 7 75 2 79 6 75,qN 8 75 2 0 75,qN 9 75 2 11 75,zs 10 75 2 81 8 82 9 75 1,qh 11 75 2 83 10 75],some (qU 12 75 2 80 7 84 11 75 289)),([⟨13,[(75,some 2),(85,some 12)],some (75,true),.p (.un .not (.t 85))⟩,qV 14 75 2 86 13],none)],[(0,73),(1,74),(2,75),(3,76),(4,77),(5,78),(6,79),(7,80),(8,81),(9,82),(10,83),(11,84),(12,85),(13,86),(14,87)],[]⟩) (Cq 87 (Sq [a 88 0,a 89 1,a 90 2,a 91 11,qv 92 290 88 89 90 91,a 13 92] (Sq [a 93 13,a 1 93] (.exit 1))) .skip)) (Sq [a 95 0,a 96 1,a 97 2,a 98 11,qv 99 291 95 96 97 98,a 94 99,o 100 94 0,o 101 94 1,a 14 100,a 15 101] (Sq [a 102 15,a 9 102] (Sq [a 103 14,a 104 1,qH 105 3 103 104,a 106 2,a 107 14,qH 108 3 106 107,a 16 105,a 17 108] (Sq [a 109 10,⟨some 110,none,.p (.bin .quo 3 false true (.t 109) (.c (.int .i64 8)))⟩,a 18 110] (Sq [a 111 16,a 112 17,qb 113 3 111 112] (Cq 113 (Sq [a 114 16,a 115 18,zw 116 3 114 115,a 8 116] (Sq [a 117 0,a 118 1,a 119 14,a 120 3,qv 121 227 117 118 119 120] (Oq [a 122 14,C 123 3 122 1,a 1 123]))) (Sq [a 124 17,a 125 18,zw 126 3 124 125,a 8 126] (Sq [a 127 0,a 128 14,C 129 3 128 1,a 130 2,a 131 3,qv 132 227 127 129 130 131] (Oq [a 133 14,a 2 133]))))))))))))))))))
@[go_sem]def c227:CF:=⟨4,(Sq [qx 8] (Sq [qx 9] (.block 0 (.loop c227_l31)))),[]⟩
@[go_sem]def c148:CF:=⟨1,(Sq [a 3 0,A 4 3,a 2 4] (Oq [a 5 0,a 6 2,a 7 2,qX 8 7,q 9 228 8,⟨some 10,none,.cv (.c (.fn (.func 227) [] [])) [.t 5,.c (.int .i64 0),.t 6,.t 9]⟩])),[]⟩
def c71_l8:CC:=(Sq [⟨some 12,none,.i (.next (.t 11))⟩,o 13 12 0] (Qq (Cq 13 .skip (.exit 0)) (.block 1 (Sq [⟨some 14,none,.i (.entry (.t 11))⟩,o 15 14 0,a 4 15] (Oq [a 16 3,a 17 4,qu 18 3 1 1 0 0 1 17,qj 19 3 1 8 16 18,a 3 19])))))
@[go_sem]def c71:CF:=⟨1,(Sq [D 2] (Qq (Sq [a 5 0,u 6 92 5] (Kq 6 [D 2] .skip)) (Sq [D 3] (Qq (Sq [a 7 0,m 8 7,d 9 4 8,i 10 9,⟨some 11,none,.i (.range (.t 10))⟩] (.block 0 (.loop c71_l8))) (Sq [a 20 3,q 21 148 20] (Rq [a 22 3,a 2 22])))))),[.tmp 2]⟩
@[go_sem]def c70:CF:=⟨1,(Sq [p 2] (Qq (Sq [a 3 0,u 4 30 3] (Kq 4 [p 2] .skip)) (Rq [a 5 0,m 6 5,d 7 0 6,d 8 2 7,i 9 8,a 2 9]))),[.tmp 2]⟩
def c146_l9:CC:=(Sq [qb 18 3 17 16] (Qq (Cq 18 .skip (.exit 0)) (Qq (.block 1 (Sq [E 19 1 15 17,i 20 19,a 7 20] (Sq [a 22 0,a 23 7,Z 24 225 22 23,a 21 24,o 25 21 0,o 26 21 1,⟨some 8,none,.n (.new 412 [.int .i64 0,.bool false])⟩,t 2 8 25,a 9 26] (Sq [a 27 9,a 28 27,W 29 28 1 8,Y 30 28 29,B 31 28 1,z7 32 28 4 30 31,O 33 28 32] (Cq 33 (Oq [a 34 5,a 35 7,qu 36 3 1 1 0 0 1 35,qj 37 3 1 8 34 36,a 5 37]) .skip))))) (Oq [C 38 3 17 1,a 17 38]))))
@[go_sem]def c146:CF:=⟨2,(Sq [D 4] (Sq [D 5] (Qq (Sq [a 10 0,m 11 10,d 12 0 11,d 13 2 12,i 14 13,q 15 71 14,A 16 15,b 17 0] (.block 0 (.loop c146_l9))) (Rq [a 39 5,a 4 39])))),[.tmp 4]⟩
@[go_sem]def c66:CF:=⟨1,(Sq [D 2] (Qq (Sq [a 3 0,u 4 30 3] (Kq 4 [D 2] .skip)) (Rq [a 5 0,⟨some 6,none,.cv (.c (.fn (.func 146) [] [])) [.t 5,.c (.bool false)]⟩,a 2 6]))),[.tmp 2]⟩
@[go_sem]def c68:CF:=⟨1,(Sq [D 2] (Qq (Sq [a 3 0,u 4 30 3] (Kq 4 [D 2] .skip)) (Rq [a 5 0,⟨some 6,none,.cv (.c (.fn (.func 146) [] [])) [.t 5,.c (.bool true)]⟩,a 2 6]))),[.tmp 2]⟩
set_option maxRecDepth 100000 in
theorem w293(P:Program){call:CallE}{h:H}:WF P call c293 [.int .u64 0] h fun v h'=>v=.int .i64 0∧h'=h:=by
 simp only[go_sem,seval]
 refine opt_some (x:=(.int .u8 0,h)) (by rfl) ?_
 have z:fw .i64 0=0:=rfl
 simp only[go_sem,seval,z]
def F293(call:CallE):Prop:=∀h,call 293 [.int .u64 0] h=some (.int .i64 0,h)
theorem w228(P:Program){call:CallE}(h293:F293 call){h:H}:WF P call c228 [.int .u64 0] h fun v h'=>v=.int .i64 0∧h'=h:=by
 have k:=h293 h
 simp only[go_sem,seval,k]
def F228(call:CallE):Prop:=∀h,call 228 [.int .u64 0] h=some (.int .i64 0,h)
theorem w283(P:Program){call:CallE}{h:H}:WF P call c283 [.nils,.int .i64 0,.int .i64 0] h fun v h'=>v=.tup []∧h'=h:=by
 simp only[go_sem,seval]
 refine unroll 1 ?_
 simp only[go_sem,seval,c283_l8,fl1]
def F283(call:CallE):Prop:=∀h,call 283 [.nils,.int .i64 0,.int .i64 0] h=some (.tup [],h)
theorem w227(P:Program){call:CallE}(h283:F283 call){h:H}:WF P call c227 [.nils,.int .i64 0,.int .i64 0,.int .i64 0] h fun v h'=>v=.tup []∧h'=h:=by
 have k:=h283 h
 simp only[go_sem,↓reduceIte,↓reduceDIte,Nat.reduceAdd,Nat.reduceMul,Nat.reduceLT,Nat.reduceEqDiff,Nat.reduceLeDiff,Int.reduceAdd,Int.reduceLE,Int.reduceLT,Int.reduceEq,Int.reduceToNat,reduceCtorEq]
 refine unroll 1 ?_
 have z:fw .i64 (0-0)=0:=rfl
 have z2:¬(12:Int)<0:=by omega
 simp only[go_sem,↓reduceIte,↓reduceDIte,Nat.reduceAdd,Nat.reduceMul,Nat.reduceLT,Nat.reduceEqDiff,Nat.reduceLeDiff,Int.reduceAdd,Int.reduceLE,Int.reduceLT,Int.reduceEq,Int.reduceToNat,reduceCtorEq,c227_l31,k,z,z2]
def F227(call:CallE):Prop:=∀h,call 227 [.nils,.int .i64 0,.int .i64 0,.int .i64 0] h=some (.tup [],h)
theorem w148(P:Program){call:CallE}(h228:F228 call)(h227:F227 call){h:H}:WF P call c148 [.nils] h fun v h'=>v=.tup []∧h'=h:=by
 have k:=h228 h
 have k2:=h227 h
 have z:fw .u64 0=0:=rfl
 simp only[go_sem,seval,z,k,k2]
def F148(call:CallE):Prop:=∀h,call 148 [.nils] h=some (.tup [],h)
theorem w71(h148:F148 call){h:H}{M L Po O:Nat}{p:PlT}(m:PoolH h M L p Po O):WF P call c71 [.ptr Po 0] h fun v h'=>v=.nils∧StepN h h':=by
 obtain⟨gv,gP,gO,lP,lO,og⟩:=m
 have x1:¬O=h.next:=by omega
 simp only[go_sem,seval,gP,gO,evI]
 refine unroll 1 ?_
 simp only[go_sem,seval,c71_l8,evI,gO,x1,leftA,List.isEmpty_nil,Bool.not_true,Bool.and_false,Bool.false_and,List.filter_nil]
 refine opt_some (h148 _) ?_
 simp only[go_sem,seval]
 exact StepN.new h _
def F71(call:CallE):Prop:=∀h M L Po O p,PoolH h M L p Po O->Does call 71 [.ptr Po 0] h fun v h'=>v=.nils∧StepN h h'
theorem w70{h:H}{a:AdA}{ek:EK}{n:Nat}{lv ev:AV}{ws:List Int}{l:List AccT}{es:List EvT}(sa:SA h a ek n lv ev ws l es):WF P call c70 [.ptr a.A 0] h fun v h'=>v=.ptr a.Po 0∧h'=h:=by
 have gA:=sa.gA
 simp only[go_sem,seval,gA]
def F70(call:CallE):Prop:=∀h a ek n lv ev ws l es,SA h a ek n lv ev ws l es->call 70 [.ptr a.A 0] h=some (.ptr a.Po 0,h)
theorem w146(h71:F71 call){h:H}{a:AdA}{ek:EK}{n:Nat}{lv ev:AV}{ws:List Int}{l:List AccT}{es:List EvT}(sa:SA h a ek n lv ev ws l es){L:Nat}{p:PlT}(po:PoolH h a.M L p a.Po a.O)(b:Bool):WF P call c146 [.ptr a.A 0,.bool b] h fun v h'=>v=.nils∧StepN h h':=by
 have gA:=sa.gA
 simp only[go_sem,seval,gA]
 refine opt_by (h71 h a.M L a.Po a.O p po) fun v1 h1 p1=>?_
 obtain⟨rfl,st⟩:=p1
 simp only[go_sem,seval]
 refine unroll 1 ?_
 simp only[go_sem,seval,c146_l9]
 exact st
def F146(call:CallE):Prop:=∀h a ek n lv ev ws l es L p b,SA h a ek n lv ev ws l es->PoolH h a.M L p a.Po a.O->Does call 146 [.ptr a.A 0,.bool b] h fun v h'=>v=.nils∧StepN h h'
theorem w66(h146:F146 call){h:H}{a:AdA}{ek:EK}{n:Nat}{lv ev:AV}{ws:List Int}{l:List AccT}{es:List EvT}(sa:SA h a ek n lv ev ws l es){L:Nat}{p:PlT}(po:PoolH h a.M L p a.Po a.O):WF P call c66 [.ptr a.A 0] h fun v h'=>v=.nils∧StepN h h':=by
 simp only[go_sem,seval]
 refine opt_by (h146 h a ek n lv ev ws l es L p false sa po) fun v1 h1 p1=>?_
 obtain⟨rfl,st⟩:=p1
 simp only[go_sem,seval]
 exact st
def F66(call:CallE):Prop:=∀h a ek n lv ev ws l es L p,SA h a ek n lv ev ws l es->PoolH h a.M L p a.Po a.O->Does call 66 [.ptr a.A 0] h fun v h'=>v=.nils∧StepN h h'
theorem w68(h146:F146 call){h:H}{a:AdA}{ek:EK}{n:Nat}{lv ev:AV}{ws:List Int}{l:List AccT}{es:List EvT}(sa:SA h a ek n lv ev ws l es){L:Nat}{p:PlT}(po:PoolH h a.M L p a.Po a.O):WF P call c68 [.ptr a.A 0] h fun v h'=>v=.nils∧StepN h h':=by
 simp only[go_sem,seval]
 refine opt_by (h146 h a ek n lv ev ws l es L p true sa po) fun v1 h1 p1=>?_
 obtain⟨rfl,st⟩:=p1
 simp only[go_sem,seval]
 exact st
def F68(call:CallE):Prop:=∀h a ek n lv ev ws l es L p,SA h a ek n lv ev ws l es->PoolH h a.M L p a.Po a.O->Does call 68 [.ptr a.A 0] h fun v h'=>v=.nils∧StepN h h'
@[go_sem]def c226:CF:=⟨2,(Sq [b 4 0] (Qq (Sq [a 6 0,m 7 6,d 8 2 7,i 9 8,m 10 9,d 11 4 10,i 12 11,a 13 1,E 14 1 12 13,i 15 14,C 16 3 15 1,a 5 16] (.block 0 (Sq [a 18 0,m 19 18,d 20 2 19,i 21 20,m 22 21,d 23 2 22,i 24 23,a 25 1,E 26 1 24 25,i 27 26,qe 28 27,a 17 28] (Kq 17 [b 4 0] (Sq [a 30 0,m 31 30,d 32 11 31,i 33 32,a 34 1,E 35 1 33 34,i 36 35,a 37 5,zd 38 3 36 37,a 29 38] (Kq 29 [b 4 3] (Sq [a 40 0,m 41 40,d 42 10 41,i 43 42,a 44 1,E 45 1 43 44,i 46 45,a 47 5,zd 48 3 46 47,a 39 48] (Kq 39 [b 4 2] .skip)))))))) (Rq [b 4 1]))),[.tmp 4]⟩
def c147_l7:CC:=(Qq (Sq [a 7 0,qr 8 31 7,a 9 8,B 10 9 6,B 11 9 0,qm 12 9 11,W 13 9 10 12,Y 14 9 13,ql 15 9 14,qS 16 9 3 10 15,O 17 9 16] (Cq 17 .skip (.exit 0))) (Qq (.block 1 (Sq [a 20 0,a 21 6,Z 22 226 20 21,a 23 1,zd 24 3 22 23] (Cq 24 (Oq [a 25 5,a 26 6,qu 27 3 1 1 0 0 1 26,qj 28 3 1 8 25 27,a 5 28]) .skip))) (Oq [a 18 6,C 19 3 18 1,a 6 19])))
@[go_sem]def c147:CF:=⟨2,(Sq [D 4] (Sq [D 5] (Qq (Sq [b 6 1] (.block 0 (.loop c147_l7))) (Rq [a 29 5,a 4 29])))),[.tmp 4]⟩
@[go_sem]def c67:CF:=⟨1,(Sq [D 2] (Rq [a 3 0,qT 4 147 3 2,a 2 4])),[.tmp 2]⟩
@[go_sem]def c69:CF:=⟨1,(Sq [D 2] (Rq [a 3 0,qT 4 147 3 3,a 2 4])),[.tmp 2]⟩
def c72_l7:CC:=(Qq (Sq [a 5 0,qr 6 44 5,a 7 6,B 8 7 4,B 9 7 0,qm 10 7 9,W 11 7 2 10,Y 12 7 11,ql 13 7 12,qS 14 7 3 8 13,O 15 7 14] (Cq 15 .skip (.exit 0))) (Qq (.block 1 (Sq [a 18 0,m 19 18,d 20 2 19,i 21 20,a 22 4,E 23 1 21 22,i 24 23] (Cq 24 (Oq [a 25 3,a 26 4,qu 27 3 1 1 0 0 1 26,qj 28 3 1 8 25 27,a 3 28]) .skip))) (Oq [a 16 4,C 17 3 16 1,a 4 17])))
@[go_sem]def c72:CF:=⟨1,(Sq [D 2] (Sq [D 3] (Qq (Sq [b 4 1] (.block 0 (.loop c72_l7))) (Rq [a 29 3,a 2 29])))),[.tmp 2]⟩
theorem w226(P:Program){call:CallE}{h:H}{a:AdB}{z:AdS}{rk:RK}{c:CfgT}{n:Nat}{lv ev:AV}{ws:List Int}{l:List AccT}{es:List EvT}(sb:SB h a rk n lv ev ws l es)(st:StaB h a z c){i:Nat}(hi:i<a.q):WF P call c226 [.ptr a.B 0,.int .i64 (i:Int)] h fun v h'=>v=.int .i64 0∧h'=h:=by
 have gB:=sb.gB
 obtain⟨gP,gT,gG,lP,lT,lG⟩:=st.po
 have e1:(i:Int)<(a.q:Int):=by omega
 have r1:(List.replicate a.q (AV.int .i64 0))[i]?=some (.int .i64 0):=List.getElem?_replicate_of_lt hi
 have r2:(List.replicate a.q (AV.bool false))[i]?=some (.bool false):=List.getElem?_replicate_of_lt hi
 simp only[go_sem,seval,gB,gP,gT,gG,e1,Nat.mul_one,r1,r2,fl1]
def F226(call:CallE):Prop:=∀h a z rk c n lv ev ws l es (i:Nat),SB h a rk n lv ev ws l es->StaB h a z c->i<a.q->call 226 [.ptr a.B 0,.int .i64 (i:Int)] h=some (.int .i64 0,h)
def I147(h0:H)(B:Nat)(q:Nat)(kd:Int)(k:Nat)(tm:T AV)(h:H):Prop:=tm.get 0=some (.ptr B 0)∧tm.get 1=some (.int .i64 kd)∧tm.get 5=some .nils∧h=h0∧∃i:Nat,i+k=q∧1<=i∧tm.get 6=some (.int .i64 (i:Int))
theorem step147(h226:F226 call){h0:H}{a:AdB}{z:AdS}{rk:RK}{c:CfgT}{n:Nat}{lv ev:AV}{ws:List Int}{l:List AccT}{es:List EvT}(sb:SB h0 a rk n lv ev ws l es)(st:StaB h0 a z c)(hq:a.q<=1000){kd:Int}(hk:¬(0:Int)=kd)(k:Nat)(tm:T AV)(h:H)(hI:I147 h0 a.B a.q kd k tm h):
 WC P call c147_l7 (loopQ 0 (fun tm h=>∃j,j<k∧I147 h0 a.B a.q kd j tm h) (fun tm h=>h=h0∧tm.get 5=some .nils) (fun _ _=>False)) tm h:=by
 obtain⟨t0,t1,t5,rfl,i,hik,i1,t6⟩:=hI
 have gB:=sb.gB
 cases k with
 |zero=>
  have e1:¬(i:Int)<(a.q:Int):=by omega
  simp only[go_sem,seval,c147_l7,t0,t6,gB,e1]
  exact t5
 |succ k=>
  have e1:(i:Int)<(a.q:Int):=by omega
  have f1:fw .i64 ((i:Int)+1)=(i:Int)+1:=fwI (by omega) (by omega)
  have e3:((i+1:Nat):Int)=(i:Int)+1:=rfl
  have kk:=h226 h a z rk c n lv ev ws l es i sb st (by omega)
  simp only[go_sem,seval,c147_l7,t0,t1,t5,t6,gB,e1,kk,hk,f1]
  exact⟨k,Nat.lt_succ_self k,by simp[go_sem,t0],by simp[go_sem,t1],by simp[go_sem,t5],rfl,i+1,by omega,by omega,by simp[go_sem,e3]⟩
theorem w147(h226:F226 call){h:H}{a:AdB}{z:AdS}{rk:RK}{c:CfgT}{n:Nat}{lv ev:AV}{ws:List Int}{l:List AccT}{es:List EvT}(sb:SB h a rk n lv ev ws l es)(st:StaB h a z c)(hq:a.q<=1000){kd:Int}(hk:¬(0:Int)=kd):WF P call c147 [.ptr a.B 0,.int .i64 kd] h fun v h'=>v=.nils∧h'=h:=by
 have q1:=st.hq
 simp only[go_sem,seval]
 refine loop_in (I147 h a.B a.q kd) _ _ (fun k tm h' hI=>step147 P h226 sb st hq hk k tm h' hI) (fun tm2 h2 hR=>?_) (fun _ _ hh=>hh.elim) (a.q-1) _ _
  ⟨by simp[go_sem],by simp[go_sem],by simp[go_sem],rfl,1,by omega,by omega,by simp[go_sem]⟩
 obtain⟨rfl,t5⟩:=hR
 simp only[go_sem,seval,t5]
def F147(call:CallE):Prop:=∀h a z rk c n lv ev ws l es (kd:Int),SB h a rk n lv ev ws l es->StaB h a z c->a.q<=1000->¬(0:Int)=kd->call 147 [.ptr a.B 0,.int .i64 kd] h=some (.nils,h)
theorem w67(P:Program){call:CallE}(h147:F147 call){h:H}{a:AdB}{z:AdS}{rk:RK}{c:CfgT}{n:Nat}{lv ev:AV}{ws:List Int}{l:List AccT}{es:List EvT}(sb:SB h a rk n lv ev ws l es)(st:StaB h a z c)(hq:a.q<=1000):WF P call c67 [.ptr a.B 0] h fun v h'=>v=.nils∧h'=h:=by
 have k:=h147 h a z rk c n lv ev ws l es 2 sb st hq (by decide)
 simp only[go_sem,seval,k]
def F67(call:CallE):Prop:=∀h a z rk c n lv ev ws l es,SB h a rk n lv ev ws l es->StaB h a z c->a.q<=1000->call 67 [.ptr a.B 0] h=some (.nils,h)
theorem w69(P:Program){call:CallE}(h147:F147 call){h:H}{a:AdB}{z:AdS}{rk:RK}{c:CfgT}{n:Nat}{lv ev:AV}{ws:List Int}{l:List AccT}{es:List EvT}(sb:SB h a rk n lv ev ws l es)(st:StaB h a z c)(hq:a.q<=1000):WF P call c69 [.ptr a.B 0] h fun v h'=>v=.nils∧h'=h:=by
 have k:=h147 h a z rk c n lv ev ws l es 3 sb st hq (by decide)
 simp only[go_sem,seval,k]
def F69(call:CallE):Prop:=∀h a z rk c n lv ev ws l es,SB h a rk n lv ev ws l es->StaB h a z c->a.q<=1000->call 69 [.ptr a.B 0] h=some (.nils,h)
def I72(h0:H)(B:Nat)(q:Nat)(k:Nat)(tm:T AV)(h:H):Prop:=tm.get 0=some (.ptr B 0)∧tm.get 3=some .nils∧h=h0∧∃i:Nat,i+k=q∧1<=i∧tm.get 4=some (.int .i64 (i:Int))
theorem step72{h0:H}{M L q Po Tk Gv Gn:Nat}(po:PoolB h0 M L q Po Tk Gv Gn)(hq:q<=1000)(k:Nat)(tm:T AV)(h:H)(hI:I72 h0 Po q k tm h):
 WC P call c72_l7 (loopQ 0 (fun tm h=>∃j,j<k∧I72 h0 Po q j tm h) (fun tm h=>h=h0∧tm.get 3=some .nils) (fun _ _=>False)) tm h:=by
 obtain⟨t0,t3,rfl,i,hik,i1,t4⟩:=hI
 obtain⟨gP,gT,gG,lP,lT,lG⟩:=po
 cases k with
 |zero=>
  have e1:¬(i:Int)<(q:Int):=by omega
  simp only[go_sem,seval,c72_l7,t0,t4,gP,e1]
  exact t3
 |succ k=>
  have e1:(i:Int)<(q:Int):=by omega
  have f1:fw .i64 ((i:Int)+1)=(i:Int)+1:=fwI (by omega) (by omega)
  have e3:((i+1:Nat):Int)=(i:Int)+1:=rfl
  have r2:(List.replicate q (AV.bool false))[i]?=some (.bool false):=List.getElem?_replicate_of_lt (by omega)
  simp only[go_sem,seval,c72_l7,t0,t3,t4,gP,gT,e1,Nat.mul_one,r2,f1]
  exact⟨k,Nat.lt_succ_self k,by simp[go_sem,t0],by simp[go_sem,t3],rfl,i+1,by omega,by omega,by simp[go_sem,e3]⟩
theorem w72{h:H}{M L q Po Tk Gv Gn:Nat}(po:PoolB h M L q Po Tk Gv Gn)(hq:q<=1000)(h1:1<=q):WF P call c72 [.ptr Po 0] h fun v h'=>v=.nils∧h'=h:=by
 simp only[go_sem,seval]
 refine loop_in (I72 h Po q) _ _ (fun k tm h' hI=>step72 P po hq k tm h' hI) (fun tm2 h2 hR=>?_) (fun _ _ hh=>hh.elim) (q-1) _ _
  ⟨by simp[go_sem],by simp[go_sem],rfl,1,by omega,by omega,by simp[go_sem]⟩
 obtain⟨rfl,t3⟩:=hR
 simp only[go_sem,seval,t3]
def F72(call:CallE):Prop:=∀h M L q Po Tk Gv Gn,PoolB h M L q Po Tk Gv Gn->q<=1000->1<=q->call 72 [.ptr Po 0] h=some (.nils,h)
@[go_sem]def c18:CF:=⟨1,(Sq [w 1 33 0,G 2] (Qq (.drw ⟨[([S 0 1 0,k 1 3 0,S 4 1 1,k 5 7 4,n 6 8 5,j 7 9 6 1,k 8 10 7,n 9 11 8,j 10 12 9 0,k 11 13 10],some (qg 2 4 1 24)),([],some (qg 3 5 2 60)),([],some (q1 12 6 3 14 11 59)),([y 13 15 12,qB 14 16 13 1 16 0,qh 15 16 13 17 14 16,qB 18 16 13 1 16 1,qh 19 16 13 21 18 16,zt 20 16 13 22 19 16,zu 21 16 13 23 20 16 1,qh 22 16 13 24 21 16,zt 23 16 13 25 22 16,zu 24 16 13 26 23 16 1,qh 25 16 13 27 24 16],some (qG 16 16 13 18 15 16 24)),([],some ⟨17,[(16,some 13),(19,some 16)],some (16,true),.cv (.c (.fn (.func 62) [] [])) [.t 19,.c (.int .i64 0)]⟩),([],some (qU 26 16 13 20 17 28 25 16 61)),([qV 27 16 13 29 26,y 28 30 27,qB 29 31 28 1 31 0,qh 30 31 28 32 29 31,qB 32 31 28 1 31 1,qh 33 31 28 35 32 31,zt 34 31 28 36 33 31,zu 35 31 28 37 34 31 8,qh 36 31 28 38 35 31],some (qG 31 31 28 33 30 31 64)),([],some (qU 37 31 28 34 31 39 36 31 63)),([qV 38 31 28 40 37,y 39 41 38,qB 40 42 39 1 42 0,qh 41 42 39 43 40 42,qB 43 42 39 1 42 1,qh 44 42 39 46 43 42],some (qG 42 42 39 44 41 42 66)),([],some (qG 45 42 39 47 44 42 67)),([],some (qU 46 42 39 45 42 48 45 42 65)),([qV 47 42 39 49 46,y 48 50 47,qB 49 51 48 1 51 0,qh 50 51 48 52 49 51,qB 52 51 48 1 51 1,qh 53 51 48 55 52 51],some (qG 51 51 48 53 50 51 68)),([],some (qG 54 51 48 56 53 51 69)),([],some (qU 55 51 48 54 51 57 54 51 65)),([qV 56 51 48 58 55,y 57 59 56,qB 58 60 57 1 60 0,qh 59 60 57 61 58 60,qB 62 60 57 1 60 1,qh 63 60 57 65 62 60,zt 64 60 57 66 63 60,zu 65 60 57 67 64 60 2,qh 66 60 57 68 65 60],some (qG 60 60 57 62 59 60 70)),([],some (qG 61 60 57 63 60 60 71)),([],some (qG 67 60 57 69 66 60 72)),([],some (qU 68 60 57 64 61 70 67 60 65)),([qV 69 60 57 71 68,y 70 72 69],none)],[(0,3),(1,4),(2,5),(3,6),(4,7),(5,8),(6,9),(7,10),(8,11),(9,12),(10,13),(11,14),(12,15),(13,16),(14,17),(15,18),(16,19),(17,20),(18,21),(19,22),(20,23),(21,24),(22,25),(23,26),(24,27),(25,28),(26,29),(27,30),(28,31),(29,32),(30,33),(31,34),(32,35),(33,36),(34,37),(35,38),(36,39),(37,40),(38,41),(39,42),(40,43),(41,44),(42,45),(43,46),(44,47),(45,48),(46,49),(47,50),(48,51),(49,52),(50,53),(51,54),(52,55),(53,56),(54,57),(55,58),(56,59),(57,60),(58,61),(59,62),(60,63),(61,64),(62,65),(63,66),(64,67),(65,68),(66,69),(67,70),(68,71),(69,72),(70,2)],[(⟨5,[(7,(some 4))],none,.r (.ld none (.t 7))⟩,[1,2]),(⟨8,[(10,(some 7))],none,.r (.ld none (.t 10))⟩,[1,2]),(⟨11,[(13,(some 10))],none,.r (.ld none (.t 13))⟩,[1,2]),(⟨19,[(16,(some 13)),(21,(some 18))],some (16,true),.r (.ld none (.t 21))⟩,[4,5]),(⟨22,[(16,(some 13)),(24,(some 21))],some (16,true),.r (.ld none (.t 24))⟩,[4,5]),(⟨25,[(16,(some 13)),(27,(some 24))],some (16,true),.r (.ld none (.t 27))⟩,[4,5]),(⟨33,[(31,(some 28)),(35,(some 32))],some (31,true),.r (.ld none (.t 35))⟩,[7]),(⟨36,[(31,(some 28)),(38,(some 35))],some (31,true),.r (.ld none (.t 38))⟩,[7]),(⟨44,[(42,(some 39)),(46,(some 43))],some (42,true),.r (.ld none (.t 46))⟩,[9]),(⟨53,[(51,(some 48)),(55,(some 52))],some (51,true),.r (.ld none (.t 55))⟩,[12]),(⟨63,[(60,(some 57)),(65,(some 62))],some (60,true),.r (.ld none (.t 65))⟩,[15,16]),(⟨66,[(60,(some 57)),(68,(some 65))],some (60,true),.r (.ld none (.t 68))⟩,[15,16])]⟩) .ret)),[.tmp 2]⟩
def F60b(call:CallE):Prop:=∀h M W ws,MemH h M W ws->M<h.next->W<h.next->ws.length<=65536->Does call 60 [.ptr M 0] h (Post60 ws h)
theorem rdl_row{h:H}{O n:Nat}{e:TypeId}{cap:Option Nat}{cs:List AV}{ws:List Int}(hn:ws.length=n)(hl:n<=65536)(g:h.t.get O=some (.row (putList 0 cs T.e) n e))(hcs:∀(j:Nat) (x:Int),ws[j]?=some x->cs[j]?=some (.int .u64 x)):RdL none 1 h (.sl O 0 n 1 cap) (uL ws):=by
 subst hn
 refine .inr ⟨O,0,cap,by rw[uL_len],by rw[uL_len];omega,fun i x hx=>?_⟩
 unfold uL at hx
 rw[List.getElem?_map]at hx
 obtain⟨y,hy,rfl⟩:∃y,ws[i]?=some y∧AV.int .u64 y=x:=by
  cases hq:ws[i]? with
  |none=>rw[hq]at hx;cases hx
  |some y=>rw[hq]at hx;exact⟨y,rfl,Option.some.inj hx⟩
 unfold ldA
 rw[g]
 show(putList 0 cs T.e).get _=_
 rw[rowGet,Nat.zero_add,Nat.mul_one]
 exact hcs i y hy
set_option maxHeartbeats 2000000 in
theorem w18(P:Program)[PE P]{call:CallE}(h24:F24 call)(h60:F60b call)(h59:F59 call)(h62:F62 call)(h61:F61 call)(h64:F64 call)(h63:F63 call)(h66:F66 call)(h67:F67 call)(h65:F65 call)(h68:F68 call)(h69:F69 call)(h70:F70 call)(h71:F71 call)(h72:F72 call){hL h:H}{A B:Nat}{c:CfgT}{n m:Nat}(t:TwoE hL h A B c n m)(hm:m<=1000000)(hq:(hsL c).length<=60):WF P call c18 [.agg [.ptr A 0,.ptr B 0]] h fun v h'=>v=.bool true∧StepN h h':=by
 have st0:=StepN.new h (.row (putList 0 [.ptr A 0,.ptr B 0] T.e) 2 33)
 obtain⟨a,ek,lv,ev,b,z,rk,lv2,ev2,ws,l,es,rfl,rfl,sa,ta,sb,tb,ll,le,lw⟩:=t
 have gBh:=sb.gB
 have gMh:=sb.mm.g
 have xB:¬b.B=h.next:=by have:=sb.lB;omega
 have xM:¬b.M=h.next:=by have:=sb.mm.lM;omega
 replace sa:=sa.step st0
 replace sb:=sb.step st0
 replace ta:=ta.keep st0.next fun x lx _=>st0.old x lx
 replace tb:=tb.keep st0.next fun x lx _=>st0.old x lx
 have qb:b.q<=1000:=by have:=tb.hq;omega
 have q1:1<=b.q:=by have:=tb.hq;omega
 obtain⟨H0,hH⟩:∃H0:H,H0=⟨h.next+1,h.t.set h.next (.row (putList 0 [.ptr a.A 0,.ptr b.B 0] T.e) 2 33)⟩:=⟨_,rfl⟩
 rw[←hH]at sa ta sb tb
 have gX0:H0.t.get h.next=some (.row (putList 0 [.ptr a.A 0,.ptr b.B 0] T.e) 2 33):=by rw[hH];simp only[go_sem,seval]
 have lX0:h.next<H0.next:=by rw[hH];exact Nat.lt_succ_self _
 have stH:StepN h H0:=by rw[hH];exact st0
 have all:∀H1,StepN H0 H1->H1.t.get h.next=some (.row (putList 0 [.ptr a.A 0,.ptr b.B 0] T.e) 2 33)∧SA H1 a ek n lv ev ws l es∧StaA H1 a c hL∧SB H1 b rk n lv2 ev2 ws l es∧StaB H1 b z c∧StepN h H1:=fun H1 s=>⟨(s.old _ lX0).trans gX0,sa.step s,ta.keep s.next fun x lx _=>s.old x lx,sb.step s,tb.keep s.next fun x lx _=>s.old x lx,stH.trans s⟩
 have row:∀H1,StepN H0 H1->H1.t.get b.B=H0.t.get b.B∧H1.t.get b.M=H0.t.get b.M:=fun H1 s=>⟨s.old _ sb.lB,s.old _ sb.mm.lM⟩
 have gB:=sb.gB
 have gM:=sb.mm.g
 have S1:=StepN.refl H0
 simp only[go_sem,seval,gBh,gMh,xB,xM]
 rw[←hH]
 refine opt_some (h24 _ _ _ _ _ _ _ _ _ _ _ sa.gA) ?_
 simp only[go_sem,seval,gX0,gB,gM]
 refine opt_by (h60 H0 a.M a.W ws sa.mm.mem sa.mm.lM sa.mm.lW lw) fun v1 h1 p1=>?_
 obtain⟨st1,O,rfl,lO,cs,gO,hcs⟩:=p1
 obtain⟨gX1,sa1,ta1,sb1,tb1,sh1⟩:=all h1 st1
 have gB1:=sb1.gB
 have gM1:=sb1.mm.g
 have nx1:=st1.next
 simp only[go_sem,seval,gX0,gB,gM,gX1,gB1,gM1,nx1]
 refine opt_some (h59 h1 _ _ ws (rdl_row rfl lw gO hcs) (rdl_row rfl lw (by rw[←uL_len ws];exact sb1.mm.w) fun j x hx=>uL_get hx) (by omega)) ?_
 simp only[go_sem,seval,gX1,gB1,gM1]
 refine opt_some (h24 h1 _ _ _ _ _ _ _ _ _ _ sa1.gA) ?_
 simp only[go_sem,seval,gX1,gB1,gM1]
 refine opt_by (h62 h1 a.M a.W lv ws l sa1.mm (by omega)) fun v2 h2 p2=>?_
 obtain⟨st2,rd2,_⟩:=p2
 have S2:=st1.trans st2
 obtain⟨gX2,sa2,ta2,sb2,tb2,sh2⟩:=all h2 S2
 have gB2:=sb2.gB
 have gM2:=sb2.mm.g
 have nx2:=st2.next
 simp only[go_sem,seval,gX1,gB1,gM1,gX2,gB2,gM2,nx2]
 refine opt_some (h61 h2 _ _ l rd2 (own_rdA accC_len sb2.mm.l (by omega)) (by omega)) ?_
 simp only[go_sem,seval,gX2,gB2,gM2]
 refine opt_by (h64 h2 a ek n lv ev ws l es sa2 (by omega)) fun v3 h3 p3=>?_
 obtain⟨st3,rd3,_⟩:=p3
 have S3:=S2.trans st3
 obtain⟨gX3,sa3,ta3,sb3,tb3,sh3⟩:=all h3 S3
 have gB3:=sb3.gB
 have gM3:=sb3.mm.g
 have nx3:=st3.next
 simp only[go_sem,seval,gX2,gB2,gM2,gX3,gB3,gM3,nx3]
 refine opt_some (h63 h3 _ _ es rd3 (own_rdA evC_len sb3.oe (by omega)) (by omega)) ?_
 simp only[go_sem,seval,gX3,gB3,gM3]
 refine opt_by (h66 h3 a ek n lv ev ws l es _ _ sa3 ta3.po) fun v4 h4 p4=>?_
 obtain⟨rfl,st4⟩:=p4
 have S4:=S3.trans st4
 obtain⟨gX4,sa4,ta4,sb4,tb4,sh4⟩:=all h4 S4
 have gB4:=sb4.gB
 have gM4:=sb4.mm.g
 have nx4:=st4.next
 simp only[go_sem,seval,gX3,gB3,gM3,gX4,gB4,gM4,nx4]
 refine opt_some (h67 h4 b z rk c n lv2 ev2 ws l es sb4 tb4 qb) ?_
 simp only[go_sem,seval,gX4,gB4,gM4]
 refine opt_some (h65 h4) ?_
 simp only[go_sem,seval,gX4,gB4,gM4]
 refine opt_by (h68 h4 a ek n lv ev ws l es _ _ sa4 ta4.po) fun v5 h5 p5=>?_
 obtain⟨rfl,st5⟩:=p5
 have S5:=S4.trans st5
 obtain⟨gX5,sa5,ta5,sb5,tb5,sh5⟩:=all h5 S5
 have gB5:=sb5.gB
 have gM5:=sb5.mm.g
 have nx5:=st5.next
 simp only[go_sem,seval,gX4,gB4,gM4,gX5,gB5,gM5,nx5]
 refine opt_some (h69 h5 b z rk c n lv2 ev2 ws l es sb5 tb5 qb) ?_
 simp only[go_sem,seval,gX5,gB5,gM5]
 refine opt_some (h65 h5) ?_
 simp only[go_sem,seval,gX5,gB5,gM5]
 refine opt_some (h70 h5 a ek n lv ev ws l es sa5) ?_
 simp only[go_sem,seval,gX5,gB5,gM5]
 refine opt_by (h71 h5 a.M a.L a.Po a.O _ ta5.po) fun v6 h6 p6=>?_
 obtain⟨rfl,st6⟩:=p6
 have S6:=S5.trans st6
 obtain⟨gX6,sa6,ta6,sb6,tb6,sh6⟩:=all h6 S6
 have gB6:=sb6.gB
 have gM6:=sb6.mm.g
 have nx6:=st6.next
 simp only[go_sem,seval,gX5,gB5,gM5,gX6,gB6,gM6,nx6]
 refine opt_some (h72 h6 b.M b.L b.q b.Po _ _ _ tb6.po qb q1) ?_
 simp only[go_sem,seval,gX6,gB6,gM6]
 refine opt_some (h65 h6) ?_
 simp only[go_sem,seval,gX0,gB,gM,gX1,gB1,gM1,gX2,gB2,gM2,gX3,gB3,gM3,gX4,gB4,gM4,gX5,gB5,gM5,gX6,gB6,gM6]
 exact sh6
def F18(call:CallE):Prop:=∀hL h A B c n m,TwoE hL h A B c n m->m<=1000000->(hsL c).length<=60->Does call 18 [.agg [.ptr A 0,.ptr B 0]] h fun v h'=>v=.bool true∧StepN h h'
theorem quads_succ(n:Nat)(q:List AV):quads (n+1) q=q++quads n q:=by unfold quads;rw[List.replicate_succ,List.flatten_cons]
theorem rep_quads{z:List AV}{w:Nat}(hz:z.length=w)(hw:0<w)(n:Nat):rep z (n*w)=quads n z:=by
 have ql:∀n,(quads n z).length=n*w:=fun n=>by
  induction n with
  |zero=>simp[quads]
  |succ n ih=>rw[quads_succ,List.length_append,ih,hz,Nat.succ_mul,Nat.add_comm]
 refine List.ext_getElem? fun i=>?_
 by_cases h:i<n*w
 ·have e:i=i/w*w+i %w:=by rw[Nat.mul_comm];exact(Nat.div_add_mod i w).symm
  have r:=Nat.mod_lt i hw
  have l:i/w<n:=Nat.div_lt_of_lt_mul (by rw[Nat.mul_comm];exact h)
  have k:=quads_get z w hz (i %w) r n (i/w) l
  rw[←e]at k
  rw[k]
  unfold rep
  rw[List.getElem?_map,List.getElem?_range h,Option.map_some,hz]
  have:z[i %w]?=some (z[i %w]'(by omega)):=List.getElem?_eq_getElem (by omega)
  rw[this]
  rfl
 ·rw[List.getElem?_eq_none (by rw[rep_length];omega),List.getElem?_eq_none (by rw[ql];omega)]
theorem each0:∀n,eachC (eZ (List.replicate n 0))=quads n [.int .u64 0,.bool false]
 |0=>rfl
 |n+1=>by
  rw[quads_succ,←each0 n]
  rfl
theorem tri0:∀n,triC (tZ (List.replicate n 0))=quads n [.int .u64 0,.bool false,.bool false]
 |0=>rfl
 |n+1=>by
  rw[quads_succ,←tri0 n]
  rfl
theorem quad0:∀n,quadC (List.replicate n (false,false))=quads n [.bool false,.bool false,.int .i64 0,.int .u64 0]
 |0=>rfl
 |n+1=>by
  rw[quads_succ,←quad0 n]
  rfl
theorem nu0(n i:Nat)(x:Int)(h:(List.replicate n (0:Int))[i]?=some x):x=0:=by
 rw[List.getElem?_replicate]at h
 split at h
 ·exact(Option.some.inj h).symm
 ·cases h
theorem gz0(n:Nat):gZ (List.replicate n 0)=List.replicate 64 (false,false):=by
 unfold gZ
 refine List.ext_getElem? fun i=>?_
 have:decide ((List.replicate n (0:Int))[i]?=some 1)=false:=decide_eq_false fun h=>by have:=nu0 n i 1 h;omega
 rw[List.getElem?_map,List.getElem?_replicate]
 by_cases hi:i<64
 ·rw[List.getElem?_range hi,if_pos hi,Option.map_some,this]
 ·rw[List.getElem?_eq_none (by rw[List.length_range];omega),if_neg hi];rfl
theorem uL0(n:Nat):uL (List.replicate n 0)=List.replicate n (.int .u64 0):=by unfold uL;rw[List.map_replicate]
theorem PrcuX.eng{lo:Nat}{h:H}{M n R:Nat}{c:CfgT}(x:PrcuX lo h M (n:Int) R n c):∃ek kd,EngA h M n n (List.replicate n 0) ek∧(∀b,engF ek b->lo<=b∧b<h.next)∧(ek.tag:Int)=c.engine∧h.t.get R=some (rowL [.ifc ek.ht (.agg [.ifc ek.rt (.ptr ek.G 0)]),kd,.int .i64 (n:Int)] 206)∧lo<=R∧R<h.next:=by
 cases x with
 |full G N B he gR gG gN gB lR lG lN lB oR oG oN oB=>
  refine⟨.full G N B,_,?_,fun b hb=>by rcases hb with rfl|rfl|rfl<;>exact⟨by assumption,by assumption⟩,he.symm,gR,oR,lR⟩
  exact⟨gG,by rw[uL0];exact gN,by rw[List.map_replicate];exact gB,List.length_replicate,List.length_replicate,lG,lN,lB⟩
 |each G N F he gR gG gN gF lR lG lN lF oR oG oN oF=>
  refine⟨.each G N F,_,?_,fun b hb=>by rcases hb with rfl|rfl|rfl<;>exact⟨by assumption,by assumption⟩,he.symm,gR,oR,lR⟩
  exact⟨gG,by rw[each0,←rep_quads (w:=2) rfl (by decide)];exact gN,gF,by unfold eZ;rw[List.length_map,List.length_replicate],lG,lN,lF⟩
 |gate G S he hb gR gG gS lR lG lS oR oG oS=>
  refine⟨.gate G S c.buckets.toNat fun _=>False,_,?_,fun b hb=>by rcases hb with rfl|rfl|hb;exact⟨oG,lG⟩;exact⟨oS,lS⟩;exact hb.elim,he.symm,gR,oR,lR⟩
  exact⟨List.length_replicate,[],by rw[Int.toNat_of_nonneg (by omega)];exact gG,⟨0,gS⟩,fun i hi=>⟨fun h1=>by have:=nu0 n i 1 h1;omega,fun _=>rfl⟩,by omega,by omega,lG,lS⟩
theorem RPrcuX.eng{lo:Nat}{h:H}{M n R:Nat}{c:CfgT}(x:RPrcuX lo h M (n:Int) R n c):∃rk,EngB h M n n (List.replicate n 0) rk∧(∀b,rkF rk b->lo<=b∧b<h.next)∧(rk.tag:Int)=c.engine∧h.t.get R=some (rk.row n)∧lo<=R∧R<h.next:=by
 cases x with
 |full G N he gR gG gN lR lG lN oR oG oN=>
  refine⟨.full G N,?_,fun b hb=>by rcases hb with rfl|rfl<;>exact⟨by assumption,by assumption⟩,he.symm,gR,oR,lR⟩
  exact⟨gG,by rw[tri0,←rep_quads (w:=3) rfl (by decide)];exact gN,by unfold tZ;rw[List.length_map,List.length_replicate],lG,lN⟩
 |each G N he gR gG gN lR lG lN oR oG oN=>
  refine⟨.each G N,?_,fun b hb=>by rcases hb with rfl|rfl<;>exact⟨by assumption,by assumption⟩,he.symm,gR,oR,lR⟩
  exact⟨gG,by rw[tri0,←rep_quads (w:=3) rfl (by decide)];exact gN,by unfold tZ;rw[List.length_map,List.length_replicate],lG,lN⟩
 |gate G he hb gR gG lR lG oR oG=>
  refine⟨.gate G c.buckets.toNat,?_,fun b hb=>by obtain rfl:b=G:=hb;exact⟨oG,lG⟩,he.symm,gR,oR,lR⟩
  exact⟨List.length_replicate,by unfold gC;rw[gz0,quad0,Int.toNat_of_nonneg (by omega)];exact gG,by rw[gz0];exact List.length_replicate,by omega,by omega,lG⟩
theorem ini_zero{c:CfgT}(hp:PlOK c (plOf c))(hs:0<=c.slots){W:Nat}(hW:(plOf c).wo=(W:Int)){u:List Int}(hu:IniOK c W u){q:Nat}(hq:(q:Int)<(plOf c).po):u[q]?=some 0:=by
 have h1:=hp.po
 have h2:=hp.li
 have e:(plOf c).li=(plOf c).po+6:=rfl
 obtain⟨P,hP⟩:∃P:Nat,(plOf c).po=(P:Int):=⟨(plOf c).po.toNat,by omega⟩
 unfold IniOK at hu
 rw[e,hP]at hu
 have a:=inA P (asc_hsL c) (W:=W) (by omega) (hsL c).length (Nat.le_refl _)
 rw[hu]
 exact a.rest q (by omega) (.inl (by omega))
theorem newA{c:CfgT}{h0 h1:H}{v:AV}(p:Post6 c h0 v h1):∃a ek hL ws,∃n w:Nat,v=.tup [.ptr a.A 0,.int .i64 0]∧c.slots=(n:Int)∧StepN h0 hL∧SideA h1 a ek c n hL .nils .nils ws [] [] (List.replicate n 0)∧(plOf c).wo=(w:Int)∧ws.length=w∧ws.length<=5000∧IniOK c w ws:=by
 obtain⟨A,p1,M,W,R,ws,rfl,hpow,⟨w,hw,hz,hio⟩,hsl,hws,mg,lM,lW,oM,oW,_,rfl,sta⟩:=p.ex
 obtain⟨L,Po,T',V,G,O,hL,lo,n,⟨hLay,stL,oL,oV,oG,oA,oM2,oW2,oP,oO,olo⟩,⟨hn,px,lV,lG,lA,lM3,lW3,lP,lO,llo⟩,gA,gV,gG,po,_,lV2,lG2,nVG,nOV,nOG⟩:=sta
 have px':PrcuX lo h1 M (n:Int) R n c:=by rw[←hn];exact px
 obtain⟨ek,kd,eA,fA,tA,gR,oR,lR⟩:=px'.eng
 have po':=po
 obtain⟨gv,gP,gO,lPo,lO',_⟩:=po'
 have stHL:StepN h0 hL:=by
  have l1:=hLay.lt
  exact⟨by omega,fun b hb=>(stL.old b (by omega)).symm.trans (p.st.old b hb)⟩
 have hne:∀{b c k e},h1.t.get b=some (.row c k e)->e≠302->b≠Po∧b≠O∧b≠G:=fun{b c k e} g he=>⟨rowL_ne g gP he,(fun q=>by subst q;rw[gO]at g;cases g),(fun q=>by subst q;rw[gG]at g;cases g)⟩
 have dM:=hne mg.g (by decide)
 have dW:=hne mg.w (by decide)
 have dA:=hne gA (by decide)
 have dR:=hne gR (by decide)
 have dV:V≠Po:=fun q=>by rw[q,gP]at gV;cases gV
 refine⟨⟨A,L,M,Po,T',R,W,V,G,O,kd⟩,ek,hL,ws,n,w,rfl,hn,stHL,⟨⟨⟨mg.g,mg.w,.nil,mg.ne,(fun q=>by cases q),(fun q=>by cases q),lM,lW⟩,gA,.nil,⟨[],0,gV,fun e he=>by cases he⟩,gR,by show A<h1.next;omega,lV2,lR⟩,eA,fun q=>by have:=(fA _ q).1;have:lo<=V:=this;omega,⟨hLay,stL,po,gG,lG2⟩,fun b hb hs=>?_,fun b hb=>(fA b hb).2,tA,hn⟩,hw,hz.len,hws,hio⟩
 have hs':b<hL.next∨b=Po∨b=O∨b=G:=hs
 rcases hb with((rfl|rfl|q)|rfl|q|rfl|rfl)|hb
 ·have e:=oM2
  rcases hs' with q|q|q|q
  ·exact absurd e (Nat.not_le.2 q)
  ·exact dM.1 q
  ·exact dM.2.1 q
  ·exact dM.2.2 q
 ·have e:=oW2
  rcases hs' with q|q|q|q
  ·exact absurd e (Nat.not_le.2 q)
  ·exact dW.1 q
  ·exact dW.2.1 q
  ·exact dW.2.2 q
 ·cases q
 ·have e:=oA
  rcases hs' with q|q|q|q
  ·exact absurd e (Nat.not_le.2 q)
  ·exact dA.1 q
  ·exact dA.2.1 q
  ·exact dA.2.2 q
 ·cases q
 ·have e:=oV
  rcases hs' with q|q|q|q
  ·exact absurd e (Nat.not_le.2 q)
  ·exact dV q
  ·exact nOV q.symm
  ·exact nVG q
 ·have e:hL.next<=b:=Nat.le_trans olo oR
  rcases hs' with q|q|q|q
  ·exact absurd e (Nat.not_le.2 q)
  ·exact dR.1 q
  ·exact dR.2.1 q
  ·exact dR.2.2 q
 ·have:=(fA b hb).1
  omega
theorem newB{c:CfgT}{h0 h2:H}{v:AV}(q:Post7 c h0 v h2):∃b z rk ws,∃n w:Nat,v=.tup [.ptr b.B 0,.int .i64 0]∧c.slots=(n:Int)∧SideB h2 b z rk c n .nils .nils ws [] [] (List.replicate n 0)∧(plOf c).wo=(w:Int)∧IniB c w ws∧PlOK c (plOf c)∧∀x,footB b z rk .nils .nils x->h0.next<=x:=by
 obtain⟨B,p1,M,W,R,ws,rfl,hpow,⟨w,hw,hz,hio⟩,hsl,hws,mg,lM,lW,oM,oW,_,rfl,hp,L,Po,To,V,K,C,Tk,Gv,Gn,n,q2,cv,hv,wv,sb⟩:=q.ex
 obtain⟨lz,loc,rpx,lzL,lzn,oth,nVK,nVC,nVGn⟩:=sb.lo
 have hn:=sb.sl
 have rpx':RPrcuX lz h2 M (n:Int) R n c:=by rw[←hn];exact rpx
 obtain⟨rk,eB,fB,tB,gR,oR,lR⟩:=rpx'.eng
 have po':=sb.po
 obtain⟨gP,gT,gGn,lPo,lTk,lGn⟩:=po'
 have oB:=oth B (by simp)
 have oV:=oth V (by simp)
 have oK:=oth K (by simp)
 have oC:=oth C (by simp)
 have oM2:=oth M (by simp)
 have oW2:=oth W (by simp)
 have oPo:=oth Po (by simp)
 have oTk:=oth Tk (by simp)
 have oGn:=oth Gn (by simp)
 have h0z:=sb.oL.1
 have sbx:SB h2 ⟨B,L,M,Po,To,R,W,V,K,C,q2⟩ rk n .nils .nils ws [] []:=⟨⟨mg.g,mg.w,.nil,mg.ne,(fun q=>by cases q),(fun q=>by cases q),lM,lW⟩,sb.gB,.nil,⟨_,sb.gV,List.length_replicate⟩,gR,sb.oB.2,sb.oV.2,lR⟩
 have lcv:∀x,own cv=some x->x<h2.next:=fun x hx=>by have:=(loc x hx).2;omega
 refine⟨⟨B,L,M,Po,To,R,W,V,K,C,q2⟩,⟨Tk,Gv,Gn,cv,hv,wv⟩,rk,ws,n,w,rfl,hn,⟨sbx,eB,⟨sb.gL,sb.rd,lcv,sb.po,sb.gK,sb.gC,sb.oL.2,sb.oK.2,sb.oC.2,sb.hq⟩,fun x hx hs=>?_,tB,hn⟩,hw,hio,hp,fun x hx=>?_⟩
 ·have hz:lz<=x∧(x=V∨∃c k e,h2.t.get x=some (.row c k e)∧e≠306∧e≠4∧e≠3):=by
   rcases hx with hx|hx
   ·rcases hx with(rfl|rfl|q)|rfl|q|rfl|rfl
    ·exact⟨oM2,.inr ⟨_,_,_,mg.g,by decide⟩⟩
    ·exact⟨oW2,.inr ⟨_,_,_,mg.w,by decide⟩⟩
    ·cases q
    ·exact⟨oB,.inr ⟨_,_,_,sb.gB,by decide⟩⟩
    ·cases q
    ·exact⟨oV,.inl rfl⟩
    ·refine⟨oR,.inr ?_⟩
     cases rk with
     |full G N=>exact⟨_,_,_,gR,by decide⟩
     |each G N=>exact⟨_,_,_,gR,by decide⟩
     |gate G nb=>exact⟨_,_,_,gR,by decide⟩
   ·obtain⟨c',k',e',g',o'⟩:=eB.ty2 hx
    exact⟨(fB x hx).1,.inr ⟨c',k',e',g',by rcases o' with rfl|rfl|rfl|rfl<;>decide⟩⟩
  obtain⟨hz,ht⟩:=hz
  have hs':x=L∨own cv=some x∨x=Po∨x=Tk∨x=Gn∨x=K∨x=C:=hs
  rcases hs' with q|q|q|q|q|q|q
  ·omega
  ·have:=(loc x q).2;omega
  all_goals
   rcases ht with rfl|⟨c',k',e',g',o1,o2,o3⟩
   ·first
    |exact absurd (ty_ne (q▸sb.gV) gP) (by decide)
    |exact absurd (ty_ne (q▸sb.gV) gT) (by decide)
    |exact nVGn q
    |exact nVK q
    |exact nVC q
   ·subst q
    first
    |exact o1 (ty_ne g' gP)
    |exact o2 (ty_ne g' gT)
    |exact o3 (ty_ne g' gGn)
    |exact o3 (ty_ne g' sb.gK)
    |exact o3 (ty_ne g' sb.gC)
 ·rcases hx with hx|hx|hx
  ·rcases hx with(rfl|rfl|q)|rfl|q|rfl|rfl
   ·exact oM
   ·exact oW
   ·cases q
   ·exact sb.oB.1
   ·cases q
   ·exact sb.oV.1
   ·exact Nat.le_trans (by omega) oR
  ·have:=(fB x hx).1;omega
  ·rcases hx with rfl|q|rfl|rfl|rfl|rfl|rfl
   ·exact h0z
   ·exact(loc x q).1
   ·exact sb.oP.1
   ·exact sb.oP.2.1
   ·exact sb.oP.2.2
   ·exact sb.oK.1
   ·exact sb.oC.1
theorem ini_two{c:CfgT}{h0 h1 h1' h2:H}{v1 v2:AV}(lay:layB c)(p:Post6 c h0 v1 h1)(s:StepN h1 h1')(q:Post7 c h1' v2 h2):
 ∃A B hL,∃n:Nat,v1=.tup [.ptr A 0,.int .i64 0]∧v2=.tup [.ptr B 0,.int .i64 0]∧c.slots=(n:Int)∧StepN h0 hL∧TwoS hL h2 (fun _=>False) A B c n 0 (List.replicate n 0):=by
 obtain⟨a,ek,hL,ws,n,w,rfl,hn,stL,sA,hw,hwl,hw5,hio⟩:=newA p
 obtain⟨b,z,rk,ws2,n2,w2,rfl,hn2,sB,hw2,hio2,hp,oB⟩:=newB q
 obtain rfl:n2=n:=by omega
 obtain rfl:w2=w:=by omega
 obtain⟨_,⟨_,_⟩,⟨s1,s2⟩,e1,e3,g1,g2,_,⟨k1,k2⟩,_⟩:=lay
 have hs:0<=c.slots:=by omega
 obtain rfl:=ini_same hp hs hw hio hio2
 have sA2:=sA.keep (Nat.le_trans s.next q.st.next) fun x lx _=>(q.st.old x (Nat.lt_of_lt_of_le lx s.next)).trans (s.old x lx)
 have tg:=sA.tg
 have hpo:=hp.po
 have heng:=hp.eng
 have een:(plOf c).en=c.slots:=rfl
 have ew:(plOf c).wo=(ws.length:Int):=by omega
 have z0:∀k:Nat,(k:Int)<(plOf c).po->ws[k]?=some 0:=fun k hk=>ini_zero hp hs hw hio hk
 refine⟨a.A,b.B,hL,n2,rfl,rfl,hn,stL,a,ek,.nils,.nils,b,z,rk,.nils,.nils,ws,[],[],rfl,rfl,⟨sA2,sB,fun x hx hy=>?_,fun x _ hq=>hq,⟨⟨by omega,fun e=>?_,fun e=>?_,fun e=>?_⟩,by omega,Nat.le_refl _,Nat.le_refl _,by omega⟩,by omega,fun i x hx=>.inl (nu0 _ _ _ hx),fun x hq=>hq.elim⟩⟩
 ·have:=sA.lt hx
  have:=oB x hy
  have:=s.next
  omega
 ·unfold engN at heng
  rw[if_pos (by omega)]at heng
  omega
 ·unfold engN at heng
  rw[if_neg (by omega),if_pos (by omega)]at heng
  omega
 ·have e3':c.engine=3:=by omega
  obtain⟨b1,b2⟩:=g1 e3'
  have epo:(plOf c).po=plA c:=rfl
  unfold plA engN at epo
  rw[if_neg (by omega),if_neg (by omega)]at epo
  exact⟨z0 n2 (by omega),0,z0 (n2+1) (by omega),by omega,by omega⟩
@[go_sem]def c166:CF:=⟨1,(Sq [D 2] (Rq [a 3 0,⟨some 4,none,.e (.app 51 1 8 (.c .nils) (.t 3))⟩,a 2 4])),[.tmp 2]⟩
@[go_sem]def c84:CF:=⟨1,(Sq [w 1 24 0,jw 2 24 0 0] (Sq [d 3 2 1,i 4 3,q 5 166 4,d 6 2 1,t 1 6 5] (Rq [V 7 3 1,t 3 2 7]))),[(.cell 2 (some 3))]⟩
@[go_sem]def c21:CF:=⟨1,(Sq [w 1 27 0,q5 2 27 0 0 0 0 0 0 0 0 0 0 0 0 0 0 0] (Sq [d 3 4 1,V 4 3 3,q 5 84 4,d 6 4 1,t 3 6 5] (Rq [V 7 16 1,t 16 2 7]))),[(.cell 2 (some 16))]⟩
@[go_sem]def c4:CF:=⟨1,(Sq [w 1 27 0,⟨some 2,none,.n (.new 33 [.nilp,.nilp])⟩,G 3] (Sq [V 9 16 1,q 10 21 9,q 11 20 10,a 8 11,o 12 8 0,o 13 8 1,a 4 12,a 5 13] (Sq [V 15 16 1,q 16 22 15,a 14 16,o 17 14 0,o 18 14 1,a 6 17,a 7 18] (Rq [a 19 4,a 20 6,zK 21 0 1 19 1 1 20,a 22 5,U 23 54 22 0,a 24 23,B 25 24 7,qP 26 24 54 25 0,O 27 24 26,t 2 2 21,a 3 27])))),[(.cell 2 (some 2)),.tmp 3]⟩
theorem w166{h:H}{v:AV}{l:List Int}(hv:RdL none 1 h v (uL l))(hl:l.length<=1000):WF P call c166 [v] h (CopyU l h):=by
 have hlen:=uL_len l
 rcases id hv with⟨rfl,h0⟩|⟨a,o,cap,rfl,h1,h2⟩
 ·simp only[go_sem,seval]
  refine opt_some (x:=(.nils,h)) rfl ?_
  simp only[go_sem,seval]
  exact⟨.inl ⟨rfl,h0⟩,fun a ha=>(by cases ha),StepN.refl h⟩
 ·have hs:=hv.src1
  simp only[go_sem,seval]at hs
  simp only[go_sem,seval,hs]
  by_cases hz:l.length=0
  ·have:l=[]:=List.eq_nil_of_length_eq_zero hz
   subst this
   refine opt_some (x:=(.nils,h)) rfl ?_
   simp only[go_sem,seval]
   exact⟨.inl ⟨rfl,rfl⟩,fun a ha=>(by cases ha),StepN.refl h⟩
  ·refine opt_some (appA_own (n:=(uL l).length) (src:=uL l) (Own.nil (es:=1) (e:=51) (h:=h)) (by decide) (by omega) (by omega) (by omega)) ?_
   simp only[go_sem,seval]
   refine⟨.inr ⟨h.next,0,none,by simp[go_sem,appV],by omega,fun i x hx=>?_⟩,fun a ha=>?_,⟨by show h.next<=h.next+1;omega,fun b hb=>?_⟩⟩
   ·rw[rLdA,Nat.mul_one,Nat.zero_add]
    unfold appT
    simp only[go_sem,seval]
    exact hx
   ·cases ha
    exact⟨Nat.le_refl _,Nat.lt_succ_self _⟩
   ·have e1:¬b=h.next:=by omega
    unfold appT
    simp only[go_sem,seval,e1]
def F166(call:CallE):Prop:=∀h v (l:List Int),RdL none 1 h v (uL l)->l.length<=1000->Does call 166 [v] h (CopyU l h)
theorem w84(h166:F166 call){h:H}{v:AV}{k n:Int}{l:List Int}(hv:RdL none 1 h v (uL l))(hlv:∀a,own v=some a->a<h.next)(hl:l.length<=1000):WF P call c84 [.agg [.int .u8 k,.int .i64 n,v]] h fun r h'=>∃v',r=.agg [.int .u8 k,.int .i64 n,v']∧CopyU l h v' h':=by
 have ov:=hv.one
 have m1:¬h.next=h.next+1:=by omega
 have m2:¬h.next+1=h.next:=by omega
 have st0:∀x y,StepN h ⟨h.next+2,(h.t.set h.next x).set (h.next+1) y⟩:=fun x y=>⟨Nat.le_add_right _ _,fun b hb=>by
  have e1:¬b=h.next:=by omega
  have e2:¬b=h.next+1:=by omega
  simp only[go_sem,seval,e1,e2]⟩
 simp only[go_sem,seval,ov,m1,m2]
 refine opt_by (h166 _ v l (hv.keep fun b hb=>(st0 _ _).old b (hlv b hb)) hl) fun v1 h1 p1=>?_
 have g0:=p1.st.old h.next (by show h.next<h.next+2;omega)
 have g1:=p1.st.old (h.next+1) (by show h.next+1<h.next+2;omega)
 simp only[go_sem,seval,m1,m2]at g0 g1
 have ov1:=p1.rd.one
 have nx:h.next+2<=h1.next:=p1.st.next
 simp only[go_sem,seval,g0,g1,m1,m2,ov1]
 refine⟨v1,rfl,p1.rd.keep fun b hb=>?_,fun a ha=>?_,by show h.next<=h1.next;omega,fun b hb=>?_⟩
 ·have e0:h.next+2<=b:=(p1.lo b hb).1
  have e1:¬b=h.next:=by omega
  have e2:¬b=h.next+1:=by omega
  simp only[go_sem,seval,e1,e2]
 ·have e0:h.next+2<=a:=(p1.lo a ha).1
  exact⟨by omega,(p1.lo a ha).2⟩
 ·have e1:¬b=h.next:=by omega
  have e2:¬b=h.next+1:=by omega
  have:=p1.st.old b (by show b<h.next+2;omega)
  simp only[go_sem,seval,e1,e2]at this
  simp only[go_sem,seval,e1,e2,this]
def F84(call:CallE):Prop:=∀h v (k n:Int) l,RdL none 1 h v (uL l)->(∀a,own v=some a->a<h.next)->l.length<=1000->Does call 84 [.agg [.int .u8 k,.int .i64 n,v]] h fun r h'=>∃v',r=.agg [.int .u8 k,.int .i64 n,v']∧CopyU l h v' h'
theorem w21(h84:F84 call){h:H}{c:CfgT}{v:AV}(hv:RdL none 1 h v (uL c.cuts))(hlv:∀a,own v=some a->a<h.next)(hl:c.cuts.length<=1000):WF P call c21 [.agg (cfgC c v)] h fun r h'=>∃v',r=.agg (cfgC c v')∧CopyU c.cuts h v' h':=by
 have ov:=hv.one
 have m1:¬h.next=h.next+1:=by omega
 have m2:¬h.next+1=h.next:=by omega
 have st0:∀x y,StepN h ⟨h.next+2,(h.t.set h.next x).set (h.next+1) y⟩:=fun x y=>⟨Nat.le_add_right _ _,fun b hb=>by
  have e1:¬b=h.next:=by omega
  have e2:¬b=h.next+1:=by omega
  simp only[go_sem,seval,e1,e2]⟩
 simp only[go_sem,seval,cfgC,ov,m1,m2]
 refine opt_by (h84 _ v c.kind c.n c.cuts (hv.keep fun b hb=>(st0 _ _).old b (hlv b hb)) (fun a ha=>by have:=hlv a ha;show a<h.next+2;omega) hl) fun r1 h1 p1=>?_
 obtain⟨v1,rfl,p1⟩:=p1
 have g0:=p1.st.old h.next (by show h.next<h.next+2;omega)
 have g1:=p1.st.old (h.next+1) (by show h.next+1<h.next+2;omega)
 simp only[go_sem,seval,m1,m2]at g0 g1
 have ov1:=p1.rd.one
 have nx:h.next+2<=h1.next:=p1.st.next
 simp only[go_sem,seval,g0,g1,m1,m2,ov1,rowPut]
 refine⟨v1,rfl,p1.rd.keep fun b hb=>?_,fun a ha=>?_,by show h.next<=h1.next;omega,fun b hb=>?_⟩
 ·have e0:h.next+2<=b:=(p1.lo b hb).1
  have e1:¬b=h.next:=by omega
  have e2:¬b=h.next+1:=by omega
  simp only[go_sem,seval,e1,e2]
 ·have e0:h.next+2<=a:=(p1.lo a ha).1
  exact⟨by omega,(p1.lo a ha).2⟩
 ·have e1:¬b=h.next:=by omega
  have e2:¬b=h.next+1:=by omega
  have:=p1.st.old b (by show b<h.next+2;omega)
  simp only[go_sem,seval,e1,e2]at this
  simp only[go_sem,seval,e1,e2,this]
def F21(call:CallE):Prop:=∀h c v,RdL none 1 h v (uL c.cuts)->(∀a,own v=some a->a<h.next)->c.cuts.length<=1000->Does call 21 [.agg (cfgC c v)] h fun r h'=>∃v',r=.agg (cfgC c v')∧CopyU c.cuts h v' h'
theorem RdL.hole{h h':H}{v:AV}{xs:List AV}{k:Nat}{e:TypeId}(r:RdL none 1 h v xs)(hx:∀x∈xs,x≠.nilp)(g:h.t.get k=some (.row (putList 0 [.nilp,.nilp] T.e) 2 e))(q:∀b,b≠k->h'.t.get b=h.t.get b):RdL none 1 h' v xs:=by
 rcases r with⟨a,b⟩|⟨a,o,cap,e1,e2,e3⟩
 ·exact .inl ⟨a,b⟩
 ·refine .inr ⟨a,o,cap,e1,e2,fun i x hi=>?_⟩
  have h1:=e3 i x hi
  by_cases ak:a=k
  ·subst ak
   unfold ldA at h1
   rw[g]at h1
   have h2:[AV.nilp,.nilp][o+i*1]?=some x:=by
        have h3:(putList 0 [AV.nilp,.nilp] T.e).get (o+i*1)=some x:=h1
        rw[rowGet]at h3
        exact h3
   have h4:=List.mem_of_getElem? h2
   have h5:x=.nilp:=by simpa using h4
   exact absurd h5 (hx x (List.mem_of_getElem? hi))
  ·unfold ldA at h1⊢
   rw[q a ak]
   exact h1
theorem LayH.hole{h h':H}{L:Nat}{c:CfgT}{p:PlT}{hs:List Int}{k:Nat}(m:LayH h L c p hs)(g:h.t.get k=some (.row (putList 0 [.nilp,.nilp] T.e) 2 33))(hn:h.next<=h'.next)(q:∀b,b≠k->h'.t.get b=h.t.get b):LayH h' L c p hs:=by
 obtain⟨cv,gv,hv,tv,val,gL,r1,r2,r3,r4,o1,o2⟩:=m.ex
 have l:∀{a},a<h.next->a<h'.next:=fun ha=>Nat.lt_of_lt_of_le ha hn
 have i1:∀x∈uL c.cuts,x≠AV.nilp:=fun x hx e=>by
  unfold uL at hx
  obtain⟨y,_,rfl⟩:=List.mem_map.1 hx
  cases e
 have i2:∀x∈iL hs,x≠AV.nilp:=fun x hx e=>by
  unfold iL at hx
  obtain⟨y,_,rfl⟩:=List.mem_map.1 hx
  cases e
 exact⟨⟨cv,gv,hv,tv,val,(q L (rowL_ne gL g (by decide))).trans gL,r1.hole i1 g q,fun a ha=>l (r2 a ha),r3.hole i2 g q,fun a ha=>l (r4 a ha),o1,o2⟩,l m.lt⟩
theorem TwoS.hole{hL h:H}{P:Nat->Prop}{A B:Nat}{c:CfgT}{n m:Nat}{nu:List Int}{k:Nat}{o:AO}(t:TwoS hL h P A B c n m nu)(lk:k<hL.next)(g:hL.t.get k=some (.row (putList 0 [.nilp,.nilp] T.e) 2 33)):TwoS ⟨hL.next,hL.t.set k o⟩ ⟨h.next,h.t.set k o⟩ P A B c n m nu:=by
 obtain⟨a,ek,lv,ev,b,z,rk,lv2,ev2,ws,l,es,ea,eb,t⟩:=t
 have gk:=(t.A.st.fz.old k lk).trans g
 have qh:∀{x:Nat},x≠k->(h.t.set k o).get x=h.t.get x:=fun{x} hx=>by simp only[go_sem,seval,hx]
 have qL:∀{x:Nat},x≠k->(hL.t.set k o).get x=hL.t.get x:=fun{x} hx=>by simp only[go_sem,seval,hx]
 have nA:∀x,saF a lv ev x∨engF ek x->x≠k:=fun x hx e=>t.A.ds x hx (.inl (e▸lk))
 have nB:∀x,footB b z rk lv2 ev2 x->x≠k:=fun x hx e=>t.d x (.inr (.inr (.inl (e▸lk)))) hx
 obtain⟨gv,gP,gO,lP,lO,og⟩:=t.A.st.po
 have kP:a.Po≠k:=rowL_ne gP gk (by decide)
 have kO:a.O≠k:=fun q=>by rw[q,gk]at gO;cases gO
 have kG:a.Gm≠k:=fun q=>by have:=t.A.st.gm;rw[q,gk]at this;cases this
 have hr:=Nat.le_refl h.next
 refine⟨a,ek,lv,ev,b,z,rk,lv2,ev2,ws,l,es,ea,eb,⟨⟨t.A.sa.keep hr fun x _ hx=>qh (nA x (.inl hx)),t.A.en.keep hr fun x _ hx=>qh (nA x (.inr hx.f)),t.A.vs,⟨t.A.st.lay.hole g (Nat.le_refl _) fun x hx=>qL hx,⟨t.A.st.fz.next,fun x hx=>?_⟩,⟨gv,(qh kP).trans gP,(qh kO).trans gO,lP,lO,og⟩,(qh kG).trans t.A.st.gm,t.A.st.lG⟩,t.A.ds,t.A.el,t.A.tg,t.A.sl⟩,t.B.keep hr fun x _ hx=>qh (nB x hx),t.d,t.p,t.w,t.n64,t.nu01,t.lP⟩⟩
 by_cases hk:x=k
 ·subst hk
  simp only[go_sem,seval]
 ·rw[show(hL.t.set k o).get x=hL.t.get x from qL hk,show(h.t.set k o).get x=h.t.get x from qh hk]
  exact t.A.st.fz.old x hx
def F20(call:CallE):Prop:=∀h c v,RdL none 1 h v (uL c.cuts)->(∀a,own v=some a->a<h.next)->layB c->(hsL c).length<=60->Does call 20 [.agg (cfgC c v)] h (Post6 c h)
def F22(call:CallE):Prop:=∀h c v,RdL none 1 h v (uL c.cuts)->(∀a,own v=some a->a<h.next)->(∀x∈c.cuts,inU x)->layB c->(hsL c).length<=60->Does call 22 [.agg (cfgC c v)] h (Post7 c h)
def Post4(c:CfgT)(h:H)(v:AV)(h':H):Prop:=StepN h h'∧∃A B hL,∃n:Nat,v=.tup [.agg [.ptr A 0,.ptr B 0],.bool true]∧c.slots=(n:Int)∧StepN h hL∧TwoS hL h' (fun _=>False) A B c n 0 (List.replicate n 0)
theorem w4(h21:F21 call)(h20:F20 call)(h22:F22 call){h:H}{c:CfgT}{v:AV}(hv:RdL none 1 h v (uL c.cuts))(hlv:∀a,own v=some a->a<h.next)(hl:c.cuts.length<=1000)(hin:∀x∈c.cuts,inU x)(lay:layB c)(hn:(hsL c).length<=60):WF P call c4 [.agg (cfgC c v)] h (Post4 c h):=by
 have ov:=hv.one
 have m1:¬h.next=h.next+1:=by omega
 have m2:¬h.next+1=h.next:=by omega
 have st0:∀x y,StepN h ⟨h.next+2,(h.t.set h.next x).set (h.next+1) y⟩:=fun x y=>⟨Nat.le_add_right _ _,fun b hb=>by
  have e1:¬b=h.next:=by omega
  have e2:¬b=h.next+1:=by omega
  simp only[go_sem,seval,e1,e2]⟩
 simp only[go_sem,seval,cfgC,ov,m1,m2]
 refine opt_by (h21 _ c v (hv.keep fun b hb=>(st0 _ _).old b (hlv b hb)) (fun a ha=>by have:=hlv a ha;show a<h.next+2;omega) hl) fun r1 h1 p1=>?_
 obtain⟨v1,rfl,p1⟩:=p1
 simp only[go_sem,seval,cfgC]
 refine opt_by (h20 h1 c v1 p1.rd (fun a ha=>(p1.lo a ha).2) lay hn) fun r2 h2 p2=>?_
 have st02:=((st0 _ _).trans p1.st).trans p2.st
 have g0:=(p1.st.trans p2.st).old h.next (by show h.next<h.next+2;omega)
 have g1:=(p1.st.trans p2.st).old (h.next+1) (by show h.next+1<h.next+2;omega)
 simp only[go_sem,seval,cfgC,m1,m2]at g0 g1
 obtain⟨A0,hA0⟩:∃A,r2=.tup [.ptr A 0,.int .i64 0]:=by
  obtain⟨A,p1,M,W,R,ws,e,_⟩:=p2.ex
  exact⟨A,e⟩
 subst hA0
 simp only[go_sem,seval,g0,g1]
 refine opt_by (h22 h2 c v (hv.keep fun b hb=>st02.old b (hlv b hb)) (fun a ha=>Nat.lt_of_lt_of_le (hlv a ha) st02.next) hin lay hn) fun r3 h3 p3=>?_
 obtain⟨A,B,hL,n,e1,rfl,hsl,stL,t⟩:=ini_two lay p2 (StepN.refl _) p3
 obtain rfl:A0=A:=by cases e1;rfl
 have g13:=(p3.st.old (h.next+1) (Nat.lt_of_lt_of_le (by show h.next+1<h.next+2;omega) (p1.st.trans p2.st).next)).trans g1
 simp only[go_sem,seval,g13]
 have l1:h.next+2<=h1.next:=p1.st.next
 have g11:=p1.st.old (h.next+1) (by show h.next+1<h.next+2;omega)
 simp only[go_sem,seval,cfgC,m1,m2]at g11
 have lL:h.next+1<hL.next:=Nat.lt_of_lt_of_le (by omega) stL.next
 have gL1:=(stL.old (h.next+1) (by omega)).trans g11
 refine⟨⟨by have:=st02.next;have:=p3.st.next;show h.next<=h3.next;simp only at*;omega,fun b hb=>?_⟩,A0,B,_,n,rfl,hsl,⟨by show h.next<=hL.next;omega,fun b hb=>?_⟩,t.hole lL gL1⟩
 ·have e1:¬b=h.next+1:=by omega
  simp only[go_sem,seval,e1]
  exact(p3.st.old b (Nat.lt_of_lt_of_le hb st02.next)).trans (st02.old b hb)
 ·have e1:¬b=h.next+1:=by omega
  simp only[go_sem,seval,e1]
  rw[stL.old b (by omega)]
  exact((st0 _ _).trans p1.st).old b hb
def F4(call:CallE):Prop:=∀h c v,RdL none 1 h v (uL c.cuts)->(∀a,own v=some a->a<h.next)->c.cuts.length<=1000->(∀x∈c.cuts,inU x)->layB c->(hsL c).length<=60->Does call 4 [.agg (cfgC c v)] h (Post4 c h)
end
end Go.Proofs.YtghmnaojmpjglaaGreatDoor.PR
