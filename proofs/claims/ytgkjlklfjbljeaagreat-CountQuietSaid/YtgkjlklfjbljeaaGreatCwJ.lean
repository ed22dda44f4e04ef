/-
  What functions of the program compute. Conditions: those of each theorem.
-/
import Derived.Test.YtgkjlklfjbljeaaGreatCwI
set_option linter.all false
namespace Go.Proofs.YtgkjlklfjbljeaaGreat.CQ
open Go.Proofs.YtgkjlklfjbljeaaGreat.Eo
noncomputable section
@[go_sem]def Q7:Fj:=[z 3 27 0,w 6]
@[go_sem]def Q8:Fj:=[S 31 16 3,q 32 5 31,q 33 4 32,a 30 33,o 34 30 0,o 35 30 1,ja 7 33,s 2 7 34,a 8 35]
@[go_sem]def Q9:Fj:=[a 36 8,qa 37 36,a 38 37,zI 39 38 2 7,r 40 38 1,zo 41 38 6 39 40,qz 42 38 41,u 43 38 42]
@[go_sem]def Ra:Fj:=[w 6]
@[go_sem]def Rc:Fj:=[S 45 2 7,q 46 7 45,a 44 46,o 47 44 0,o 48 44 1,a 9 47,a 10 48]
@[go_sem]def Re:Fj:=[a 49 10,qa 50 49]
@[go_sem]def Rf:Fj:=[w 6]
@[go_sem]def Rg:Fj:=[d 51 1 7,i 52 51,q 53 8 52,a 11 53,b 12 0]
@[go_sem]def Rh:Fj:=[b 13 0]
def pK:CC:=(Qq (Sq [a 54 13,a 55 2,N 56 55,qc 57 3 54 56,a 58 57,K 59 58 13,qy 60 58 3 59 20,O 61 58 60,a 62 61,K 63 62 11,qr 64 62 63,⟨some 65,some (62,true),.p (.bin .gtr 3 false true (.t 64) (.c (.int .i64 0)))⟩,O 66 62 65] (Cq 66 .skip (.exit 0))) (Qq (.block 1 (Qq (.cn ⟨[([R 0 7 0,k 1 70 0,g 3 11,g 4 2,g 5 13,Y 6 74 4 75 5 1,k 7 76 6,g 8 11,qK 9 78 8],some (Z 2 71 1 9)),([],some (qq 10 77 7 79 9 11)),([Y 11 73 3 80 10 1,k 12 81 11],some (zA 13 72 2 82 12 10 4)),([t 14 83 13,B 15 69 14 0,B 16 69 14 1,t 17 84 15,t 18 85 16],none)],[(0,70),(1,71),(2,72),(3,73),(4,74),(5,75),(6,76),(7,77),(8,78),(9,79),(10,80),(11,81),(12,82),(13,83),(14,69),(15,84),(16,85),(17,14),(18,15)],[(⟨7,[(76,(some 6))],none,.r (.ld none (.t 76))⟩,[1])]⟩) (Oq [d 86 0 7,i 87 86,q 88 12 87,a 89 14,⟨some 90,none,.cv (.c (.fn (.func 13) [] [])) [.t 88,.c (.int .i64 0),.t 89,.c (.int .u64 2)]⟩]))) (Oq [a 67 13,C 68 3 67 1,a 13 68])))
@[go_sem]def Kt:Fj:=[b 16 0]
def ti:CC:=(Qq (Sq [a 91 16,a 92 11,N 93 92,qc 94 3 91 93] (Cq 94 .skip (.exit 2))) (Qq (.block 3 (Qq (.cn ⟨[([R 0 7 0,k 1 98 0,g 3 11,g 4 16,Y 5 101 3 102 4 1,k 6 103 5,⟨11,[],none,.n (.new 52 [cY,cY,cY,cY,cY,.ax])⟩],some (Z 2 99 1 14)),([],some (qq 7 100 2 104 6 15)),([t 8 105 7,B 9 97 8 0,B 10 97 8 1],some (V 12 17 11 106 9 6)),([t 13 107 10],none)],[(0,98),(1,99),(2,100),(3,101),(4,102),(5,103),(6,104),(7,105),(8,97),(9,106),(10,107),(11,17),(13,18)],[(⟨1,[(98,(some 0))],none,.r (.ld none (.t 98))⟩,[0]),(⟨6,[(103,(some 5))],none,.r (.ld none (.t 103))⟩,[0,1])]⟩) (Sq [d 108 4 17,i 109 108,qV 110 50 109 1] (Cq 110 (Oq [a 111 12,C 112 3 111 1,a 12 112]) .skip)))) (Oq [a 95 16,C 96 3 95 1,a 16 96])))
@[go_sem]def Ku:Fj:=[b 19 1]
@[go_sem]def Kv:Fj:=[d 113 0 7,i 114 113,q 115 16 114,qT 116 5 2 115,zl 117 5 116 1]
@[go_sem]def Kw:Fj:=[b 19 2]
def Bm:CC:=(Qq (Sq [a 149 27,a 150 20,N 151 150,qc 152 3 149 151] (Cq 152 .skip (.exit 4))) (Qq (.block 5 (Sq [a 155 27,d 156 3 21,i 157 156,zF 158 3 155 157,a 159 158,K 160 159 27,qi 161 159 3 21,qh 162 159 161,⟨some 163,some (159,true),.p (.bin .add 3 false true (.t 162) (.c (.int .i64 3)))⟩,z9 164 159 3 160 163,O 165 159 164,a 166 165,K 167 166 27,qi 168 166 3 21,qh 169 166 168,⟨some 170,some (166,true),.p (.bin .neq 3 false false (.t 167) (.t 169))⟩,O 171 166 170,a 28 171] (Sq [a 172 27,d 173 1 21,i 174 173,zF 175 3 172 174,a 176 175,K 177 176 27,qi 178 176 2 21,qh 179 176 178,z9 180 176 3 177 179,O 181 176 180,a 29 181] (Qq (.cn ⟨[([g 0 26,g 1 27,Y 2 182 0 183 1 1,k 3 184 2,g 4 20,g 5 27,Y 6 186 4 187 5 1,k 7 188 6,zR 8 185 3 189 7 50,t 9 190 8,qN 10 191 9 28 191,jZ 11 191 9 192 10 191,q3 12 191 9 193 11,t 13 194 12,qN 14 195 13 29 195,jZ 15 195 13 196 14 195,q3 16 195 13 197 15],none)],[(0,182),(1,183),(2,184),(3,185),(4,186),(5,187),(6,188),(7,189),(8,190),(9,191),(10,192),(11,193),(12,194),(13,195),(14,196),(15,197),(16,198)],[]⟩) (Kq 198 [w 6] .skip))))) (Oq [a 153 27,C 154 3 153 1,a 27 154])))
@[go_sem]def c3:CF:=⟨3,(Sq Q7 (Sq Q8 (Qq (Sq Q9 (Kq 43 Ra .skip)) (Qq (Sq Rc (Sq Re (Kq 50 Rf .skip))) (Sq Rg (Qq (Sq Rh (.block 0 (.loop pK))) (Qq (Sq Kt (.block 2 (.loop ti))) (Sq Ku (Qq (Sq Kv (Cq 117 (Oq Kw) .skip)) (Qq (.cn ⟨[([R 0 7 0,k 1 118 0,R 4 7 0,k 5 122 4,⟨8,[],none,.n (.new 60 [aN,aN,aN,aN,aN,aN,aN,aN,aN,aN])⟩],some (Z 2 119 1 12)),([],some (Z 3 120 2 17)),([],some (Z 6 123 5 9)),([],some (Z 7 124 6 18)),([t 9 121 3],some (V 10 21 8 125 7 10)),([],none)],[(0,118),(1,119),(2,120),(3,121),(4,122),(5,123),(6,124),(7,125),(8,21),(9,20)],[(⟨1,[(118,(some 0))],none,.r (.ld none (.t 118))⟩,[0]),(⟨5,[(122,(some 4))],none,.r (.ld none (.t 122))⟩,[0,1,2])]⟩) (Sq [d 127 0 7,i 128 127,q8 129 19 128 0 0,a 126 129,o 130 126 0,o 131 126 1,a 22 130,a 23 131] (Qq (Sq [a 132 23,A 133 41 132 0] (Kq 133 [w 6] .skip)) (Sq [a 135 22,q 136 20 135,a 134 136,o 137 134 0,o 138 134 1,o 139 134 2,zD 24 66 0 0 0 0,s 5 24 137,a 25 138,a 8 139] (Sq [d 140 0 7,i 141 140,q 142 12 141,q 143 17 142,a 26 143] (Qq (Sq [a 144 26,N 145 144,a 146 20,N 147 146,qZ 148 3 145 147] (Kq 148 [w 6] .skip)) (Qq (Sq [b 27 0] (.block 4 (.loop Bm))) (Qq (.cn ⟨[([g 0 8,t 1 199 0,j0 2 200 1 24 200 5,qN 3 200 1 12 200,⟨4,[(200,some 1),(202,some 3)],some (200,true),.p (.build [aN,bO,cY,cY,aN] [(4,1,.t 202)])⟩,j1 5 200 1 201 2 203 4 200 66,q3 6 200 1 204 5,t 7 205 6,qN 8 206 7 25 206,⟨9,[(206,some 7),(7,none)],some (206,true),.p (.uC 0 (.t 7))⟩,jB 10 206 7 208 9 206,j0 15 206 7 7 206 2,qN 17 206 7 19 206,jd 18 206 7 216 17 206 3 2,qN 21 206 7 11 206,⟨22,[(206,some 7),(220,some 21)],some (206,true),.p (.As (.t 220))⟩,⟨23,[(206,some 7),(221,some 22)],some (206,true),.p (.bin .mul 3 true false (.c (.int .i64 2)) (.t 221))⟩],some (j2 11 206 7 209 10 206 16)),([⟨12,[(206,some 7),(210,some 11)],some (206,true),.p (.Qf 3 13 (.t 210))⟩,⟨13,[(206,some 7),(211,some 12)],some (206,true),.p (.bin .add 3 true false (.c (.int .i64 1)) (.t 211))⟩,jd 14 206 7 212 13 206 3 4],some (j2 16 206 7 214 15 206 21)),([⟨19,[(206,some 7),(215,some 16),(217,some 18)],some (206,true),.p (.bin .mul 3 false false (.t 215) (.t 217))⟩,j3 20 206 7 213 14 218 19 206 3,j3 24 206 7 219 20 222 23 206 3,jd 25 206 7 223 24 206 3 1,j1 26 206 7 207 8 224 25 206 3,q3 27 206 7 225 26,t 28 226 27],some ⟨29,[(227,some 28)],some (227,true),.cv (.c (.fn (.func 22) [] [])) []⟩),([q3 30 227 28 228 29,t 31 229 30],none)],[(0,199),(1,200),(2,201),(3,202),(4,203),(5,204),(6,205),(7,206),(8,207),(9,208),(10,209),(11,210),(12,211),(13,212),(14,213),(15,214),(16,215),(17,216),(18,217),(19,218),(20,219),(21,220),(22,221),(23,222),(24,223),(25,224),(26,225),(27,226),(28,227),(29,228),(30,229),(31,6)],[(⟨15,[(206,(some 7)),(7,none)],some (206,true),.r (.ld (some 2) (.t 7))⟩,[1])]⟩) .ret))))))))))))))))),[.tmp 6]⟩
section
variable {call:ab} {h h':H} {k:QQ} {ws:List Int} {m m':Nat} {vm:AO} {E c:Cm} {e:EN} {d q X:Nat} {v:Int} {R R':List Cm}
theorem EQ.new(x:EQ h k ws m vm e d q v X R)(st:ae h h')(I:c.I h')(F:∀b,c.F b->h.next<=b):EQ h' k ws m vm e d q v X (c::R):=by
 obtain⟨Y,w,hw,o,w1,lv,ev,m1,m2,h1,h2,s⟩:=x;refine⟨Y,w,hw,o,w1,lv,ev,m1,m2,h1,h2,(s.cons (c:=c) st I F).perm ?_⟩;rw[hY (R:=R),hY (R:=c::R)];exact List.perm_middle.symm
theorem EQ.store(uH:D6 call)(x:EQ h k ws m vm e d q v X R)(hm:m<=900000){i:Nat}{y z:Int}(hx:ws[i]?=some y)(z0:0<=z):∃h',call 13 [.ptr k.a.M 0,.int .i64 0,.int .i64 (i:Int),.int .u64 z] h=some (.int .i64 0,h')/\h.next<=h'.next/\EQ h' k (ws.set i z) (m+1) vm e d q v X R:=by
 obtain⟨Y,w,hw,x⟩:=x;obtain⟨h',e1,n1,y⟩:=x.store uH hm hx z0;exact⟨h',e1,n1,Y,w,hw,y⟩
theorem EQ.fz(x:EQ h k ws m vm e d q v X R):ae k.hL h:=by
 obtain⟨Y,w,hw,o,w1,lv,ev,m1,m2,h1,h2,s⟩:=x;exact s.ok 3 _ rfl
theorem EQ.get{j:Nat}(x:EQ h k ws m vm e d q v X R)(hj:R[j]?=some c):c.I h:=by
 obtain⟨Y,w,hw,x⟩:=x;exact x.get hj
def MC(L:List Nat):List AV:=iL (L.map Int.ofNat)
theorem F3{L:List Nat}{i t:Nat}(h:L[i]?=some t):(MC L)[i]?=some (.int .i64 (t:Int)):=by
 unfold MC iL;rw[List.map_map,List.getElem?_map,h];rfl
def wK(c:aj)(L:List Nat)(ws cz:List Int):Prop:=cz.length=ws.length/\∀q,(∀t∈L,q≠ED c t)->cz[q]?=ws[q]?
def Hj(k:KK)(T7:Nat)(lv:AV)(L:List Nat):List Cm:=Ez lv L.length (MC L)::aD k.b.B (ag (.ptr k.b.L 0::.ptr k.b.M 0::.ptr k.b.Po 0::.ptr k.b.To 0::k.rB) 95)::Mm k.b.L k.c k.b.cv k.b.hv k.b.wv::aD T7 (ag [.ptr k.a.A 0,.ptr k.b.B 0] 33)::[]
def VY(kk:KK)(k:QQ)(e:EN)(yp:List Int)(T7:Nat)(lv vd:AV)(L:List Nat)(dl:List Int)(m0:Nat)(n:Nat)(tm:T AV)(h:H):Prop:=
 tm.get 2=some vd/\tm.get 7=some (.ptr T7 0)/\tm.get 11=some lv/\tm.get 12=some (.int .i64 0)/\∃(i:Nat) (ws:List Int),i+n=min dl.length 20/\tm.get 13=some (.int .i64 (i:Int))/\wK k.c L yp ws/\EQ h k ws (m0+i) (.map [] 0) e 0 0 0 0 (Hj kk T7 lv L)
def amJ(kk:KK)(k:QQ)(e:EN)(yp:List Int)(T7:Nat)(lv:AV)(L:List Nat)(m0:Nat)(tm:T AV)(h:H):Prop:=tm.get 7=some (.ptr T7 0)/\tm.get 11=some lv/\tm.get 12=some (.int .i64 0)/\∃ws,wK k.c L yp ws/\EQ h k ws (m0+20) (.map [] 0) e 0 0 0 0 (Hj kk T7 lv L)
theorem Pm(P:Program)[PG P](k9:FB call 9 0)(mW:FB call 12 1)(Ea:NN call)(JF:S2 call)(uH:D6 call){kk:KK}(ha:kk.a=k.a){yp:List Int}{T7 m0:Nat}{lv vd:AV}{L:List Nat}{dl:List Int}(hm:m0<=2000)(hL:∀t∈L,1<=t/\t<=(aH k.c).length)(hlen:L.length<=1000)(hd:cm none 1 k.hL vd (iL dl))(QO:∀a,own vd=some a->a<k.hL.next)(n:Nat)(tm:T AV)(h:H)(hI:VY kk k e yp T7 lv vd L dl m0 n tm h):
 WC P call pK (bM 0 (fun tm h=>∃n',n'<n/\VY kk k e yp T7 lv vd L dl m0 n' tm h) (amJ kk k e yp T7 lv L m0) (fun _ _=>False)) tm h:=by
 obtain⟨t2,t7,t11,t12,i,ws,fH,t13,dw,x⟩:=hI;have hd1:=hd.aF fun b hb=>x.fz.old b (QO b hb)
 have pD:=hd1.bR;rw[gU]at pD;have ow:Own 1 3 h lv L.length (MC L):=x.get (j:=0) rfl;have yg:=ow.bR;cases n with
 |zero=>
  by_cases e1:(i:Int)<(dl.length:Int)
  ·have e2:¬(i:Int)<20:=by omega
   simp only[go_sem,seval,pK,t2,t13,pD,e1,e2];exact⟨by simp[go_sem,t7],by simp[go_sem,t11],by simp[go_sem,t12],ws,dw,x.le (by omega)⟩
  ·simp only[go_sem,seval,pK,t2,t13,pD,e1];exact⟨by simp[go_sem,t7],by simp[go_sem,t11],by simp[go_sem,t12],ws,dw,x.le (by omega)⟩
 |succ n=>
  have e1:(i:Int)<(dl.length:Int):=by omega
  have e2:(i:Int)<20:=by omega
  have f1:fw .i64 ((i:Int)+1)=(i:Int)+1:=aS (by omega) (by omega);have e3:((i+1:Nat):Int)=(i:Int)+1:=rfl
  by_cases l0:(0:Int)<(L.length:Int)
  ·obtain⟨y,hy⟩:∃y,dl[i]?=some y:=⟨_,List.getElem?_eq_getElem (by omega)⟩;obtain⟨a,o,cap,rfl,rd⟩:=hd1.Xt (sX hy);rw[gU]at t2 pD hd hd1 QO;rw[ko]at rd;have gT7:=(x.at (j:=3) rfl).1;obtain⟨ev,gA⟩:=x.gA;have k1:=k9 h k.a.A _ (.ptr k.a.L 0) gA (by simp[dx]) rfl;have QX:=mW h k.a.A _ (.ptr k.a.M 0) gA (by simp[dx]) rfl;have k2:=Ea h y (L.length:Int) (by omega) (by omega);have mb:=gq y (n:=(L.length:Int)) (by omega);obtain⟨j,hj⟩:∃j:Nat,bP y (L.length:Int)=(j:Int):=⟨(bP y (L.length:Int)).toNat,by omega⟩;rw[hj]at k2 mb;obtain⟨t,ht⟩:∃t,L[j]?=some t:=⟨_,List.getElem?_eq_getElem (by omega)⟩;have hg:=F3 ht;obtain⟨u1,u2⟩:=hL t (List.mem_of_getElem? ht);obtain⟨yy,z,hz,hyy,oZ,df,Cy⟩:=x.ar.aw.b.ED u1 u2;have k3:=JF h k.a.L k.c (t-1) z yy 4 x.ar.aw.lay x.ar.aw.b hz hyy (by decide);have k3':call 10 [.ptr k.a.L 0,.int .i64 (((t-1:Nat):Int)+1),.int .i64 4] h=some (.aE [.int .i64 (yy+4),.int .i64 0],h):=k3;rw[oZ,show((t-1:Nat):Int)+1=(t:Int) by omega]at k3';have hl:=x.ar.len;obtain⟨u,hu⟩:∃u,ws[ED k.c t]?=some u:=⟨_,List.getElem?_eq_getElem (by omega)⟩;obtain⟨h4,e4,n4,x4⟩:=x.store uH (by omega) (z:=2) hu (by decide);have e5:(j:Int)<(L.length:Int):=mb.2;generalize uD:MC L=cs at ow hg;generalize Mh:L.length=ln at*;cases ow with
   |nil=>omega
   |sl b len cs Ko hc h0 iT hb XF=>
    simp only[go_sem,seval,pK,t2,t7,t11,t13,e1,e2,l0,gT7,k1,Nat.mul_one,rd,k2,e5,Nat.zero_add,XF,hg,k3',QX,ha,e4,f1];refine⟨n,Nat.lt_succ_self n,by simp[go_sem,t2,gU],by simp[go_sem,t7],by simp[go_sem,t11],by simp[go_sem,t12],i+1,_,by omega,by simp[go_sem,e3],⟨by rw[List.length_set];exact dw.1,fun q hq=>?_⟩,x4⟩;rw[List.getElem?_set_ne (fun e=>hq t (List.mem_of_getElem? ht) e.symm)];exact dw.2 q hq
  ·simp only[go_sem,seval,pK,t2,t11,t13,pD,yg,e1,e2,l0];exact⟨by simp[go_sem,t7],by simp[go_sem,t11],by simp[go_sem,t12],ws,dw,x.le (by omega)⟩
def VZ(kk:KK)(k:QQ)(e:EN)(ws:List Int)(T7:Nat)(lv:AV)(L:List Nat)(m:Nat)(n:Nat)(tm:T AV)(h:H):Prop:=
 tm.get 7=some (.ptr T7 0)/\tm.get 11=some lv/\∃i:Nat,i+n=L.length/\tm.get 16=some (.int .i64 (i:Int))/\tm.get 12=some (.int .i64 (((L.take i).countP (wI k.c ws):Nat):Int))/\EQ h k ws m (.map [] 0) e 0 0 0 0 (Hj kk T7 lv L)
def amL(kk:KK)(k:QQ)(e:EN)(ws:List Int)(T7:Nat)(lv:AV)(L:List Nat)(m:Nat)(tm:T AV)(h:H):Prop:=tm.get 7=some (.ptr T7 0)/\tm.get 11=some lv/\tm.get 12=some (.int .i64 ((L.countP (wI k.c ws):Nat):Int))/\EQ h k ws m (.map [] 0) e 0 0 0 0 (Hj kk T7 lv L)
theorem Pn(P:Program)[PG P](T3:FB call 14 3)(k15:F15 call){kk:KK}(ha:kk.a=k.a){ws:List Int}{T7 m:Nat}{lv:AV}{L:List Nat}(hL:∀t∈L,1<=t/\t<=(aH k.c).length)(hlen:L.length<=1000)(n:Nat)(tm:T AV)(h:H)(hI:VZ kk k e ws T7 lv L m n tm h):
 WC P call ti (bM 2 (fun tm h=>∃n',n'<n/\VZ kk k e ws T7 lv L m n' tm h) (amL kk k e ws T7 lv L m) (fun _ _=>False)) tm h:=by
 obtain⟨t7,t11,i,fH,t16,t12,x⟩:=hI;have ow:Own 1 3 h lv L.length (MC L):=x.get (j:=0) rfl;have yg:=ow.bR;cases n with
 |zero=>
  have e1:¬(i:Int)<(L.length:Int):=by omega
  have e2:L.take i=L:=List.take_of_length_le (by omega);rw[e2]at t12;simp only[go_sem,seval,ti,t11,t16,yg,e1];exact⟨by simp[go_sem,t7],by simp[go_sem,t11],by simp[go_sem,t12],x⟩
 |succ n=>
  have e1:(i:Int)<(L.length:Int):=by omega
  have f1:fw .i64 ((i:Int)+1)=(i:Int)+1:=aS (by omega) (by omega);have e3:((i+1:Nat):Int)=(i:Int)+1:=rfl;obtain⟨t,ht⟩:∃t,L[i]?=some t:=⟨_,List.getElem?_eq_getElem (by omega)⟩;have hg:=F3 ht;obtain⟨u1,u2⟩:=hL t (List.mem_of_getElem? ht);have x0:=x.box (ag [.int .u64 0,.int .u64 0,.int .u64 0,.int .u64 0,.int .u64 0,.ax] 52);obtain⟨yy,z,hz,hyy,oZ,df,Cy⟩:=x.ar.aw.b.ED u1 u2;have hl:=x.ar.len;obtain⟨u,hu⟩:∃u,ws[ED k.c t]?=some u:=⟨_,List.getElem?_eq_getElem (by omega)⟩;obtain⟨v2,h2,e2,cF,a0,a1,a2,a3,nv,onv,rfl⟩:=k15 _ k.a k.c ws (t-1) z yy _ u x0.ar hz hyy oZ hu;rw[show((t-1:Nat):Int)+1=(t:Int) by omega]at e2;have x2:=x0.step cF;obtain⟨gT7,lT7⟩:=x0.at (j:=4) rfl;obtain⟨acr,_⟩:=x.at (j:=3) rfl;obtain⟨ev,gA⟩:=x0.gA;have k1:=T3 _ k.a.A _ (.ptr k.a.To 0) gA (by simp[dx]) rfl;have nT7:¬T7=h.next:=by have:=(x.at (j:=3) rfl).2;omega
  have g2:=(x2.at (j:=0) rfl).1;have n2:h.next+1<=h2.next:=cF.next;have tk:(L.take (i+1)).countP (wI k.c ws)=(L.take i).countP (wI k.c ws)+if u=1 then 1 else 0:=by
   rw[List.take_add_one,ht,List.countP_append];congr 1
   show[t].countP (wI k.c ws)=_
   rw[List.countP_singleton];unfold wI;rw[hu]
   by_cases c:u=1
   ·rw[c];rfl
   ·rw[if_neg c,if_neg (by simpa using c)]
  have amf:(L.take i).countP (wI k.c ws)<=1000:=Nat.le_trans (List.countP_le_length) (by rw[List.length_take];omega);have fc:fw .i64 ((((L.take i).countP (wI k.c ws):Nat):Int)+1)=(((L.take i).countP (wI k.c ws):Nat):Int)+1:=aS (by omega) (by omega);simp only[ag,List.length_cons,List.length_nil,Nat.reduceAdd]at k1 e2;generalize uD:MC L=cs at ow hg;generalize Mh:L.length=ln at*;cases ow with
  |nil=>omega
  |sl b len cs Ko hc h0 iT hb XF=>
   have nb:¬b=h.next:=by omega
   have x3:=x2.put (j:=0) rfl (ag [.int .u64 a0,.int .u64 a1,.int .u64 a2,.int .u64 a3,.int .u64 u,nv] 52);have x4:=x3.sub (R':=Hj kk T7 (.sl b 0 ln 1 Ko) L) (.cons _ (.refl _))
   by_cases c:u=1
   ·subst c;rw[if_pos rfl]at tk;simp only[go_sem,seval,ti,t7,t11,t12,t16,e1,acr,nT7,Nat.mul_one,Nat.zero_add,XF,hg,nb,k1,e2,ha,onv,g2,n2,fc,f1];exact⟨n,Nat.lt_succ_self n,by simp[go_sem,t7],by simp[go_sem,t11],i+1,by omega,by simp[go_sem,e3],by simp[go_sem,tk,Int.natCast_add,Int.natCast_one],x4⟩
   ·rw[if_neg c,Nat.add_zero]at tk;simp only[go_sem,seval,ti,t7,t11,t12,t16,e1,acr,nT7,Nat.mul_one,Nat.zero_add,XF,hg,nb,k1,e2,ha,onv,g2,n2,c,f1];exact⟨n,Nat.lt_succ_self n,by simp[go_sem,t7],by simp[go_sem,t11],i+1,by omega,by simp[go_sem,e3],by simp[go_sem,t12,tk],x4⟩
def I39(h0:H)(aQ:T AV)(Wa Wb Pb nw:Nat)(n:Nat)(tm:T AV)(h:H):Prop:=
 h=h0/\(∀j,j=7\/j=8\/j=11\/j=12\/j=19\/j=24\/j=25->tm.get j=aQ.get j)/\tm.get 20=some (.sl Wa 0 nw 1 (some nw))/\tm.get 26=some (.sl Wb 0 nw 1 (some nw))/\tm.get 21=some (.ptr Pb 0)/\∃i:Nat,i+n=nw/\tm.get 27=some (.int .i64 (i:Int))
def R39(h0:H)(aQ:T AV)(tm:T AV)(h:H):Prop:=h=h0/\(∀j,j=7\/j=8\/j=11\/j=12\/j=19\/j=24\/j=25->tm.get j=aQ.get j)
set_option maxHeartbeats 1000000 in
theorem V3(P:Program)[PG P]{c:aj}{h0:H}{aQ:T AV}{Wa Wb Pb nw:Nat}{wa wb:List Int}(hnw:nw<=5000)(la:wa.length=nw)(lb:wb.length=nw)(ga:h0.t.get Wa=some (.row (aa 0 (uL wa) T.e) nw 50))(gb:h0.t.get Wb=some (.row (aa 0 (uL wb) T.e) nw 50))(gp:h0.t.get Pb=some (ag (cb (aA c)) 60))(Eh:-100000<=(aA c).lo/\(aA c).lo<=100000)
 (eq:∀(i:Nat) (x y:Int),wa[i]?=some x->wb[i]?=some y->x=y\/((aA c).lo<=(i:Int)/\(i:Int)<(aA c).lo+3/\(i:Int)≠(aA c).lo)\/((aA c).en<=(i:Int)/\(i:Int)<(aA c).ma)) (n:Nat) (tm:T AV) (h:H) (hI:I39 h0 aQ Wa Wb Pb nw n tm h):
 WC P call Bm (bM 4 (fun tm h=>∃n',n'<n/\I39 h0 aQ Wa Wb Pb nw n' tm h) (R39 h0 aQ) (fun _ _=>False)) tm h:=by
 obtain⟨rfl,hk,t20,t26,t21,i,fH,t27⟩:=hI;have k7:=hk 7 (by simp);have k8:=hk 8 (by simp);have Ea:=hk 11 (by simp);have mW:=hk 12 (by simp);have Ri:=hk 19 (by simp);have k24:=hk 24 (by simp);have k25:=hk 25 (by simp);cases n with
 |zero=>
  have e1:¬(i:Int)<(nw:Int):=by omega
  simp only[go_sem,seval,Bm,t20,t27,e1];exact⟨rfl,fun j hj=>by rcases hj with rfl|rfl|rfl|rfl|rfl|rfl|rfl<;>simp only[go_sem,seval,k7,k8,Ea,mW,Ri,k24,k25]⟩
 |succ n=>
  have e1:(i:Int)<(nw:Int):=by omega
  have f1:fw .i64 ((i:Int)+1)=(i:Int)+1:=aS (by omega) (by omega);have f2:fw .i64 ((aA c).lo+3)=(aA c).lo+3:=aS (by omega) (by omega);have e3:((i+1:Nat):Int)=(i:Int)+1:=rfl;obtain⟨x,hx⟩:∃x,wa[i]?=some x:=⟨_,List.getElem?_eq_getElem (by omega)⟩;obtain⟨y,hy⟩:∃y,wb[i]?=some y:=⟨_,List.getElem?_eq_getElem (by omega)⟩;have B9:=kr hx;have SK:=kr hy;simp only[cb]at gp;have hq:=eq i x y hx hy
  by_cases A:(i:Int)<(aA c).lo
  all_goals by_cases B:(i:Int)<(aA c).lo+3
  all_goals try(exfalso;omega)
  all_goals by_cases C:(i:Int)=(aA c).lo
  all_goals try(exfalso;omega)
  all_goals by_cases D:(i:Int)<(aA c).en
  all_goals by_cases E:(i:Int)<(aA c).ma
  all_goals by_cases F:y=x
  all_goals try(exfalso;omega)
  all_goals first|have hC:=eq_false C|have hC:=eq_true C
  all_goals first|have hF:=eq_false F|have hF:=eq_true F
  all_goals simp only[go_sem,seval,Bm,t20,t26,t21,t27,e1,gp,f2,A,B,hC,D,E,hF,Nat.mul_one,Nat.zero_add,ga,gb,B9,SK,f1]
  all_goals refine⟨n,Nat.lt_succ_self n,rfl,fun j hj=>?_,by simp[go_sem,t20],by simp[go_sem,t26],by simp[go_sem,t21],i+1,by omega,by simp[go_sem,e3]⟩
  all_goals rcases hj with rfl|rfl|rfl|rfl|rfl|rfl|rfl<;>simp only[go_sem,seval,k7,k8,Ea,mW,Ri,k24,k25]
end
end
end Go.Proofs.YtgkjlklfjbljeaaGreat.CQ
namespace Go.Proofs.YtgkjlklfjbljeaaGreat.CQ
open Go.Proofs.YtgkjlklfjbljeaaGreat.Eo
noncomputable section
variable(P:Program)[PT P]{call:ab}
theorem St.eq{h:H}{k:KK}{d:DD}{m:Nat}{R V G:Nat}{e:EN}{R':List Cm}(st:St h k d m (R'++EF (k.q R V G e) e))(hrA:k.rA=[.ptr R 0,.ax,.ax,.map V,.map k.Gm]):
 EQ h (k.q R V G e) d.ws m (.map [] 0) e 0 0 0 0 (aD k.b.B (ag (.ptr k.b.L 0::.ptr k.b.M 0::.ptr k.b.Po 0::.ptr k.b.To 0::k.rB) 95)::Mm k.b.L k.c k.b.cv k.b.hv k.b.wv::R'):=by
 obtain⟨o,w,lvA,lvB,mA,mB,hA,hB,s⟩:=st;refine⟨0,0,fun h=>by omega,⟨o.lay,o.b⟩,w,lvA,.ax,mA,0,hA,Nat.zero_le _,?_⟩;have s1:Sp h (cA k.a.M k.a.W lvA d.ws mA::aD k.a.A (ag (.ptr k.a.L 0::.ptr k.a.M 0::.ptr k.a.Po 0::.ptr k.a.To 0::k.rA) 104)::aD k.a.To (ag [.ptr k.a.M 0,.ptr k.a.L 0] 123)::CQ.fz k.hL::aD k.b.B (ag (.ptr k.b.L 0::.ptr k.b.M 0::.ptr k.b.Po 0::.ptr k.b.To 0::k.rB) 95)::Mm k.b.L k.c k.b.cv k.b.hv k.b.wv::(R'++EF (k.q R V G e) e)):=by
  refine s.sub ?_
  unfold bL;exact .cons_cons _ (.cons _ (.cons _ (.cons _ (.cons_cons _ (.cons_cons _ (.cons_cons _ (.cons _ (.cons _ (.cons_cons _ (.cons _ (.cons_cons _ (.cons _ (.cons _ (.cons _ (.cons _ (.cons _ (.refl _)))))))))))))))))
 rw[hrA]at s1;have s2:=s1.cons (c:=Io .ax 0) (ae.refl h) ⟨[],Nat.le_refl _,.nil⟩ (fun b hb=>by cases hb);have s3:Sp h (CQ.pk (e.rows (k.q R V G e) 0 0 0 0 0 0)::(cA k.a.M k.a.W lvA d.ws mA::aD k.a.A (ag (dx (k.q R V G e) .ax) 104)::aD k.a.To (ag [.ptr k.a.M 0,.ptr k.a.L 0] 123)::CQ.fz k.hL::Io .ax 0::aD R (ag (oH (k.q R V G e)) 206)::aD V (.map [] 0)::aD k.b.B (ag (.ptr k.b.L 0::.ptr k.b.M 0::.ptr k.b.Po 0::.ptr k.b.To 0::k.rB) 95)::Mm k.b.L k.c k.b.cv k.b.hv k.b.wv::R')):=by
  refine Sp.pk.2 (s2.perm ?_);unfold EF;generalize e.rows (k.q R V G e) 0 0 0 0 0 0=r;have mv:∀(a b:List Cm) (c d:List Cm),(a++(b++(c++d))).Perm (d++(c++(a++b))):=fun a b c d=>by
   have e1:(a++(b++(c++d))).Perm ((c++d)++(a++b)):=by
        rw[←List.append_assoc a b];exact List.perm_append_comm
   have e2:((c++d)++(a++b)).Perm ((d++c)++(a++b)):=List.perm_append_comm.append_right _;rw[List.append_assoc d c]at e2;exact e1.trans e2
  refine(mv [Io .ax 0,cA k.a.M k.a.W lvA d.ws mA,aD k.a.A (ag (dx (k.q R V G e) .ax) 104),aD k.a.To (ag [.ptr k.a.M 0,.ptr k.a.L 0] 123),CQ.fz k.hL,aD k.b.B (ag (.ptr k.b.L 0::.ptr k.b.M 0::.ptr k.b.Po 0::.ptr k.b.To 0::k.rB) 95),Mm k.b.L k.c k.b.cv k.b.hv k.b.wv] R' [aD R (ag (oH (k.q R V G e)) 206),aD V (.map [] 0)] r).trans (List.Perm.append_left r ?_);have sw:∀(a b:List Cm) (x:Cm) (l:List Cm),(a++(x::(b++l))).Perm (b++(x::(a++l))):=fun a b x l=>by
   have e1:(a++x::(b++l)).Perm (x::(a++(b++l))):=List.perm_middle;have e2:(b++x::(a++l)).Perm (x::(b++(a++l))):=List.perm_middle;have e3:(a++(b++l)).Perm (b++(a++l)):=by
        rw[←List.append_assoc,←List.append_assoc];exact List.perm_append_comm.append_right l
   exact e1.trans ((List.Perm.cons x e3).trans e2.symm)
  exact sw [aD R (ag (oH (k.q R V G e)) 206),aD V (.map [] 0)] [cA k.a.M k.a.W lvA d.ws mA,aD k.a.A (ag (dx (k.q R V G e) .ax) 104),aD k.a.To (ag [.ptr k.a.M 0,.ptr k.a.L 0] 123),CQ.fz k.hL] (Io .ax 0) _
 refine s3.perm ?_
 exact(List.perm_middle (l₁:=[cA k.a.M k.a.W lvA d.ws mA,aD k.a.A (ag (dx (k.q R V G e) .ax) 104),aD k.a.To (ag [.ptr k.a.M 0,.ptr k.a.L 0] 123),CQ.fz k.hL,Io .ax 0,aD R (ag (oH (k.q R V G e)) 206),aD V (.map [] 0)])).symm
end
end Go.Proofs.YtgkjlklfjbljeaaGreat.CQ
namespace Go.Proofs.YtgkjlklfjbljeaaGreat.CQ
open Go.Proofs.YtgkjlklfjbljeaaGreat.Eo
noncomputable section
theorem St.gb{h:H}{k:KK}{d:DD}{m:Nat}{R:List Cm}(st:St h k d m R):uI k/\GB h k d/\(k.b.B<h.next/\k.b.Po<h.next/\k.Tk<h.next/\k.Gn<h.next/\k.K<h.next/\k.C<h.next):=by
 obtain⟨o,w,lvA,lvB,mA,mB,hA,hB,s⟩:=st;exact⟨o,⟨s.row (n:=9) rfl,s.row (n:=12) rfl,s.row (n:=13) rfl,s.row (n:=14) rfl,s.row (n:=15) rfl,s.row (n:=16) rfl⟩,s.uG (n:=9) rfl,s.uG (n:=12) rfl,s.uG (n:=13) rfl,s.uG (n:=14) rfl,s.uG (n:=15) rfl,s.uG (n:=16) rfl⟩
theorem Kx{c:aj}{d:DD}{ch:Nat->List Nat}(I:oq c d ch):(yN d 1 (aH c).length).Perm d.lk:=by
 refine(List.perm_ext_iff_of_nodup ?_ (I.eq▸I.nd)).2 fun a=>?_
 ·unfold yN;exact(List.nodup_range' (step:=1)).sublist List.filter_sublist
 ·unfold yN Om;rw[List.mem_filter,List.mem_range'_1];rw[I.eq];constructor
  ·rintro ⟨_,h⟩
   by_cases hc:d.tk.contains a=true
   ·exact List.contains_iff_mem.1 hc
   ·rw[if_neg hc]at h;cases h
  ·intro h;have hc:d.tk.contains a=true:=List.contains_iff_mem.2 h;have:=I.tw a h;rw[if_pos hc,if_pos hc];exact⟨by omega,rfl⟩
section
variable {c:aj} {L:List Nat} {ws cz:List Int}
theorem wK.nx(b:LB c)(dw:wK c L ws cz)(hL:∀t∈L,1<=t/\t<=(aH c).length){r k:Int}(n:Nd c r k):cz[dJ c r k]?=ws[dJ c r k]?:=
 dw.2 _ fun t ht e=>by
  obtain⟨u1,u2⟩:=hL t ht;obtain⟨y,z,hz,hy,oZ,df,Cy⟩:=b.ED u1 u2;exact vk b hy (w:=4) (by decide) n (by rw[e];omega)
theorem wK.lo(b:LB c)(dw:wK c L ws cz)(hL:∀t∈L,1<=t/\t<=(aH c).length){q:Nat}(n:(q:Int)<(aA c).po):cz[q]?=ws[q]?:=
 dw.2 _ fun t ht e=>by
  obtain⟨u1,u2⟩:=hL t ht;obtain⟨y,z,hz,hy,oZ,df,Cy⟩:=b.ED u1 u2;have:=b.dq;have:=b.val;omega
end
theorem acs{k:KK}{d:DD}{ch:Nat->List Nat}{L:List Nat}{ws:List Int}{R V G C Lb:Nat}{e:EN}{R':List Cm}(b:LB k.c)(I:oq k.c d ch)(hd:d.tk.length<=40)(Q3:e.ok (k.q R V G e))(pL:L.Perm d.lk)(dw:wK k.c L (kJ d.ws (xW k.c)) ws){x:CK}(hx:x=⟨k.q R V G e,e,C,Lb,ws,ch,R'⟩):
 x.ok/\x.S (dy k.c)=dy k.c*(e.last+1)+2*L.length/\x.K (dy k.c)=L.countP (wI k.c ws):=by
 subst hx;obtain⟨n1,n2,n3,n4,n5,n6,n7,n8,n9,rH,rI⟩:=b.dq;obtain⟨XK,va1,Pg⟩:=b.va;obtain⟨pl1,pl2,pl3,lk1,ab8,pl6,pl7,pl8,pl9⟩:=b.pl;have hlen:=I.len;have yg:L.length<=40:=by rw[pL.length_eq,I.eq];exact hd
 have hL:∀t∈L,1<=t/\t<=(aH k.c).length:=fun t ht=>I.tw t (I.eq▸(pL.mem_iff.1 ht))
 have nU:xW k.c<=d.ws.length:=by unfold xW;split<;>omega
 have V4:(xW k.c:Int)<=k.c.aq:=by unfold xW;split<;>omega
 have low:∀q:Nat,k.c.aq<=(q:Int)->(q:Int)<(aA k.c).po->ws[q]?=some 0:=fun q q0 q1=>by
  rw[dw.lo b hL q1,nS _ _ _ nU,if_neg (by omega)];exact I.zero q q1
 have hp:((List.range (dy k.c)).flatMap ch).Perm L:=(I.G9.perm (I.eq▸I.nd) XK).trans pL.symm;have eS:CK.S (⟨k.q R V G e,e,C,Lb,ws,ch,R'⟩:CK) (dy k.c)=dy k.c*(e.last+1)+2*L.length:=by
  show tf (fun v=>e.last+1+2*(ch v).length) (dy k.c)=_
  rw[CY (fun v=>(ch v).length) (fun _=>0) (e.last+1) 2];have h1:=wH ch (fun _=>true) (dy k.c);simp only[List.countP_true]at h1;rw[h1,hp.length_eq,Nat.mul_comm]
 have eK:CK.K (⟨k.q R V G e,e,C,Lb,ws,ch,R'⟩:CK) (dy k.c)=L.countP (wI k.c ws):=by
  show tf (fun v=>(ch v).countP (wI k.c ws)) (dy k.c)=_
  rw[wH,hp.countP_eq]
 have Ui:e.last<=3:=by cases e<;>simp[EN.last]
 refine⟨⟨Q3,b,?_,fun v hv=>?_,fun v hv t ht=>?_,?_,fun q hq=>?_,?_,?_⟩,eS,eK⟩
 ·show(ws.length:Int)=(aA k.c).wo
  rw[dw.1,nR];exact hlen
 ·have iU:(v:Int)<ir k.c:=by rw[XK];exact Int.ofNat_lt.2 hv
  have key:∀r:Int,Nd k.c r 0->ws[dJ k.c r 0]?=d.ws[dJ k.c r 0]?:=fun r n=>by
   rw[dw.nx b hL n,nS _ _ _ nU,if_neg];obtain⟨_,a1,_,_,_,_,_,_,a2⟩:=n.at b;unfold dJ;omega
  exact iM (I.vj v iU) (key _ (Nd.hd (by omega) iU (by decide) (by decide))) fun t ht=>key _ (Ox.nd (l:=d.lk) (fun s hs=>I.tw s (I.eq▸hs)) (I.G9.mem v iU t ht))
 ·have iU:(v:Int)<ir k.c:=by rw[XK];exact Int.ofNat_lt.2 hv
  exact I.tw t (I.eq▸I.G9.mem v iU t ht)
 ·exact low _ (by show k.c.aq<=((cD k.c:Nat):Int);omega) (by show((cD k.c:Nat):Int)<_;omega)
 ·have Cl:q<bf k.c:=hq;exact low _ (by show k.c.aq<=((cD k.c+1+3*q:Nat):Int);omega) (by show((cD k.c+1+3*q:Nat):Int)<_;omega)
 ·show bf k.c+5+CK.S (⟨k.q R V G e,e,C,Lb,ws,ch,R'⟩:CK) (dy k.c)+1<=2900
  rw[eS];have:dy k.c*(e.last+1)<=64*4:=Nat.mul_le_mul Pg (by omega);omega
 ·show CK.K (⟨k.q R V G e,e,C,Lb,ws,ch,R'⟩:CK) (dy k.c)<=1000
  rw[eK];exact Nat.le_trans List.countP_le_length (by omega)
end
end Go.Proofs.YtgkjlklfjbljeaaGreat.CQ
namespace Go.Proofs.YtgkjlklfjbljeaaGreat.CQ
open Go.Proofs.YtgkjlklfjbljeaaGreat.Eo
noncomputable section
variable(P:Program)[PT P]{call:ab}
def F6(call:ab):Prop:=∀h k d R ch v (ls:List (Int×Int×Int)),oq k.c d ch->d.tk=[]->St h k d 0 R->kI k.hL v ls->(∀a,own v=some a->a<k.hL.next)->aG call 6 [.agg [.ptr k.a.A 0,.ptr k.b.B 0],v] h fun r h'=>r=.bool true/\h.next<=h'.next/\∃d ch,d.tk.length<=40/\oq k.c d ch/\St h' k d 720 R
def F7(call:ab):Prop:=∀h k d R m,St h k d m R->m<=800000->aG call 7 [.agg [.ptr k.a.A 0,.ptr k.b.B 0]] h fun r h'=>r=.aE [.int .i64 (xW k.c:Int),.bool true]/\h.next<=h'.next/\St h' k {d with ws:=kJ d.ws (xW k.c)} (m+4) R
def F8(call:ab):Prop:=∀h k d,uI k->GB h k d->(k.b.B<h.next/\k.b.Po<h.next/\k.Tk<h.next/\k.Gn<h.next/\k.K<h.next/\k.C<h.next)->aG call 8 [.ptr k.b.B 0] h fun v h'=>ae h h'/\Own 1 3 h' v (yN d 1 k.n).length (iL ((yN d 1 k.n).map Int.ofNat))/\∀b,own v=some b->h.next<=b
def F21(call:ab):Prop:=∀h A B L c cv hv wv (r:List AV),LB c->(∀x∈c.aI,kB x)->h.t.get B=some (ag (.ptr L 0::r) 95)->B<h.next->iX h L c cv hv wv->aG call 21 [.agg [.ptr A 0,.ptr B 0]] h fun v h'=>v=.int .i64 (ir c)/\ae h h'
def F22(call:ab):Prop:=∀h,call 22 [] h=some (.bool true,h)
def V5:CC:=match c3 with
 |⟨_,.seq _ (.seq _ (.seq _ (.seq _ (.seq _ (.seq _ (.seq _ (.seq _ (.seq _ r)))))))),_⟩=>r
 |⟨_,r,_⟩=>r
theorem V6:c3=⟨3,(.seq (.ops Q7) (.seq (.ops Q8) (.seq (.seq (.ops Q9) (.cond (.t 43) (.seq (.ops Ra) .ret) .skip)) (.seq (.seq (.ops Rc) (.seq (.ops Re) (.cond (.t 50) (.seq (.ops Rf) .ret) .skip))) (.seq (.ops Rg) (.seq (.seq (.ops Rh) (.block 0 (.loop pK))) (.seq (.seq (.ops Kt) (.block 2 (.loop ti))) (.seq (.ops Ku) (.seq (.seq (.ops Kv) (.cond (.t 117) (.ops Kw) .skip)) V5))))))))),[.tmp 6]⟩:=rfl
theorem acu(P:Program)[pg:PG P]{call:ab}(k9:FB call 9 0)(mW:FB call 12 1)(Eb:QP call)(V7:Pl call)(Ha:IV call)(Ri:Pc call)(k20:F20 call)(k21:F21 call)(k22:F22 call)
 {kk:KK} {k:QQ} (ha:kk.a=k.a) (hc:kk.c=k.c) {e:EN} {ws:List Int} {ch:Nat->List Nat} {T7 N:Nat} {lv:AV} {L:List Nat} {Q:aZ} {tm:T AV} {h:H} (Q3:e.ok k) (h0:ws[0]?=some 1) (fH:∀x∈k.c.aI,kB x) (yg:L.length<=40) (hN:N<=1000)
 (ck:∀C Lb R' (x:CK),x=⟨k,e,C,Lb,ws,ch,R'⟩->x.ok/\x.S (dy k.c)=dy k.c*(e.last+1)+2*L.length/\x.K (dy k.c)=N)
 (t7:tm.get 7=some (.ptr T7 0)) (t11:tm.get 11=some lv) (t12:tm.get 12=some (.int .i64 (N:Int))) (t19:tm.get 19=some (.int .i64 ((e.last:Int) -1))) (x:EQ h k ws 744 (.map [] 0) e 0 0 0 0 (Hj kk T7 lv L))
 (hQ:∀aC h',aC.get 6=some (.bool true)->Q .ret aC h'):
 WC P call V5 Q tm h:=by
 have b:=x.ar.aw.b;have hlen:=x.ar.len;obtain⟨n1,n2,n3,n4,n5,n6,n7,n8,n9,rH,rI⟩:=b.dq;obtain⟨XK,va1,Pg⟩:=b.va;obtain⟨pl1,pl2,pl3,lk1,ab8,pl6,pl7,pl8,pl9⟩:=b.pl;have wl5:ws.length<=5000:=by omega
 obtain⟨gT,lT⟩:=x.at (j:=3) rfl;have x0:=x.box (ag [.int .i64 0,.int .i64 0,.int .i64 0,.int .i64 0,.int .i64 0,.int .i64 0,.int .i64 0,.int .i64 0,.int .i64 0,.int .i64 0] 60);obtain⟨gT0,_⟩:=x0.at (j:=4) rfl;obtain⟨ev,gA⟩:=x0.gA;have k1:=mW _ k.a.A _ (.ptr k.a.M 0) gA (by simp[dx]) rfl;have k2:=k9 _ k.a.A _ (.ptr k.a.L 0) gA (by simp[dx]) rfl;have nT:¬T7=h.next:=by omega
 simp only[ag,List.length_cons,List.length_nil,Nat.reduceAdd]at k1 k2;simp only[go_sem,seval,c3,V5,t7,gT,ha,nT,k1];refine af (V7 _ k.a.M k.a.W ws wl5 x0.ar.mm x0.ar.lt.1 x0.ar.lt.2) fun v1 h1 p1=>?_
 obtain⟨bC,O,rfl,hO,lO,gO⟩:=p1;have x1:=x0.new (c:=aD O (.row (aa 0 (uL ws) T.e) ws.length 50)) bC ⟨gO,lO⟩ (fun y hy=>by rw[show y=O from hy];exact hO);obtain⟨Jx,lT1⟩:=x1.at (j:=5) rfl;obtain⟨ev1,Ia⟩:=x1.gA;have k2:=k9 _ k.a.A _ (.ptr k.a.L 0) Ia (by simp[dx]) rfl;have eW:h.next+1<=h1.next:=bC.next;simp only[go_sem,seval,t7,Jx,ha,k2,eW];refine af (Ha h1 k.a.L k.c _ _ x1.ar.aw.lay) fun v2 h2 p2=>?_
 obtain⟨rfl,cF⟩:=p2;have x2:=x1.step cF;obtain⟨XC,lP2⟩:=x2.at (j:=1) rfl;have x3:=x2.put (j:=1) rfl (ag (cb (aA k.c)) 60);obtain⟨gT3,lT3⟩:=x3.at (j:=5) rfl;obtain⟨QJ,lT2⟩:=x2.at (j:=5) rfl;have nT2:¬T7=h.next:=nT;simp only[cb]at x3;have pF:h.next+1<=h2.next:=Nat.le_trans eW cF.next;have T4:h1.next<=h2.next:=cF.next;simp only[go_sem,seval,cb,XC,t7,gT,Jx,QJ,nT2,ha,pF,T4];refine af (Ri _ k ws 744 _ e 0 0 0 _ Q3 x3 h0) fun v4 h4 p4=>?_
 obtain⟨Qo,C,Lb,Lx,Bx,Mp,rfl,x4⟩:=p4;simp only[go_sem,seval];obtain⟨o,hS,hK⟩:=ck C Lb _ _ rfl;have x4':=x4;refine af (k20 ⟨k,e,C,Lb,ws,ch,_⟩ h4 Lx Bx Mp 744 0 0 o (by omega) x4) fun v5 h5 p5=>?_
 obtain⟨rfl,nx5,m5,ws5,vm5,lk5,en5,lf5,hm5,ew5,nd5,tw5,x5⟩:=p5;have hT:∀R',CK.T ⟨k,e,C,Lb,ws,ch,R'⟩=bf k.c+5+(dy k.c*(e.last+1)+2*L.length)+1:=fun R'=>by
  unfold CK.T;rw[(ck C Lb R' _ rfl).2.1]
 rw[hK,hT];have l3:e.last<=3:=by cases e<;>simp[EN.last]
 obtain⟨V,hV⟩:∃V:Nat,dy k.c*(e.last+1)=V:=⟨_,rfl⟩;have hV2:V<=64*4:=hV▸Nat.mul_le_mul Pg (by omega);have hV3:(ir k.c)*((e.last:Int)+1)=(V:Int):=by rw[XK,←hV];rfl
 rw[hV];have x6:=x5.box (ag (kO (N:Int)) 66);obtain⟨gT6,lT6⟩:=x6.at (j:=8) rfl;obtain⟨ev6,gA6⟩:=x6.gA;have k6:=mW _ k.a.A _ (.ptr k.a.M 0) gA6 (by simp[dx]) rfl;have nT5:¬T7=h5.next:=by have:=(x5.at (j:=7) rfl).2;omega
 obtain⟨gT5,lT5⟩:=x5.at (j:=7) rfl;simp only[kO,ag,List.length_cons,List.length_nil,Nat.reduceAdd]at k6;simp only[go_sem,seval,kO,t7,ha,gT5,nT5,k6];have l5:(ws5.set (cD k.c+1) 0).length=ws.length:=by
  rw[List.length_set,ew5.1];exact vt _ _ _ _
 refine af (V7 _ k.a.M k.a.W (ws5.set (cD k.c+1) 0) (by omega) x6.ar.mm x6.ar.lt.1 x6.ar.lt.2) fun v7 h7 p7=>?_
 obtain⟨D5,O2,rfl,hO2,lO2,gO2⟩:=p7;rw[l5]at gO2;have x7:=x6.step D5;simp only[go_sem,seval,l5];refine aT (I39 h7 _ O O2 h.next ws.length) _ _ (fun n tm h' hI=>V3 P (c:=k.c) (wa:=ws) (wb:=ws5.set (cD k.c+1) 0) wl5 rfl l5 (x7.at (j:=3) rfl).1 gO2 (x7.at (j:=4) rfl).1 (by omega) ?_ n tm h' hI) (fun tm8 h8 hR=>?_) (fun _ _ hh=>hh.elim) ws.length _ _
  ⟨rfl,fun j hj=>rfl,by simp[go_sem],by simp[go_sem,l5],by simp[go_sem],0,by omega,by simp[go_sem]⟩
 ·intro i y z hy hz;obtain⟨Xt,sl2,sl3,sl4⟩:=b.sl;have oma:ws[cD k.c]?=some 0:=o.ma;have oen:ws[cD k.c+1]?=some 0:=o.en 0 (show 0<bf k.c by omega);have amP:∀i,(i<bN k.c\/cD k.c<=i)->ws5[i]?=(iZ (cD k.c) (bf k.c) ws (bf k.c+5))[i]?:=ew5.2
  by_cases c1:i=cD k.c+2\/i=cD k.c+3
  ·exact .inr (.inl (by omega))
  ·by_cases c2:bN k.c<=i/\i<cD k.c
   ·exact .inr (.inr (by omega))
   ·refine .inl ?_
    by_cases c3:i=cD k.c+1
    ·subst c3;rw[oen]at hy;have l5':cD k.c+1<ws5.length:=by rw[List.length_set]at l5;omega
     rw[List.getElem?_set_self l5']at hz;exact(Option.some.inj hy).symm.trans (Option.some.inj hz)
    ·rw[List.getElem?_set_ne (by omega),amP i (by omega)]at hz
     by_cases c4:i=cD k.c
     ·subst c4;rw[(FV lk1 (by omega) oma).1]at hz;rw[oma]at hy;exact(Option.some.inj hy).symm.trans (Option.some.inj hz)
     ·rw[Bk _ _ _ (by omega),hy]at hz;exact Option.some.inj hz
 ·obtain⟨rfl,hk⟩:=hR;have q7:=hk 7 (by simp);have q8:=hk 8 (by simp);have yE:=hk 11 (by simp);have q12:=hk 12 (by simp);have q19:=hk 19 (by simp);have q24:=hk 24 (by simp);have q25:=hk 25 (by simp);simp only[go_sem,seval,t7,t11,t12,t19]at q7 q8 yE q12 q19 q24 q25;obtain⟨gR8,_⟩:=x7.at (j:=0) rfl;obtain⟨gT8,_⟩:=x7.at (j:=8) rfl;simp only[kO]at gR8;have e66:=pg.ZE (N:Int);have Y9:Own 1 3 h8 lv L.length (MC L):=x7.get (j:=5) rfl;have ll8:=Y9.bR;simp only[go_sem,seval,q7,q8,yE,q12,q19,q24,q25,gR8,gT8,ha,e66,ll8];refine af (Eb h8 k.a k.c x7.ar.aw) fun v9 h9 p9=>?_
  obtain⟨⟨cv,rfl,ov9,rd9,lo9⟩,yI⟩:=p9;obtain⟨cv9,Qw,lB8,mB8⟩:∃r,h8.t.get kk.b.B=some (ag (.ptr kk.b.L 0::r) 95)/\kk.b.B<h8.next/\iX h8 kk.b.L kk.c kk.b.cv kk.b.hv kk.b.wv:=⟨_,(x7.at (j:=6) rfl).1,(x7.at (j:=6) rfl).2,x7.get (j:=7) rfl⟩;have NA:=yI.next;have f1:fw .i64 (1+(bf k.c:Int))=1+(bf k.c:Int):=aS (by omega) (by omega);have f2:fw .i64 (1+(bf k.c:Int)+4)=1+(bf k.c:Int)+4:=aS (by omega) (by omega);simp only[go_sem,seval,au,bo,NA,pl3,f1,f2];rw[hc]at mB8;refine af (k21 h9 k.a.A kk.b.B kk.b.L k.c _ _ _ _ b fH ((yI.old _ lB8).trans Qw) (Nat.lt_of_lt_of_le lB8 NA) (mB8.step yI)) fun v10 h10 p10=>?_
  obtain⟨rfl,amQ⟩:=p10;have amR:=amQ.next;have f3:fw .i64 ((e.last:Int) -1+2)=(e.last:Int)+1:=by rw[aS (by omega) (by omega)];omega
  have f4:fw .i64 (V:Int)=(V:Int):=aS (by omega) (by omega);have f5:fw .i64 (2*(L.length:Int))=2*(L.length:Int):=aS (by omega) (by omega);have f6:fw .i64 (1+(bf k.c:Int)+4+(V:Int))=1+(bf k.c:Int)+4+(V:Int):=aS (by omega) (by omega);have f7:fw .i64 (1+(bf k.c:Int)+4+(V:Int)+2*(L.length:Int))=1+(bf k.c:Int)+4+(V:Int)+2*(L.length:Int):=aS (by omega) (by omega);have f8:fw .i64 (1+(bf k.c:Int)+4+(V:Int)+2*(L.length:Int)+1)=((bf k.c+(5+(V+(2*L.length+1))):Nat):Int):=by rw[aS (by omega) (by omega)];omega
  have amS:=k22 h10;have gT9:=((x7.step yI).at (j:=8) rfl).1;simp only[go_sem,seval,amR,f3,hV3,f4,f5,f6,f7,f8,decide_true,amS,gT9,ha];refine hQ _ _ ?_
  simp only[go_sem,seval]
set_option maxHeartbeats 1000000 in
theorem w3(P:Program)[PG P]{call:ab}(k4:F4 call)(k5:F5 call)(k6:F6 call)(k7:F7 call)(k8:F8 call)(k9:FB call 9 0)(mW:FB call 12 1)(T3:FB call 14 3)(Ea:NN call)(JF:S2 call)(uH:D6 call)(k15:F15 call)(Eb:QP call)(V7:Pl call)(Ha:IV call)(Ri:Pc call)(k20:F20 call)(k21:F21 call)(k22:F22 call)
 {g:H} {c:aj} {v lw dv:AV} {ls:List (Int×Int×Int)} {dl:List Int} (q0:0<=c.kind) (e0:0<=c.az) (hv:cm none 1 g v (uL c.aI)) (dE:∀a,own v=some a->a<g.next) (hl:c.aI.length<=140737488351232) (fH:∀x∈c.aI,kB x) (lr:kI g lw ls) (XE:∀a,own lw=some a->a<g.next) (dr:cm none 1 g dv (iL dl)) (QO:∀a,own dv=some a->a<g.next):
 WF P call c3 [.agg (au c v),lw,dv] g fun r h'=>r=.bool true:=by
 have ov:=hv.one;have cr:=ae.new g (.row (aa 0 (au c v) T.e) 16 27);rw[V6];simp only[go_sem,seval,au,ov];refine af (k5 _ c v q0 e0 (hv.aF fun b hb=>cr.old b (dE b hb)) (fun a ha=>Nat.lt_succ_of_lt (dE a ha)) hl fH) fun r1 h1 p1=>?_
 obtain⟨bC,c',v',rfl,rd,lo,ix,lay,VT,XN⟩:=p1;have cl:c'.aI.length<=1000:=by
  obtain⟨_,_,_,_,_,_,_,d,_⟩:=lay;rcases d with⟨_,_,e⟩|⟨_,_,e⟩|⟨_,_,_,e,_⟩
  ·rw[e];exact Nat.zero_le _
  ·rw[e];exact Nat.zero_le _
  ·omega
 simp only[go_sem,seval];refine af (k4 h1 c' v' rd lo cl ix lay VT) fun r2 h2 p2=>?_
 obtain⟨cF,k,e,R,V,G,yp,rfl,rfl,krA,EH,Pk,Kk,st⟩:=p2;have stG:ae g k.hL:=(cr.trans bC).trans Pk;have fW:=st.box (ag [.ptr k.a.A 0,.ptr k.b.B 0] 33);simp only[go_sem,seval];refine af (k6 _ k _ _ _ lw ls Kk rfl fW (lr.aF fun a ha=>stG.old a (XE a ha)) (fun a ha=>Nat.lt_of_lt_of_le (XE a ha) stG.next)) fun r3 h3 p3=>?_
 obtain⟨rfl,Mj,d,ch,hd,I,yG⟩:=p3;have gT:=yG.row;simp only[go_sem,seval,gT];refine af (k7 _ k _ _ _ yG (by omega)) fun r4 h4 p4=>?_
 obtain⟨rfl,Qo,CM⟩:=p4;have gT4:=CM.row;simp only[go_sem,seval,gT4];have gb:=CM.gb;refine af (k8 h4 k _ gb.1 gb.2.1 gb.2.2) fun lv h5 p5=>?_
 obtain⟨AJ,ow,AQ⟩:=p5;have hb:=CM.bv.b;have pL:=Kx I;obtain⟨L,hL⟩:∃L,L=yN d 1 k.n:=⟨_,rfl⟩;have ow':Own 1 3 h5 lv L.length (MC L):=by rw[hL];exact ow
 rw[←hL]at pL;have yg:L.length<=40:=by rw[pL.length_eq,I.eq];exact hd
 have hLt:∀t∈L,1<=t/\t<=(aH k.c).length:=fun t ht=>I.tw t (I.eq▸(pL.mem_iff.1 ht))
 have x5:=(St.eq (R':=[aD h2.next (ag [.ptr k.a.A 0,.ptr k.b.B 0] 33)]) CM krA).new (c:=Ez lv L.length (MC L)) AJ ow' AQ;have Q3:e.ok (k.q R V G e):=⟨EH.symm,rfl,rfl⟩;simp only[go_sem,seval];refine aT (VY k (k.q R V G e) e (kJ d.ws (xW k.c)) h2.next lv dv L dl 724) _ _ (fun n tm h' hI=>Pm P k9 mW Ea JF uH rfl (by omega) hLt (by omega) (dr.aF fun b hb=>stG.old b (QO b hb)) (fun a ha=>Nat.lt_of_lt_of_le (QO a ha) stG.next) n tm h' hI) (fun tm6 h6 hR=>?_) (fun _ _ hh=>hh.elim) (min dl.length 20) _ _
  ⟨by simp[go_sem],by simp[go_sem],by simp[go_sem],by simp[go_sem],0,_,by omega,by simp[go_sem],⟨rfl,fun _ _=>rfl⟩,x5⟩
 obtain⟨t7,t11,t12,ws,dw,x6⟩:=hR;simp only[go_sem,seval];refine aT (VZ k (k.q R V G e) e ws h2.next lv L 744) _ _ (fun n tm h' hI=>Pn P T3 k15 rfl hLt (by omega) n tm h' hI) (fun tm7 h7 hR=>?_) (fun _ _ hh=>hh.elim) L.length _ _
  ⟨by simp[go_sem,t7],by simp[go_sem,t11],0,by omega,by simp[go_sem],by simp only[go_sem,seval,t12];rfl,x6⟩
 obtain⟨u7,u11,u12,x7⟩:=hR;obtain⟨gT7,_⟩:=x7.at (j:=3) rfl;simp only[go_sem,seval,u7,gT7];refine af (Eb h7 k.a k.c x7.ar.aw) fun v8 h8 p8=>?_
 obtain⟨⟨cv,rfl,ov8,rd8,lo8⟩,Ej⟩:=p8;have x8:=x7.step Ej;have nU:xW k.c<=d.ws.length:=by
  have:=yG.bv.len;have:=hb.dq;have:=hb.val;unfold xW;split<;>omega
 have h0:ws[0]?=some 1:=by
  have n0:0<xW k.c:=by
   have:=hb.sl;unfold xW;split<;>omega
  rw[dw.lo hb hLt (by have:=hb.dq;omega),nS _ _ _ nU,if_pos n0];rfl
 have fin:=fun(tm:T AV) (h:H) (Q:aZ)=>acu P (Q:=Q) (tm:=tm) (h:=h) k9 mW Eb V7 Ha Ri k20 k21 k22 (kk:=k) (k:=k.q R V G e) rfl rfl (T7:=h2.next) (lv:=lv) (ch:=ch) (N:=L.countP (wI k.c ws)) Q3 h0 ix yg (Nat.le_trans List.countP_le_length (by omega)) (fun C Lb R' x hx=>acs hb I hd Q3 pL dw hx)
 by_cases hE:k.c.az=1
 ·have l2:e.last=2:=by
   have h1:e.tag=1:=EH.trans hE;cases e
   ·rfl
   ·cases h1
   ·cases h1
  simp only[go_sem,seval,au,hE,QW];refine fin _ _ _ ?_ ?_ ?_ ?_ x8 fun aC h' q=>?_
  ·simp only[go_sem,seval,u7]
  ·simp only[go_sem,seval,u11]
  ·simp only[go_sem,seval,u12];rfl
  ·simp only[go_sem,seval,l2]
   try rfl
  ·simp only[go_sem,seval,q]
 ·have l3:e.last=3:=by
   have h1:e.tag=k.c.az:=EH;cases e
   ·exact absurd h1.symm hE
   ·rfl
   ·rfl
  simp only[go_sem,seval,au,hE,QW];refine fin _ _ _ ?_ ?_ ?_ ?_ x8 fun aC h' q=>?_
  ·simp only[go_sem,seval,u7]
  ·simp only[go_sem,seval,u11]
  ·simp only[go_sem,seval,u12];rfl
  ·simp only[go_sem,seval,l3]
   try rfl
  ·simp only[go_sem,seval,q]
end
end Go.Proofs.YtgkjlklfjbljeaaGreat.CQ
