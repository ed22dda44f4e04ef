/-
  What functions of the program compute, one by one. Conditions: those of each theorem.
-/
import Derived.Test.YtghmnaojmpjglaaGreatDoorPwB
set_option linter.all false
namespace Go.Proofs.YtghmnaojmpjglaaGreatDoor.PR
open Go.Proofs.YtghmnaojmpjglaaGreatDoor.Eo
noncomputable section
@[go_sem]def c168:CF:=⟨1,(Sq [w 1 24 0,b 2 0,b 3 0] (Sq [V 5 3 1,q 6 130 5,a 4 6] (Qq (Sq [a 7 4,z 8 54 7 0] (Kq 8 [a 9 4,b 2 0,a 3 9] .skip)) (Qq (Sq [d 10 0 1,i 11 10] (.block 0 (Sq [J 13 5 11 2,a 12 13] (Kq 12 [d 14 1 1,i 15 14,a 2 15,b 3 0] (Sq [J 17 5 11 3,a 16 17] (Kq 16 [d 18 2 1,i 19 18,A 20 19,C 21 3 20 1,a 2 21,b 3 0] .skip)))))) (Rq [b 2 1,b 3 0]))))),[.tmp 2,.tmp 3]⟩
def c169_l6:CC:=(Qq (Sq [a 18 12,a 19 1,qb 20 3 18 19] (Cq 20 .skip (.exit 0))) (Qq (.block 1 (.drw ⟨[([g 0 0,g 1 0,n 2 24 1,j 3 25 2 27,k 4 26 3,g 5 2,g 6 3,g 7 12,g 8 4,⟨9,[(30,some 7),(31,some 8)],none,.p (.bin .quo 3 false false (.t 30) (.t 31))⟩,qz 10 29 6 32 9 3,g 11 12,g 12 4,z8 13 34 11 35 12 3,⟨14,[(28,some 5),(33,some 10),(36,some 13)],none,.p (.build [.int .u8 0,.int .i64 0,.int .i64 0] [(0,1,.t 28),(1,1,.t 33),(2,1,.t 36)])⟩,⟨15,[(37,some 14)],none,.n (.buildS 435 3 1 [.int .u8 0,.int .i64 0,.int .i64 0] [(0,3,.t 37)])⟩],some (qQ 16 27 4 38 15 435 3 24)),([n 17 23 0,j 18 40 17 27],some (R 19 41 18 39 16 1)),([],none)],[(0,23),(1,24),(2,25),(3,26),(4,27),(5,28),(6,29),(7,30),(8,31),(9,32),(10,33),(11,34),(12,35),(13,36),(14,37),(15,38),(16,39),(17,40),(18,41)],[(⟨4,[(26,(some 3))],none,.r (.ld none (.t 26))⟩,[0])]⟩)) (Oq [a 21 12,C 22 3 21 1,a 12 22])))
@[go_sem]def c169:CF:=⟨5,(Sq [b 10 0] (Sq [a 13 0,m 14 13,d 15 27 14,i 16 15,A 17 16,a 11 17] (Qq (Sq [b 12 0] (.block 0 (.loop c169_l6))) (Rq [a 42 11,a 10 42])))),[.tmp 10]⟩
def c85_l12:CC:=(Qq (Sq [a 34 7,a 35 6,qo 36 3 35 1,d 37 7 1,qs 38 6 1 37 36,i 39 38,qb 40 3 34 39] (Cq 40 .skip (.exit 2))) (Qq (.block 3 (Oq [a 43 5,a 44 5,m 45 44,d 46 26 45,i 47 46,a 48 6,qu 49 3 1 1 0 0 1 48,qj 50 3 1 8 47 49,m 51 43,d 52 26 51,t 1 52 50])) (Oq [a 41 7,C 42 3 41 1,a 7 42])))
def c85_l14:CC:=(Qq (Sq [a 30 6,z9 31 3 30 6] (Cq 31 .skip (.exit 0))) (Qq (.block 1 (Sq [b 7 0] (.block 2 (.loop c85_l12)))) (Oq [a 32 6,C 33 3 32 1,a 6 33])))
def c85_l34:CC:=(Qq (Sq [a 146 11,a 147 5,m 148 147,d 149 26 148,i 150 149,A 151 150,zf 152 3 146 151] (Cq 152 .skip (.exit 4))) (Qq (.block 5 (.drw ⟨[([g 0 5,g 1 5,n 2 156 1,j 3 157 2 26,k 4 158 3,g 5 11,qJ 6 160 5 3 1,Q 7 159 4 161 6 1,k 8 162 7,qR 9 163 8 3 5,g 10 11,g 11 5,n 12 166 11,j 13 167 12 26,k 14 168 13,g 15 11,qJ 16 170 15 3 1,Q 17 169 14 171 16 1,k 18 172 17,qR 19 173 18 3 5],some ⟨20,[(155,some 0),(164,some 9),(165,some 10),(174,some 19)],none,.cv (.c (.fn (.func 169) [] [])) [.t 155,.t 164,.c (.int .u8 9),.t 165,.t 174]⟩),([],none)],[(0,155),(1,156),(2,157),(3,158),(4,159),(5,160),(6,161),(7,162),(8,163),(9,164),(10,165),(11,166),(12,167),(13,168),(14,169),(15,170),(16,171),(17,172),(18,173),(19,174),(20,175)],[]⟩)) (Oq [a 153 11,C 154 3 153 1,a 11 154])))
@[go_sem]def c85:CF:=⟨1,(Sq [w 1 27 0,p 2,b 3 0] (Qq (Sq [V 12 16 1,q 13 167 12,a 4 13] (Sq [a 14 4,z 15 54 14 0] (Kq 15 [a 16 4,p 2,a 3 16] .skip))) (Sq [V 17 16 1,⟨some 18,none,.p (.build [iz,iz,bz,iz,bz,iz,.nils,iz,iz,iz,iz,iz,iz,iz,iz,iz,iz,iz,iz,iz,iz,iz,iz,iz,iz,iz,.nils,.nils] [(0,16,.t 17)])⟩,w 19 41 18,a 5 19] (Sq [a 20 5,zh 21 51 1 0,d 22 4 1,d 23 2 22,i 24 23,qj 25 51 1 8 21 24,m 26 20,d 27 0 26,d 28 4 27,d 29 2 28,t 1 29 25] (Qq (Sq [b 6 1] (.block 0 (.loop c85_l14))) (Sq [d 53 1 1,i 54 53,a 8 54] (Qq (Sq [d 55 2 1,i 56 55,J 57 5 56 2] (Cq 57 (Oq [d 58 1 1,i 59 58,qq 60 3 2 59,a 8 60]) .skip)) (Qq (Sq [d 61 2 1,i 62 61,J 63 5 62 3] (Cq 63 (Oq [d 64 3 1,i 65 64,qq 66 3 4 65,a 8 66]) .skip)) (Sq [d 68 4 1,V 69 3 68,q 70 168 69,a 67 70,o 71 67 0,o 72 67 1,a 9 71,a 10 72] (Sq [a 73 5,a 74 5,d 75 1 1,i 76 75,za 77 169 74 76 1 0 1,m 78 73,d 79 16 78,d 80 0 79,t 1 80 77] (Sq [a 81 5,a 82 5,a 83 8,a 84 8,⟨some 85,none,.cv (.c (.fn (.func 169) [] [])) [.t 82,.t 83,.c (.int .u8 2),.c (.int .i64 0),.t 84]⟩,m 86 81,d 87 16 86,d 88 1 87,t 1 88 85] (Sq [a 89 5,a 90 5,ja 91 169 90 1 3 0 1,m 92 89,d 93 16 92,d 94 2 93,t 1 94 91] (Sq [a 95 5,a 96 5,d 97 13 1,i 98 97,qq 99 3 3 98,za 100 169 96 99 4 0 3,m 101 95,d 102 16 101,d 103 3 102,t 1 103 100] (Sq [a 104 5,a 105 5,d 106 13 1,i 107 106,za 108 169 105 107 5 0 1,m 109 104,d 110 16 109,d 111 4 110,t 1 111 108] (Sq [a 112 5,a 113 5,ja 114 169 113 6 6 0 1,m 115 112,d 116 16 115,d 117 5 116,t 1 117 114] (Sq [a 118 5,a 119 5,a 120 5,m 121 120,d 122 26 121,i 123 122,A 124 123,za 125 169 119 124 7 1 1,m 126 118,d 127 16 126,d 128 6 127,t 1 128 125] (Sq [a 129 5,a 130 5,a 131 9,⟨some 132,none,.p (.bin .mul 3 false true (.t 131) (.c (.int .i64 7)))⟩,za 133 169 130 132 8 0 7,m 134 129,d 135 16 134,d 136 7 135,t 1 136 133] (Sq [a 137 5,a 138 5,m 139 138,d 140 27 139,i 141 140,A 142 141,m 143 137,d 144 16 143,d 145 8 144,t 1 145 142] (Qq (Sq [b 11 1] (.block 4 (.loop c85_l34))) (Sq [a 176 5,a 177 5,m 178 177,d 179 27 178,i 180 179,A 181 180,m 182 176,d 183 16 182,d 184 9 183,t 1 184 181] (Rq [a 185 5,a 2 185,b 3 0]))))))))))))))))))))),[.tmp 2,.tmp 3]⟩
def F130(call:CallE):Prop:=∀h k n v (l:List Int),RdL none 1 h v (uL l)->(∀a,own v=some a->a<h.next)->(∀x∈l,inU x)->∃v' h',call 130 [.agg [.int .u8 k,.int .i64 n,v]] h=some (v',h')∧SaysE (domB k n l) h v' h'
theorem w168(P:Program){call:CallE}(h19:F130 call){h:H}{k n:Int}{v:AV}{l:List Int}(hd:domB k n l)(hv:RdL none 1 h v (uL l))(hlv:∀a,own v=some a->a<h.next)(hin:∀x∈l,inU x):
 WF P call c168 [.agg [.int .u8 k,.int .i64 n,v]] h fun v' h'=>v'=.tup [.int .i64 (valN k n l),.int .i64 0]∧StepN h h':=by
 have ov:=hv.one
 have hvl:=hv.lenA
 have hle:=hv.le
 unfold uL at hvl hle
 rw[List.length_map]at hvl hle
 have f1:fw .i64 ((l.length:Int)+1)=(l.length:Int)+1:=fwI (by omega) (by omega)
 have st0:=StepN.new h (.row (putList 0 [.int .u8 k,.int .i64 n,v] T.e) 3 24)
 have hv1:=hv.keep fun b hb=>st0.old b (hlv b hb)
 simp only[go_sem,seval,ov]
 refine opt_by (h19 _ k n v l hv1 (fun a ha=>Nat.lt_succ_of_lt (hlv a ha)) hin) fun v1 h1 p1=>?_
 obtain⟨e,rfl,he,st1⟩:=p1
 obtain rfl:=he.2 hd
 have g1:=st1.old h.next (Nat.lt_succ_self _)
 simp only[go_sem,seval]at g1
 by_cases k2:k=2
 ·simp only[go_sem,seval,g1,k2,valN]
  exact st0.trans st1
 by_cases k3:k=3
 ·simp only[go_sem,seval,g1,k2,k3,hvl,f1,valN]
  exact st0.trans st1
 simp only[go_sem,seval,g1,k2,k3,valN]
 exact st0.trans st1
structure RL(g0:Nat->Option AO)(L:Nat)(c:CfgT)(cv:AV)(p:PlT)(hs:List Int)(wl:Nat)(h:H):Prop where
 old:∀b,b<L->h.t.get b=g0 b
 nx:L<h.next
 ex:∃hv wv wcs,h.t.get L=some (rowL (cfgC c cv++(plC p++[hv,wv])) 41)∧Own 1 3 h hv hs.length (iL hs)∧Own 3 435 h wv wl wcs∧(∀a,own hv=some a->L<a∧own wv≠some a∧own cv≠some a)∧(∀a,own wv=some a->L<a∧own cv≠some a)
 cvk:∀b,own cv=some b->b<h.next∧b≠L∧h.t.get b=g0 b
section
variable {g0:Nat->Option AO} {L:Nat} {c:CfgT} {cv:AV} {p:PlT} {hs:List Int} {wl:Nat} {h h':H}
theorem RL.step(r:RL g0 L c cv p hs wl h)(s:StepN h h'):RL g0 L c cv p hs wl h':=by
 obtain⟨hv,wv,wcs,g,oh,ow,ohl,owl⟩:=r.ex
 have:=r.nx
 exact⟨fun b hb=>(s.old b (by omega)).trans (r.old b hb),Nat.lt_of_lt_of_le r.nx s.next,⟨hv,wv,wcs,(s.old _ r.nx).trans g,oh.keep s.next fun b hb=>s.old b (oh.lt hb),ow.keep s.next fun b hb=>s.old b (ow.lt hb),ohl,owl⟩,fun b hb=>by
  obtain⟨a1,a2,a3⟩:=r.cvk b hb
  exact⟨Nat.lt_of_lt_of_le a1 s.next,a2,(s.old b a1).trans a3⟩⟩
theorem RL.setp{hv wv:AV}{wcs:List AV}(r:RL g0 L c cv p hs wl h)(oh:Own 1 3 h hv hs.length (iL hs))(ow:Own 3 435 h wv wl wcs)(ohl:∀a,own hv=some a->L<a∧own wv≠some a∧own cv≠some a)(owl:∀a,own wv=some a->L<a∧own cv≠some a)(p':PlT):RL g0 L c cv p' hs wl ⟨h.next,h.t.set L (rowL (cfgC c cv++(plC p'++[hv,wv])) 41)⟩:=by
 refine⟨fun b hb=>?_,r.nx,⟨hv,wv,wcs,by simp[go_sem],oh.keep (Nat.le_refl _) fun b hb=>?_,ow.keep (Nat.le_refl _) fun b hb=>?_,ohl,owl⟩,fun b hb=>?_⟩
 ·have e:¬b=L:=by omega
  simp only[go_sem,seval,e]
  exact r.old b hb
 ·have e:¬b=L:=by have:=(ohl b hb).1;omega
  simp only[go_sem,seval,e]
 ·have e:¬b=L:=by have:=(owl b hb).1;omega
  simp only[go_sem,seval,e]
 ·obtain⟨a1,a2,a3⟩:=r.cvk b hb
  refine⟨a1,a2,?_⟩
  simp only[go_sem,seval,a2]
  exact a3
def I74(g0:Nat->Option AO)(L:Nat)(c:CfgT)(cv:AV)(p:PlT)(hs:List Int)(wl:Nat)(kd fi pe:Int)(n:Nat)(nx0:Nat)(k:Nat)(tm:T AV)(h:H):Prop:=
 tm.get 0=some (.ptr L 0)∧tm.get 1=some (.int .i64 (n:Int))∧tm.get 2=some (.int .u8 kd)∧tm.get 3=some (.int .i64 fi)∧tm.get 4=some (.int .i64 pe)∧tm.get 11=some (.int .i64 (wl:Int))∧nx0<=h.next∧∃i:Nat,i+k=n∧tm.get 12=some (.int .i64 (i:Int))∧RL g0 L c cv p hs (wl+i) h
theorem step74(P:Program){call:CallE}{kd fi pe:Int}{n nx0:Nat}(ov:oneA cv=true)(hn:wl+n<=10000)(hpe:1<=pe)(k:Nat)(tm:T AV)(h:H)(hI:I74 g0 L c cv p hs wl kd fi pe n nx0 k tm h):
 WC P call c169_l6 (loopQ 0 (fun tm h=>∃j,j<k∧I74 g0 L c cv p hs wl kd fi pe n nx0 j tm h) (fun tm h=>tm.get 11=some (.int .i64 (wl:Int))∧nx0<=h.next∧RL g0 L c cv p hs (wl+n) h) (fun _ _=>False)) tm h:=by
 obtain⟨t0,t1,t2,t3,t4,t11,hnx,i,hik,t12,r⟩:=hI
 cases k with
 |zero=>
  have e1:¬(i:Int)<(n:Int):=by omega
  obtain rfl:i=n:=by omega
  simp only[go_sem,seval,c169_l6,t1,t12,e1]
  exact⟨by simp[go_sem,t11],hnx,r⟩
 |succ k=>
  have e1:(i:Int)<(n:Int):=by omega
  have f1:fw .i64 ((i:Int)+1)=(i:Int)+1:=fwI (by omega) (by omega)
  have e3:((i+1:Nat):Int)=(i:Int)+1:=rfl
  have pz:¬pe=0:=by omega
  obtain⟨old,nx,⟨hv,wv,wcs,g,oh,ow,ohl,owl⟩,cvk⟩:=r
  have ohv:=oh.one
  have owv:=ow.one
  have l1:¬L=h.next:=by omega
  obtain⟨src,hsrc⟩:∃src:List AV,src=[.int .u8 kd,.int .i64 (fw .i64 (fi+fw .i64 (Int.tdiv (i:Int) pe))),.int .i64 (Int.tmod (i:Int) pe)]:=⟨_,rfl⟩
  have hsl:src.length=3:=by rw[hsrc];rfl
  have st0:=StepN.new h (.row (putList 0 src T.e) 3 435)
  have ow1:Own 3 435 ⟨h.next+1,h.t.set h.next (.row (putList 0 src T.e) 3 435)⟩ wv _ _:=ow.keep st0.next fun b hb=>st0.old b (ow.lt hb)
  simp only[go_sem,seval,c169_l6,t0,t1,t2,t3,t4,t12,e1,g,cfgC,plC,pz,l1]
  simp only[←hsrc]
  refine opt_some (appA_own ow1 (by decide) (by decide) (by omega) (by omega)) ?_
  have gg:=fun b hb hh=>app_get (h:=⟨h.next+1,h.t.set h.next (.row (putList 0 src T.e) 3 435)⟩) (e:=435) (v:=wv) (cs:=wcs++src) (b:=b) hb hh
  have noL:own wv≠some L:=fun hh=>by have:=(owl _ hh).1;omega
  have gL1:=gg L (by show L<h.next+1;omega) noL
  have oA1:=own_app ow1 (src:=src) (n:=1) (by decide) hsl
  have ov1:oneA (appV ⟨h.next+1,h.t.set h.next (.row (putList 0 src T.e) 3 435)⟩ 3 (wl+(i+1)))=true:=rfl
  simp only[go_sem,seval,l1,g,cfgC,plC]at gL1
  simp only[go_sem,seval,gL1,ov1,app_next,f1,t0,t1,t2,t3,t4,t11,t12,l1,g,cfgC,plC]
  refine⟨k,Nat.lt_succ_self k,by simp[go_sem,t0],by simp[go_sem,t1],by simp[go_sem,t2],by simp[go_sem,t3],by simp[go_sem,t4],by simp[go_sem,t11],by show nx0<=h.next+2;omega,i+1,by omega,by simp[go_sem,e3],?_⟩
  have hown:own (appV ⟨h.next+1,h.t.set h.next (.row (putList 0 src T.e) 3 435)⟩ 3 (wl+i+1))=some (h.next+1):=rfl
  refine⟨fun b hb=>?_,by show L<h.next+2;omega,⟨hv,appV ⟨h.next+1,h.t.set h.next (.row (putList 0 src T.e) 3 435)⟩ 3 (wl+i+1),wcs++src,by simp[go_sem,cfgC,plC],?_,?_,?_,?_⟩,fun b hb=>?_⟩
  ·have n1:¬b=h.next:=by omega
   have n2:¬b=L:=by omega
   have g1:=gg b (by show b<h.next+1;omega) (fun hh=>by have:=(owl _ hh).1;omega)
   simp only[go_sem,seval,n1]at g1
   simp only[go_sem,seval,n2,g1]
   exact old b hb
  ·refine oh.keep (by show h.next<=h.next+2;omega) fun b hb=>?_
   have hlt:=oh.lt hb
   have n1:¬b=h.next:=by omega
   have n2:¬b=L:=by have:=(ohl b hb).1;omega
   have g1:=gg b (by show b<h.next+1;omega) (ohl b hb).2.1
   simp only[go_sem,seval,n1]at g1
   simp only[go_sem,seval,n2,g1]
  ·rw[←Nat.add_assoc]
   refine oA1.keep (by show h.next+1+1<=h.next+2;omega) fun b hb=>?_
   rw[own_appV]at hb
   obtain rfl:=Option.some.inj hb
   have n2:¬h.next+1=L:=by omega
   simp only[go_sem,seval,n2]
  ·intro a ha
   have hlt:=oh.lt ha
   refine⟨(ohl a ha).1,fun hh=>?_,(ohl a ha).2.2⟩
   rw[hown]at hh
   have:=Option.some.inj hh
   omega
  ·intro a ha
   rw[hown]at ha
   obtain rfl:=Option.some.inj ha
   exact⟨by omega,fun hh=>by have:=(cvk _ hh).1;omega⟩
  ·obtain⟨a1,a2,a3⟩:=cvk b hb
   refine⟨by show b<h.next+2;omega,a2,?_⟩
   have n1:¬b=h.next:=by omega
   have g1:=gg b (by show b<h.next+1;omega) (fun hh=>(owl b hh).2 hb)
   simp only[go_sem,seval,n1]at g1
   simp only[go_sem,seval,a2,g1]
   exact a3
theorem w169(P:Program){call:CallE}{kd fi pe:Int}{n:Nat}(ov:oneA cv=true)(hn:wl+n<=10000)(hpe:1<=pe)(r:RL g0 L c cv p hs wl h):
 WF P call c169 [.ptr L 0,.int .i64 (n:Int),.int .u8 kd,.int .i64 fi,.int .i64 pe] h fun v h'=>v=.int .i64 (wl:Int)∧RL g0 L c cv p hs (wl+n) h'∧h.next<=h'.next:=by
 obtain⟨hv,wv,wcs,g,oh,ow,ohl,owl⟩:=r.ex
 have hwl:=ow.lenA
 simp only[go_sem,seval,g,cfgC,plC,hwl]
 refine loop_in (I74 g0 L c cv p hs wl kd fi pe n h.next) _ _ (fun k tm h' hI=>step74 P ov hn hpe k tm h' hI) (fun tm2 h2 hR=>?_) (fun _ _ hh=>hh.elim) n _ _
  ⟨by simp[go_sem],by simp[go_sem],by simp[go_sem],by simp[go_sem],by simp[go_sem],by simp[go_sem],Nat.le_refl _,0,by omega,by simp[go_sem],r⟩
 obtain⟨t11,nx,r2⟩:=hR
 simp only[go_sem,seval,t11]
 exact⟨r2,nx⟩
end
def I12(g0:Nat->Option AO)(B L:Nat)(c:CfgT)(v cv:AV)(i:Nat)(hs0:List Int)(n k:Nat)(tm:T AV)(h:H):Prop:=
 tm.get 1=some (.ptr B 0)∧tm.get 5=some (.ptr L 0)∧tm.get 6=some (.int .i64 ((i:Int)+1))∧B<L∧g0 B=some (rowL (cfgC c v) 27)∧∃j:Nat,j+k=n∧tm.get 7=some (.int .i64 (j:Int))∧RL g0 L c cv plZ (hs0++List.replicate j ((i:Int)+1)) 0 h
theorem step12(P:Program){call:CallE}{g0:Nat->Option AO}{B L:Nat}{c:CfgT}{v cv:AV}{i:Nat}{hs0:List Int}{n:Nat}(hi:i<6)(hni:(twL c)[i]?=some (n:Int))(ov:oneA cv=true)(hn:hs0.length+n<=1000)(k:Nat)(tm:T AV)(h:H)(hI:I12 g0 B L c v cv i hs0 n k tm h):
 WC P call c85_l12 (loopQ 2 (fun tm h=>∃j,j<k∧I12 g0 B L c v cv i hs0 n j tm h) (fun tm h=>tm.get 1=some (.ptr B 0)∧tm.get 5=some (.ptr L 0)∧tm.get 6=some (.int .i64 ((i:Int)+1))∧RL g0 L c cv plZ (hs0++List.replicate n ((i:Int)+1)) 0 h) (fun _ _=>False)) tm h:=by
 obtain⟨t1,t5,t6,hBL,gB,j,hjk,t7,r⟩:=hI
 have gB1:=(r.old B hBL).trans gB
 have fi1:fw .i64 ((i:Int)+1-1)=(i:Int):=by rw[show(i:Int)+1-1=(i:Int) by omega];exact fwI (by omega) (by omega)
 have ei:(i:Int)<6:=by omega
 have hcell:(cfgC c v)[7+i]?=some (.int .i64 (n:Int)):=by
  match i,hi,hni with
  |0,_,h=>have:=Option.some.inj h;simp only[cfgC];rw[←this];rfl
  |1,_,h=>have:=Option.some.inj h;simp only[cfgC];rw[←this];rfl
  |2,_,h=>have:=Option.some.inj h;simp only[cfgC];rw[←this];rfl
  |3,_,h=>have:=Option.some.inj h;simp only[cfgC];rw[←this];rfl
  |4,_,h=>have:=Option.some.inj h;simp only[cfgC];rw[←this];rfl
  |5,_,h=>have:=Option.some.inj h;simp only[cfgC];rw[←this];rfl
 cases k with
 |zero=>
  have e1:¬(j:Int)<(n:Int):=by omega
  obtain rfl:j=n:=by omega
  simp only[go_sem,seval,c85_l12,t1,t5,t6,t7,fi1,ei,gB1,Nat.mul_one,hcell,e1]
  exact r
 |succ k=>
  have e1:(j:Int)<(n:Int):=by omega
  have f2:fw .i64 ((j:Int)+1)=(j:Int)+1:=fwI (by omega) (by omega)
  have e3:((j+1:Nat):Int)=(j:Int)+1:=rfl
  obtain⟨old,nx,⟨hv,wv,wcs,g,oh,ow,ohl,owl⟩,cvk⟩:=r
  have ohv:=oh.one
  have owv:=ow.one
  have l1:¬L=h.next:=by omega
  have st0:=StepN.new h (.row (putList 0 [.int .i64 ((i:Int)+1)] T.e) 1 3)
  have hlen:(hs0++List.replicate j ((i:Int)+1)).length=hs0.length+j:=by rw[List.length_append,List.length_replicate]
  generalize hhs:hs0++List.replicate j ((i:Int)+1)=hs at oh hlen g
  have oh1:Own 1 3 ⟨h.next+1,h.t.set h.next (.row (putList 0 [.int .i64 ((i:Int)+1)] T.e) 1 3)⟩ hv _ _:=oh.keep st0.next fun b hb=>st0.old b (oh.lt hb)
  have gL0:h.t.get L=some (rowL (cfgC c cv++(plC plZ++[hv,wv])) 41):=g
  simp only[cfgC,plC,List.cons_append,List.nil_append]at g
  simp only[go_sem,seval,c85_l12,t1,t5,t6,t7,fi1,ei,gB1,Nat.mul_one,hcell,e1,g,l1]
  refine opt_some (appA_own oh1 (by decide) (by decide) (by omega) (by omega)) ?_
  have gg:=fun b hb hh=>app_get (h:=⟨h.next+1,h.t.set h.next (.row (putList 0 [.int .i64 ((i:Int)+1)] T.e) 1 3)⟩) (e:=3) (v:=hv) (cs:=iL hs++[.int .i64 ((i:Int)+1)]) (b:=b) hb hh
  have gL1:=gg L (by show L<h.next+1;omega) (fun hh=>by have:=(ohl _ hh).1;omega)
  have oA1:=own_app oh1 (src:=[.int .i64 ((i:Int)+1)]) (n:=1) (by decide) rfl
  have ov1:=oA1.one
  simp only[go_sem,seval,l1,g]at gL1
  simp only[go_sem,seval,gL1,ov1,app_next,f2,t1,t5,t6,t7,l1,g]
  have ehs:hs0++List.replicate (j+1) ((i:Int)+1)=hs++[(i:Int)+1]:=by rw[←hhs,List.replicate_succ',List.append_assoc]
  refine⟨k,Nat.lt_succ_self k,by simp[go_sem,t1],by simp[go_sem,t5],by simp[go_sem,t6],hBL,gB,j+1,by omega,by simp[go_sem,e3],?_⟩
  rw[ehs]
  have hown:own (appV ⟨h.next+1,h.t.set h.next (.row (putList 0 [.int .i64 ((i:Int)+1)] T.e) 1 3)⟩ 1 (hs.length+1))=some (h.next+1):=rfl
  refine⟨fun b hb=>?_,by show L<h.next+2;omega,⟨appV ⟨h.next+1,h.t.set h.next (.row (putList 0 [.int .i64 ((i:Int)+1)] T.e) 1 3)⟩ 1 (hs.length+1),wv,wcs,by simp[go_sem,cfgC,plC],?_,?_,?_,?_⟩,fun b hb=>?_⟩
  ·have n1:¬b=h.next:=by omega
   have n2:¬b=L:=by omega
   have g1:=gg b (by show b<h.next+1;omega) (fun hh=>by have:=(ohl _ hh).1;omega)
   simp only[go_sem,seval,n1]at g1
   simp only[go_sem,seval,n2,g1]
   exact old b hb
  ·have e4:iL hs++[.int .i64 ((i:Int)+1)]=iL (hs++[(i:Int)+1]):=by unfold iL;rw[List.map_append];rfl
   rw[e4]at oA1
   rw[List.length_append]
   refine oA1.keep (by show h.next+1+1<=h.next+2;omega) fun b hb=>?_
   rw[own_appV]at hb
   obtain rfl:=Option.some.inj hb
   have n2:¬h.next+1=L:=by omega
   simp only[go_sem,seval,n2,e4]
  ·refine ow.keep (by show h.next<=h.next+2;omega) fun b hb=>?_
   have hlt:=ow.lt hb
   have n1:¬b=h.next:=by omega
   have n2:¬b=L:=by have:=(owl b hb).1;omega
   have g1:=gg b (by show b<h.next+1;omega) (fun hh=>(ohl b hh).2.1 hb)
   simp only[go_sem,seval,n1]at g1
   simp only[go_sem,seval,n2,g1]
  ·intro a ha
   rw[hown]at ha
   obtain rfl:=Option.some.inj ha
   refine⟨by omega,fun hh=>?_,fun hh=>by have:=(cvk _ hh).1;omega⟩
   have:=ow.lt hh
   omega
  ·exact owl
  ·obtain⟨a1,a2,a3⟩:=cvk b hb
   refine⟨by show b<h.next+2;omega,a2,?_⟩
   have n1:¬b=h.next:=by omega
   have g1:=gg b (by show b<h.next+1;omega) (fun hh=>(ohl b hh).2.2 hb)
   simp only[go_sem,seval,n1]at g1
   simp only[go_sem,seval,a2,g1]
   exact a3
def I27a(g0:Nat->Option AO)(B L:Nat)(c:CfgT)(v cv:AV)(k:Nat)(tm:T AV)(h:H):Prop:=
 ∃i:Nat,i+k=6∧tm.get 1=some (.ptr B 0)∧tm.get 5=some (.ptr L 0)∧tm.get 6=some (.int .i64 ((i:Int)+1))∧B<L∧g0 B=some (rowL (cfgC c v) 27)∧∃hs,hs++htL i ((twL c).drop i)=hsL c∧RL g0 L c cv plZ hs 0 h
theorem step27a(P:Program){call:CallE}{g0:Nat->Option AO}{B L:Nat}{c:CfgT}{v cv:AV}(ov:oneA cv=true)(hpos:∀t∈twL c,0<=t)(hn:(hsL c).length<=1000)(k:Nat)(tm:T AV)(h:H)(hI:I27a g0 B L c v cv k tm h):
 WC P call c85_l14 (loopQ 0 (fun tm h=>∃j,j<k∧I27a g0 B L c v cv j tm h) (fun tm h=>tm.get 1=some (.ptr B 0)∧tm.get 5=some (.ptr L 0)∧RL g0 L c cv plZ (hsL c) 0 h) (fun _ _=>False)) tm h:=by
 obtain⟨i,hik,t1,t5,t6,hBL,gB,hs,hhs,r⟩:=hI
 have h6:(twL c).length=6:=rfl
 cases k with
 |zero=>
  obtain rfl:i=6:=by omega
  have z:¬(((6:Nat):Int)+1<=6):=by decide
  have z2:(6:Int)<((6:Nat):Int)+1:=by decide
  simp only[go_sem,seval,c85_l14,t6]
  rw[List.drop_eq_nil_of_le (by omega),show htL ((6:Nat):Int) []=[]from rfl,List.append_nil]at hhs
  rw[hhs]at r
  exact⟨by simp[go_sem,t1],by simp[go_sem,t5],r⟩
 |succ k=>
  have e1:¬(6:Int)<(i:Int)+1:=by omega
  have hi:i<(twL c).length:=by omega
  have f1:fw .i64 ((i:Int)+1+1)=(i:Int)+1+1:=fwI (by omega) (by omega)
  have e3:((i+1:Nat):Int)=(i:Int)+1:=rfl
  have h0:=hpos (twL c)[i] (List.getElem_mem hi)
  obtain⟨n,hn0⟩:∃n:Nat,(twL c)[i]=(n:Int):=⟨(twL c)[i].toNat,by omega⟩
  have hni:(twL c)[i]?=some (n:Int):=by rw[List.getElem?_eq_getElem hi,hn0]
  have hd:htL i ((twL c).drop i)=List.replicate n ((i:Int)+1)++htL ((i+1:Nat):Int) ((twL c).drop (i+1)):=by
   rw[List.drop_eq_getElem_cons hi,htL,hn0];rfl
  have hlen:hs.length+n<=1000:=by
   have:=congrArg List.length hhs
   rw[hd,List.length_append,List.length_append,List.length_replicate]at this
   omega
  simp only[go_sem,seval,c85_l14,t1,t5,t6,e1]
  refine loop_in (I12 g0 B L c v cv i hs n) _ _ (fun k tm h' hI=>step12 P (by omega) hni ov hlen k tm h' hI) (fun tm2 h2 hR=>?_) (fun _ _ hh=>hh.elim) n _ _
   ⟨by simp[go_sem,t1],by simp[go_sem,t5],by simp[go_sem,t6],hBL,gB,0,by omega,by simp[go_sem],by rw[List.replicate_zero,List.append_nil];exact r⟩
  obtain⟨s1,s5,s6,r2⟩:=hR
  simp only[go_sem,seval,s1,s5,s6,f1]
  refine⟨k,Nat.lt_succ_self k,i+1,by omega,by simp[go_sem,s1],by simp[go_sem,s5],by simp[go_sem,e3],hBL,gB,_,?_,r2⟩
  rw[List.append_assoc,←hd,hhs]
end
end Go.Proofs.YtghmnaojmpjglaaGreatDoor.PR
namespace Go.Proofs.YtghmnaojmpjglaaGreatDoor.PR
open Go.Proofs.YtghmnaojmpjglaaGreatDoor.Eo
noncomputable section
variable(P:Program)[PT P]{call:CallE}
def F169(call:CallE):Prop:=∀g0 L c cv p hs wl h (kd fi pe n:Int) (nn:Nat),n=(nn:Int)->oneA cv=true->wl+nn<=10000->1<=pe->RL g0 L c cv p hs wl h->∃v h',call 169 [.ptr L 0,.int .i64 n,.int .u8 kd,.int .i64 fi,.int .i64 pe] h=some (v,h')∧(v=.int .i64 (wl:Int)∧RL g0 L c cv p hs (wl+nn) h'∧h.next<=h'.next)
theorem emp_copy{h:H}{a:Nat}{l:List Int}(hg:h.t.get a=some (.row (putList 0 [] T.e) 0 51))(hl:l.length<=65536)(ha:a<h.next):∃cv h',appA h 51 1 8 (.sl a 0 0 1 (some 0)) (uL l).length (uL l)=some (cv,h')∧oneA cv=true∧StepN h h'∧RdL none 1 h' cv (uL l)∧∀b,own cv=some b->a<=b∧b<h'.next:=by
 by_cases hz:l.length=0
 ·have:l=[]:=List.eq_nil_of_length_eq_zero hz
  subst this
  exact⟨_,_,rfl,rfl,StepN.refl _,.inr ⟨a,0,_,rfl,by decide,fun i x hi=>by simp[uL]at hi⟩,fun b hb=>by rw[←Option.some.inj (show some a=some b from hb)];exact⟨Nat.le_refl _,ha⟩⟩
 ·have hul:=uL_len l
  rw[hul]
  refine⟨_,_,appA_emp hg (by omega) (by omega) (by omega),rfl,⟨Nat.le_succ _,fun b hb=>app_get hb (by simp[own])⟩,?_,fun b hb=>?_⟩
  ·have o:=own_app (es:=1) (n:=l.length) (e:=51) (h:=h) (v:=.nils) (cs:=[]) (src:=uL l) .nil (by omega) (by omega)
   rw[Nat.zero_add,List.nil_append]at o
   exact Own.rdl1 o (by omega)
  ·rw[own_appV]at hb
   obtain rfl:=Option.some.inj hb
   exact⟨Nat.le_of_lt ha,Nat.lt_succ_self _⟩
def I27b(g0:Nat->Option AO)(L:Nat)(c:CfgT)(cv:AV)(p:PlT)(hs:List Int)(tot:Int)(k:Nat)(tm:T AV)(h:H):Prop:=
 tm.get 5=some (.ptr L 0)∧∃(i:Nat) (wl:Nat),i+k=hs.length∧tm.get 11=some (.int .i64 ((i:Int)+1))∧(wl:Int)+sumH (hs.drop i)=tot∧RL g0 L c cv p hs wl h
theorem step27b(P:Program){call:CallE}(h74:F169 call){g0:Nat->Option AO}{L:Nat}{c:CfgT}{cv:AV}{p:PlT}{hs:List Int}{tot:Int}(ov:oneA cv=true)(hb:∀x∈hs,1<=x∧x<=6)(hl:hs.length<=1000)(htot:tot<=9000)(k:Nat)(tm:T AV)(h:H)(hI:I27b g0 L c cv p hs tot k tm h):
 WC P call c85_l34 (loopQ 4 (fun tm h=>∃j,j<k∧I27b g0 L c cv p hs tot j tm h) (fun tm h=>tm.get 5=some (.ptr L 0)∧∃wl:Nat,(wl:Int)=tot∧RL g0 L c cv p hs wl h) (fun _ _=>False)) tm h:=by
 obtain⟨t5,i,wl,hik,t11,hat,r⟩:=hI
 obtain⟨hv,wv,wcs,g,oh,ow,ohl,owl⟩:=r.ex
 have hlen:=oh.lenA
 cases k with
 |zero=>
  have e1:(hs.length:Int)<(i:Int)+1:=by omega
  simp only[go_sem,seval,c85_l34,t5,t11,g,cfgC,plC,hlen,e1]
  rw[List.drop_eq_nil_of_le (by omega),sumH,Int.add_zero]at hat
  exact⟨wl,hat,r⟩
 |succ k=>
  have e1:¬(hs.length:Int)<(i:Int)+1:=by omega
  have hi:i<hs.length:=by omega
  obtain⟨x,hx⟩:∃x,hs[i]?=some x:=⟨_,List.getElem?_eq_getElem hi⟩
  have hxm:=hb x (List.mem_of_getElem? hx)
  have hdr:hs.drop i=x::hs.drop (i+1):=by
   rw[List.drop_eq_getElem_cons hi]
   rw[List.getElem?_eq_getElem hi]at hx
   rw[Option.some.inj hx]
  rw[hdr,sumH]at hat
  have hrest:=sumH_le (hs.drop (i+1)) fun y hy=>hb y (List.mem_of_mem_drop hy)
  have f1:fw .i64 (5+x)=5+x:=fwI (by omega) (by omega)
  have f2:fw .i64 ((i:Int)+1-1)=(i:Int):=by rw[show(i:Int)+1-1=(i:Int) by omega];exact fwI (by omega) (by omega)
  have f3:fw .i64 ((i:Int)+1+1)=(i:Int)+1+1:=fwI (by omega) (by omega)
  have e3:((i+1:Nat):Int)=(i:Int)+1:=rfl
  have e2:(i:Int)<(hs.length:Int):=by omega
  have hcell:(iL hs)[i]?=some (.int .i64 x):=by unfold iL;rw[List.getElem?_map,hx];rfl
  obtain⟨xn,hxn⟩:∃n:Nat,5+x=(n:Int):=⟨(5+x).toNat,by omega⟩
  have r0:=r
  generalize hn:hs.length=n at*
  generalize hcs:iL hs=cs at*
  cases oh with
  |nil=>omega
  |sl a len cs cap hcp hp hcl hlt hg=>
   simp only[go_sem,seval,c85_l34,t5,t11,g,cfgC,plC,e1,f2,e2,hg,Nat.mul_one,hcell,f1]
   refine opt_by (h74 g0 L c cv p hs wl h 9 _ _ _ xn hxn ov (by omega) (by omega) r0) fun v1 h1 p1=>?_
   obtain⟨rfl,r1,nx1⟩:=p1
   simp only[go_sem,seval,t11,f3,nx1]
   exact⟨k,Nat.lt_succ_self k,by simp[go_sem,t5],i+1,wl+xn,by omega,by simp[go_sem,e3],by omega,r1⟩
structure RLay(h:H)(L:Nat)(c:CfgT)(p:PlT)(hs:List Int):Prop where
 ex:∃cv hv wv wl wcs,h.t.get L=some (rowL (cfgC c cv++(plC p++[hv,wv])) 41)∧oneA cv=true∧Own 1 3 h hv hs.length (iL hs)∧Own 3 435 h wv wl wcs∧p.wo=(wl:Int)∧RdL none 1 h cv (uL c.cuts)∧∀b,own cv=some b->L<b∧b<h.next
 lt:L<h.next
theorem RLay.step{h h':H}{L:Nat}{c:CfgT}{p:PlT}{hs:List Int}(l:RLay h L c p hs)(s:StepN h h'):RLay h' L c p hs:=by
 obtain⟨cv,hv,wv,wl,wcs,g,o,oh,ow,e,rd,lo⟩:=l.ex
 exact⟨⟨cv,hv,wv,wl,wcs,(s.old L l.lt).trans g,o,oh.keep s.next fun b hb=>s.old b (oh.lt hb),ow.keep s.next fun b hb=>s.old b (ow.lt hb),e,rd.keep fun b hb=>s.old b (lo b hb).2,fun b hb=>⟨(lo b hb).1,Nat.lt_of_lt_of_le (lo b hb).2 s.next⟩⟩,Nat.lt_of_lt_of_le l.lt s.next⟩
structure Post27(c:CfgT)(h:H)(v:AV)(h':H):Prop where
 ex:∃L p,v=.tup [.ptr L 0,.int .i64 0]∧h.next<=L∧PlOK c p∧RLay h' L c p (hsL c)
 st:StepN h h'
def F167(call:CallE):Prop:=∀h c v,RdL none 1 h v (uL c.cuts)->(∀a,own v=some a->a<h.next)->(∀x∈c.cuts,inU x)->∃v' h',call 167 [.agg (cfgC c v)] h=some (v',h')∧SaysE (layB c) h v' h'
def F168(call:CallE):Prop:=∀h k n v (l:List Int),domB k n l->RdL none 1 h v (uL l)->(∀a,own v=some a->a<h.next)->(∀x∈l,inU x)->∃v' h',call 168 [.agg [.int .u8 k,.int .i64 n,v]] h=some (v',h')∧(v'=.tup [.int .i64 (valN k n l),.int .i64 0]∧StepN h h')
set_option maxHeartbeats 1000000 in
theorem w85(h5:F167 call)(h73:F168 call)(h74:F169 call)
 {h:H} {c:CfgT} {v:AV} (hv:RdL none 1 h v (uL c.cuts)) (hlv:∀a,own v=some a->a<h.next) (hin:∀x∈c.cuts,inU x) (hc:layB c) (hn:(hsL c).length<=60):WF P call c85 [.agg (cfgC c v)] h (Post27 c h):=by
 have hc0:=hc
 obtain⟨hT,hth,hsl,he1,he2,hb1,hb2,hd,hlo,htr,hba⟩:=hc
 have hvN:=valN_ok hd
 have heN:=engOK hc0
 have hcl:c.cuts.length<=1000:=by
  rcases hd with⟨_,_,h1⟩|⟨_,_,h1⟩|⟨_,_,_,h1,_⟩
  ·rw[h1];decide
  ·rw[h1];decide
  ·omega
 have ov:=hv.one
 have st0:=StepN.new h (.row (putList 0 (cfgC c v) T.e) 16 27)
 simp only[go_sem,seval,ov,cfgC]
 refine opt_by (h5 _ c v (hv.keep fun b hb=>st0.old b (hlv b hb)) (fun a ha=>Nat.lt_succ_of_lt (hlv a ha)) hin) fun v1 h1 p1=>?_
 obtain⟨e,rfl,he,st1⟩:=p1
 obtain rfl:=he.2 hc0
 have g1:=st1.old h.next (Nat.lt_succ_self _)
 simp only[go_sem,seval,cfgC]at g1
 have st01:=st0.trans st1
 have nx1:h.next<h1.next:=st1.next
 obtain⟨B,hB⟩:∃B,B=h.next:=⟨_,rfl⟩
 obtain⟨L,hL⟩:∃L,L=h1.next:=⟨_,rfl⟩
 rw[←hB]at g1
 simp only[←hB]
 have BL:¬B=L:=by omega
 have LB:¬L=B:=by omega
 have B1:¬B=L+1:=by omega
 have L1:¬L=L+1:=by omega
 have st2:∀x y,StepN h1 ⟨h1.next+2,((h1.t.set h1.next x).set (h1.next+1) y)⟩:=fun x y=>⟨by show h1.next<=h1.next+2;omega,fun b hb=>by
  have q1:¬b=h1.next:=by omega
  have q2:¬b=h1.next+1:=by omega
  simp only[go_sem,seval,q1,q2]⟩
 have hsrc:=fun x y=>(hv.keep fun b hb=>(st01.trans (st2 x y)).old b (hlv b hb)).src1
 have hgE:∀x,(⟨h1.next+2,((h1.t.set h1.next x).set (h1.next+1) (.row (putList 0 [] T.e) 0 51))⟩:H).t.get (h1.next+1)=some (.row (putList 0 [] T.e) 0 51):=fun x=>by simp only[go_sem,seval]
 simp only[←hL]at hsrc hgE st2
 have hs0:=hsrc (.row (putList 0 (cfgC c v++(plC plZ++[.nils,.nils])) T.e) 28 41) (.row (putList 0 [] T.e) 0 51)
 obtain⟨cv,h2,ecv,ocv,st3,rdc,loc⟩:=emp_copy (h:=⟨L+2,((h1.t.set L (.row (putList 0 (cfgC c v++(plC plZ++[.nils,.nils])) T.e) 28 41)).set (L+1) (.row (putList 0 [] T.e) 0 51))⟩) (a:=L+1) (by simp[go_sem]) (by omega:c.cuts.length<=65536) (by show L+1<L+2;omega)
 have gL3:=st3.old L (by show L<L+2;omega)
 have gB3:=st3.old B (by show B<L+2;omega)
 have nx3:L+2<=h2.next:=st3.next
 simp only[go_sem,seval,cfgC,plC,plZ,BL,B1,L1,g1]at hs0 ecv gL3 gB3
 simp only[go_sem,seval,←hL,g1,ov,BL,B1,L1,hs0,ecv,gL3,ocv]
 have old3:∀b,b<L->h2.t.get b=h1.t.get b:=fun b hb=>by
  have q1:¬b=L:=by omega
  have q2:¬b=L+1:=by omega
  have:=st3.old b (by show b<L+2;omega)
  simp only[go_sem,seval,q1,q2]at this
  exact this
 obtain⟨g0,hg0⟩:∃g0,g0=h2.t.get:=⟨_,rfl⟩
 have gB0:g0 B=some (rowL (cfgC c v) 27):=by rw[hg0,gB3];rfl
 refine loop_in (I27a g0 B L c v cv) _ _ (fun k tm h' hI=>step27a P ocv (towB_pos _ _ hT) (Nat.le_trans hn (by decide)) k tm h' hI) (fun tm4 h4 hR=>?_) (fun _ _ hh=>hh.elim) 6 _ _
  ⟨0,rfl,by simp[go_sem],by simp[go_sem],by simp[go_sem],by omega,gB0,[],rfl,⟨fun b hb=>?_,by show L<h2.next;omega,⟨.nils,.nils,[],by simp[go_sem,cfgC,plC,plZ],.nil,.nil,fun a ha=>(by cases ha),fun a ha=>(by cases ha)⟩,fun b hb=>?_⟩⟩
 ·obtain⟨t1,t5,r0⟩:=hR
  obtain⟨hs,hhs⟩:∃l,l=hsL c:=⟨_,rfl⟩
  have hmem:∀x∈hs,1<=x∧x<=6:=by rw[hhs];exact hsL_mem
  rw[←hhs]at r0 hn
  have hsum:=sumH_le hs hmem
  have gB4:=(r0.old B (by omega)).trans gB0
  have fE1:fw .i64 (2*c.slots)=2*c.slots:=fwI (by omega) (by omega)
  have hbk:0<=c.buckets∧c.buckets<=16:=by
   by_cases e:c.engine=3
   ·have:=hb1 e;omega
   ·have:=hb2 e;omega
  have fE2:fw .i64 (4*c.buckets)=4*c.buckets:=fwI (by omega) (by omega)
  have fE3:fw .i64 (3*c.locks)=3*c.locks:=fwI (by omega) (by omega)
  have fE4:fw .i64 (valN c.kind c.n c.cuts*7)=valN c.kind c.n c.cuts*7:=fwI (by omega) (by omega)
  rw[rThenN]
  refine seq_by (fun tm h'=>h'=h4∧tm.get 1=some (.ptr B 0)∧tm.get 5=some (.ptr L 0)∧tm.get 8=some (.int .i64 c.slots)) ?_ fun tm5 h5 hR5=>?_
  ·simp only[go_sem,seval,t1,gB4,cfgC]
   exact t5
  obtain⟨rfl,t1,t5,t8⟩:=hR5
  refine seq_by (fun tm h'=>h'=h5∧tm.get 1=some (.ptr B 0)∧tm.get 5=some (.ptr L 0)∧tm.get 8=some (.int .i64 (if c.engine=2 then 2*c.slots else c.slots))) ?_ fun tm6 h6 hR6=>?_
  ·by_cases e2:c.engine=2
   ·simp only[go_sem,seval,t1,gB4,cfgC,e2,fE1]
    exact t5
   ·simp only[go_sem,seval,t1,gB4,cfgC,e2]
    exact⟨t5,t8⟩
  obtain⟨rfl,t1,t5,t8⟩:=hR6
  refine seq_by (fun tm h'=>h'=h6∧tm.get 1=some (.ptr B 0)∧tm.get 5=some (.ptr L 0)∧tm.get 8=some (.int .i64 (engN c))) ?_ fun tm7 h7 hR7=>?_
  ·by_cases e3:c.engine=3
   ·simp only[go_sem,seval,t1,gB4,cfgC,e3,fE2,engN]
    exact t5
   ·by_cases e2:c.engine=2
    ·rw[if_pos e2]at t8
     simp only[go_sem,seval,t1,gB4,cfgC,e2,e3,engN]
     exact⟨t5,t8⟩
    ·have e1:c.engine=1:=by omega
     rw[if_neg e2]at t8
     simp only[go_sem,seval,t1,gB4,cfgC,e1,engN]
     exact⟨t5,t8⟩
  obtain⟨rfl,t1,t5,t8⟩:=hR7
  simp only[go_sem,seval,t1,t5,t8,gB4,cfgC]
  have hv7:RdL none 1 h7 v (uL c.cuts):=hv.keep fun b hb=>by
   have hlt:=hlv b hb
   exact((r0.old b (by omega)).trans (by rw[hg0])).trans ((old3 b (by omega)).trans (st01.old b hlt))
  refine opt_by (h73 h7 c.kind c.n v c.cuts hd hv7 (fun a ha=>by have:=hlv a ha;have:=r0.nx;omega) hin) fun v8 h8 p8=>?_
  obtain⟨rfl,st8⟩:=p8
  have q0:=r0.step st8
  have gB8:=(q0.old B (by omega)).trans gB0
  obtain⟨sN,hsN⟩:∃n:Nat,c.slots=(n:Int):=⟨c.slots.toNat,by omega⟩
  obtain⟨eN,heNN⟩:∃n:Nat,engN c=(n:Int):=⟨(engN c).toNat,by omega⟩
  obtain⟨lN,hlN⟩:∃n:Nat,c.locks=(n:Int):=⟨c.locks.toNat,by omega⟩
  obtain⟨vN,hvNN⟩:∃n:Nat,valN c.kind c.n c.cuts=(n:Int):=⟨(valN c.kind c.n c.cuts).toNat,by omega⟩
  obtain⟨hv0,wv0,wcs0,gL0,oh0,ow0,ohl0,owl0⟩:=q0.ex
  have oh0v:=oh0.one
  have ow0v:=ow0.one
  have ohA:=oh0.lenA
  simp only[plZ]at gL0
  simp only[go_sem,seval,t1,t5,t8,gB8,gL0,cfgC,plC]
  refine opt_by (h74 g0 L c cv _ hs 0 _ 1 0 1 c.slots sN hsN ocv (by omega) (by omega) q0) fun v11 k1 q1'=>?_
  obtain⟨rfl,r1,nx1q⟩:=q1'
  obtain⟨a1,ha1⟩:∃a:Nat,a=0+sN:=⟨_,rfl⟩
  rw[←ha1]at r1
  obtain⟨hv1,wv1,wcs1,gL1q,oh1,ow1,ohl1,owl1⟩:=r1.ex
  have gB1q:=(r1.old B (by omega)).trans gB0
  have oh1v:=oh1.one
  have ow1v:=ow1.one
  have ohA1:=oh1.lenA
  have owA1:=ow1.lenA
  simp only[go_sem,seval,gL1q,gB1q,oh1v,ow1v,ocv,BL,LB,ohA1,owA1,t1,t5,t8,fE3,fE4,cfgC,plC]
  have q1:=r1.setp oh1 ow1 ohl1 owl1 ⟨0,0,0,0,0,0,0,0,0,0⟩
  refine opt_by (h74 g0 L c cv _ hs a1 _ 2 0 (engN c) (engN c) eN heNN ocv (by omega) (by omega) q1) fun v12 k2 q2'=>?_
  obtain⟨rfl,r2,nx2q⟩:=q2'
  obtain⟨a2,ha2⟩:∃a:Nat,a=a1+eN:=⟨_,rfl⟩
  rw[←ha2]at r2
  obtain⟨hv2,wv2,wcs2,gL2q,oh2,ow2,ohl2,owl2⟩:=r2.ex
  have gB2q:=(r2.old B (by omega)).trans gB0
  have oh2v:=oh2.one
  have ow2v:=ow2.one
  have ohA2:=oh2.lenA
  have owA2:=ow2.lenA
  simp only[go_sem,seval,gL2q,gB2q,oh2v,ow2v,ocv,BL,LB,ohA2,owA2,t1,t5,t8,fE3,fE4,cfgC,plC]
  have q2:=r2.setp oh2 ow2 ohl2 owl2 ⟨0,(a1:Int),0,0,0,0,0,0,0,0⟩
  refine opt_by (h74 g0 L c cv _ hs a2 _ 3 0 1 1 1 rfl ocv (by omega) (by omega) q2) fun v13 k3 q3'=>?_
  obtain⟨rfl,r3,nx3q⟩:=q3'
  obtain⟨a3,ha3⟩:∃a:Nat,a=a2+1:=⟨_,rfl⟩
  rw[←ha3]at r3
  obtain⟨hv3,wv3,wcs3,gL3q,oh3,ow3,ohl3,owl3⟩:=r3.ex
  have gB3q:=(r3.old B (by omega)).trans gB0
  have oh3v:=oh3.one
  have ow3v:=ow3.one
  have ohA3:=oh3.lenA
  have owA3:=ow3.lenA
  simp only[go_sem,seval,gL3q,gB3q,oh3v,ow3v,ocv,BL,LB,ohA3,owA3,t1,t5,t8,fE3,fE4,cfgC,plC]
  have q3:=r3.setp oh3 ow3 ohl3 owl3 ⟨0,(a1:Int),(a2:Int),0,0,0,0,0,0,0⟩
  refine opt_by (h74 g0 L c cv _ hs a3 _ 4 0 3 (3*c.locks) (3*lN) (by omega) ocv (by omega) (by omega) q3) fun v14 k4 q4'=>?_
  obtain⟨rfl,r4,nx4q⟩:=q4'
  obtain⟨a4,ha4⟩:∃a:Nat,a=a3+(3*lN):=⟨_,rfl⟩
  rw[←ha4]at r4
  obtain⟨hv4,wv4,wcs4,gL4q,oh4,ow4,ohl4,owl4⟩:=r4.ex
  have gB4q:=(r4.old B (by omega)).trans gB0
  have oh4v:=oh4.one
  have ow4v:=ow4.one
  have ohA4:=oh4.lenA
  have owA4:=ow4.lenA
  simp only[go_sem,seval,gL4q,gB4q,oh4v,ow4v,ocv,BL,LB,ohA4,owA4,t1,t5,t8,fE3,fE4,cfgC,plC]
  have q4:=r4.setp oh4 ow4 ohl4 owl4 ⟨0,(a1:Int),(a2:Int),(a3:Int),0,0,0,0,0,0⟩
  refine opt_by (h74 g0 L c cv _ hs a4 _ 5 0 1 c.locks lN hlN ocv (by omega) (by omega) q4) fun v15 k5 q5'=>?_
  obtain⟨rfl,r5,nx5q⟩:=q5'
  obtain⟨a5,ha5⟩:∃a:Nat,a=a4+lN:=⟨_,rfl⟩
  rw[←ha5]at r5
  obtain⟨hv5,wv5,wcs5,gL5q,oh5,ow5,ohl5,owl5⟩:=r5.ex
  have gB5q:=(r5.old B (by omega)).trans gB0
  have oh5v:=oh5.one
  have ow5v:=ow5.one
  have ohA5:=oh5.lenA
  have owA5:=ow5.lenA
  simp only[go_sem,seval,gL5q,gB5q,oh5v,ow5v,ocv,BL,LB,ohA5,owA5,t1,t5,t8,fE3,fE4,cfgC,plC]
  have q5:=r5.setp oh5 ow5 ohl5 owl5 ⟨0,(a1:Int),(a2:Int),(a3:Int),(a4:Int),0,0,0,0,0⟩
  refine opt_by (h74 g0 L c cv _ hs a5 _ 6 0 1 6 6 rfl ocv (by omega) (by omega) q5) fun v16 k6 q6'=>?_
  obtain⟨rfl,r6,nx6q⟩:=q6'
  obtain⟨a6,ha6⟩:∃a:Nat,a=a5+6:=⟨_,rfl⟩
  rw[←ha6]at r6
  obtain⟨hv6,wv6,wcs6,gL6q,oh6,ow6,ohl6,owl6⟩:=r6.ex
  have gB6q:=(r6.old B (by omega)).trans gB0
  have oh6v:=oh6.one
  have ow6v:=ow6.one
  have ohA6:=oh6.lenA
  have owA6:=ow6.lenA
  simp only[go_sem,seval,gL6q,gB6q,oh6v,ow6v,ocv,BL,LB,ohA6,owA6,t1,t5,t8,fE3,fE4,cfgC,plC]
  have q6:=r6.setp oh6 ow6 ohl6 owl6 ⟨0,(a1:Int),(a2:Int),(a3:Int),(a4:Int),(a5:Int),0,0,0,0⟩
  refine opt_by (h74 g0 L c cv _ hs a6 _ 7 1 1 (hs.length:Int) hs.length rfl ocv (by omega) (by omega) q6) fun v17 k7 q7'=>?_
  obtain⟨rfl,r7,nx7q⟩:=q7'
  obtain⟨a7,ha7⟩:∃a:Nat,a=a6+hs.length:=⟨_,rfl⟩
  rw[←ha7]at r7
  obtain⟨hv7,wv7,wcs7,gL7q,oh7,ow7,ohl7,owl7⟩:=r7.ex
  have gB7q:=(r7.old B (by omega)).trans gB0
  have oh7v:=oh7.one
  have ow7v:=ow7.one
  have ohA7:=oh7.lenA
  have owA7:=ow7.lenA
  simp only[go_sem,seval,gL7q,gB7q,oh7v,ow7v,ocv,BL,LB,ohA7,owA7,t1,t5,t8,fE3,fE4,cfgC,plC]
  have q7:=r7.setp oh7 ow7 ohl7 owl7 ⟨0,(a1:Int),(a2:Int),(a3:Int),(a4:Int),(a5:Int),(a6:Int),0,0,0⟩
  refine opt_by (h74 g0 L c cv _ hs a7 _ 8 0 7 (valN c.kind c.n c.cuts*7) (vN*7) (by omega) ocv (by omega) (by omega) q7) fun v18 k8 q8'=>?_
  obtain⟨rfl,r8,nx8q⟩:=q8'
  obtain⟨a8,ha8⟩:∃a:Nat,a=a7+(vN*7):=⟨_,rfl⟩
  rw[←ha8]at r8
  obtain⟨hv8,wv8,wcs8,gL8q,oh8,ow8,ohl8,owl8⟩:=r8.ex
  have gB8q:=(r8.old B (by omega)).trans gB0
  have oh8v:=oh8.one
  have ow8v:=ow8.one
  have ohA8:=oh8.lenA
  have owA8:=ow8.lenA
  simp only[go_sem,seval,gL8q,gB8q,oh8v,ow8v,ocv,BL,LB,ohA8,owA8,t1,t5,t8,fE3,fE4,cfgC,plC]
  have q9:=r8.setp oh8 ow8 ohl8 owl8 ⟨0,(a1:Int),(a2:Int),(a3:Int),(a4:Int),(a5:Int),(a6:Int),(a7:Int),(a8:Int),0⟩
  refine loop_in (I27b g0 L c cv ⟨0,(a1:Int),(a2:Int),(a3:Int),(a4:Int),(a5:Int),(a6:Int),(a7:Int),(a8:Int),0⟩ hs ((a8:Int)+sumH hs)) _ _ (fun k tm h' hI=>step27b P h74 ocv hmem (by omega) (by omega) k tm h' hI) (fun tm9 h9 hR9=>?_) (fun _ _ hh=>hh.elim) hs.length _ _
   ⟨by simp[go_sem,t5],0,a8,by omega,by simp[go_sem],by rw[List.drop_zero],q9⟩
  obtain⟨s5,wl9,hwl9,r9⟩:=hR9
  obtain⟨hv9,wv9,wcs9,gL9,oh9,ow9,ohl9,owl9⟩:=r9.ex
  have oh9v:=oh9.one
  have ow9v:=ow9.one
  have owA9:=ow9.lenA
  have nx9:=r9.nx
  simp only[go_sem,seval,s5,gL9,oh9v,ow9v,ocv,owA9,cfgC,plC]
  have q10:=r9.setp oh9 ow9 ohl9 owl9 ⟨0,(a1:Int),(a2:Int),(a3:Int),(a4:Int),(a5:Int),(a6:Int),(a7:Int),(a8:Int),(wl9:Int)⟩
  refine⟨⟨L,⟨0,(a1:Int),(a2:Int),(a3:Int),(a4:Int),(a5:Int),(a6:Int),(a7:Int),(a8:Int),(wl9:Int)⟩,rfl,by omega,⟨rfl,by show(a1:Int)=c.slots;omega,?_,?_,?_,?_,?_⟩,⟨⟨cv,hv9,wv9,wl9,wcs9,by simp[go_sem,cfgC,plC],ocv,?_,?_,rfl,rdc.keep fun b hb=>(q10.cvk b hb).2.2.trans (by rw[hg0]),fun b hb=>⟨(loc b hb).1,(q10.cvk b hb).1⟩⟩,nx9⟩⟩,⟨by show h.next<=h9.next;omega,fun b hb=>?_⟩⟩
  ·show(a1:Int)+engN c<=wl9
   omega
  ·show c.slots<=(a5:Int)∧(a5:Int)+6<=wl9
   omega
  ·rw[←hhs]
   show c.slots<=(a6:Int)∧(a6:Int)+(hs.length:Int)<=wl9
   omega
  ·show(wl9:Int)<=5000
   omega
  ·unfold plOf plA
   rw[PlT.mk.injEq,←hhs]
   exact⟨rfl,by omega,by omega,by omega,by omega,by omega,by omega,by omega,by omega,by omega⟩
  ·rw[←hhs]
   refine oh9.keep (Nat.le_refl _) fun b hb=>?_
   have n1:¬b=L:=by have:=(ohl9 b hb).1;omega
   simp only[go_sem,seval,n1]
  ·refine ow9.keep (Nat.le_refl _) fun b hb=>?_
   have n1:¬b=L:=by have:=(owl9 b hb).1;omega
   simp only[go_sem,seval,n1]
  ·have n1:¬b=L:=by omega
   simp only[go_sem,seval,n1]
   exact((r9.old b (by omega)).trans (by rw[hg0])).trans ((old3 b (by omega)).trans (st01.old b hb))
 ·have n1:¬b=L:=by omega
  simp only[go_sem,seval,n1,hg0]
 ·obtain⟨a1,a2⟩:=loc b hb
  have n1:¬b=L:=by omega
  refine⟨a2,n1,?_⟩
  simp only[go_sem,seval,n1,hg0]
def c87_l10:CC:=(Qq (Sq [a 19 4,qC 20 3 19 1] (Cq 20 .skip (.exit 0))) (Qq (.block 1 (Sq [a 23 0,m 24 23,d 25 26 24,i 26 25,a 27 4,qo 28 3 27 1,E 29 1 26 28,i 30 29,a 5 30] (Qq (.drw ⟨[([g 0 3,g 1 0,n 2 32 1,j 3 33 2 16,j 4 34 3 6,k 5 35 4,g 6 4,qz 7 36 5 37 6 3,qJ 8 38 7 3 1,g 9 3,g 10 0,n 11 41 10,j 12 42 11 16,j 13 43 12 5,k 14 44 13,g 15 5,qz 16 45 14 46 15 3,qJ 17 47 16 3 1,Q 18 40 9 48 17 1,k 19 49 18,Q 20 31 0 39 8 1],some (R 21 51 20 50 19 1)),([],none)],[(0,31),(1,32),(2,33),(3,34),(4,35),(5,36),(6,37),(7,38),(8,39),(9,40),(10,41),(11,42),(12,43),(13,44),(14,45),(15,46),(16,47),(17,48),(18,49),(19,50),(20,51)],[]⟩) (Oq [a 52 3,a 53 0,m 54 53,d 55 16 54,d 56 5 55,i 57 56,a 58 5,qf 59 3 57 58,qo 60 3 59 1,a 61 4,qX 62 61,E 63 1 52 60,t 1 63 62])))) (Oq [a 21 4,qo 22 3 21 1,a 4 22])))
@[go_sem]def c87:CF:=⟨1,(Sq [D 2] (Qq (Sq [a 6 0,u 7 42 6] (Kq 7 [D 2] .skip)) (Sq [a 8 0,m 9 8,d 10 27 9,i 11 10,A 12 11,ze 13 51 1 8 0 12,a 3 13] (Qq (Sq [a 14 0,m 15 14,d 16 26 15,i 17 16,A 18 17,a 4 18] (.block 0 (.loop c87_l10))) (Rq [a 64 3,a 2 64]))))),[.tmp 2]⟩
@[go_sem]def c86:CF:=⟨1,(Sq [p 2,b 3 0] (Qq (Sq [a 4 0,A 5 4,U 6 3 5 0] (Kq 6 [p 2,b 3 2] .skip)) (Qq (Sq [a 7 0,A 8 7,zv 9 3 8 65536] (Kq 9 [p 2,b 3 5] .skip)) (Rq [zh 10 51 1 0,a 11 0,qj 12 51 1 8 10 11,zR 13 0 1 12,w 14 154 13,a 2 14,b 3 0])))),[.tmp 2,.tmp 3]⟩
@[go_sem]def c88:CF:=⟨2,(Sq [p 4,b 5 0] (Qq (Sq [a 7 0,u 8 43 7,a 9 8,s 10 9 1,qA 11 9 42 10,r 12 9 11] (Kq 12 [p 4,b 5 1] .skip)) (Qq (Qq (.drw ⟨[([g 0 0,n 1 13 0,j 2 14 1 0,k 3 15 2,q7 4 16 3,g 5 1,n 6 18 5,j 7 19 6 16,j 8 20 7 9,k 9 21 8,q0 10 17 4 22 9 3],none)],[(0,13),(1,14),(2,15),(3,16),(4,17),(5,18),(6,19),(7,20),(8,21),(9,22),(10,23)],[]⟩) (Kq 23 [p 4,b 5 2] .skip)) (Sq [a 24 1,m 25 24,d 26 26 25,i 27 26,A 28 27,C 29 3 28 1,a 6 29] (Qq (.drw ⟨[([g 0 0,g 1 1,g 2 6,zH 3 32 2 2 4 1 1,g 4 6,zH 5 34 4 4 4 1 1,g 6 6,q9 7 36 6 6 3 1 8 0,⟨8,[(30,some 0),(31,some 1),(33,some 3),(35,some 5),(37,some 7)],none,.p (.build [.nilp,.nilp,.nils,.nils,.nils] [(0,1,.t 30),(1,1,.t 31),(2,1,.t 33),(3,1,.t 35),(4,1,.t 37)])⟩,q8 9 38 8 306,y 10 39 9,zi 11 0],none)],[(0,30),(1,31),(2,32),(3,33),(4,34),(5,35),(6,36),(7,37),(8,38),(9,39),(10,4),(11,5)],[]⟩) .ret))))),[.tmp 4,.tmp 5]⟩
@[go_sem]def c89:CF:=⟨2,(Sq [p 4,b 5 0] (Qq (Sq [a 6 0,u 7 43 6,a 8 7,s 9 8 1,qA 10 8 42 9,r 11 8 10] (Kq 11 [p 4,b 5 1] .skip)) (Qq (Qq (.drw ⟨[([g 0 0,n 1 12 0,j 2 13 1 0,k 3 14 2,q7 4 15 3,g 5 1,n 6 17 5,j 7 18 6 16,j 8 19 7 9,k 9 20 8,q0 10 16 4 21 9 3],none)],[(0,12),(1,13),(2,14),(3,15),(4,16),(5,17),(6,18),(7,19),(8,20),(9,21),(10,22)],[]⟩) (Kq 22 [p 4,b 5 2] .skip)) (Rq [a 23 0,a 24 1,zK 25 0 1 23 1 1 24,w 26 350 25,a 4 26,b 5 0])))),[.tmp 4,.tmp 5]⟩
@[go_sem]def c170:CF:=⟨3,(Sq [b 6 0,b 7 0] (Qq (Sq [a 8 0,jb 9 5 8 1,a 10 9,s 11 10 0,q3 12 10 5 11 3,r 13 10 12,a 14 13,s 15 14 1,qI 16 14 3 15 1,r 17 14 16,a 18 17,s 19 18 1,qc 20 18 3 19 64,r 21 18 20] (Kq 21 [b 6 0,b 7 2] .skip)) (Qq (Sq [a 22 0,J 23 5 22 3] (Kq 23 [a 24 2,q 25 238 24,o 26 25 0,o 27 25 1,a 6 26,a 7 27] .skip)) (Qq (Sq [a 28 2,z 29 3 28 0] (Kq 29 [b 6 0,b 7 2] .skip)) (Qq (Sq [a 30 0,J 31 5 30 1] (Kq 31 [a 32 1,q 33 239 32,o 34 33 0,o 35 33 1,a 6 34,a 7 35] .skip)) (Rq [a 36 1,q 37 240 36,o 38 37 0,o 39 37 1,a 6 38,a 7 39])))))),[.tmp 6,.tmp 7]⟩
@[go_sem]def c171:CF:=⟨3,(Sq [p 6,b 7 0] (Qq (Sq [a 10 0,u 11 43 10] (Kq 11 [p 6,b 7 1] .skip)) (Sq [a 13 2,q 14 239 13,a 12 14,o 15 12 0,o 16 12 1,a 8 15,a 9 16] (Qq (Sq [a 17 9,z 18 54 17 0] (Kq 18 [a 19 9,p 6,a 7 19] .skip)) (Qq (Sq [a 20 0,a 21 1,a 22 8,qa 23 241 20 21 22,qe 24 23] (Kq 24 [p 6,b 7 3] .skip)) (Rq [a 25 0,a 26 1,a 27 2,jc 28 364 3 16 0 27,jd 29 0 0 1 25 1 1 26 2 1 28,w 30 362 29,a 6 30,b 7 0])))))),[.tmp 6,.tmp 7]⟩
@[go_sem]def c172:CF:=⟨3,(Sq [p 6,b 7 0] (Qq (Sq [a 10 0,u 11 43 10] (Kq 11 [p 6,b 7 1] .skip)) (Sq [a 13 2,q 14 240 13,a 12 14,o 15 12 0,o 16 12 1,a 8 15,a 9 16] (Qq (Sq [a 17 9,z 18 54 17 0] (Kq 18 [a 19 9,p 6,a 7 19] .skip)) (Qq (Sq [a 20 0,a 21 1,a 22 8,qa 23 241 20 21 22,qe 24 23] (Kq 24 [p 6,b 7 3] .skip)) (Rq [a 25 0,a 26 1,a 27 2,jc 28 364 3 16 0 27,jd 29 0 0 1 25 1 1 26 2 1 28,w 30 368 29,a 6 30,b 7 0])))))),[.tmp 6,.tmp 7]⟩
@[go_sem]def c173:CF:=⟨3,(Sq [p 6,b 7 0] (Qq (Sq [a 10 0,u 11 43 10] (Kq 11 [p 6,b 7 1] .skip)) (Sq [a 13 2,q 14 238 13,a 12 14,o 15 12 0,o 16 12 1,a 8 15,a 9 16] (Qq (Sq [a 17 9,z 18 54 17 0] (Kq 18 [a 19 9,p 6,a 7 19] .skip)) (Qq (Sq [a 20 0,a 21 1,a 22 8,qa 23 241 20 21 22,qe 24 23] (Kq 24 [p 6,b 7 3] .skip)) (Rq [a 25 0,a 26 1,a 27 2,⟨some 28,none,.p (.build [.nilp,iz,iz,fz,fz,iz,uz,fz,fz,iz,uz,fz,fz,iz,uz,fz,fz,iz,uz,fz,fz,iz,uz,fz,fz,iz,uz,fz,fz,iz,uz,fz,fz,iz,uz,fz,fz,iz,uz,fz,fz,iz,uz,fz,fz,iz,uz,fz,fz,iz,uz,fz,fz,iz,uz,fz,fz,iz,uz,fz,fz,iz,uz,fz,fz,iz,uz,fz,fz,iz,uz,fz,fz,iz,uz,fz,fz,iz,uz,fz,fz,iz,uz,fz,fz,iz,uz,fz,fz,iz,uz,fz,fz,iz,uz,fz,fz,iz,uz,fz,fz,iz,uz,fz,fz,iz,uz,fz,fz,iz,uz,fz,fz,iz,uz,fz,fz,iz,uz,fz,fz,iz,uz,fz,fz,iz,uz,fz,fz,iz,uz,fz,fz,iz,uz,fz,fz,iz,uz,fz,fz,iz,uz,fz,fz,iz,uz,fz,fz,iz,uz,fz,fz,iz,uz,fz,fz,iz,uz,fz,fz,iz,uz,fz,fz,iz,uz,fz,fz,iz,uz,fz,fz,iz,uz,fz,fz,iz,uz,fz,fz,iz,uz,fz,fz,iz,uz,fz,fz,iz,uz,fz,fz,iz,uz,fz,fz,iz,uz,fz,fz,iz,uz,fz,fz,iz,uz,fz,fz,iz,uz,fz,fz,iz,uz,fz,fz,iz,uz,fz,fz,iz,uz,fz,fz,iz,uz,fz,fz,iz,uz,fz,fz,iz,uz,fz,fz,iz,uz,fz,fz,iz,uz,fz,fz,iz,uz,fz,fz,iz,uz,fz,fz,iz,uz,fz,fz,iz,uz] [(0,1,.t 25),(1,1,.t 26),(2,1,.t 27)])⟩,w 29 375 28,a 6 29,b 7 0])))))),[.tmp 6,.tmp 7]⟩
@[go_sem]def c90:CF:=⟨5,(Sq [p 10,b 11 0] (Qq (Sq [a 16 0,u 17 43 16] (Kq 17 [p 10,b 11 1] .skip)) (Qq (Sq [a 19 1,a 20 3,a 21 4,qa 22 170 19 20 21,a 18 22,o 23 18 0,o 24 18 1,a 12 23,a 13 24] (Sq [a 25 13,z 26 54 25 0] (Kq 26 [a 27 13,p 10,a 11 27] .skip))) (Sq [a 28 1,a 29 3,⟨some 30,none,.p (.build [.int .u8 0,.int .i64 0,.nilp,.nilp,.nilp] [(0,1,.t 28),(1,1,.t 29)])⟩,w 31 214 30,a 14 31] (Sq [b 15 0] (Qq (Sq [a 32 1] (.block 0 (Sq [J 44 5 32 1,a 43 44] (Cq 43 (Oq [a 46 14,a 47 0,a 48 2,a 49 3,qa 50 171 47 48 49,a 45 50,o 51 45 0,o 52 45 1,m 53 46,d 54 2 53,t 1 54 51,a 15 52]) (Sq [J 56 5 32 2,a 55 56] (Cq 55 (Oq [a 58 14,a 59 0,a 60 2,a 61 3,qa 62 172 59 60 61,a 57 62,o 63 57 0,o 64 57 1,m 65 58,d 66 3 65,t 1 66 63,a 15 64]) (Oq [a 34 14,a 35 0,a 36 2,a 37 4,qa 38 173 35 36 37,a 33 38,o 39 33 0,o 40 33 1,m 41 34,d 42 4 41,t 1 42 39,a 15 40]))))))) (Qq (Sq [a 67 15,z 68 54 67 0] (Kq 68 [a 69 15,p 10,a 11 69] .skip)) (Rq [a 70 14,a 10 70,b 11 0])))))))),[.tmp 10,.tmp 11]⟩
@[go_sem]def c239:CF:=⟨1,(Sq [b 2 0,b 3 0] (Qq (Sq [a 4 0,K 5 3 4 1,a 6 5,s 7 6 0,qc 8 6 3 7 64,r 9 6 8] (Kq 9 [b 2 0,b 3 2] .skip)) (Rq [a 10 0,a 2 10,b 3 0]))),[.tmp 2,.tmp 3]⟩
@[go_sem]def c240:CF:=⟨1,(Sq [b 2 0,b 3 0] (Qq (Sq [a 4 0,K 5 3 4 1,a 6 5,s 7 6 0,qc 8 6 3 7 64,r 9 6 8] (Kq 9 [b 2 0,b 3 2] .skip)) (Rq [a 10 0,qq 11 3 2 10,a 2 11,b 3 0]))),[.tmp 2,.tmp 3]⟩
@[go_sem]def c238:CF:=⟨1,(Sq [b 2 0,b 3 0] (Qq (Sq [a 4 0,K 5 3 4 1,a 6 5,s 7 6 0,qc 8 6 3 7 16,r 9 6 8] (Kq 9 [b 2 0,b 3 2] .skip)) (Rq [a 10 0,qq 11 3 4 10,a 2 11,b 3 0]))),[.tmp 2,.tmp 3]⟩
@[go_sem]def c241:CF:=⟨3,(Sq [G 6] (Rq [a 7 1,qC 8 3 7 0,a 9 8,B 10 9 2,B 11 9 0,qm 12 9 11,W 13 9 0 12,Y 14 9 13,ql 15 9 14,zx 16 9 3 10 15,O 17 9 16,a 18 17,B 19 18 1,B 20 18 0,qm 21 18 20,W 22 18 0 21,Y 23 18 22,ql 24 18 23,B 25 18 2,⟨some 26,some (18,true),.p (.bin .sub 3 false false (.t 24) (.t 25))⟩,zx 27 18 3 19 26,O 28 18 27,a 6 28])),[.tmp 6]⟩
def stepB(po li:Int)(hs:List Int)(i:Nat)(ws:List Int):List Int:=match hs[i]? with
 |none=>ws
 |some x=>(ws.set (li+((i:Int)+1) -1).toNat (ws.getD (po+x-1).toNat 0)).set (po+x-1).toNat ((i:Int)+1)
def iniB(po li:Int)(hs:List Int)(W:Nat):Nat->List Int
 |0=>List.replicate W 0
 |j+1=>stepB po li hs (hs.length-1-j) (iniB po li hs W j)
def IniB(c:CfgT)(W:Nat)(ws:List Int):Prop:=ws=iniB (plOf c).po (plOf c).li (hsL c) W (hsL c).length
def I29(h0:H)(L W:Nat)(s:Int)(po li:Int)(hs:List Int)(k:Nat)(tm:T AV)(h:H):Prop:=
 tm.get 0=some (.ptr L 0)∧tm.get 3=some (.sl h0.next 0 W 1 (some W))∧tm.get 4=some (.int .i64 (k:Int))∧h.next=h0.next+1∧(∀b,b<h0.next->h.t.get b=h0.t.get b)∧∃ws,h.t.get h0.next=some (.row (putList 0 (uL ws) T.e) W 51)∧Zero W s ws∧ws=iniB po li hs W (hs.length-k)
theorem step29(P:Program){call:CallE}{h0:H}{L:Nat}{c:CfgT}{p:PlT}{cv hv wv:AV}{hs:List Int}{W:Nat}(hp:PlOK c p)(hlen:(hs.length:Int)=(hsL c).length)(hs0:0<=c.slots)(hm:∀x∈hs,1<=x∧x<=6)(hn:hs.length<=60)(hW:p.wo=(W:Int))(hL:L<h0.next)
 (gL:h0.t.get L=some (rowL (cfgC c cv++(plC p++[hv,wv])) 41)) (oh:Own 1 3 h0 hv hs.length (iL hs)) (k:Nat) (hk:k<=hs.length) (tm:T AV) (h:H) (hI:I29 h0 L W c.slots p.po p.li hs k tm h):
 WC P call c87_l10 (loopQ 0 (fun tm h=>∃j,j<k∧j<=hs.length∧I29 h0 L W c.slots p.po p.li hs j tm h) (fun tm h=>tm.get 3=some (.sl h0.next 0 W 1 (some W))∧StepN h0 h∧h0.next<h.next∧∃ws,h.t.get h0.next=some (.row (putList 0 (uL ws) T.e) W 51)∧Zero W c.slots ws∧ws=iniB p.po p.li hs W hs.length) (fun _ _=>False)) tm h:=by
 obtain⟨t0,t3,t4,nx,old,ws,gO,z,zi⟩:=hI
 have gL1:=(old L hL).trans gL
 cases k with
 |zero=>
  have e1:(((0:Nat):Int)<1)=True:=by simp
  simp only[go_sem,seval,c87_l10,t3,t4]
  exact⟨⟨by omega,old⟩,by omega,ws,gO,z,by rw[zi,Nat.sub_zero]⟩
 |succ i=>
  have hi:i<hs.length:=by omega
  have p1:=hp.po
  have p2:=hp.li
  have p3:=hp.wo
  obtain⟨x,hxs,hx,hx1,hx6⟩:∃x,hs[i]?=some x∧(iL hs)[i]?=some (.int .i64 x)∧1<=x∧x<=6:=⟨hs[i],List.getElem?_eq_getElem hi,by unfold iL;rw[List.getElem?_map,List.getElem?_eq_getElem hi];rfl,hm _ (List.getElem_mem hi)⟩
  have c1:((i+1:Nat):Int)=(i:Int)+1:=rfl
  rw[c1]at t4
  have e1:¬(i:Int)+1<1:=by omega
  have f2:fw .i64 ((i:Int)+1-1)=(i:Int):=by rw[show(i:Int)+1-1=(i:Int) by omega];exact fwI (by omega) (by omega)
  have f2':fw .u64 ((i:Int)+1)=(i:Int)+1:=fwU (by omega) (by omega)
  have f3:fw .i64 (p.po+x)=p.po+x:=fwI (by omega) (by omega)
  have f5:fw .i64 (p.li+((i:Int)+1))=p.li+((i:Int)+1):=fwI (by omega) (by omega)
  obtain⟨q,hq⟩:∃q:Nat,p.po+x-1=(q:Int):=⟨(p.po+x-1).toNat,by omega⟩
  obtain⟨q2,hq2⟩:∃q:Nat,p.li+((i:Int)+1) -1=(q:Int):=⟨(p.li+((i:Int)+1) -1).toNat,by omega⟩
  have fq:fw .i64 (q:Int)=(q:Int):=fwI (by omega) (by omega)
  have fq2:fw .i64 (q2:Int)=(q2:Int):=fwI (by omega) (by omega)
  have hqW:q<W:=by omega
  have hqW':(q:Int)<(W:Int):=by omega
  have hqW2:q2<W:=by omega
  have hqW2':(q2:Int)<(W:Int):=by omega
  have hul:=uL_len ws
  rw[z.len]at hul
  obtain⟨y,hy⟩:∃y,ws[q]?=some y:=⟨_,List.getElem?_eq_getElem (by rw[z.len];exact hqW)⟩
  have hst:(ws.set q2 y).set q ((i:Int)+1)=iniB p.po p.li hs W (hs.length-i):=by
   rw[show hs.length-i=(hs.length-(i+1))+1 by omega]
   show _=stepB p.po p.li hs (hs.length-1-(hs.length-(i+1))) (iniB p.po p.li hs W (hs.length-(i+1)))
   rw[←zi,show hs.length-1-(hs.length-(i+1))=i by omega]
   unfold stepB
   rw[hxs]
   simp only[]
   rw[hq,hq2,Int.toNat_natCast,Int.toNat_natCast,List.getD_eq_getElem?_getD,hy]
   rfl
  have hy1:(uL ws)[q]?=some (.int .u64 y):=by unfold uL;rw[List.getElem?_map,hy];rfl
  have e2:(i:Int)<(hs.length:Int):=by omega
  have lW:¬L=h0.next:=by omega
  have ohl:∀b,own hv=some b->h.t.get b=h0.t.get b:=fun b hb=>old b (oh.lt hb)
  generalize hnn:hs.length=n at*
  generalize hcs:iL hs=cs at*
  cases oh with
  |nil=>omega
  |sl a len cs cap hcp hpo hcl hlt hg=>
   have hg1:=(ohl a rfl).trans hg
   simp only[go_sem,seval,c87_l10,t0,t3,t4,e1,f2,gL1,cfgC,plC,hg1,e2,Nat.mul_one,hx,f3,f5,hq,hq2,fq,fq2,hqW',hqW2',gO,hul,hqW,hqW2,hy1,Nat.succ_le_of_lt,f2',lW]
   refine⟨i,Nat.lt_succ_self i,by omega,by simp[go_sem,t0],by simp[go_sem,t3],by simp[go_sem],nx,fun b hb=>?_,(ws.set q2 y).set q ((i:Int)+1),by simp[go_sem,uL_set],(z.set (by omega) y).set (by omega) _,by rw[hnn];exact hst⟩
   have e0:¬b=h0.next:=by omega
   simp only[go_sem,seval,e0]
   exact old b hb
theorem w87{h:H}{L:Nat}{c:CfgT}{p:PlT}(hL:RLay h L c p (hsL c))(hp:PlOK c p)(hs0:0<=c.slots)(hn:(hsL c).length<=60)(W:Nat)(hW:p.wo=(W:Int))(hW0:0<W):
 WF P call c87 [.ptr L 0] h (PostI W c.slots (IniB c W) h):=by
 obtain⟨cv,hv,wv,wl,wcs,gL,o1,oh,ow,ew,-,-⟩:=hL.ex
 have hlt:=hL.lt
 have p3:=hp.wo
 have hwl:wl=W:=by omega
 subst hwl
 have e1:8*wl<=281474976710656:=by omega
 have e2:wl<=281474976710656:=by omega
 have x1:¬L=h.next:=by omega
 have hll:=oh.lenA
 have hwA:=ow.lenA
 have z0:Zero wl c.slots (List.replicate wl 0):=⟨List.length_replicate,fun i hi=>by
  have:=hp.po
  rw[List.getElem?_replicate,if_pos (by omega)]⟩
 have hz:uL (List.replicate wl 0)=List.replicate wl (.int .u64 0):=by unfold uL;rw[List.map_replicate]
 simp only[go_sem,seval,gL,cfgC,plC,x1,hwA,evLenN,rep_one,Nat.mul_one,Nat.le_refl,e1,e2,decide_true,Bool.and_self,cond_true,hll]
 refine loop_in (fun k tm h'=>k<=(hsL c).length∧I29 h L wl c.slots p.po p.li (hsL c) k tm h') _ (fun _ _=>False) (fun k tm h' hI=>step29 P hp rfl hs0 hsL_mem hn hW hlt gL oh k hI.1 tm h' hI.2) (fun tm2 h2 hR=>?_) (fun _ _ hh=>hh.elim) (hsL c).length _ _
  ⟨Nat.le_refl _,by simp[go_sem],by simp[go_sem],by simp[go_sem],rfl,fun b hb=>?_,List.replicate wl 0,by simp[go_sem,hz],z0,by rw[Nat.sub_self];rfl⟩
 ·obtain⟨t3,st,hlt2,ws,gO,z,zi⟩:=hR
  simp only[go_sem,seval,t3]
  refine⟨⟨ws,?_,z,by unfold IniB;rw[←hp.eq];exact zi⟩,fun a ha=>by cases ha;exact Nat.le_refl _,st⟩
  rw[z.len]
  refine .sl _ _ _ _ (.inr rfl) hW0 (by rw[uL_len,z.len,Nat.mul_one]) hlt2 ?_
  rw[gO,rowL,uL_len,z.len]
 ·have n1:¬b=h.next:=by omega
  simp only[go_sem,seval,n1]
structure RMem(h:H)(M W:Nat)(ws:List Int)(lg:AV):Prop where
 g:h.t.get M=some (rowL [.sl W 0 ws.length 1 none,lg] 154)
 o:oneA lg=true
 w:h.t.get W=some (rowL (uL ws) 51)
 ne:M≠W
theorem RMem.step{h h':H}{M W:Nat}{ws:List Int}{lg:AV}(m:RMem h M W ws lg)(hM:M<h.next)(hW:W<h.next)(s:StepN h h'):RMem h' M W ws lg:=⟨(s.old M hM).trans m.g,m.o,(s.old W hW).trans m.w,m.ne⟩
def Post28(ws:List Int)(h:H)(v:AV)(h':H):Prop:=StepN h h'∧∃M W,v=.tup [.ptr M 0,.int .i64 0]∧RMem h' M W ws .nils∧h.next<=M∧h.next<=W∧M<h'.next∧W<h'.next
theorem w86(P:Program){call:CallE}{h:H}{v:AV}{ws:List Int}(hv:Own 1 51 h v ws.length (uL ws))(h0:0<ws.length)(h1:ws.length<=60000):WF P call c86 [v] h (Post28 ws h):=by
 have hla:=hv.lenA
 have e1:¬(ws.length:Int)=0:=by omega
 have e2:¬(65536:Int)<(ws.length:Int):=by omega
 have st0:=StepN.new h (.row (putList 0 [] T.e) 0 51)
 have hv1:=hv.keep st0.next fun b hb=>st0.old b (hv.lt hb)
 have hul:=uL_len ws
 have hs:srcA (h.t.set h.next (.row (putList 0 [] T.e) 0 51)).get 1 v=some (ws.length,uL ws):=by
  have:=(Own.rdl1 hv1 (by omega)).src1
  rw[hul]at this
  exact this
 simp only[go_sem,seval]at hs
 simp only[go_sem,seval,hla,e1,e2,hs]
 have hap:=appA_emp (e:=51) (es:=1) (bytes:=8) (n:=ws.length) (a:=h.next) (bl:=0) (cells:=putList 0 [] T.e) (h:=⟨h.next+1,h.t.set h.next (.row (putList 0 [] T.e) 0 51)⟩) (src:=uL ws) (by simp[go_sem]) h0 (by omega) (by omega)
 refine opt_some hap ?_
 unfold appT appV
 simp only[go_sem,seval]
 refine⟨⟨by show h.next<=h.next+3;omega,fun b hb=>?_⟩,h.next+2,h.next+1,rfl,⟨by simp only[go_sem,seval];rfl,rfl,?_,by omega⟩,by omega,by omega,by show h.next+2<h.next+3;omega,by show h.next+1<h.next+3;omega⟩
 ·have n1:¬b=h.next:=by omega
  have n2:¬b=h.next+1:=by omega
  have n3:¬b=h.next+2:=by omega
  simp only[go_sem,seval,n1,n2,n3]
 ·have n1:¬h.next+1=h.next+2:=by omega
  simp only[go_sem,seval,n1]
def PoolB(h:H)(M L q R Tk Gv Gn:Nat):Prop:=h.t.get R=some (rowL [.ptr M 0,.ptr L 0,.sl Tk 0 q 1 (some q),.sl Gv 0 q 1 (some q),.sl Gn 0 q 1 (some q)] 306)∧h.t.get Tk=some (.row (putList 0 (List.replicate q (.bool false)) T.e) q 4)∧h.t.get Gn=some (.row (putList 0 (List.replicate q (.int .i64 0)) T.e) q 3)∧R<h.next∧Tk<h.next∧Gn<h.next
theorem w88{h:H}{M W L:Nat}{ws:List Int}{lg:AV}{c:CfgT}{p:PlT}(hM:M<h.next)(hW:W<h.next)(m:RMem h M W ws lg)(hL:RLay h L c p (hsL c))(hw:p.wo=(ws.length:Int))(hn:(hsL c).length<=60):
 WF P call c88 [.ptr M 0,.ptr L 0] h fun v h'=>(∃R Tk Gv Gn,v=.tup [.ptr R 0,.int .i64 0]∧PoolB h' M L ((hsL c).length+1) R Tk Gv Gn∧h.next<=R∧h.next<=Tk∧h.next<=Gn∧Gn≠Tk)∧StepN h h':=by
 obtain⟨cv,hv,wv,wl,wcs,gL,o1,oh,ow,ew,-,-⟩:=hL.ex
 have hll:=oh.lenA
 have gM:=m.g
 have f1:fw .i64 (((hsL c).length:Int)+1)=(((hsL c).length+1:Nat):Int):=fwI (by omega) (by omega)
 have m1:1*((hsL c).length+1)<=281474976710656:=by omega
 have m2:(hsL c).length+1<=281474976710656:=by omega
 have m3:8*((hsL c).length+1)<=281474976710656:=by omega
 simp only[go_sem,seval,gM,gL,cfgC,plC,hw,hll,f1,evLenN,rep_one,Nat.mul_one,Nat.le_refl,m1,m2,m3,decide_true,Bool.and_self,cond_true]
 have d1:¬h.next=h.next+1:=by omega
 have d2:¬h.next=h.next+2:=by omega
 have d3:¬h.next=h.next+3:=by omega
 have d4:¬h.next+2=h.next+3:=by omega
 refine⟨⟨_,h.next,h.next+1,h.next+2,rfl,⟨by simp only[go_sem,seval];rfl,by simp[go_sem,d1,d2,d3],by simp[go_sem,d4],by show h.next+3<h.next+4;omega,by show h.next<h.next+4;omega,by show h.next+2<h.next+4;omega⟩,by omega,by omega,by omega,by omega⟩,by show h.next<=h.next+4;omega,fun b hb=>?_⟩
 have e1:¬b=h.next:=by omega
 have e2:¬b=h.next+1:=by omega
 have e3:¬b=h.next+2:=by omega
 have e4:¬b=h.next+3:=by omega
 simp only[go_sem,seval,e1,e2,e3,e4]
theorem w89{h:H}{M W L:Nat}{ws:List Int}{lg:AV}{c:CfgT}{p:PlT}(m:RMem h M W ws lg)(hL:RLay h L c p (hsL c))(hw:p.wo=(ws.length:Int)):
 WF P call c89 [.ptr M 0,.ptr L 0] h fun v h'=>(∃R,v=.tup [.ptr R 0,.int .i64 0])∧StepN h h':=by
 obtain⟨cv,hv,wv,wl,wcs,gL,o1,oh,ow,ew,-,-⟩:=hL.ex
 have gM:=m.g
 simp only[go_sem,seval,gM,gL,cfgC,plC,hw]
 exact⟨⟨_,rfl⟩,StepN.new h _⟩
theorem w239(P:Program){call:CallE}{h:H}{n:Int}(h1:1<=n)(h2:n<=64):WF P call c239 [.int .i64 n] h fun v h'=>v=.tup [.int .i64 (1*n),.int .i64 0]∧h'=h:=by
 have e1:¬n<1:=by omega
 have e2:¬64<n:=by omega
 simp only[go_sem,seval,e1,e2,Int.one_mul]
theorem w240(P:Program){call:CallE}{h:H}{n:Int}(h1:1<=n)(h2:n<=64):WF P call c240 [.int .i64 n] h fun v h'=>v=.tup [.int .i64 (2*n),.int .i64 0]∧h'=h:=by
 have e1:¬n<1:=by omega
 have e2:¬64<n:=by omega
 have f1:fw .i64 (2*n)=2*n:=fwI (by omega) (by omega)
 simp only[go_sem,seval,e1,e2,f1]
theorem w238(P:Program){call:CallE}{h:H}{n:Int}(h1:1<=n)(h2:n<=16):WF P call c238 [.int .i64 n] h fun v h'=>v=.tup [.int .i64 (4*n),.int .i64 0]∧h'=h:=by
 have e1:¬n<1:=by omega
 have e2:¬16<n:=by omega
 have f1:fw .i64 (4*n)=4*n:=fwI (by omega) (by omega)
 simp only[go_sem,seval,e1,e2,f1]
theorem w170(P:Program){call:CallE}(h109:FW call 239 64 1)(h110:FW call 240 64 2)(h108:FW call 238 16 4){h:H}{c:CfgT}(hc:EngOK c):
 WF P call c170 [.int .u8 c.engine,.int .i64 c.slots,.int .i64 c.buckets] h fun v h'=>v=.tup [.int .i64 (engN c),.int .i64 0]∧h'=h:=by
 obtain⟨hs,hc⟩:=hc
 have e1:¬c.slots<1:=by omega
 have e2:¬64<c.slots:=by omega
 have k1:=h109 h c.slots hs.1 hs.2
 have k2:=h110 h c.slots hs.1 hs.2
 rw[Int.one_mul]at k1
 rcases hc with⟨he,hb⟩|⟨he,hb⟩|⟨he,hb1,hb2⟩
 ·simp only[go_sem,seval,e1,e2,he,hb,k1,engN]
 ·simp only[go_sem,seval,e1,e2,he,hb,k2,engN]
 ·have k3:=h108 h c.buckets hb1 hb2
  simp only[go_sem,seval,e1,e2,he,k3,engN]
theorem w241{h:H}{M W:Nat}{ws:List Int}{lg:AV}(m:RMem h M W ws lg){base n:Int}(b0:0<=base)(n0:0<=n)(hb:base+n<=(ws.length:Int))(hl:ws.length<=60000):WF P call c241 [.ptr M 0,.int .i64 base,.int .i64 n] h fun v h'=>v=.bool true∧h'=h:=by
 have gM:=m.g
 have e1:¬base<0:=by omega
 have e2:¬(ws.length:Int)<n:=by omega
 have f1:fw .i64 ((ws.length:Int) -n)=(ws.length:Int) -n:=fwI (by omega) (by omega)
 have e3:¬(ws.length:Int) -n<base:=by omega
 simp only[go_sem,seval,gM,e1,e2,f1,e3]
def quads(n:Nat)(q:List AV):List AV:=(List.replicate n q).flatten
theorem quads_get(q:List AV)(w:Nat)(hq:q.length=w)(j:Nat)(hj:j<w):∀(n i:Nat),i<n->(quads n q)[i*w+j]?=q[j]?
 |0,i,h=>by omega
 |n+1,0,h=>by
  unfold quads
  rw[List.replicate_succ,List.flatten_cons,Nat.zero_mul,Nat.zero_add,List.getElem?_append_left (by omega)]
 |n+1,i+1,h=>by
  have ih:=quads_get q w hq j hj n i (by omega)
  unfold quads at ih⊢
  rw[List.replicate_succ,List.flatten_cons,List.getElem?_append_right (by rw[Nat.succ_mul];omega)]
  rw[←ih]
  congr 1
  rw[Nat.succ_mul]
  omega
inductive RPrcu(h:H)(R n:Nat):Prop where
 |a (G N M:Nat) (base:Int) (gR:h.t.get R=some (rowL [.int .u8 1,.int .i64 (n:Int),.ptr G 0,.nilp,.nilp] 214)) (gG:h.t.get G=some (rowL [.ptr M 0,.int .i64 base,.sl N 0 n 3 (some n)] 362)) (gN:h.t.get N=some (.row (putList 0 (rep [.int .u64 0,.bool false,.bool false] (n*3)) T.e) (n*3) 364)) (lR:R<h.next) (lG:G<h.next) (lN:N<h.next)
 |b (G N M:Nat) (base:Int) (gR:h.t.get R=some (rowL [.int .u8 2,.int .i64 (n:Int),.nilp,.ptr G 0,.nilp] 214)) (gG:h.t.get G=some (rowL [.ptr M 0,.int .i64 base,.sl N 0 n 3 (some n)] 368)) (gN:h.t.get N=some (.row (putList 0 (rep [.int .u64 0,.bool false,.bool false] (n*3)) T.e) (n*3) 364)) (lR:R<h.next) (lG:G<h.next) (lN:N<h.next)
 |c (G M:Nat) (base nb:Int) (ty:TypeId) (gR:h.t.get R=some (rowL [.int .u8 3,.int .i64 (n:Int),.nilp,.nilp,.ptr G 0] 214)) (gG:h.t.get G=some (.row (putList 0 ([.ptr M 0,.int .i64 base,.int .i64 nb]++quads 64 [.bool false,.bool false,.int .i64 0,.int .u64 0]) T.e) 259 ty)) (hty:ty=375) (lR:R<h.next) (lG:G<h.next)
def REng(M n ty:Nat)(base:Int)(h:H)(v:AV)(h':H):Prop:=StepN h h'∧∃G N,v=.tup [.ptr G 0,.int .i64 0]∧h'.t.get G=some (rowL [.ptr M 0,.int .i64 base,.sl N 0 n 3 (some n)] ty)∧h'.t.get N=some (.row (putList 0 (rep [.int .u64 0,.bool false,.bool false] (n*3)) T.e) (n*3) 364)∧G<h'.next∧N<h'.next∧h.next<=G∧h.next<=N
def F241(call:CallE):Prop:=∀h M W (ws:List Int) lg (base n:Int),RMem h M W ws lg->0<=base->0<=n->base+n<=(ws.length:Int)->ws.length<=60000->call 241 [.ptr M 0,.int .i64 base,.int .i64 n] h=some (.bool true,h)
theorem w171(h109:FW call 239 64 1)(h111:F241 call){h:H}{M W:Nat}{ws:List Int}{lg:AV}(m:RMem h M W ws lg){n:Nat}(h1:1<=n)(h2:n<=64){base:Int}(b0:0<=base)(b1:base+(n:Int)<=(ws.length:Int))(b2:ws.length<=60000):
 WF P call c171 [.ptr M 0,.int .i64 base,.int .i64 (n:Int)] h (REng M n 362 base h):=by
 have k1:=h109 h (n:Int) (by omega) (by omega)
 rw[Int.one_mul]at k1
 have k2:=h111 h M W ws lg base (n:Int) m b0 (by omega) b1 b2
 have m1:16*n<=281474976710656:=by omega
 have m2:n<=281474976710656:=by omega
 simp only[go_sem,seval,k1,k2,evLenN,Nat.le_refl,m1,m2,decide_true,Bool.and_self,cond_true]
 refine⟨⟨by show h.next<=h.next+2;omega,fun b hb=>?_⟩,_,_,rfl,by simp only[go_sem,seval];rfl,?_,by show h.next+1<h.next+2;omega,by show h.next<h.next+2;omega,by omega,by omega⟩
 ·have n1:¬b=h.next:=by omega
  have n2:¬b=h.next+1:=by omega
  simp only[go_sem,seval,n1,n2]
 ·have n1:¬h.next=h.next+1:=by omega
  simp only[go_sem,seval,n1]
theorem w172(h110:FW call 240 64 2)(h111:F241 call){h:H}{M W:Nat}{ws:List Int}{lg:AV}(m:RMem h M W ws lg){n:Nat}(h1:1<=n)(h2:n<=64){base:Int}(b0:0<=base)(b1:base+2*(n:Int)<=(ws.length:Int))(b2:ws.length<=60000):
 WF P call c172 [.ptr M 0,.int .i64 base,.int .i64 (n:Int)] h (REng M n 368 base h):=by
 have k1:=h110 h (n:Int) (by omega) (by omega)
 have k2:=h111 h M W ws lg base (2*(n:Int)) m b0 (by omega) b1 b2
 have m1:16*n<=281474976710656:=by omega
 have m2:n<=281474976710656:=by omega
 simp only[go_sem,seval,k1,k2,evLenN,Nat.le_refl,m1,m2,decide_true,Bool.and_self,cond_true]
 refine⟨⟨by show h.next<=h.next+2;omega,fun b hb=>?_⟩,_,_,rfl,by simp only[go_sem,seval];rfl,?_,by show h.next+1<h.next+2;omega,by show h.next<h.next+2;omega,by omega,by omega⟩
 ·have n1:¬b=h.next:=by omega
  have n2:¬b=h.next+1:=by omega
  simp only[go_sem,seval,n1,n2]
 ·have n1:¬h.next=h.next+1:=by omega
  simp only[go_sem,seval,n1]
def REngC(M:Nat)(base nb:Int)(h:H)(v:AV)(h':H):Prop:=StepN h h'∧∃G,v=.tup [.ptr G 0,.int .i64 0]∧h'.t.get G=some (.row (putList 0 ([.ptr M 0,.int .i64 base,.int .i64 nb]++quads 64 [.bool false,.bool false,.int .i64 0,.int .u64 0]) T.e) 259 375)∧G<h'.next∧h.next<=G
set_option maxRecDepth 100000 in
theorem w173(h108:FW call 238 16 4)(h111:F241 call){h:H}{M W:Nat}{ws:List Int}{lg:AV}(m:RMem h M W ws lg){n:Int}(h1:1<=n)(h2:n<=16){base:Int}(b0:0<=base)(b1:base+4*n<=(ws.length:Int))(b2:ws.length<=60000):
 WF P call c173 [.ptr M 0,.int .i64 base,.int .i64 n] h (REngC M base n h):=by
 have k1:=h108 h n (by omega) (by omega)
 have k2:=h111 h M W ws lg base (4*n) m b0 (by omega) b1 b2
 simp only[go_sem,seval,k1,k2]
 refine⟨StepN.new h _,_,rfl,by simp only[go_sem,seval];rfl,Nat.lt_succ_self _,Nat.le_refl _⟩
@[go_sem]def c22:CF:=⟨1,(Sq [w 1 27 0,p 2,b 3 0] (Sq [V 8 16 1,q 9 85 8,a 7 9,o 10 7 0,o 11 7 1,a 4 10,a 5 11] (Qq (Sq [a 12 5,z 13 54 12 0] (Kq 13 [a 14 5,p 2,a 3 14] .skip)) (Qq (.drw ⟨[([g 0 4,S 1 1 1,k 2 16 1,q9 3 17 2 2 3 1 8 0,g 4 4,n 5 19 4,j 6 20 5 26,k 7 21 6,q7 8 22 7,qY 9 23 8 3 1,q9 10 24 9 9 3 1 8 0,g 11 4,n 12 26 11,j 13 27 12 26,k 14 28 13,q7 15 29 14,qY 16 30 15 3 1,q9 17 31 16 16 3 1 8 0,⟨18,[(15,some 0),(18,some 3),(25,some 10),(32,some 17)],none,.p (.build [.nilp,.nilp,.nilp,.nilp,.nilp,iz,fz,.nils,.nils,.nils,.nils,.nils] [(0,1,.t 15),(9,1,.t 18),(10,1,.t 25),(11,1,.t 32)])⟩,q8 19 33 18 49,y 20 34 19],none)],[(0,15),(1,16),(2,17),(3,18),(4,19),(5,20),(6,21),(7,22),(8,23),(9,24),(10,25),(11,26),(12,27),(13,28),(14,29),(15,30),(16,31),(17,32),(18,33),(19,34),(20,6)],[(⟨2,[(16,(some 1))],none,.r (.ld none (.t 16))⟩,[0]),(⟨7,[(21,(some 6))],none,.r (.ld none (.t 21))⟩,[0]),(⟨14,[(28,(some 13))],none,.r (.ld none (.t 28))⟩,[0])]⟩) (Sq [a 36 6,a 37 4,q 38 87 37,q 39 86 38,a 35 39,o 40 35 0,o 41 35 1,m 42 36,d 43 1 42,t 1 43 40] (Sq [a 45 6,a 46 6,m 47 46,d 48 1 47,i 49 48,a 50 4,Z 51 88 49 50,a 44 51,o 52 44 0,o 53 44 1,m 54 45,d 55 2 54,t 1 55 52] (Sq [a 57 6,a 58 6,m 59 58,d 60 1 59,i 61 60,a 62 4,Z 63 89 61 62,a 56 63,o 64 56 0,o 65 56 1,m 66 57,d 67 3 66,t 1 67 64] (Qq (.drw ⟨[([g 0 6,g 1 6,n 2 70 1,j 3 71 2 1,k 4 72 3,S 5 1 2,k 6 74 5,g 7 4,n 8 76 7,j 9 77 8 16,j 10 78 9 1,k 11 79 10,S 12 1 1,k 13 81 12,S 14 1 3,k 15 83 14],some (qZ 16 73 4 75 6 80 11 82 13 84 15 90)),([y 17 85 16,N 18 68 17 0,N 19 68 17 1,n 20 69 0,j 21 88 20 4],some (R 22 89 21 86 18 1)),([],none)],[(0,69),(1,70),(2,71),(3,72),(4,73),(5,74),(6,75),(7,76),(8,77),(9,78),(10,79),(11,80),(12,81),(13,82),(14,83),(15,84),(16,85),(17,68),(18,86),(19,87),(20,88),(21,89)],[]⟩) (Rq [a 90 6,a 2 90,b 3 0]))))))))),[.tmp 2,.tmp 3]⟩
theorem RPrcu.step{h h':H}{R n:Nat}(p:RPrcu h R n)(s:StepN h h'):RPrcu h' R n:=by
 have l:∀{a},a<h.next->a<h'.next:=fun ha=>Nat.lt_of_lt_of_le ha s.next
 cases p with
 |a G N M base gR gG gN lR lG lN=>exact .a G N M base ((s.old _ lR).trans gR) ((s.old _ lG).trans gG) ((s.old _ lN).trans gN) (l lR) (l lG) (l lN)
 |b G N M base gR gG gN lR lG lN=>exact .b G N M base ((s.old _ lR).trans gR) ((s.old _ lG).trans gG) ((s.old _ lN).trans gN) (l lR) (l lG) (l lN)
 |c G M base nb ty gR gG hty lR lG=>exact .c G M base nb ty ((s.old _ lR).trans gR) ((s.old _ lG).trans gG) hty (l lR) (l lG)
theorem RPrcu.keep{h h':H}{R n:Nat}(p:RPrcu h R n)(hn:h.next<=h'.next)(k:∀{b cells len e},b<h.next->h.t.get b=some (.row cells len e)->e≠154->e≠51->e≠49->h'.t.get b=some (.row cells len e))(h102:∀G M base nb ty,h.t.get G=some (.row (putList 0 ([.ptr M 0,.int .i64 base,.int .i64 nb]++quads 64 [.bool false,.bool false,.int .i64 0,.int .u64 0]) T.e) 259 ty)->ty=375->G<h.next->h'.t.get G=some (.row (putList 0 ([.ptr M 0,.int .i64 base,.int .i64 nb]++quads 64 [.bool false,.bool false,.int .i64 0,.int .u64 0]) T.e) 259 ty)):RPrcu h' R n:=by
 have l:∀{a},a<h.next->a<h'.next:=fun ha=>Nat.lt_of_lt_of_le ha hn
 cases p with
 |a G N M base gR gG gN lR lG lN=>exact .a G N M base (k lR gR (by decide) (by decide) (by decide)) (k lG gG (by decide) (by decide) (by decide)) (k lN gN (by decide) (by decide) (by decide)) (l lR) (l lG) (l lN)
 |b G N M base gR gG gN lR lG lN=>exact .b G N M base (k lR gR (by decide) (by decide) (by decide)) (k lG gG (by decide) (by decide) (by decide)) (k lN gN (by decide) (by decide) (by decide)) (l lR) (l lG) (l lN)
 |c G M base nb ty gR gG hty lR lG=>exact .c G M base nb ty (k lR gR (by decide) (by decide) (by decide)) (h102 G M base nb ty gG hty lG) hty (l lR) (l lG)
theorem RPrcu.off{h h':H}{M W R n:Nat}{ws:List Int}{lg:AV}(p:RPrcu h R n)(m:RMem h M W ws lg)(s:StepX M W h h'):RPrcu h' R n:=by
 have gM:=m.g
 have gW:=m.w
 have k0:∀{b cells len e},b<h.next->h.t.get b=some (.row cells len e)->e≠154->e≠51->h'.t.get b=some (.row cells len e):=fun{b cells len e} hb g n1 n2=>by
  refine(s.old b hb (fun e=>?_) (fun e=>?_)).trans g
  ·subst e;rw[gM]at g;simp[rowL]at g;exact n1 g.2.2.symm
  ·subst e;rw[gW]at g;simp[rowL]at g;exact n2 g.2.2.symm
 exact p.keep s.next (fun hb g n1 n2 _=>k0 hb g n1 n2) fun G M base nb ty g hty lG=>k0 lG g (by rw[hty];decide) (by rw[hty];decide)
inductive RPrcuX(lo:Nat)(h:H)(M:Nat)(base:Int)(R n:Nat)(c:CfgT):Prop where
 |full (G N:Nat) (he:c.engine=1) (gR:h.t.get R=some (rowL [.int .u8 1,.int .i64 (n:Int),.ptr G 0,.nilp,.nilp] 214)) (gG:h.t.get G=some (rowL [.ptr M 0,.int .i64 base,.sl N 0 n 3 (some n)] 362)) (gN:h.t.get N=some (.row (putList 0 (rep [.int .u64 0,.bool false,.bool false] (n*3)) T.e) (n*3) 364)) (lR:R<h.next) (lG:G<h.next) (lN:N<h.next) (oR:lo<=R) (oG:lo<=G) (oN:lo<=N)
 |each (G N:Nat) (he:c.engine=2) (gR:h.t.get R=some (rowL [.int .u8 2,.int .i64 (n:Int),.nilp,.ptr G 0,.nilp] 214)) (gG:h.t.get G=some (rowL [.ptr M 0,.int .i64 base,.sl N 0 n 3 (some n)] 368)) (gN:h.t.get N=some (.row (putList 0 (rep [.int .u64 0,.bool false,.bool false] (n*3)) T.e) (n*3) 364)) (lR:R<h.next) (lG:G<h.next) (lN:N<h.next) (oR:lo<=R) (oG:lo<=G) (oN:lo<=N)
 |gate (G:Nat) (he:c.engine=3) (hb:1<=c.buckets∧c.buckets<=16) (gR:h.t.get R=some (rowL [.int .u8 3,.int .i64 (n:Int),.nilp,.nilp,.ptr G 0] 214)) (gG:h.t.get G=some (.row (putList 0 ([.ptr M 0,.int .i64 base,.int .i64 c.buckets]++quads 64 [.bool false,.bool false,.int .i64 0,.int .u64 0]) T.e) 259 375)) (lR:R<h.next) (lG:G<h.next) (oR:lo<=R) (oG:lo<=G)
theorem RPrcuX.keep{lo:Nat}{h h':H}{M:Nat}{base:Int}{R n:Nat}{c:CfgT}(p:RPrcuX lo h M base R n c)(hn:h.next<=h'.next)(k:∀b,lo<=b->b<h.next->h'.t.get b=h.t.get b):RPrcuX lo h' M base R n c:=by
 have l:∀{a},a<h.next->a<h'.next:=fun ha=>Nat.lt_of_lt_of_le ha hn
 cases p with
 |full G N he gR gG gN lR lG lN oR oG oN=>exact .full G N he ((k _ oR lR).trans gR) ((k _ oG lG).trans gG) ((k _ oN lN).trans gN) (l lR) (l lG) (l lN) oR oG oN
 |each G N he gR gG gN lR lG lN oR oG oN=>exact .each G N he ((k _ oR lR).trans gR) ((k _ oG lG).trans gG) ((k _ oN lN).trans gN) (l lR) (l lG) (l lN) oR oG oN
 |gate G he hb gR gG lR lG oR oG=>exact .gate G he hb ((k _ oR lR).trans gR) ((k _ oG lG).trans gG) (l lR) (l lG) oR oG
theorem RPrcuX.mono{lo lo':Nat}{h:H}{M:Nat}{base:Int}{R n:Nat}{c:CfgT}(p:RPrcuX lo h M base R n c)(hl:lo'<=lo):RPrcuX lo' h M base R n c:=by
 cases p with
 |full G N he gR gG gN lR lG lN oR oG oN=>exact .full G N he gR gG gN lR lG lN (by omega) (by omega) (by omega)
 |each G N he gR gG gN lR lG lN oR oG oN=>exact .each G N he gR gG gN lR lG lN (by omega) (by omega) (by omega)
 |gate G he hb gR gG lR lG oR oG=>exact .gate G he hb gR gG lR lG (by omega) (by omega)
def PostR(M:Nat)(base:Int)(c:CfgT)(n:Nat)(h:H)(v:AV)(h':H):Prop:=StepN h h'∧∃R,v=.tup [.ptr R 0,.int .i64 0]∧RPrcu h' R n∧RPrcuX h.next h' M base R n c
theorem w90(h75:∀h c,EngOK c->call 170 [.int .u8 c.engine,.int .i64 c.slots,.int .i64 c.buckets] h=some (.tup [.int .i64 (engN c),.int .i64 0],h))
 (h76:∀h M W ws lg n base,RMem h M W ws lg->1<=n->n<=64->0<=base->base+((n:Nat):Int)<=((ws:List Int).length:Int)->ws.length<=60000->∃v h',call 171 [.ptr M 0,.int .i64 base,.int .i64 (n:Int)] h=some (v,h')∧REng M n 362 base h v h')
 (h77:∀h M W ws lg n base,RMem h M W ws lg->1<=n->n<=64->0<=base->base+2*((n:Nat):Int)<=((ws:List Int).length:Int)->ws.length<=60000->∃v h',call 172 [.ptr M 0,.int .i64 base,.int .i64 (n:Int)] h=some (v,h')∧REng M n 368 base h v h')
 (h78:∀h M W ws lg n base,RMem h M W ws lg->1<=n->n<=16->0<=base->base+4*n<=((ws:List Int).length:Int)->ws.length<=60000->∃v h',call 173 [.ptr M 0,.int .i64 base,.int .i64 n] h=some (v,h')∧REngC M base n h v h')
 {h:H} {M W:Nat} {ws:List Int} {lg:AV} (hm:RMem h M W ws lg) (hM:M<h.next) (hW:W<h.next) {c:CfgT} (hc:EngOK c) {base:Int} (b0:0<=base) (b1:base+engN c<=(ws.length:Int)) (b2:ws.length<=60000) {n:Nat} (hn:c.slots=(n:Int)):
 WF P call c90 [.ptr M 0,.int .u8 c.engine,.int .i64 base,.int .i64 c.slots,.int .i64 c.buckets] h (PostR M base c n h):=by
 have k75:=h75 h c hc
 obtain⟨hs,hc⟩:=hc
 have st0:∀x,StepN h ⟨h.next+1,h.t.set h.next x⟩:=fun x=>StepN.new h x
 have fin:∀{x h1 y},StepN ⟨h.next+1,h.t.set h.next x⟩ h1->StepN h ⟨h1.next,h1.t.set h.next y⟩:=fun{x h1 y} s=>⟨by have:=s.next;show h.next<=h1.next;have h2:h.next+1<=h1.next:=this;omega,fun b hb=>by
  have e1:¬b=h.next:=by omega
  have:=s.old b (by show b<h.next+1;omega)
  simp only[go_sem,seval,e1]at this
  simp only[go_sem,seval,e1,this]⟩
 rcases hc with⟨he,hb⟩|⟨he,hb⟩|⟨he,hb1,hb2⟩
 ·have hN:engN c=(n:Int):=by unfold engN;rw[if_pos he,hn]
  rw[he,hb,hn,hN]at k75
  rw[he,hb,hn]
  simp only[go_sem,seval,k75]
  refine opt_by (h76 _ M W ws lg n base (hm.step hM hW (st0 _)) (by omega) (by omega) b0 (by omega) b2) fun v1 h1 p1=>?_
  obtain⟨st1,G,N,rfl,gG,gN,lG,lN,oG,oN⟩:=p1
  replace oG:h.next+1<=G:=oG
  replace oN:h.next+1<=N:=oN
  have nx1:h.next+1<=h1.next:=st1.next
  have gR:=st1.old h.next (Nat.lt_succ_self _)
  simp only[go_sem,seval]at gR
  simp only[go_sem,seval,gR]
  by_cases hG:G=h.next
  ·rw[hG,gR]at gG;simp at gG
  by_cases hNn:N=h.next
  ·rw[hNn,gR]at gN;simp at gN
  exact⟨fin st1,h.next,rfl,.a G N M base (by simp[go_sem]) (by simp[go_sem,hG,gG]) (by simp[go_sem,hNn,gN]) (by show h.next<h1.next;omega) lG lN,.full G N he (by simp only[go_sem,seval];rfl) (by simp[go_sem,hG,gG]) (by simp[go_sem,hNn,gN]) (by show h.next<h1.next;omega) lG lN (Nat.le_refl _) (by omega) (by omega)⟩
 ·have hN:engN c=2*(n:Int):=by unfold engN;rw[if_neg (by omega),if_pos he,hn]
  rw[he,hb,hn,hN]at k75
  rw[he,hb,hn]
  simp only[go_sem,seval,k75]
  refine opt_by (h77 _ M W ws lg n base (hm.step hM hW (st0 _)) (by omega) (by omega) b0 (by omega) b2) fun v1 h1 p1=>?_
  obtain⟨st1,G,N,rfl,gG,gN,lG,lN,oG,oN⟩:=p1
  replace oG:h.next+1<=G:=oG
  replace oN:h.next+1<=N:=oN
  have nx1:h.next+1<=h1.next:=st1.next
  have gR:=st1.old h.next (Nat.lt_succ_self _)
  simp only[go_sem,seval]at gR
  simp only[go_sem,seval,gR]
  by_cases hG:G=h.next
  ·rw[hG,gR]at gG;simp at gG
  by_cases hNn:N=h.next
  ·rw[hNn,gR]at gN;simp at gN
  exact⟨fin st1,h.next,rfl,.b G N M base (by simp[go_sem]) (by simp[go_sem,hG,gG]) (by simp[go_sem,hNn,gN]) (by show h.next<h1.next;omega) lG lN,.each G N he (by simp only[go_sem,seval];rfl) (by simp[go_sem,hG,gG]) (by simp[go_sem,hNn,gN]) (by show h.next<h1.next;omega) lG lN (Nat.le_refl _) (by omega) (by omega)⟩
 ·have hN:engN c=4*c.buckets:=by unfold engN;rw[if_neg (by omega),if_neg (by omega)]
  rw[he,hn,hN]at k75
  rw[he,hn]
  simp only[go_sem,seval,k75]
  refine opt_by (h78 _ M W ws lg c.buckets base (hm.step hM hW (st0 _)) hb1 hb2 b0 (by omega) b2) fun v1 h1 p1=>?_
  obtain⟨st1,G,rfl,gG,lG,oG⟩:=p1
  replace oG:h.next+1<=G:=oG
  have nx1:h.next+1<=h1.next:=st1.next
  have gR:=st1.old h.next (Nat.lt_succ_self _)
  simp only[go_sem,seval]at gR
  simp only[go_sem,seval,gR]
  by_cases hG:G=h.next
  ·rw[hG,gR]at gG
   have e1:=congrArg (fun o:Option AO=>match o with|some (.row _ n _)=>n|_=>0) gG
   simp at e1
  exact⟨fin st1,h.next,rfl,.c G M base c.buckets 375 (by simp[go_sem]) (by simp only[go_sem,seval,hG];exact gG) rfl (by show h.next<h1.next;omega) lG,.gate G he ⟨hb1,hb2⟩ (by simp only[go_sem,seval];rfl) (by simp only[go_sem,seval,hG];exact gG) (by show h.next<h1.next;omega) lG (Nat.le_refl _) (by omega)⟩
structure RBaseH(h:H)(B:Nat)(c:CfgT)(p:PlT)(M W R:Nat):Prop where
 ex:∃L P T vv lv cv,h.t.get B=some (rowL [.ptr L 0,.ptr M 0,.ptr P 0,.ptr T 0,.ptr R 0,.int .i64 0,.bool false,.nils,.nils,vv,lv,cv] 49)∧RLay h L c p (hsL c)
 pr:∃n:Nat,c.slots=(n:Int)∧RPrcu h R n
 lt:B<h.next
structure StB(h0:Nat)(h:H)(c:CfgT)(B L M Po To R W V K C Tk Gv Gn n q:Nat)(cv hv wv:AV):Prop where
 gB:h.t.get B=some (rowL [.ptr L 0,.ptr M 0,.ptr Po 0,.ptr To 0,.ptr R 0,.int .i64 0,.bool false,.nils,.nils,.sl V 0 n 1 (some n),.sl K 0 q 1 (some q),.sl C 0 q 1 (some q)] 49)
 gV:h.t.get V=some (.row (putList 0 (List.replicate n (.int .i64 0)) T.e) n 3)
 gK:h.t.get K=some (.row (putList 0 (List.replicate q (.int .i64 0)) T.e) q 3)
 gC:h.t.get C=some (.row (putList 0 (List.replicate q (.int .i64 0)) T.e) q 3)
 gL:h.t.get L=some (rowL (cfgC c cv++(plC (plOf c)++[hv,wv])) 41)
 rd:RdL none 1 h cv (uL c.cuts)
 lo:∃lz,(∀b,own cv=some b->h0<=b∧b<lz)∧RPrcuX lz h M (plOf c).en R n c∧L<lz∧lz<=h.next∧(∀b,b=B∨b=V∨b=K∨b=C∨b=M∨b=W∨b=Po∨b=Tk∨b=Gn->lz<=b)∧V≠K∧V≠C∧V≠Gn
 po:PoolB h M L q Po Tk Gv Gn
 sl:c.slots=(n:Int)
 hq:q=(hsL c).length+1
 oB:h0<=B∧B<h.next
 oL:h0<=L∧L<h.next
 oV:h0<=V∧V<h.next
 oK:h0<=K∧K<h.next
 oC:h0<=C∧C<h.next
 oP:h0<=Po∧h0<=Tk∧h0<=Gn
structure Post7(c:CfgT)(h:H)(v:AV)(h':H):Prop where
 st:StepN h h'
 ex:∃B p M W R ws,v=.tup [.ptr B 0,.int .i64 0]∧p.ow=0∧(∃w:Nat,p.wo=(w:Int)∧Zero w c.slots ws∧IniB c w ws)∧c.slots<p.wo∧ws.length<=5000∧RMem h' M W ws .nils∧M<h'.next∧W<h'.next∧h.next<=M∧h.next<=W∧(∀h2,StepX M W h' h2->RBaseH h2 B c p M W R)∧p=plOf c∧PlOK c p∧∃L Po To V K C Tk Gv Gn n q cv hv wv,StB h.next h' c B L M Po To R W V K C Tk Gv Gn n q cv hv wv
def F85(call:CallE):Prop:=∀h c v,RdL none 1 h v (uL c.cuts)->(∀a,own v=some a->a<h.next)->(∀x∈c.cuts,inU x)->layB c->(hsL c).length<=60->∃v' h',call 85 [.agg (cfgC c v)] h=some (v',h')∧Post27 c h v' h'
def F87(call:CallE):Prop:=∀h L c p (W:Nat),RLay h L c p (hsL c)->PlOK c p->0<=c.slots->(hsL c).length<=60->p.wo=(W:Int)->0<W->∃v h',call 87 [.ptr L 0] h=some (v,h')∧PostI W c.slots (IniB c W) h v h'
def F86(call:CallE):Prop:=∀h v (ws:List Int),Own 1 51 h v ws.length (uL ws)->0<ws.length->ws.length<=60000->∃v' h',call 86 [v] h=some (v',h')∧Post28 ws h v' h'
def F88(call:CallE):Prop:=∀h M W L (ws:List Int) lg c p,M<h.next->W<h.next->RMem h M W ws lg->RLay h L c p (hsL c)->p.wo=(ws.length:Int)->(hsL c).length<=60->∃v h',call 88 [.ptr M 0,.ptr L 0] h=some (v,h')∧((∃R Tk Gv Gn,v=.tup [.ptr R 0,.int .i64 0]∧PoolB h' M L ((hsL c).length+1) R Tk Gv Gn∧h.next<=R∧h.next<=Tk∧h.next<=Gn∧Gn≠Tk)∧StepN h h')
def F89(call:CallE):Prop:=∀h M W L (ws:List Int) lg c p,RMem h M W ws lg->RLay h L c p (hsL c)->p.wo=(ws.length:Int)->∃v h',call 89 [.ptr M 0,.ptr L 0] h=some (v,h')∧((∃R,v=.tup [.ptr R 0,.int .i64 0])∧StepN h h')
def F90(call:CallE):Prop:=∀h M W (ws:List Int) lg c base (n:Nat),RMem h M W ws lg->M<h.next->W<h.next->EngOK c->0<=base->base+engN c<=(ws.length:Int)->ws.length<=60000->c.slots=(n:Int)->∃v h',call 90 [.ptr M 0,.int .u8 c.engine,.int .i64 base,.int .i64 c.slots,.int .i64 c.buckets] h=some (v,h')∧PostR M base c n h v h'
set_option maxHeartbeats 1000000 in
theorem w22(h27:F85 call)(h29:F87 call)(h28:F86 call)(h30:F88 call)(h31:F89 call)(h32:F90 call)
 {h:H} {c:CfgT} {v:AV} (hv:RdL none 1 h v (uL c.cuts)) (hlv:∀a,own v=some a->a<h.next) (hin:∀x∈c.cuts,inU x) (hc:layB c) (hn:(hsL c).length<=60):WF P call c22 [.agg (cfgC c v)] h (Post7 c h):=by
 have hcE:=hc.eng
 have hsl:=hcE.1
 have ov:=hv.one
 have st0:=StepN.new h (.row (putList 0 (cfgC c v) T.e) 16 27)
 simp only[go_sem,seval,ov,cfgC]
 refine opt_by (h27 _ c v (hv.keep fun b hb=>st0.old b (hlv b hb)) (fun a ha=>Nat.lt_succ_of_lt (hlv a ha)) hin hc hn) fun v1 h1 p1=>?_
 obtain⟨⟨L,p,rfl,hL0,hp,hL⟩,st1⟩:=p1
 have g1:=st1.old h.next (Nat.lt_succ_self _)
 simp only[go_sem,seval,cfgC]at g1
 have st01:=st0.trans st1
 have nx1:h.next<h1.next:=st1.next
 obtain⟨w,hw⟩:∃w:Nat,p.wo=(w:Int):=⟨p.wo.toNat,by have:=hp.po;omega⟩
 have hp5:=hp.wo
 have hw0:0<w:=by have:=hp.po;omega
 obtain⟨cv,hv',wv,wl,wcs,gL,o1,oh,ow,ew,rdc,loc⟩:=id hL.ex
 have hll:=oh.lenA
 have hlt:=hL.lt
 obtain⟨n,hnn⟩:∃n:Nat,c.slots=(n:Int):=⟨c.slots.toNat,by omega⟩
 have f1:fw .i64 (((hsL c).length:Int)+1)=(((hsL c).length+1:Nat):Int):=fwI (by omega) (by omega)
 have m1:8*n<=281474976710656:=by omega
 have m2:n<=281474976710656:=by omega
 have m3:8*((hsL c).length+1)<=281474976710656:=by omega
 have m4:(hsL c).length+1<=281474976710656:=by omega
 have c0:¬h.next=h1.next:=by omega
 have l0:¬L=h1.next:=by omega
 have l1:¬L=h1.next+1:=by omega
 have l2:¬L=h1.next+2:=by omega
 have l3:¬L=h1.next+3:=by omega
 have c1:¬h.next=h1.next+1:=by omega
 have c2:¬h.next=h1.next+2:=by omega
 have c93:¬h.next=h1.next+3:=by omega
 simp only[go_sem,seval,g1,gL,cfgC,plC,hll,f1,hnn,evLenN,rep_one,Nat.mul_one,Nat.le_refl,m1,m2,m3,m4,decide_true,Bool.and_self,cond_true,c0,c1,c2,c93,l0,l1,l2,l3]
 obtain⟨B,hB⟩:∃B,B=h1.next+3:=⟨_,rfl⟩
 have st2:∀x y z u k,StepN h1 ⟨h1.next+(3+k),(((h1.t.set h1.next x).set (h1.next+1) y).set (h1.next+2) z).set (h1.next+3) u⟩:=fun x y z u k=>⟨by show h1.next<=h1.next+(3+k);omega,fun b hb=>by
  have e1:¬b=h1.next:=by omega
  have e2:¬b=h1.next+1:=by omega
  have e3:¬b=h1.next+2:=by omega
  have e4:¬b=h1.next+3:=by omega
  simp only[go_sem,seval,e1,e2,e3,e4]⟩
 refine opt_by (h29 _ L c p w (hL.step (st2 _ _ _ _ 1)) hp (by omega) hn hw hw0) fun v3 h3 p3=>?_
 obtain⟨⟨ws,hws,hz,hio⟩,hlo3,st3⟩:=p3
 have hwl:=hz.len
 simp only[go_sem,seval]
 refine opt_by (h28 h3 v3 ws hws (by omega) (by omega)) fun v4 h4 p4=>?_
 obtain⟨st4,M,W,rfl,m4',hM3,hW3,hM4,hW4⟩:=p4
 have nx3:h1.next+4<=h3.next:=st3.next
 have nx4:=st4.next
 have st34:=st3.trans st4
 have gB4:=st34.old B (by rw[hB];show h1.next+3<h1.next+4;omega)
 have gC4:=st34.old h.next (by show h.next<h1.next+4;omega)
 have stL4:StepN h1 h4:=(st2 _ _ _ _ 1).trans st34
 have CB:¬h.next=B:=by omega
 have BM:¬B=M:=by omega
 have BW:¬B=W:=by omega
 have MB:¬M=B:=by omega
 have WB:¬W=B:=by omega
 simp only[go_sem,seval,hB]at gB4
 simp only[go_sem,seval,c0,c1,c2,c93,g1]at gC4
 rw[←hB]at gB4
 simp only[←hB]
 simp only[go_sem,seval,gB4]
 have memS:∀(h5:H) x,RMem h5 M W ws .nils->RMem ⟨h5.next,h5.t.set B x⟩ M W ws .nils:=fun h5 x m=>⟨by simp only[go_sem,seval,MB];exact m.g,rfl,by simp only[go_sem,seval,WB];exact m.w,m.ne⟩
 have stS:∀(h5:H) x,StepN h1 h5->StepN h1 ⟨h5.next,h5.t.set B x⟩:=fun h5 x s=>⟨s.next,fun b hb=>by
  have e3:¬b=B:=by omega
  simp only[go_sem,seval,e3]
  exact s.old b hb⟩
 have hwi:p.wo=(ws.length:Int):=by omega
 refine opt_by (h30 _ M W L ws .nils c p hM4 hW4 (memS h4 _ m4') (hL.step (stS h4 _ stL4)) hwi hn) fun v6 h6 p6=>?_
 obtain⟨⟨Po,Tk,Gv,Gn,rfl,hPo,oPo,oTk,oGn,nGT⟩,st6⟩:=p6
 have nx6:h4.next<=h6.next:=st6.next
 have gB6:=st6.old B (by show B<h4.next;omega)
 simp only[go_sem,seval]at gB6
 simp only[go_sem,seval,gB6]
 have m6:=(memS h4 _ m4').step hM4 hW4 st6
 have stL6:=(stS h4 _ stL4).trans st6
 have hM6:M<h6.next:=by omega
 have hW6:W<h6.next:=by omega
 refine opt_by (h31 _ M W L ws .nils c p (memS h6 _ m6) (hL.step (stS h6 _ stL6)) hwi) fun v7 h7 p7=>?_
 obtain⟨⟨To,rfl⟩,st7⟩:=p7
 have nx7:h6.next<=h7.next:=st7.next
 have gB7:=st7.old B (by show B<h6.next;omega)
 simp only[go_sem,seval]at gB7
 have m7:=(memS h6 _ m6).step hM6 hW6 st7
 have stL7:=(stS h6 _ stL6).trans st7
 have hM7:M<h7.next:=by omega
 have hW7:W<h7.next:=by omega
 have gC7:h7.t.get h.next=h4.t.get h.next:=by
  have k1:=st7.old h.next (by show h.next<h6.next;omega)
  have k2:=st6.old h.next (by show h.next<h4.next;omega)
  simp only[go_sem,seval,CB]at k1 k2
  rw[k1,k2]
 rw[gC4]at gC7
 have LB:¬L=B:=by omega
 have gL7:h7.t.get L=h1.t.get L:=stL7.old L hlt
 rw[gL]at gL7
 simp only[go_sem,seval,gB7,gC7,gL7,cfgC,plC,CB,LB]
 have hen:=hp.en
 have heng:=hp.eng
 have hE:=engOK hc
 refine opt_by (h32 _ M W ws .nils c p.en n (memS h7 _ m7) hM7 hW7 hcE (by omega) (by omega) (by omega) hnn) fun v9 h9 p9=>?_
 obtain⟨st9,R,rfl,hR,hX⟩:=p9
 have nx9:h7.next<=h9.next:=st9.next
 have gB9:=st9.old B (by show B<h7.next;omega)
 simp only[go_sem,seval]at gB9
 have m9:=(memS h7 _ m7).step hM7 hW7 st9
 have stL9:=(stS h7 _ stL7).trans st9
 simp only[go_sem,seval,gB9,nx9,gB7,gC7,gL7,CB,LB,cfgC,plC]
 have hR9:∀x,RPrcu ⟨h9.next,h9.t.set B (.row x 12 49)⟩ R n:=fun x=>by
  have k:∀{b cells len e},h9.t.get b=some (.row cells len e)->e≠49->(h9.t.set B (.row x 12 49)).get b=some (.row cells len e):=fun{b cells len e} g n1=>by
   by_cases e3:b=B
   ·subst e3
    rw[gB9]at g
    simp at g
    exact absurd g.2.2.symm n1
   ·simp only[go_sem,seval,e3]
    exact g
  refine hR.keep (Nat.le_refl _) (fun hb g _ _ n3=>k g n3) fun G M' base nb ty g hty lG=>?_
  by_cases e3:G=B
  ·subst e3
   rw[gB9]at g
   have e1:=congrArg (fun o:Option AO=>match o with|some (.row _ n _)=>n|_=>0) g
   simp at e1
  ·simp only[go_sem,seval,e3]
   exact g
 refine⟨st01.trans (stS h9 _ stL9),B,p,M,W,R,ws,rfl,hp.ow,⟨w,hw,hz,hio⟩,by have:=hp.po;omega,by omega,memS h9 _ m9,by show M<h9.next;omega,by show W<h9.next;omega,by omega,by omega,fun h2 sx=>?_,hp.eq,hp,?_⟩
 rotate_left
 ·have hLl:=hL.lt
  have kp6:∀b,b<h6.next->b≠B->∀o,(h9.t.set B (AO.row o 12 49)).get b=h6.t.get b:=fun b lb nb o=>by
   have k1:=st7.old b (by show b<h6.next;omega)
   have k2:=st9.old b (by show b<h7.next;omega)
   simp only[go_sem,seval,nb]at k1 k2
   simp only[go_sem,seval,nb,k2,k1]
  have kp4:∀b,b<h4.next->b≠B->∀o,(h9.t.set B (AO.row o 12 49)).get b=h4.t.get b:=fun b lb nb o=>by
   rw[kp6 b (by omega) nb o]
   have k1:=st6.old b (by show b<h4.next;omega)
   simp only[go_sem,seval,nb]at k1
   exact k1
  have kV:=st34.old h1.next (by show h1.next<h1.next+4;omega)
  have kK:=st34.old (h1.next+1) (by show h1.next+1<h1.next+4;omega)
  have kC:=st34.old (h1.next+2) (by show h1.next+2<h1.next+4;omega)
  have q1:¬h1.next=h1.next+1:=by omega
  have q2:¬h1.next=h1.next+2:=by omega
  have q3:¬h1.next=h1.next+3:=by omega
  have q4:¬h1.next+1=h1.next+2:=by omega
  have q5:¬h1.next+1=h1.next+3:=by omega
  have q6:¬h1.next+2=h1.next+3:=by omega
  simp only[go_sem,seval,q1,q2,q3]at kV
  simp only[go_sem,seval,q4,q5]at kK
  simp only[go_sem,seval,q6]at kC
  obtain⟨gP,gTk,gGn,lP,lTk,lGn⟩:=hPo
  have lo4:h4.next<=Po:=oPo
  have lo5:h4.next<=Tk:=oTk
  have lo6:h4.next<=Gn:=oGn
  have B4:B<h4.next:=by omega
  have hn0:h.next+1<=L:=hL0
  rw[hp.eq]at hX gL
  refine⟨L,Po,To,h1.next,h1.next+1,h1.next+2,Tk,Gv,Gn,n,(hsL c).length+1,cv,hv',wv,⟨by simp only[go_sem,seval];rfl,(kp4 _ (by omega) (by omega) _).trans kV,(kp4 _ (by omega) (by omega) _).trans kK,(kp4 _ (by omega) (by omega) _).trans kC,((stS h9 _ stL9).old L hLl).trans gL,rdc.keep fun b hb=>(stS h9 _ stL9).old b (loc b hb).2,⟨h1.next,fun b hb=>⟨by have:=(loc b hb).1;omega,(loc b hb).2⟩,?_,hLl,by show h1.next<=h9.next;omega,fun b hb=>by rcases hb with rfl|rfl|rfl|rfl|rfl|rfl|rfl|rfl|rfl<;>omega,by omega,by omega,by omega⟩,⟨(kp6 _ lP (by omega) _).trans gP,(kp6 _ lTk (by omega) _).trans gTk,(kp6 _ lGn (by omega) _).trans gGn,by show Po<h9.next;omega,by show Tk<h9.next;omega,by show Gn<h9.next;omega⟩,hnn,rfl,⟨by omega,by show B<h9.next;omega⟩,⟨by omega,by show L<h9.next;omega⟩,⟨by omega,by show h1.next<h9.next;omega⟩,⟨by omega,by show h1.next+1<h9.next;omega⟩,⟨by omega,by show h1.next+2<h9.next;omega⟩,by omega,by omega,by omega⟩⟩
  have hX9:=hX.keep (h':=⟨h9.next,h9.t.set B (AO.row (putList 0 [.ptr L 0,.ptr M 0,.ptr Po 0,.ptr To 0,.ptr R 0,.int .i64 0,.bool false,.nils,.nils,.sl h1.next 0 n 1 (some n),.sl (h1.next+1) 0 ((hsL c).length+1) 1 (some ((hsL c).length+1)),.sl (h1.next+2) 0 ((hsL c).length+1) 1 (some ((hsL c).length+1))] T.e) 12 49)⟩) (Nat.le_refl _) fun b lb _=>by
   have lb':h7.next<=b:=lb
   have q:¬b=B:=by omega
   simp only[go_sem,seval,q]
  exact hX9.mono (by show h1.next<=h7.next;omega)
 have hBx:=sx.old B (by show B<h9.next;omega) BM BW
 simp only[go_sem,seval]at hBx
 exact⟨⟨L,Po,To,_,_,_,hBx,hL.step ((stS h9 _ stL9).withX sx (by omega) (by omega))⟩,⟨n,hnn,(hR9 _).off (memS h9 _ m9) sx⟩,Nat.lt_of_lt_of_le (by show B<h9.next;omega) sx.next⟩
@[go_sem]def c92:CF:=⟨2,(Sq [qk 4 0] (Rq [a 5 0,m 6 5,d 7 0 6,a 8 1,Z 9 174 7 8,a 4 9])),[.tmp 4]⟩
@[go_sem]def c93:CF:=⟨7,(Oq [a 14 0,a 15 0,m 16 15,d 17 1 16,i 18 17,a 19 1,a 20 2,a 21 3,a 22 4,a 23 5,a 24 6,je 25 0 0 0 0 0 0 1 19 1 1 20 2 1 21 3 1 22 4 1 23 5 1 24,⟨some 26,none,.n (.buildS 296 6 1 [iz,iz,bz,uz,uz,fz] [(0,6,.t 25)])⟩,qj 27 296 6 48 18 26,m 28 14,d 29 1 28,t 1 29 27]),[]⟩
@[go_sem]def c25:CF:=⟨4,(Sq [b 8 0] (Qq (Sq [a 11 0,a 12 1,a 13 2,qa 14 91 11 12 13,a 9 14] (Sq [a 15 9,z 16 54 15 0] (Kq 16 [a 17 9,a 8 17] .skip))) (Sq [a 18 0,m 19 18,d 20 0 19,i 21 20,a 22 2,E 23 1 21 22,a 24 3,Z 25 92 23 24,a 10 25] (Sq [a 26 0,a 27 1,a 28 2,a 29 10,a 30 3,zM 31 93 26 27 28 2 29 30] (Rq [b 8 0]))))),[.tmp 8]⟩
@[go_sem]def c94:CF:=⟨3,(Sq [b 6 0] (Qq (.block 0 (Sq [a 8 0,u 9 43 8,a 7 9] (Kq 7 [b 6 1] (Sq [a 11 1,q 12 34 11,qe 13 12,a 10 13] (Kq 10 [b 6 2] (Sq [a 15 2,K 16 3 15 0,a 17 16,s 18 17 2,s 19 17 0,qi 20 17 19,M 21 17 0 20,L 22 17 21,qO 23 17 22,qw 24 17 3 18 23,r 25 17 24,a 14 25] (Kq 14 [b 6 3] .skip))))))) (Rq [b 6 0]))),[.tmp 6]⟩
@[go_sem]def c95:CF:=⟨6,(Sq [a 13 1,a 14 2,a 15 3,a 16 0,m 17 16,d 18 0 17,i 19 18,a 20 2,E 21 1 19 20,i 22 21,a 23 4,a 24 5,je 25 0 0 0 0 0 0 1 13 1 1 14 2 1 15 3 1 22 4 1 23 5 1 24,⟨some 12,none,.n (.new 296 [iz,iz,bz,uz,uz,fz])⟩,t 6 12 25] (Sq [a 26 0,m 27 26,d 28 0 27,i 29 28,a 30 2,a 31 4,E 32 1 29 30,t 1 32 31] (.drw ⟨[([g 0 0,g 1 0,n 2 34 1,j 3 35 2 1,k 4 36 3,zE 5 12 6,⟨6,[(38,some 5)],none,.n (.buildS 296 6 1 [iz,iz,bz,uz,uz,fz] [(0,6,.t 38)])⟩],some (qQ 7 37 4 39 6 296 6 48)),([n 8 33 0,j 9 41 8 1],some (R 10 42 9 40 7 1)),([],none)],[(0,33),(1,34),(2,35),(3,36),(4,37),(5,38),(6,39),(7,40),(8,41),(9,42)],[(⟨4,[(36,(some 3))],none,.r (.ld none (.t 36))⟩,[0]),(⟨5,[(12,none)],none,.r (.ld (some 6) (.t 12))⟩,[0])]⟩))),[]⟩
@[go_sem]def c26:CF:=⟨4,(Sq [b 8 0] (Qq (Sq [a 10 0,a 11 1,a 12 2,qa 13 94 10 11 12,a 9 13] (Sq [a 14 9,z 15 54 14 0] (Kq 15 [a 16 9,a 8 16] .skip))) (Sq [a 17 0,a 18 1,a 19 2,a 20 3,zN 21 95 17 18 19 2 20] (Rq [b 8 0])))),[.tmp 8]⟩
structure AccT where
 th:Int
 ad:Int
 kd:Int
 o:Int
 w:Int
 sw:Bool
def accC(a:AccT):List AV:=[.int .i64 a.th,.int .i64 a.ad,.int .u8 a.kd,.int .u64 a.o,.int .u64 a.w,.bool a.sw]
def accL(l:List AccT):List AV:=l.flatMap accC
theorem accL_app(l m:List AccT):accL (l++m)=accL l++accL m:=List.flatMap_append
structure Tch(S:Nat->Prop)(h h':H):Prop where
 next:h.next<=h'.next
 old:∀b,b<h.next->¬S b->h'.t.get b=h.t.get b
def memS(M W:Nat)(lv:AV)(b:Nat):Prop:=b=M∨b=W∨own lv=some b
structure MemL(h:H)(M W:Nat)(lv:AV)(ws:List Int)(l:List AccT):Prop where
 g:h.t.get M=some (.row (putList 0 [.sl W 0 ws.length 1 (some ws.length),lv] T.e) 2 197)
 w:h.t.get W=some (rowL (ws.map (AV.int .u64)) 194)
 l:Own 6 296 h lv l.length (accL l)
 ne:M≠W
 nM:own lv≠some M
 nW:own lv≠some W
 lM:M<h.next
 lW:W<h.next
theorem MemL.keep{h h':H}{M W:Nat}{lv:AV}{ws:List Int}{l:List AccT}(m:MemL h M W lv ws l)(hn:h.next<=h'.next)(k:∀b,b<h.next->memS M W lv b->h'.t.get b=h.t.get b):MemL h' M W lv ws l:=
 ⟨(k M m.lM (.inl rfl)).trans m.g,(k W m.lW (.inr (.inl rfl))).trans m.w,m.l.keep hn fun b hb=>k b (m.l.lt hb) (.inr (.inr hb)),m.ne,m.nM,m.nW,Nat.lt_of_lt_of_le m.lM hn,Nat.lt_of_lt_of_le m.lW hn⟩
theorem MemL.step{h h':H}{M W:Nat}{lv:AV}{ws:List Int}{l:List AccT}(m:MemL h M W lv ws l)(s:StepN h h'):MemL h' M W lv ws l:=m.keep s.next fun b hb _=>s.old b hb
def PostN(M W:Nat)(lv:AV)(ws:List Int)(l:List AccT)(h h':H):Prop:=∃lv',MemL h' M W lv' ws l∧(∀b,own lv'=some b->h.next<=b)∧Tch (memS M W lv) h h'
theorem w93(P:Program){call:CallE}{h:H}{M W:Nat}{lv:AV}{ws:List Int}{l:List AccT}(m:MemL h M W lv ws l)(hl:l.length<=1000000)(a:AccT):
 WF P call c93 [.ptr M 0,.int .i64 a.th,.int .i64 a.ad,.int .u8 a.kd,.int .u64 a.o,.int .u64 a.w,.bool a.sw] h fun v h'=>v=.tup []∧PostN M W lv ws (l++[a]) h h':=by
 have lM:=m.lM
 have lW:=m.lW
 have g:=m.g
 have st0:=StepN.new h (.row (putList 0 (accC a) T.e) 6 296)
 have ol1:=m.l.keep st0.next fun b hb=>st0.old b (m.l.lt hb)
 have hap:=appA_own (bytes:=48) (n:=1) (src:=accC a) ol1 (by decide) (by decide) (by omega) (by omega)
 have own2:=own_app (n:=1) (src:=accC a) ol1 (by decide) rfl
 have M0:¬M=h.next:=by omega
 have lM1:M<h.next+1:=by omega
 have gM1:=app_get (h:=⟨h.next+1,h.t.set h.next (.row (putList 0 (accC a) T.e) 6 296)⟩) (e:=296) (v:=lv) (cs:=accL l++accC a) (b:=M) (by show M<h.next+1;omega) m.nM
 have keep:∀b,b<h.next->own lv≠some b->(appT ⟨h.next+1,h.t.set h.next (.row (putList 0 (accC a) T.e) 6 296)⟩ 296 lv (accL l++accC a)).t.get b=h.t.get b:=fun b hb hn=>by
  rw[app_get (by show b<h.next+1;omega) hn]
  exact st0.old b hb
 rw[keep M lM m.nM,g]at gM1
 have gM2:=(keep M lM m.nM).trans g
 have ea:accL (l++[a])=accL l++accC a:=by rw[accL_app];show _++(accC a++[])=_;rw[List.append_nil]
 simp only[accC]at hap gM2
 simp only[go_sem,seval,g,hap,M0,gM2]
 obtain⟨X,hX⟩:∃X,X=appT ⟨h.next+1,h.t.set h.next (.row (putList 0 (accC a) T.e) 6 296)⟩ 296 lv (accL l++accC a):=⟨_,rfl⟩
 have nX:X.next=h.next+2:=by rw[hX];rfl
 simp only[accC]at hX keep own2
 rw[←hX]at keep own2⊢
 have M1:¬M=h.next+1:=by omega
 have WM:¬W=M:=fun e=>m.ne e.symm
 unfold appV at own2⊢
 simp only[go_sem,seval]
 refine⟨.sl (h.next+1) 0 (l.length+1) 6 none,⟨by simp[go_sem],by simp only[go_sem,seval,WM];exact(keep W lW m.nW).trans m.w,?_,m.ne,?_,?_,by show M<X.next;omega,by show W<X.next;omega⟩,fun b hb=>?_,⟨by show h.next<=X.next;omega,fun b hb hn=>?_⟩⟩
 ·rw[ea,List.length_append]
  refine own2.keep (Nat.le_refl _) fun b hb=>?_
  have e1:h.next+1=b:=Option.some.inj hb
  have e2:¬b=M:=by omega
  simp only[go_sem,seval,e2]
 ·intro e
  have e1:h.next+1=M:=Option.some.inj e
  omega
 ·intro e
  have e1:h.next+1=W:=Option.some.inj e
  omega
 ·have e1:h.next+1=b:=Option.some.inj hb
  omega
 ·have e1:¬b=M:=fun e=>hn (.inl e)
  simp only[go_sem,seval,e1]
  exact keep b hb fun e=>hn (.inr (.inr e))
def F174(call:CallE):Prop:=∀h W i (x z:Int) cs n e,h.t.get W=some (.row (putList 0 cs T.e) n e)->cs[i]?=some (.int .u64 x)->i<n->call 174 [.ptr W i,.int .u64 z] h=some (.int .u64 x,⟨h.next,h.t.set W (.row (putList 0 (cs.set i (.int .u64 z)) T.e) n e)⟩)
theorem w92(P:Program){call:CallE}(h174:F174 call){h:H}{W i:Nat}{x z:Int}{cs:List AV}{n:Nat}{e:TypeId}(hg:h.t.get W=some (.row (putList 0 cs T.e) n e))(hi:cs[i]?=some (.int .u64 x))(hn:i<n):
 WF P call c92 [.ptr W i,.int .u64 z] h fun v h'=>v=.int .u64 x∧h'=⟨h.next,h.t.set W (.row (putList 0 (cs.set i (.int .u64 z)) T.e) n e)⟩:=by
 have k:=h174 h W i x z cs n e hg hi hn
 simp only[go_sem,seval,k]
def F92(call:CallE):Prop:=∀h W i (x z:Int) cs n e,h.t.get W=some (.row (putList 0 cs T.e) n e)->cs[i]?=some (.int .u64 x)->i<n->call 92 [.ptr W i,.int .u64 z] h=some (.int .u64 x,⟨h.next,h.t.set W (.row (putList 0 (cs.set i (.int .u64 z)) T.e) n e)⟩)
def F91(call:CallE):Prop:=∀h M W ws (t a:Int),MemH h M W ws->call 91 [.ptr M 0,.int .i64 t,.int .i64 a] h=some (.int .i64 (if t<0∨64<=t then 2 else if a<0∨(ws.length:Int)<=a then 3 else 0),h)
def F93(call:CallE):Prop:=∀h M W lv ws l,MemL h M W lv ws l->l.length<=1000000->∀a:AccT,∃v h',call 93 [.ptr M 0,.int .i64 a.th,.int .i64 a.ad,.int .u8 a.kd,.int .u64 a.o,.int .u64 a.w,.bool a.sw] h=some (v,h')∧(v=.tup []∧PostN M W lv ws (l++[a]) h h')
theorem MemL.mem{h:H}{M W:Nat}{lv:AV}{ws:List Int}{l:List AccT}(m:MemL h M W lv ws l):MemH h M W ws:=⟨⟨lv,m.g,m.l.one⟩,m.w,m.ne⟩
theorem MemL.set{h:H}{M W:Nat}{lv:AV}{ws:List Int}{l:List AccT}(m:MemL h M W lv ws l)(i:Nat)(z:Int):MemL ⟨h.next,h.t.set W (.row (putList 0 ((ws.map (AV.int .u64)).set i (.int .u64 z)) T.e) (ws.map (AV.int .u64)).length 194)⟩ M W lv (ws.set i z) l:=by
 have MW:=m.ne
 refine⟨by simp only[go_sem,seval,MW,List.length_set];exact m.g,?_,m.l.keep (Nat.le_refl _) fun b hb=>?_,m.ne,m.nM,m.nW,m.lM,m.lW⟩
 ·simp only[go_sem,seval]
  unfold rowL
  rw[List.map_set,List.length_set]
 ·have e1:¬b=W:=fun e=>m.nW (by rw[hb,e])
  simp only[go_sem,seval,e1]
theorem w25(P:Program){call:CallE}(h91:F91 call)(h92:F92 call)(h93:F93 call){h:H}{M W:Nat}{lv:AV}{ws:List Int}{l:List AccT}(m:MemL h M W lv ws l)(hl:l.length<=1000000){t:Int}(t0:0<=t)(t1:t<64){i:Nat}{x z:Int}(hx:ws[i]?=some x):
 WF P call c25 [.ptr M 0,.int .i64 t,.int .i64 (i:Int),.int .u64 z] h fun v h'=>v=.int .i64 0∧PostN M W lv (ws.set i z) (l++[⟨t,(i:Int),2,x,z,false⟩]) h h':=by
 have hi:i<ws.length:=(List.getElem?_eq_some_iff.1 hx).1
 have k1:=h91 h M W ws t (i:Int) m.mem
 rw[if_neg (by omega),if_neg (by omega)]at k1
 have hx1:(ws.map (AV.int .u64))[i]?=some (.int .u64 x):=by rw[List.getElem?_map,hx];rfl
 have k2:=h92 h W i x z _ _ _ m.w hx1 (by rw[List.length_map];exact hi)
 have gM:=m.g
 have e1:(i:Int)<(ws.length:Int):=by omega
 have k3:=h93 _ M W lv _ l (m.set i z) hl ⟨t,(i:Int),2,x,z,false⟩
 simp only[go_sem,seval,k1,gM,e1,Nat.mul_one,k2]
 refine opt_by k3 fun v3 h3 p3=>?_
 obtain⟨rfl,lv',m3,lo3,st3⟩:=p3
 simp only[go_sem,seval]
 refine⟨lv',m3,lo3,st3.next,fun b hb hn=>?_⟩
 rw[st3.old b hb hn]
 have e2:¬b=W:=fun e=>hn (.inr (.inl e))
 simp only[go_sem,seval,e2]
def F25(call:CallE):Prop:=∀h M W lv ws l (t:Int) (i:Nat) (x z:Int),MemL h M W lv ws l->l.length<=1000000->0<=t->t<64->ws[i]?=some x->∃v h',call 25 [.ptr M 0,.int .i64 t,.int .i64 (i:Int),.int .u64 z] h=some (v,h')∧(v=.int .i64 0∧PostN M W lv (ws.set i z) (l++[⟨t,(i:Int),2,x,z,false⟩]) h h')
@[go_sem]def c34:CF:=⟨1,(Sq [G 2] (Rq [a 3 0,qC 4 3 3 0,a 5 4,B 6 5 0,qy 7 5 3 6 64,O 8 5 7,a 2 8])),[.tmp 2]⟩
theorem w34(P:Program){call:CallE}{h:H}(t:Int):WF P call c34 [.int .i64 t] h fun v h'=>v=.bool (decide (0<=t∧t<64))∧h'=h:=by
 by_cases h0:t<0
 ·have e:¬(0<=t∧t<64):=by omega
  simp only[go_sem,seval,h0,e]
 ·by_cases h1:t<64
  ·have e:0<=t∧t<64:=by omega
   simp only[go_sem,seval,h0,h1,e]
  ·have e:¬(0<=t∧t<64):=by omega
   simp only[go_sem,seval,h0,h1,e]
def F34(call:CallE):Prop:=∀h (t:Int),call 34 [.int .i64 t] h=some (.bool (decide (0<=t∧t<64)),h)
theorem w94(h36:F34 call){h:H}{M W:Nat}{ws:List Int}{lg:AV}(m:RMem h M W ws lg){t a:Int}(t0:0<=t)(t1:t<64)(a0:0<=a)(a1:a<(ws.length:Int)):WF P call c94 [.ptr M 0,.int .i64 t,.int .i64 a] h fun v h'=>v=.int .i64 0∧h'=h:=by
 have gM:=m.g
 have k:=h36 h t
 have e:0<=t∧t<64:=⟨t0,t1⟩
 have e1:¬a<0:=by omega
 simp only[go_sem,seval,k,e,gM,e1,a1]
def F94(call:CallE):Prop:=∀h M W (ws:List Int) lg (t a:Int),RMem h M W ws lg->0<=t->t<64->0<=a->a<(ws.length:Int)->call 94 [.ptr M 0,.int .i64 t,.int .i64 a] h=some (.int .i64 0,h)
structure RMemL(h:H)(M W:Nat)(lv:AV)(ws:List Int)(l:List AccT):Prop where
 g:h.t.get M=some (rowL [.sl W 0 ws.length 1 none,lv] 154)
 w:h.t.get W=some (rowL (uL ws) 51)
 l:Own 6 296 h lv l.length (accL l)
 ne:M≠W
 nM:own lv≠some M
 nW:own lv≠some W
 lM:M<h.next
 lW:W<h.next
theorem RMemL.keep{h h':H}{M W:Nat}{lv:AV}{ws:List Int}{l:List AccT}(m:RMemL h M W lv ws l)(hn:h.next<=h'.next)(k:∀b,b<h.next->memS M W lv b->h'.t.get b=h.t.get b):RMemL h' M W lv ws l:=
 ⟨(k M m.lM (.inl rfl)).trans m.g,(k W m.lW (.inr (.inl rfl))).trans m.w,m.l.keep hn fun b hb=>k b (m.l.lt hb) (.inr (.inr hb)),m.ne,m.nM,m.nW,Nat.lt_of_lt_of_le m.lM hn,Nat.lt_of_lt_of_le m.lW hn⟩
theorem RMemL.step{h h':H}{M W:Nat}{lv:AV}{ws:List Int}{l:List AccT}(m:RMemL h M W lv ws l)(s:StepN h h'):RMemL h' M W lv ws l:=m.keep s.next fun b hb _=>s.old b hb
theorem RMemL.mem{h:H}{M W:Nat}{lv:AV}{ws:List Int}{l:List AccT}(m:RMemL h M W lv ws l):RMem h M W ws lv:=⟨m.g,m.l.one,m.w,m.ne⟩
def RPostN(M W:Nat)(lv:AV)(ws:List Int)(l:List AccT)(h h':H):Prop:=∃lv',RMemL h' M W lv' ws l∧(∀b,own lv'=some b->h.next<=b)∧Tch (memS M W lv) h h'
theorem app_step{HH:H}{lv:AV}{len:Nat}{cs src:List AV}{K:AV×H->Prop}(o:Own 6 296 HH lv len cs)(hs:src.length=6)(hl:len<=1000000)
 (hK:∀X:H,X.next=HH.next+1->Own 6 296 X (.sl HH.next 0 (len+1) 6 none) (len+1) (cs++src)->(∀b,b<HH.next->own lv≠some b->X.t.get b=HH.t.get b)->K (.sl HH.next 0 (len+1) 6 none,X)):@optI _ (appA HH 296 6 48 lv 1 src) ⟨K⟩:=
 opt_some (appA_own o (by decide) (by decide) (by omega) (by omega)) (hK _ rfl (own_app o (by decide) hs) fun b hb hn=>app_get hb hn)
theorem w95(P:Program){call:CallE}{h:H}{M W:Nat}{lv:AV}{ws:List Int}{l:List AccT}(m:RMemL h M W lv ws l)(hl:l.length<=1000000){t:Int}{i:Nat}{x z k:Int}{b:Bool}(hx:ws[i]?=some x):
 WF P call c95 [.ptr M 0,.int .i64 t,.int .i64 (i:Int),.int .u8 k,.int .u64 z,.bool b] h fun v h'=>v=.tup []∧RPostN M W lv (ws.set i z) (l++[⟨t,(i:Int),k,x,z,b⟩]) h h':=by
 have gM:=m.g
 have gW:=m.w
 have hM:=m.lM
 have hW:=m.lW
 have hi:i<ws.length:=(List.getElem?_eq_some_iff.1 hx).1
 have hul:=uL_len ws
 have hx1:(uL ws)[i]?=some (.int .u64 x):=by unfold uL;rw[List.getElem?_map,hx];rfl
 have e1:(i:Int)<(ws.length:Int):=by omega
 have MW:¬M=W:=m.ne
 have WM:¬W=M:=fun e=>MW e.symm
 have M1:¬M=h.next:=by omega
 have W1:¬W=h.next:=by omega
 have M2:¬M=h.next+1:=by omega
 have W2:¬W=h.next+1:=by omega
 have hi1:i+1<=ws.length:=hi
 have N1:¬h.next=W:=by omega
 have N2:¬h.next=M:=by omega
 have N3:¬h.next=h.next+1:=by omega
 have N4:¬h.next+1=W:=by omega
 have N5:¬h.next+1=M:=by omega
 have N7:¬h.next+1=h.next:=by omega
 have ov:=m.l.one
 simp only[go_sem,seval,gM,gW,e1,Nat.mul_one,hx1,hul,hi,hi1,MW,WM,M1,W1,M2,W2,N1,N2,N3,N4,N5,N7,ov]
 have ea:accL (l++[⟨t,(i:Int),k,x,z,b⟩])=accL l++[AV.int .i64 t,AV.int .i64 (i:Int),AV.int .u8 k,AV.int .u64 x,AV.int .u64 z,AV.bool b]:=by rw[accL_app];rfl
 refine app_step (m.l.keep (by show h.next<=h.next+2;omega) fun bb hb=>?_) rfl hl fun X nX oX kX=>?_
 ·have q1:=m.l.lt hb
  have q2:¬bb=h.next:=by omega
  have q3:¬bb=h.next+1:=by omega
  have q4:¬bb=W:=fun e=>m.nW (by rw[hb,e])
  simp only[go_sem,seval,q2,q3,q4]
 replace nX:X.next=h.next+3:=nX
 have gM1:=kX M (by show M<h.next+2;omega) m.nM
 have gW1:=kX W (by show W<h.next+2;omega) m.nW
 simp only[go_sem,seval,M1,M2,MW,gM]at gM1
 simp only[go_sem,seval,W1,W2]at gW1
 have M3:¬M=h.next+2:=by omega
 have nX2:h.next+2<=X.next:=by omega
 have gX1:=kX h.next (by show h.next<h.next+2;omega) fun e=>absurd (m.l.lt e) (Nat.lt_irrefl _)
 simp only[go_sem,seval]at gX1
 rw[if_neg N1]at gX1
 simp only[go_sem,seval,gM1,nX2,gX1,gM,MW,WM,M1,W1,M2,W2,N1,N2,N3,N4,N5,N7,ov]
 refine⟨.sl (h.next+2) 0 (l.length+1) 6 none,⟨?_,?_,?_,m.ne,fun e=>?_,fun e=>?_,by show M<X.next;omega,by show W<X.next;omega⟩,fun bb hb=>?_,⟨by show h.next<=X.next;omega,fun bb hb hn=>?_⟩⟩
 ·simp only[go_sem,seval,List.length_set]
  rfl
 ·simp only[go_sem,seval,WM,gW1,←uL_set]
  unfold rowL
  rw[List.length_set,hul]
 ·rw[ea,List.length_append]
  refine oX.keep (Nat.le_refl _) fun bb hb=>?_
  have q1:h.next+2=bb:=Option.some.inj hb
  have q2:¬bb=M:=by omega
  simp only[go_sem,seval,q2]
 ·have q1:h.next+2=M:=Option.some.inj e
  omega
 ·have q1:h.next+2=W:=Option.some.inj e
  omega
 ·have q1:h.next+2=bb:=Option.some.inj hb
  omega
 ·have q1:¬bb=M:=fun e=>hn (.inl e)
  have q2:¬bb=W:=fun e=>hn (.inr (.inl e))
  have q3:=kX bb (by show bb<h.next+2;omega) fun e=>hn (.inr (.inr e))
  have q4:¬bb=h.next:=by omega
  have q5:¬bb=h.next+1:=by omega
  simp only[go_sem,seval,q2,q4,q5]at q3
  simp only[go_sem,seval,q1,q3]
def F95(call:CallE):Prop:=∀h M W lv ws l (t:Int) (i:Nat) (x z k:Int) b,RMemL h M W lv ws l->l.length<=1000000->ws[i]?=some x->∃v h',call 95 [.ptr M 0,.int .i64 t,.int .i64 (i:Int),.int .u8 k,.int .u64 z,.bool b] h=some (v,h')∧(v=.tup []∧RPostN M W lv (ws.set i z) (l++[⟨t,(i:Int),k,x,z,b⟩]) h h')
theorem w26(P:Program){call:CallE}(h94:F94 call)(h95:F95 call){h:H}{M W:Nat}{lv:AV}{ws:List Int}{l:List AccT}(m:RMemL h M W lv ws l)(hl:l.length<=1000000){t:Int}(t0:0<=t)(t1:t<64){i:Nat}{x z:Int}(hx:ws[i]?=some x):
 WF P call c26 [.ptr M 0,.int .i64 t,.int .i64 (i:Int),.int .u64 z] h fun v h'=>v=.int .i64 0∧RPostN M W lv (ws.set i z) (l++[⟨t,(i:Int),2,x,z,false⟩]) h h':=by
 have hi:i<ws.length:=(List.getElem?_eq_some_iff.1 hx).1
 have k:=h94 h M W ws lv t (i:Int) m.mem t0 t1 (by omega) (by omega)
 simp only[go_sem,seval,k]
 refine opt_by (h95 h M W lv ws l t i x z 2 false m hl hx) fun v1 h1 p1=>?_
 obtain⟨rfl,p1⟩:=p1
 simp only[go_sem,seval]
 exact p1
def F26(call:CallE):Prop:=∀h M W lv ws l (t:Int) (i:Nat) (x z:Int),RMemL h M W lv ws l->l.length<=1000000->0<=t->t<64->ws[i]?=some x->∃v h',call 26 [.ptr M 0,.int .i64 t,.int .i64 (i:Int),.int .u64 z] h=some (v,h')∧(v=.int .i64 0∧RPostN M W lv (ws.set i z) (l++[⟨t,(i:Int),2,x,z,false⟩]) h h')
end
end Go.Proofs.YtghmnaojmpjglaaGreatDoor.PR
