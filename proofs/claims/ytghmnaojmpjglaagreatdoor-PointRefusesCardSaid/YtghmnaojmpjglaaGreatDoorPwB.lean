/-
  What functions of the program compute, one by one. Conditions: those of each theorem.
-/
import Derived.Test.YtghmnaojmpjglaaGreatDoorPwA
set_option linter.all false
namespace Go.Proofs.YtghmnaojmpjglaaGreatDoor.PR
open Go.Proofs.YtghmnaojmpjglaaGreatDoor.Eo
noncomputable section
variable(P:Program)[PT P]{call:CallE}
@[go_sem]def c156:CF:=⟨5,(Sq [b 8 0] (Sq [i 10 3,a 9 10] (Qq (.drw ⟨[([qd 0 4,qd 1 4,n 2 12 1,j 3 13 2 26,k 4 14 3,g 5 0,g 6 9,g 7 1,g 8 2,⟨9,[(16,some 5),(17,some 6),(18,some 7),(19,some 8)],none,.p (.build [bz,iz,iz,iz] [(0,1,.t 16),(1,1,.t 17),(2,1,.t 18),(3,1,.t 19)])⟩,⟨10,[(20,some 9)],none,.n (.buildS 318 4 1 [bz,iz,iz,iz] [(0,4,.t 20)])⟩],some (qQ 11 15 4 21 10 318 4 32)),([n 12 11 0,j 13 23 12 26],some (R 14 24 13 22 11 1)),([],none)],[(0,11),(1,12),(2,13),(3,14),(4,15),(5,16),(6,17),(7,18),(8,19),(9,20),(10,21),(11,22),(12,23),(13,24)],[(⟨0,[(4,none)],none,.r (.ld none (.t 4))⟩,[0,1]),(⟨1,[(4,none)],none,.r (.ld none (.t 4))⟩,[0]),(⟨4,[(14,(some 3))],none,.r (.ld none (.t 14))⟩,[0])]⟩) (Sq [i 25 3,a 26 1,a 27 2,⟨some 28,none,.p (.bin .mul 3 false false (.t 26) (.t 27))⟩,qf 29 3 25 28,t 1 3 29] (Rq [a 30 9,a 8 30]))))),[.tmp 8]⟩
def c77_l14:CC:=(Sq [qb 43 3 42 41] (Qq (Cq 43 .skip (.exit 2)) (Qq (.block 3 (.drw ⟨[([qd 0 5,qd 1 5,n 2 45 1,j 3 46 2 27,k 4 47 3,g 5 6,qY 6 49 5 3 1,z3 7 50 6 3 1 1 0 0 1],some (qQ 8 48 4 51 7 3 1 8)),([n 9 44 0,j 10 53 9 27],some (R 11 54 10 52 8 1)),([],none)],[(0,44),(1,45),(2,46),(3,47),(4,48),(5,49),(6,50),(7,51),(8,52),(9,53),(10,54)],[(⟨0,[(5,none)],none,.r (.ld none (.t 5))⟩,[0,1]),(⟨1,[(5,none)],none,.r (.ld none (.t 5))⟩,[0]),(⟨4,[(47,(some 3))],none,.r (.ld none (.t 47))⟩,[0])]⟩)) (Oq [C 55 3 42 1,a 42 55]))))
def c77_l16:CC:=(Sq [K 38 3 37 6] (Qq (Cq 38 .skip (.exit 0)) (Qq (.block 1 (Sq [a 39 37,zV 40 6 3 1 36 37,a 6 39,a 7 40] (Sq [a 41 7,b 42 0] (.block 2 (.loop c77_l14))))) (Oq [C 56 3 37 1,a 37 56]))))
def c77_l34:CC:=(Sq [qb 134 3 133 132] (Qq (Cq 134 .skip (.exit 4)) (Qq (.block 5 (Sq [E 135 1 131 133,i 136 135,a 11 136] (Qq (.drw ⟨[([qd 0 5,qd 1 5,n 2 138 1,j 3 139 2 28,k 4 140 3,qd 5 8,z3 6 142 5 3 1 1 0 0 1],some (qQ 7 141 4 143 6 3 1 8)),([n 8 137 0,j 9 145 8 28],some (R 10 146 9 144 7 1)),([],none)],[(0,137),(1,138),(2,139),(3,140),(4,141),(5,142),(6,143),(7,144),(8,145),(9,146)],[(⟨0,[(5,none)],none,.r (.ld none (.t 5))⟩,[0,1]),(⟨1,[(5,none)],none,.r (.ld none (.t 5))⟩,[0]),(⟨4,[(140,(some 3))],none,.r (.ld none (.t 140))⟩,[0]),(⟨5,[(8,none)],none,.r (.ld none (.t 8))⟩,[0])]⟩) (Oq [i 147 8,a 148 11,zF 149 3 5 148,qf 150 3 147 149,t 1 8 150])))) (Oq [C 151 3 133 1,a 133 151]))))
@[go_sem]def c77:CF:=⟨1,(Sq [w 1 27 0,p 2,b 3 0] (Qq (Sq [V 12 16 1,q 13 153 12,a 4 13] (Sq [a 14 4,z 15 54 14 0] (Kq 15 [a 16 4,p 2,a 3 16] .skip))) (Sq [d 17 4 1,d 18 2 17,i 19 18,q 20 154 19,d 21 4 1,d 22 2 21,t 1 22 20] (Sq [V 23 16 1,⟨some 24,none,.p (.build [iz,iz,bz,iz,bz,iz,.nils,iz,iz,iz,iz,iz,iz,iz,iz,iz,iz,iz,iz,iz,iz,iz,iz,iz,iz,iz,.nils,.nils,.nils,iz] [(0,16,.t 23)])⟩,w 25 315 24,⟨some 5,none,.n (.new 91 [.nilp])⟩,t 1 5 25] (Qq (.drw ⟨[([qd 0 5,S 1 1 4,qD 2 28 1 3],some (qg 3 29 2 155)),([y 4 30 3,N 5 26 4 0,N 6 26 4 1,n 7 27 0,j 8 33 7 29],some (R 9 34 8 31 5 1)),([],none)],[(0,27),(1,28),(2,29),(3,30),(4,26),(5,31),(6,32),(7,33),(8,34)],[(⟨0,[(5,none)],none,.r (.ld none (.t 5))⟩,[1])]⟩) (Qq (Sq [d 35 7 1,V 36 6 35,b 37 0] (.block 0 (.loop c77_l16))) (Sq [⟨some 8,none,.n (.new 3 [.int .i64 0])⟩,z4 1 8 0] (Sq [z5 57 156 8 5,a 9 57] (Qq (.drw ⟨[([qd 0 5,g 1 9,S 2 1 1,k 3 60 2],some (q6 4 59 1 61 3 1 1)),([n 5 58 0,j 6 63 5 16,j 7 64 6 0],some (R 8 65 7 62 4 1)),([],none)],[(0,58),(1,59),(2,60),(3,61),(4,62),(5,63),(6,64),(7,65)],[(⟨0,[(5,none)],none,.r (.ld none (.t 5))⟩,[1])]⟩) (Qq (.drw ⟨[([qd 0 5,g 1 9,zE 2 1 16],some (qg 3 68 2 157)),([],some ⟨4,[(67,some 1),(69,some 3)],none,.cv (.t 67) [.c (.int .u8 2),.c (.int .i64 1),.t 69]⟩),([n 5 66 0,j 6 71 5 16,j 7 72 6 1],some (R 8 73 7 70 4 1)),([],none)],[(0,66),(1,67),(2,68),(3,69),(4,70),(5,71),(6,72),(7,73)],[(⟨0,[(5,none)],none,.r (.ld none (.t 5))⟩,[1,2])]⟩) (Qq (.drw ⟨[([qd 0 5,g 1 9],some (z6 2 75 1 3 1 1)),([n 3 74 0,j 4 77 3 16,j 5 78 4 2],some (R 6 79 5 76 2 1)),([],none)],[(0,74),(1,75),(2,76),(3,77),(4,78),(5,79)],[(⟨0,[(5,none)],none,.r (.ld none (.t 5))⟩,[1])]⟩) (Qq (.drw ⟨[([qd 0 5,g 1 9,S 2 1 13,k 3 82 2],some (q6 4 81 1 83 3 4 3)),([n 5 80 0,j 6 85 5 16,j 7 86 6 3],some (R 8 87 7 84 4 1)),([],none)],[(0,80),(1,81),(2,82),(3,83),(4,84),(5,85),(6,86),(7,87)],[(⟨0,[(5,none)],none,.r (.ld none (.t 5))⟩,[1])]⟩) (Qq (.drw ⟨[([qd 0 5,g 1 9,S 2 1 13,k 3 90 2],some (q6 4 89 1 91 3 5 1)),([n 5 88 0,j 6 93 5 16,j 7 94 6 4],some (R 8 95 7 92 4 1)),([],none)],[(0,88),(1,89),(2,90),(3,91),(4,92),(5,93),(6,94),(7,95)],[(⟨0,[(5,none)],none,.r (.ld none (.t 5))⟩,[1])]⟩) (Qq (.drw ⟨[([qd 0 5,g 1 9],some (z6 2 97 1 6 6 1)),([n 3 96 0,j 4 99 3 16,j 5 100 4 5],some (R 6 101 5 98 2 1)),([],none)],[(0,96),(1,97),(2,98),(3,99),(4,100),(5,101)],[(⟨0,[(5,none)],none,.r (.ld none (.t 5))⟩,[1])]⟩) (Qq (.drw ⟨[([qd 0 5,g 1 9,qd 2 5,n 3 104 2,j 4 105 3 27,k 5 106 4,q7 6 107 5],some (q6 7 103 1 108 6 7 1)),([n 8 102 0,j 9 110 8 16,j 10 111 9 6],some (R 11 112 10 109 7 1)),([],none)],[(0,102),(1,103),(2,104),(3,105),(4,106),(5,107),(6,108),(7,109),(8,110),(9,111),(10,112)],[(⟨0,[(5,none)],none,.r (.ld none (.t 5))⟩,[1])]⟩) (Qq (.drw ⟨[([qd 0 5,g 1 9,qd 2 5,n 3 115 2,j 4 116 3 29,k 5 117 4],some (q6 6 114 1 118 5 8 7)),([n 7 113 0,j 8 120 7 16,j 9 121 8 7],some (R 10 122 9 119 6 1)),([],none)],[(0,113),(1,114),(2,115),(3,116),(4,117),(5,118),(6,119),(7,120),(8,121),(9,122)],[(⟨0,[(5,none)],none,.r (.ld none (.t 5))⟩,[1])]⟩) (Sq [i 123 5,i 124 8,m 125 123,d 126 16 125,d 127 8 126,t 1 127 124] (Qq (Sq [i 128 5,m 129 128,d 130 27 129,i 131 130,A 132 131,b 133 0] (.block 4 (.loop c77_l34))) (Sq [i 152 5,i 153 8,m 154 152,d 155 16 154,d 156 9 155,t 1 156 153] (Rq [i 157 5,a 2 157,b 3 0])))))))))))))))))))),[.tmp 2,.tmp 3]⟩
structure Placed(L A:Nat)(at':Int)(gv:AV)(gl:Nat)(c:CfgT)(cv:AV)(p:PlT)(hv tv val:AV)(h h':H):Prop where
 gL:∃gv' gcs',h'.t.get L=some (rowL (cfgC c cv++(plC p++[gv',hv,tv,val])) 315)∧Own 4 318 h' gv' (gl+1) gcs'∧(∀a,own gv'=some a->h.next<=a)
 gA:h'.t.get A=some (rowL [.int .i64 at'] 3)
 next:h.next<=h'.next
 old:∀b,b<h.next->b≠L->b≠A->own gv≠some b->h'.t.get b=h.t.get b
theorem w156(P:Program){call:CallE}{h:H}{A X L gl:Nat}{c:CfgT}{cv gv hv tv val:AV}{p:PlT}{gcs:List AV}{k at0 m w:Int}
 (gA:h.t.get A=some (rowL [.int .i64 at0] 3)) (gX:h.t.get X=some (rowL [.ptr L 0] 91)) (gL:h.t.get L=some (rowL (cfgC c cv++(plC p++[gv,hv,tv,val])) 315)) (og:Own 4 318 h gv gl gcs) (hgl:gl<=100)
 (lA:A<h.next) (lX:X<h.next) (lL:L<h.next) (nXA:X≠A) (nLA:L≠A) (nXL:X≠L) (oA:own gv≠some A) (oX:own gv≠some X) (oL:own gv≠some L) (hm:0<=m∧m<=200) (hw:0<=w∧w<=200) (ha:0<=at0∧at0<=1000000):
 WF P call c156 [.int .u8 k,.int .i64 m,.int .i64 w,.ptr A 0,.ptr X 0] h fun v h'=>v=.int .i64 at0∧Placed L A (at0+m*w) gv gl c cv p hv tv val h h':=by
 have ogv:=og.one
 have hmw:0<=m*w∧m*w<=40000:=⟨Int.mul_nonneg hm.1 hw.1,by have h1:=Int.mul_le_mul hm.2 hw.2 hw.1 (by omega);omega⟩
 have f1:fw .i64 (m*w)=m*w:=fwI (by omega) (by omega)
 have f2:fw .i64 (at0+m*w)=at0+m*w:=fwI (by omega) (by omega)
 have a1:¬A=h.next:=by omega
 have x1:¬X=h.next:=by omega
 have l1:¬L=h.next:=by omega
 have st0:=StepN.new h (.row (putList 0 [.int .u8 k,.int .i64 at0,.int .i64 m,.int .i64 w] T.e) 4 318)
 have og1:Own 4 318 ⟨h.next+1,h.t.set h.next (.row (putList 0 [.int .u8 k,.int .i64 at0,.int .i64 m,.int .i64 w] T.e) 4 318)⟩ gv gl gcs:=og.keep st0.next fun b hb=>st0.old b (og.lt hb)
 simp only[go_sem,seval,gA,gX,gL,a1,x1,l1,cfgC,plC]
 refine opt_some (appA_own og1 (by decide) (by decide) (by omega) (by omega)) ?_
 have gL1:=app_get (h:=⟨h.next+1,h.t.set h.next (.row (putList 0 [.int .u8 k,.int .i64 at0,.int .i64 m,.int .i64 w] T.e) 4 318)⟩) (e:=318) (v:=gv) (cs:=gcs++[.int .u8 k,.int .i64 at0,.int .i64 m,.int .i64 w]) (b:=L) (by show L<h.next+1;omega) oL
 have gX1:=app_get (h:=⟨h.next+1,h.t.set h.next (.row (putList 0 [.int .u8 k,.int .i64 at0,.int .i64 m,.int .i64 w] T.e) 4 318)⟩) (e:=318) (v:=gv) (cs:=gcs++[.int .u8 k,.int .i64 at0,.int .i64 m,.int .i64 w]) (b:=X) (by show X<h.next+1;omega) oX
 have gA1:=app_get (h:=⟨h.next+1,h.t.set h.next (.row (putList 0 [.int .u8 k,.int .i64 at0,.int .i64 m,.int .i64 w] T.e) 4 318)⟩) (e:=318) (v:=gv) (cs:=gcs++[.int .u8 k,.int .i64 at0,.int .i64 m,.int .i64 w]) (b:=A) (by show A<h.next+1;omega) oA
 have oA1:=own_app og1 (src:=[.int .u8 k,.int .i64 at0,.int .i64 m,.int .i64 w]) (n:=1) (by decide) rfl
 have ov1:=oA1.one
 simp only[go_sem,seval,a1,x1,l1,gL,gX,gA,cfgC,plC]at gL1 gX1 gA1
 have nAL:¬A=L:=fun e=>nLA e.symm
 have nX1:¬X=L:=nXL
 simp only[go_sem,seval,gL1,gX1,gA1,nAL,nX1,ov1,app_next,f1,f2,a1,x1,l1,gL,gX,gA,cfgC,plC]
 refine⟨⟨appV ⟨h.next+1,h.t.set h.next (.row (putList 0 [.int .u8 k,.int .i64 at0,.int .i64 m,.int .i64 w] T.e) 4 318)⟩ 4 (gl+1),gcs++[.int .u8 k,.int .i64 at0,.int .i64 m,.int .i64 w],?_,?_,?_⟩,?_,?_,?_⟩
 ·have n1:¬L=A:=nLA
  simp only[go_sem,seval,n1,cfgC,plC]
  rfl
 ·refine oA1.keep (by show h.next+1+1<=h.next+2;omega) fun b hb=>?_
  rw[own_appV]at hb
  obtain rfl:=Option.some.inj hb
  have n1:¬h.next+1=A:=by omega
  have n2:¬h.next+1=L:=by omega
  simp only[go_sem,seval,n1,n2]
 ·intro a ha
  rw[own_appV]at ha
  obtain rfl:=Option.some.inj ha
  show h.next<=h.next+1
  omega
 ·simp only[go_sem,seval]
  rfl
 ·show h.next<=h.next+2
  omega
 ·intro b hb b1 b2 b3
  have n1:¬b=h.next:=by omega
  have g1:=app_get (h:=⟨h.next+1,h.t.set h.next (.row (putList 0 [.int .u8 k,.int .i64 at0,.int .i64 m,.int .i64 w] T.e) 4 318)⟩) (e:=318) (v:=gv) (cs:=gcs++[.int .u8 k,.int .i64 at0,.int .i64 m,.int .i64 w]) (b:=b) (by show b<h.next+1;omega) b3
  simp only[go_sem,seval,n1]at g1
  simp only[go_sem,seval,b1,b2,g1]
def htL:Int->List Int->List Int
 |_,[]=>[]
 |i,t::l=>List.replicate t.toNat (i+1)++htL (i+1) l
def plZ:PlT:=⟨0,0,0,0,0,0,0,0,0,0⟩
structure LS(g0:Nat->Option AO)(L:Nat)(c:CfgT)(cv val:AV)(hs:List Int)(h:H):Prop where
 old:∀b,b<L->h.t.get b=g0 b
 x:h.t.get (L+1)=some (rowL [.ptr L 0] 91)
 nx:L+2<=h.next
 ex:∃hv,h.t.get L=some (rowL (cfgC c cv++(plC plZ++[.nils,hv,.nils,val])) 315)∧Own 1 3 h hv hs.length (iL hs)∧(∀a,own hv=some a->L+2<=a)
def At20(B L:Nat)(ts:List Int)(i:Int)(tm:T AV):Prop:=tm.get 1=some (.ptr B 0)∧tm.get 5=some (.ptr (L+1) 0)∧tm.get 36=some (.agg (iL ts))∧tm.get 37=some (.int .i64 i)
def I14(g0:Nat->Option AO)(B L:Nat)(c:CfgT)(cv val:AV)(ts:List Int)(i:Int)(hs0:List Int)(n k:Nat)(tm:T AV)(h:H):Prop:=
 At20 B L ts i tm∧tm.get 6=some (.int .i64 i)∧tm.get 41=some (.int .i64 (n:Int))∧∃j:Nat,j+k=n∧tm.get 42=some (.int .i64 (j:Int))∧LS g0 L c cv val (hs0++List.replicate j (i+1)) h
theorem step14(P:Program){call:CallE}{g0:Nat->Option AO}{B L:Nat}{c:CfgT}{cv val:AV}{ts:List Int}{i:Int}{hs0:List Int}{n:Nat}(hv1:oneA cv=true)(hv2:oneA val=true)(hn:hs0.length+n<=1000)(hi:0<=i∧i<=100)(k:Nat)(tm:T AV)(h:H)(hI:I14 g0 B L c cv val ts i hs0 n k tm h):
 WC P call c77_l14 (loopQ 2 (fun tm h=>∃j,j<k∧I14 g0 B L c cv val ts i hs0 n j tm h) (fun tm h=>At20 B L ts i tm∧LS g0 L c cv val (hs0++List.replicate n (i+1)) h) (fun _ _=>False)) tm h:=by
 obtain⟨⟨t1,t5,t36,t37⟩,t6,t41,j,hjk,t42,ls⟩:=hI
 cases k with
 |zero=>
  have e1:¬(j:Int)<(n:Int):=by omega
  simp only[go_sem,seval,c77_l14,t41,t42,e1]
  obtain rfl:j=n:=by omega
  exact⟨⟨by simp[go_sem,t1],by simp[go_sem,t5],by simp[go_sem,t36],by simp[go_sem,t37]⟩,ls⟩
 |succ k=>
  have e1:(j:Int)<(n:Int):=by omega
  obtain⟨old,gX,nx,hv,gL,oh,ohl⟩:=ls
  have f1:fw .i64 (i+1)=i+1:=fwI (by omega) (by omega)
  have f2:fw .i64 ((j:Int)+1)=(j:Int)+1:=fwI (by omega) (by omega)
  have e3:((j+1:Nat):Int)=(j:Int)+1:=rfl
  have ov:=oh.one
  have x1:¬L+1=h.next:=by omega
  have l1:¬L=h.next:=by omega
  have xl:¬L+1=L:=by omega
  have st0:=StepN.new h (.row (putList 0 [.int .i64 (i+1)] T.e) 1 3)
  have oh1:Own 1 3 ⟨h.next+1,h.t.set h.next (.row (putList 0 [.int .i64 (i+1)] T.e) 1 3)⟩ hv _ _:=oh.keep st0.next fun b hb=>st0.old b (oh.lt hb)
  have hlen:(hs0++List.replicate j (i+1)).length=hs0.length+j:=by rw[List.length_append,List.length_replicate]
  generalize hhs:hs0++List.replicate j (i+1)=hs at oh oh1 hlen gL
  simp only[go_sem,seval,c77_l14,t1,t5,t6,t36,t37,t41,t42,e1,gX,gL,x1,l1,cfgC,plC,f1]
  refine opt_some (appA_own oh1 (by decide) (by decide) (by omega) (by omega)) ?_
  have gL1:=app_get (h:=⟨h.next+1,h.t.set h.next (.row (putList 0 [.int .i64 (i+1)] T.e) 1 3)⟩) (e:=3) (v:=hv) (cs:=iL hs++[.int .i64 (i+1)]) (b:=L) (by show L<h.next+1;omega) (fun hh=>by have:=ohl _ hh;omega)
  have gX1:=app_get (h:=⟨h.next+1,h.t.set h.next (.row (putList 0 [.int .i64 (i+1)] T.e) 1 3)⟩) (e:=3) (v:=hv) (cs:=iL hs++[.int .i64 (i+1)]) (b:=L+1) (by show L+1<h.next+1;omega) (fun hh=>by have:=ohl _ hh;omega)
  have oA1:=own_app oh1 (src:=[.int .i64 (i+1)]) (n:=1) (by decide) rfl
  have ov1:=oA1.one
  simp only[go_sem,seval,x1,l1,gL,gX,cfgC,plC]at gL1 gX1
  simp only[go_sem,seval,gL1,gX1,xl,ov1,app_next,f2,t1,t5,t36,t37,t6,t41,t42,x1,l1,gL,gX,cfgC,plC]
  have ehs:hs0++List.replicate (j+1) (i+1)=hs++[i+1]:=by rw[←hhs,List.replicate_succ',List.append_assoc]
  refine⟨k,Nat.lt_succ_self k,⟨by simp[go_sem,t1],by simp[go_sem,t5],by simp[go_sem,t36],by simp[go_sem,t37]⟩,by simp[go_sem,t6],by simp[go_sem,t41],j+1,by omega,by simp[go_sem,e3],?_⟩
  rw[ehs]
  refine⟨fun b hb=>?_,by simp[go_sem,xl,gX1],by show L+2<=h.next+2;omega,appV ⟨h.next+1,h.t.set h.next (.row (putList 0 [.int .i64 (i+1)] T.e) 1 3)⟩ 1 (hs.length+1),by simp[go_sem,cfgC,plC],?_,?_⟩
  ·have n1:¬b=h.next:=by omega
   have n2:¬b=L:=by omega
   have g1:=app_get (h:=⟨h.next+1,h.t.set h.next (.row (putList 0 [.int .i64 (i+1)] T.e) 1 3)⟩) (e:=3) (v:=hv) (cs:=iL hs++[.int .i64 (i+1)]) (b:=b) (by show b<h.next+1;omega) (fun hh=>by have:=ohl _ hh;omega)
   simp only[go_sem,seval,n1]at g1
   simp only[go_sem,seval,n2,g1]
   exact old b hb
  ·have e4:iL hs++[.int .i64 (i+1)]=iL (hs++[i+1]):=by unfold iL;rw[List.map_append];rfl
   rw[e4]at oA1
   rw[List.length_append]
   refine oA1.keep (by show h.next+1+1<=h.next+2;omega) fun b hb=>?_
   rw[own_appV]at hb
   obtain rfl:=Option.some.inj hb
   have n2:¬h.next+1=L:=by omega
   simp only[go_sem,seval,n2,e4]
  ·intro a ha
   rw[own_appV]at ha
   obtain rfl:=Option.some.inj ha
   show L+2<=h.next+1
   omega
def I16(g0:Nat->Option AO)(B L:Nat)(c:CfgT)(cv val:AV)(ts:List Int)(k:Nat)(tm:T AV)(h:H):Prop:=
 ∃i:Nat,i+k=6∧At20 B L ts i tm∧∃hs,hs++htL i (ts.drop i)=htL 0 ts∧LS g0 L c cv val hs h
theorem step16{g0:Nat->Option AO}{B L:Nat}{c:CfgT}{cv val:AV}{ts:List Int}(hv1:oneA cv=true)(hv2:oneA val=true)(hts:ts.length=6)(hpos:∀t∈ts,0<=t)(hn:(htL 0 ts).length<=1000)(k:Nat)(tm:T AV)(h:H)(hI:I16 g0 B L c cv val ts k tm h):
 WC P call c77_l16 (loopQ 0 (fun tm h=>∃j,j<k∧I16 g0 B L c cv val ts j tm h) (fun tm h=>tm.get 1=some (.ptr B 0)∧tm.get 5=some (.ptr (L+1) 0)∧LS g0 L c cv val (htL 0 ts) h) (fun _ _=>False)) tm h:=by
 obtain⟨i,hik,⟨t1,t5,t36,t37⟩,hs,hhs,ls⟩:=hI
 cases k with
 |zero=>
  obtain rfl:i=6:=by omega
  simp only[go_sem,seval,c77_l16,t37]
  rw[List.drop_eq_nil_of_le (by omega),show htL ((6:Nat):Int) []=[]from rfl,List.append_nil]at hhs
  rw[hhs]at ls
  exact⟨by simp[go_sem,t1],by simp[go_sem,t5],ls⟩
 |succ k=>
  have e1:(i:Int)<6:=by omega
  have hi:i<ts.length:=by omega
  have e6:(iL ts)[i]?=some (.int .i64 ts[i]):=by unfold iL;rw[List.getElem?_map,List.getElem?_eq_getElem hi];rfl
  have f1:fw .i64 ((i:Int)+1)=(i:Int)+1:=fwI (by omega) (by omega)
  have e3:((i+1:Nat):Int)=(i:Int)+1:=rfl
  have h0:=hpos ts[i] (List.getElem_mem hi)
  obtain⟨n,hn0⟩:∃n:Nat,ts[i]=(n:Int):=⟨ts[i].toNat,by omega⟩
  have hd:htL i (ts.drop i)=List.replicate n ((i:Int)+1)++htL ((i+1:Nat):Int) (ts.drop (i+1)):=by
   rw[List.drop_eq_getElem_cons hi,htL,hn0];rfl
  have hlen:hs.length+n<=1000:=by
   have:=congrArg List.length hhs
   rw[hd,List.length_append,List.length_append,List.length_replicate]at this
   omega
  rw[hn0]at e6
  simp only[go_sem,seval,c77_l16,t1,t5,t36,t37,e1,part3,Nat.mul_one,e6]
  trace_state
  refine loop_in (I14 g0 B L c cv val ts i hs n) _ _ (fun k tm h' hI=>step14 P hv1 hv2 hlen (by omega) k tm h' hI) (fun tm2 h2 hR=>?_) (fun _ _ hh=>hh.elim) n _ _
   ⟨⟨by simp[go_sem,t1],by simp[go_sem,t5],by simp[go_sem,t36],by simp[go_sem,t37]⟩,by simp[go_sem],by simp[go_sem],0,by omega,by simp[go_sem],by rw[List.replicate_zero,List.append_nil];exact ls⟩
  obtain⟨⟨s1,s5,s36,s37⟩,ls2⟩:=hR
  simp only[go_sem,seval,s1,s5,s36,s37,f1]
  refine⟨k,Nat.lt_succ_self k,i+1,by omega,⟨by simp[go_sem,s1],by simp[go_sem,s5],by simp[go_sem,s36],by simp[go_sem,e3]⟩,_,?_,ls2⟩
  rw[List.append_assoc,←hd,hhs]
end
end Go.Proofs.YtghmnaojmpjglaaGreatDoor.PR
namespace Go.Proofs.YtghmnaojmpjglaaGreatDoor.PR
open Go.Proofs.YtghmnaojmpjglaaGreatDoor.Eo
noncomputable section
structure Lay1(g0:Nat->Option AO)(L A:Nat)(c:CfgT)(cv:AV)(p:PlT)(hv:AV)(hs:List Int)(tv val:AV)(gl:Nat)(at0:Int)(h:H):Prop where
 old:∀b,b<L->h.t.get b=g0 b
 x:h.t.get (L+1)=some (rowL [.ptr L 0] 91)
 a:h.t.get A=some (rowL [.int .i64 at0] 3)
 lA:L+1<A
 nx:A<h.next
 ex:∃gv gcs,h.t.get L=some (rowL (cfgC c cv++(plC p++[gv,hv,tv,val])) 315)∧Own 4 318 h gv gl gcs∧(∀a,own gv=some a->A<a)
 oh:Own 1 3 h hv hs.length (iL hs)
 ohl:∀a,own hv=some a->L+2<=a∧a<A
section
variable {g0:Nat->Option AO} {L A:Nat} {c:CfgT} {cv:AV} {p:PlT} {hv:AV} {hs:List Int} {tv val:AV} {gl:Nat} {at0:Int} {h h':H}
theorem Lay1.step(l:Lay1 g0 L A c cv p hv hs tv val gl at0 h)(s:StepN h h'):Lay1 g0 L A c cv p hv hs tv val gl at0 h':=by
 have h1:=l.lA
 have h2:=l.nx
 obtain⟨gv,gcs,gL,og,ol⟩:=l.ex
 exact⟨fun b hb=>(s.old b (by omega)).trans (l.old b hb),(s.old _ (by omega)).trans l.x,(s.old _ h2).trans l.a,h1,Nat.lt_of_lt_of_le h2 s.next,⟨gv,gcs,(s.old _ (by omega)).trans gL,og.keep s.next fun b hb=>s.old b (og.lt hb),ol⟩,l.oh.keep s.next fun b hb=>s.old b (l.oh.lt hb),l.ohl⟩
theorem Lay1.setp(l:Lay1 g0 L A c cv p hv hs tv val gl at0 h){gv:AV}{gcs:List AV}(og:Own 4 318 h gv gl gcs)(ol:∀a,own gv=some a->A<a)(p':PlT):Lay1 g0 L A c cv p' hv hs tv val gl at0 ⟨h.next,h.t.set L (rowL (cfgC c cv++(plC p'++[gv,hv,tv,val])) 315)⟩:=by
 have h1:=l.lA
 have h2:=l.nx
 have e1:¬L+1=L:=by omega
 have e2:¬A=L:=by omega
 refine⟨fun b hb=>?_,?_,?_,h1,h2,⟨gv,gcs,?_,og.keep (Nat.le_refl _) fun b hb=>?_,ol⟩,l.oh.keep (Nat.le_refl _) fun b hb=>?_,l.ohl⟩
 ·have e3:¬b=L:=by omega
  simp only[go_sem,seval,e3]
  exact l.old b hb
 ·simp only[go_sem,seval,e1]
  exact l.x
 ·simp only[go_sem,seval,e2]
  exact l.a
 ·simp only[go_sem,seval]
 ·have:=ol b hb
  have e3:¬b=L:=by omega
  simp only[go_sem,seval,e3]
 ·have:=l.ohl b hb
  have e3:¬b=L:=by omega
  simp only[go_sem,seval,e3]
theorem Placed.lay{gv:AV}{gcs0:List AV}{at':Int}(l:Lay1 g0 L A c cv p hv hs tv val gl at0 h)(og0:Own 4 318 h gv gl gcs0)(ol:∀a,own gv=some a->A<a)(pl:Placed L A at' gv gl c cv p hv tv val h h'):Lay1 g0 L A c cv p hv hs tv val (gl+1) at' h':=by
 have h1:=l.lA
 have h2:=l.nx
 obtain⟨gv',gcs',gL,og,og'⟩:=pl.gL
 have no:∀b,b<A->own gv≠some b:=fun b hb hh=>by have:=ol b hh;omega
 refine⟨fun b hb=>(pl.old b (by omega) (by omega) (by omega) (no b (by omega))).trans (l.old b hb),(pl.old _ (by omega) (by omega) (by omega) (no _ (by omega))).trans l.x,pl.gA,h1,Nat.lt_of_lt_of_le h2 pl.next,⟨gv',gcs',gL,og,fun a ha=>Nat.lt_of_lt_of_le h2 (og' a ha)⟩,l.oh.keep pl.next fun b hb=>?_,l.ohl⟩
 have:=l.ohl b hb
 exact pl.old b (l.oh.lt hb) (by omega) (by omega) (no b (by omega))
end
def F156(call:CallE):Prop:=∀g0 L A c cv p hv hs tv val gl at0 h (k m w:Int),Lay1 g0 L A c cv p hv hs tv val gl at0 h->gl<=100->0<=m∧m<=200->0<=w∧w<=200->0<=at0∧at0<=1000000->
 ∃v h',call 156 [.int .u8 k,.int .i64 m,.int .i64 w,.ptr A 0,.ptr (L+1) 0] h=some (v,h')∧(v=.int .i64 at0∧Lay1 g0 L A c cv p hv hs tv val (gl+1) (at0+m*w) h'∧h.next<=h'.next)
theorem WF_mono{P:Program}{call:CallE}{cf:CF}{args:List AV}{h:H}{Q Q':AV->H->Prop}(hw:WF P call cf args h Q)(hk:∀v h',Q v h'->Q' v h'):WF P call cf args h Q':=by
 obtain⟨v,h',q,_,k⟩:=WF_two hw hw
 exact k Q' (hk _ _ q)
theorem w156'(P:Program){call:CallE}{g0:Nat->Option AO}{L A:Nat}{c:CfgT}{cv:AV}{p:PlT}{hv:AV}{hs:List Int}{tv val:AV}{gl:Nat}{at0:Int}{h:H}{k m w:Int}(l:Lay1 g0 L A c cv p hv hs tv val gl at0 h)(hgl:gl<=100)(hm:0<=m∧m<=200)(hw:0<=w∧w<=200)(ha:0<=at0∧at0<=1000000):
 WF P call c156 [.int .u8 k,.int .i64 m,.int .i64 w,.ptr A 0,.ptr (L+1) 0] h fun v h'=>v=.int .i64 at0∧Lay1 g0 L A c cv p hv hs tv val (gl+1) (at0+m*w) h'∧h.next<=h'.next:=by
 obtain⟨gv,gcs,gL,og,ol⟩:=l.ex
 have h1:=l.lA
 have h2:=l.nx
 have no:∀b,b<=A->own gv≠some b:=fun b hb hh=>by have:=ol b hh;omega
 refine WF_mono (w156 P l.a l.x gL og hgl h2 (by omega) (by omega) (by omega) (by omega) (by omega) (no _ (by omega)) (no _ (by omega)) (no _ (by omega)) hm hw ha) fun v h' hh=>⟨hh.1,hh.2.lay l og ol,hh.2.next⟩
def sumH:List Int->Int
 | []=>0
 |x::l=>(5+x)+sumH l
theorem sumH_le:∀l:List Int,(∀x∈l,1<=x∧x<=6)->0<=sumH l∧sumH l<=11*(l.length:Int)
 | [],_=>⟨Int.le_refl _,by simp[sumH]⟩
 |x::l,h=>by
  have h1:=sumH_le l fun y hy=>h y (List.mem_cons_of_mem _ hy)
  have h2:=h x (by simp)
  unfold sumH
  rw[List.length_cons]
  omega
structure LT(g0:Nat->Option AO)(L A:Nat)(c:CfgT)(cv:AV)(p:PlT)(gv hv:AV)(hs:List Int)(val:AV)(ts:List Int)(at0:Int)(h:H):Prop where
 old:∀b,b<L->h.t.get b=g0 b
 x:h.t.get (L+1)=some (rowL [.ptr L 0] 91)
 a:h.t.get A=some (rowL [.int .i64 at0] 3)
 lA:L+1<A
 nx:A<h.next
 ex:∃tv,h.t.get L=some (rowL (cfgC c cv++(plC p++[gv,hv,tv,val])) 315)∧Own 1 3 h tv ts.length (iL ts)∧(∀a,own tv=some a->A<a)
 oh:Own 1 3 h hv hs.length (iL hs)
 ohl:∀a,own hv=some a->L+2<=a∧a<A
def At34(B L A:Nat)(hv:AV)(n:Nat)(tm:T AV):Prop:=tm.get 5=some (.ptr (L+1) 0)∧tm.get 8=some (.ptr A 0)∧tm.get 131=some hv∧tm.get 132=some (.int .i64 (n:Int))
def I34(g0:Nat->Option AO)(B L A:Nat)(c:CfgT)(cv:AV)(p:PlT)(gv hv:AV)(hs:List Int)(val:AV)(tot:Int)(k:Nat)(tm:T AV)(h:H):Prop:=
 At34 B L A hv hs.length tm∧∃i:Nat,i+k=hs.length∧tm.get 133=some (.int .i64 (i:Int))∧∃ts at0,ts.length=i∧0<=at0∧at0+sumH (hs.drop i)=tot∧LT g0 L A c cv p gv hv hs val ts at0 h
theorem step34(P:Program){call:CallE}{g0:Nat->Option AO}{B L A:Nat}{c:CfgT}{cv:AV}{p:PlT}{gv hv:AV}{hs:List Int}{val:AV}{tot:Int}(o1:oneA cv=true)(o2:oneA gv=true)(o3:oneA val=true)(hb:∀x∈hs,1<=x∧x<=6)(hl:hs.length<=1000)(htot:tot<=1000000)(k:Nat)(tm:T AV)(h:H)(hI:I34 g0 B L A c cv p gv hv hs val tot k tm h):
 WC P call c77_l34 (loopQ 4 (fun tm h=>∃j,j<k∧I34 g0 B L A c cv p gv hv hs val tot j tm h) (fun tm h=>At34 B L A hv hs.length tm∧∃ts,LT g0 L A c cv p gv hv hs val ts tot h) (fun _ _=>False)) tm h:=by
 obtain⟨⟨t5,t8,t131,t132⟩,i,hik,t133,ts,at0,hts,h0,hat,lt⟩:=hI
 have f0:=lt
 obtain⟨old,gX,gA,lA,nx,⟨tv,gL,ot,otl⟩,oh,ohl⟩:=lt
 cases k with
 |zero=>
  have e1:¬(i:Int)<(hs.length:Int):=by omega
  simp only[go_sem,seval,c77_l34,t132,t133,e1]
  rw[List.drop_eq_nil_of_le (by omega),sumH,Int.add_zero]at hat
  subst hat
  exact⟨⟨by simp[go_sem,t5],by simp[go_sem,t8],by simp[go_sem,t131],by simp[go_sem,t132]⟩,_,f0⟩
 |succ k=>
  have e1:(i:Int)<(hs.length:Int):=by omega
  have hi:i<hs.length:=by omega
  obtain⟨x,hx⟩:∃x,hs[i]?=some x:=⟨_,List.getElem?_eq_getElem hi⟩
  have hxm:=hb x (List.mem_of_getElem? hx)
  have hdr:hs.drop i=x::hs.drop (i+1):=by
   rw[List.drop_eq_getElem_cons hi]
   rw[List.getElem?_eq_getElem hi]at hx
   rw[Option.some.inj hx]
  rw[hdr,sumH]at hat
  have hrest:=sumH_le (hs.drop (i+1)) fun y hy=>hb y (List.mem_of_mem_drop hy)
  have f1:fw .i64 (5+x)=5+x:=fwI (by omega) (by omega)
  have f2:fw .i64 (at0+(5+x))=at0+(5+x):=fwI (by omega) (by omega)
  have f3:fw .i64 ((i:Int)+1)=(i:Int)+1:=fwI (by omega) (by omega)
  have e3:((i+1:Nat):Int)=(i:Int)+1:=rfl
  have hcell:(iL hs)[i]?=some (.int .i64 x):=by unfold iL;rw[List.getElem?_map,hx];rfl
  have oh0:=oh
  generalize hn:hs.length=n at*
  generalize hcs:iL hs=cs at*
  cases oh with
  |nil=>omega
  |sl a len cs cap hcp hp hcl hlt hg=>
   have ov:=ot.one
   have a1:¬A=h.next:=by omega
   have x1:¬L+1=h.next:=by omega
   have l1:¬L=h.next:=by omega
   have xA:¬L+1=A:=by omega
   have xL:¬L+1=L:=by omega
   have AL:¬A=L:=by omega
   have LA:¬L=A:=by omega
   have hal:=ohl a rfl
   have st0:=StepN.new h (.row (putList 0 [.int .i64 at0] T.e) 1 3)
   have ot1:Own 1 3 ⟨h.next+1,h.t.set h.next (.row (putList 0 [.int .i64 at0] T.e) 1 3)⟩ tv _ _:=ot.keep st0.next fun b hb=>st0.old b (ot.lt hb)
   simp only[go_sem,seval,c77_l34,t5,t8,t131,t132,t133,e1,gX,gL,gA,x1,l1,a1,cfgC,plC,hg,Nat.mul_one,hcell]
   refine opt_some (appA_own ot1 (by decide) (by decide) (by omega) (by omega)) ?_
   have gg:=fun b hb hh=>app_get (h:=⟨h.next+1,h.t.set h.next (.row (putList 0 [.int .i64 at0] T.e) 1 3)⟩) (e:=3) (v:=tv) (cs:=iL ts++[.int .i64 at0]) (b:=b) hb hh
   have no:∀b,b<=A->own tv≠some b:=fun b hb hh=>by have:=otl b hh;omega
   have gL1:=gg L (by show L<h.next+1;omega) (no _ (by omega))
   have gX1:=gg (L+1) (by show L+1<h.next+1;omega) (no _ (by omega))
   have gA1:=gg A (by show A<h.next+1;omega) (no _ (by omega))
   have oA1:=own_app ot1 (src:=[.int .i64 at0]) (n:=1) (by decide) rfl
   have ov1:=oA1.one
   simp only[go_sem,seval,x1,l1,a1,gL,gX,gA,cfgC,plC]at gL1 gX1 gA1
   simp only[go_sem,seval,gL1,gX1,gA1,ov1,app_next,f1,f2,f3,x1,l1,a1,xA,xL,AL,LA,gL,gX,gA,cfgC,plC,t5,t8,t131,t132,t133]
   refine⟨k,Nat.lt_succ_self k,⟨by simp[go_sem,t5],by simp[go_sem,t8],by simp[go_sem,t131],by simp[go_sem,t132,hn]⟩,i+1,by omega,by simp[go_sem,e3],ts++[at0],at0+(5+x),by rw[List.length_append,hts];rfl,by omega,by omega,?_⟩
   have hown:own (appV ⟨h.next+1,h.t.set h.next (.row (putList 0 [.int .i64 at0] T.e) 1 3)⟩ 1 (ts.length+1))=some (h.next+1):=rfl
   refine⟨fun b hb=>?_,by simp[go_sem,xA,xL,gX1],by simp[go_sem],lA,by show A<h.next+2;omega,⟨appV ⟨h.next+1,h.t.set h.next (.row (putList 0 [.int .i64 at0] T.e) 1 3)⟩ 1 (ts.length+1),by simp[go_sem,LA,cfgC,plC],?_,?_⟩,?_,?_⟩
   ·have n1:¬b=h.next:=by omega
    have n2:¬b=L:=by omega
    have n3:¬b=A:=by omega
    have g1:=gg b (by show b<h.next+1;omega) (no _ (by omega))
    simp only[go_sem,seval,n1]at g1
    simp only[go_sem,seval,n2,n3,g1]
    exact old b hb
   ·have e4:iL ts++[.int .i64 at0]=iL (ts++[at0]):=by unfold iL;rw[List.map_append];rfl
    rw[e4]at oA1
    rw[List.length_append]
    refine oA1.keep (by show h.next+1+1<=h.next+2;omega) fun b hb=>?_
    rw[own_appV]at hb
    obtain rfl:=Option.some.inj hb
    have n2:¬h.next+1=L:=by omega
    have n3:¬h.next+1=A:=by omega
    simp only[go_sem,seval,n2,n3,e4]
   ·intro b hb
    rw[own_appV]at hb
    obtain rfl:=Option.some.inj hb
    show A<h.next+1
    omega
   ·rw[hcs,hn]
    refine oh0.keep (by show h.next<=h.next+2;omega) fun b hb=>?_
    obtain rfl:=Option.some.inj hb
    have n1:¬a=h.next:=by omega
    have n2:¬a=L:=by omega
    have n3:¬a=A:=by omega
    have g1:=gg a (by show a<h.next+1;omega) (no _ (by omega))
    simp only[go_sem,seval,n1]at g1
    simp only[go_sem,seval,n2,n3,g1]
   ·exact ohl
end
end Go.Proofs.YtghmnaojmpjglaaGreatDoor.PR
namespace Go.Proofs.YtghmnaojmpjglaaGreatDoor.PR
open Go.Proofs.YtghmnaojmpjglaaGreatDoor.Eo
noncomputable section
variable(P:Program)[PT P]{call:CallE}
def twL(c:CfgT):List Int:=[c.t0,c.t1,c.t2,c.t3,c.t4,c.t5]
def hsL(c:CfgT):List Int:=htL 0 (twL c)
def plA(c:CfgT):Int:=c.slots+engN c+1+c.locks*3+c.locks
def plOf(c:CfgT):PlT:=⟨0,c.slots,c.slots+engN c,c.slots+engN c+1,c.slots+engN c+1+c.locks*3,plA c,plA c+6,plA c+6+((hsL c).length:Int),plA c+6+((hsL c).length:Int)+valN c.kind c.n c.cuts*7,plA c+6+((hsL c).length:Int)+valN c.kind c.n c.cuts*7+sumH (hsL c)⟩
structure PlOK(c:CfgT)(p:PlT):Prop where
 ow:p.ow=0
 en:p.en=c.slots
 eng:p.en+engN c<=p.wo
 po:c.slots<=p.po∧p.po+6<=p.wo
 li:c.slots<=p.li∧p.li+((hsL c).length:Int)<=p.wo
 wo:p.wo<=5000
 eq:p=plOf c
theorem htL_mem:∀(ts:List Int) (i:Int) (x:Int),x∈htL i ts->i+1<=x∧x<=i+(ts.length:Int)
 | [],i,x,h=>by simp[htL]at h
 |t::l,i,x,h=>by
  unfold htL at h
  rw[List.length_cons]
  rcases List.mem_append.1 h with h|h
  ·have:=(List.mem_replicate.1 h).2
   omega
  ·have:=htL_mem l (i+1) x h
   omega
theorem hsL_mem{c:CfgT}:∀x∈hsL c,1<=x∧x<=6:=fun x hx=>by
 have h1:=htL_mem _ _ x hx
 have h2:(twL c).length=6:=rfl
 rw[h2]at h1
 omega
theorem towB_pos:∀(l:List Int) (a:Int),towB a l->∀t∈l,0<=t
 | [],_,_,t,h=>by simp at h
 |x::l,a,hb,t,h=>by
  rcases List.mem_cons.1 h with rfl|h
  ·exact hb.1.1
  ·exact towB_pos l _ hb.2 t h
theorem valN_ok{k n:Int}{l:List Int}(h:domB k n l):1<=valN k n l∧valN k n l<=64:=by
 unfold valN
 rcases h with⟨rfl,_⟩|⟨rfl,h,_⟩|⟨rfl,_,h1,h2,_⟩
 ·rw[if_neg (by decide),if_neg (by decide)];decide
 ·exact h
 ·rw[if_neg (by decide),if_pos rfl];omega
structure PostL(c:CfgT)(h:H)(v:AV)(h':H):Prop where
 ex:∃L p,v=.tup [.ptr L 0,.int .i64 0]∧h.next<=L∧PlOK c p∧LayH h' L c p (hsL c)
 st:StepN h h'
def F153(call:CallE):Prop:=∀h c v,RdL none 1 h v (uL c.cuts)->(∀a,own v=some a->a<h.next)->∃v' h',call 153 [.agg (cfgC c v)] h=some (v',h')∧SaysE (layB c) h v' h'
def F154(call:CallE):Prop:=∀h v (l:List Int),RdL none 1 h v (uL l)->(∀a,own v=some a->a<h.next)->l.length<=1000->∃v' h',call 154 [v] h=some (v',h')∧CopyU l h v' h'
def F155(call:CallE):Prop:=∀h k n v (l:List Int),domB k n l->RdL none 1 h v (uL l)->(∀a,own v=some a->a<h.next)->∃v' h',call 155 [.agg [.int .u8 k,.int .i64 n,v]] h=some (v',h')∧(v'=.tup [.int .i64 (valN k n l),.int .i64 0]∧StepN h h')
def F157(call:CallE):Prop:=∀h c v,layB c->oneA v=true->∃v' h',call 157 [.agg (cfgC c v)] h=some (v',h')∧(v'=.int .i64 (engN c)∧StepN h h')
set_option maxHeartbeats 1000000 in
theorem w77(h58:F153 call)(h59:F154 call)(h60:F155 call)(h62:F157 call)(h61:F156 call)
 {h:H} {c:CfgT} {v:AV} (hv:RdL none 1 h v (uL c.cuts)) (hlv:∀a,own v=some a->a<h.next) (hc:layB c) (hn:(hsL c).length<=60):WF P call c77 [.agg (cfgC c v)] h (PostL c h):=by
 have hc0:=hc
 obtain⟨hT,hth,hsl,he1,he2,hb1,hb2,hd,hlo,htr,hba⟩:=hc
 have hvN:=valN_ok hd
 have heN:=engOK hc0
 have hcl:c.cuts.length<=1000:=by
  rcases hd with⟨_,_,h1⟩|⟨_,_,h1⟩|⟨_,_,_,h1,_⟩
  ·rw[h1];decide
  ·rw[h1];decide
  ·omega
 have ov:=hv.one
 have st0:=StepN.new h (.row (putList 0 (cfgC c v) T.e) 16 27)
 simp only[go_sem,seval,ov,cfgC]
 refine opt_by (h58 _ c v (hv.keep fun b hb=>st0.old b (hlv b hb)) fun a ha=>Nat.lt_succ_of_lt (hlv a ha)) fun v1 h1 p1=>?_
 obtain⟨e,rfl,he,st1⟩:=p1
 obtain rfl:=he.2 hc0
 have g1:=st1.old h.next (Nat.lt_succ_self _)
 simp only[go_sem,seval,cfgC]at g1
 have st01:=st0.trans st1
 have nx1:h.next<h1.next:=st1.next
 simp only[go_sem,seval,g1,ov]
 refine opt_by (h59 _ v c.cuts (hv.keep fun b hb=>st01.old b (hlv b hb)) (fun a ha=>Nat.lt_trans (hlv a ha) nx1) hcl) fun cv h2 p2=>?_
 have ov2:=p2.rd.one
 have g2:=(p2.st.old _ nx1).trans g1
 have nx2:=p2.st.next
 have st02:=st01.trans p2.st
 have hB:h.next<h2.next:=by omega
 obtain⟨B,hBe⟩:∃B,B=h.next:=⟨_,rfl⟩
 obtain⟨L,hLe⟩:∃L,L=h2.next:=⟨_,rfl⟩
 rw[←hBe]at g2 hB
 rw[←hBe]
 have hBL:B<L:=by omega
 have e1:¬B=h2.next:=by omega
 have e2:¬B=h2.next+1:=by omega
 have e3:¬h2.next=h2.next+1:=by omega
 have e4:¬h2.next+1=h2.next:=by omega
 have e5:¬h2.next=B:=by omega
 have e6:¬h2.next+1=B:=by omega
 have rd2:∀h':H,(∀b,b<h2.next->b≠B->h'.t.get b=h2.t.get b)->RdL none 1 h' cv (uL c.cuts):=fun h' hh=>p2.rd.keep fun b hb=>hh b (p2.lo b hb).2 (by have:=(p2.lo b hb).1;omega)
 simp only[go_sem,seval,g2,ov2,e1,e2,e3,e4]
 refine opt_by (h60 _ c.kind c.n cv c.cuts hd (rd2 _ fun b hb hn=>?_) (fun a ha=>by have:=(p2.lo a ha).2;show a<h2.next+2;omega)) fun v3 h3 p3=>?_
 ·have n1:¬b=h2.next:=by omega
  have n2:¬b=h2.next+1:=by omega
  simp only[go_sem,seval,n1,n2,hn]
 obtain⟨rfl,st3⟩:=p3
 have nx3:L+2<=h3.next:=by have:=st3.next;rw[hLe];exact this
 have gL3:=st3.old L (by rw[hLe];show h2.next<h2.next+2;omega)
 have gX3:=st3.old (L+1) (by rw[hLe];show h2.next+1<h2.next+2;omega)
 have gB3:=st3.old B (by show B<h2.next+2;omega)
 have old3:∀b,b<L->b≠B->h3.t.get b=h2.t.get b:=fun b hb hn=>by
  have n1:¬b=h2.next:=by omega
  have n2:¬b=h2.next+1:=by omega
  have:=st3.old b (by show b<h2.next+2;omega)
  simp only[go_sem,seval,n1,n2,hn]at this
  exact this
 simp only[go_sem,seval,hLe,e1,e2,e3,e4,e5,e6]at gL3 gX3 gB3
 simp only[←hLe]at gL3 gX3 gB3⊢
 have l2:¬L=B:=by omega
 have x2:¬L+1=B:=by omega
 have lL:¬L=L+1:=by omega
 have xL:¬L+1=L:=by omega
 have bL:¬B=L:=by omega
 have bX:¬B=L+1:=by omega
 simp only[go_sem,seval,gL3,gX3,gB3,lL,xL,bL,bX,l2,x2,ov2,nx3]
 have hBg:h3.t.get B=some (rowL (cfgC c cv) 27):=by rw[gB3];rfl
 obtain⟨VAL,hVAL⟩:∃x,x=AV.int .i64 (valN c.kind c.n c.cuts):=⟨_,rfl⟩
 have oVAL:oneA VAL=true:=by rw[hVAL];rfl
 rw[←hVAL]
 refine loop_in (I16 h3.t.get B L c cv VAL (twL c)) _ _ (fun k tm h' hI=>step16 P ov2 oVAL rfl (towB_pos _ _ hT) (Nat.le_trans hn (by decide)) k tm h' hI) (fun tm4 h4 hR=>?_) (fun _ _ hh=>hh.elim) 6 _ _
  ⟨0,rfl,⟨by simp[go_sem,hLe],by simp[go_sem,hLe],by simp[go_sem,iL,twL],by simp[go_sem]⟩,[],rfl,⟨fun b hb=>?_,by simp only[go_sem,seval,xL];exact gX3,by show L+2<=h3.next;omega,.nils,by simp[go_sem,cfgC,plC,plZ],.nil,fun a ha=>by cases ha⟩⟩
 ·obtain⟨t1,t5,ls⟩:=hR
  replace ls:LS h3.t.get L c cv VAL (hsL c) h4:=ls
  subst hVAL
  obtain⟨hs,hhs⟩:∃l,l=hsL c:=⟨_,rfl⟩
  have hmem:∀x∈hs,1<=x∧x<=6:=by rw[hhs];exact hsL_mem
  rw[←hhs]at ls hn
  have hsum:=sumH_le hs hmem
  obtain⟨old4,gX4,nx4,hv4,gL4,oh4,ohl4⟩:=ls
  obtain⟨A,hA⟩:∃A,A=h4.next:=⟨_,rfl⟩
  have ohA:=oh4.lenA
  have oh4v:=oh4.one
  have aX:¬L+1=A:=by omega
  have aL:¬L=A:=by omega
  have aB:¬B=A:=by omega
  have Ax:¬A=L+1:=by omega
  have Al:¬A=L:=by omega
  have gB4:=(old4 B hBL).trans hBg
  have st4:=StepN.new h4 (.row (putList 0 [.int .i64 0] T.e) 1 3)
  rw[←hA]at st4
  have l0:Lay1 h3.t.get L A c cv plZ hv4 hs .nils (.int .i64 (valN c.kind c.n c.cuts)) 0 0 ⟨A+1,h4.t.set A (.row (putList 0 [.int .i64 0] T.e) 1 3)⟩:=
   ⟨fun b hb=>(st4.old b (by rw[←hA];omega)).trans (old4 b hb),(st4.old _ (by omega)).trans gX4,by simp[go_sem],by omega,Nat.lt_succ_self _,⟨.nils,[],(st4.old _ (by omega)).trans gL4,.nil,fun a ha=>by cases ha⟩,oh4.keep (by show h4.next<=A+1;omega) fun b hb=>st4.old b (oh4.lt hb),fun a ha=>⟨ohl4 a ha,by rw[hA];exact oh4.lt ha⟩⟩
  simp only[plZ]at l0
  simp only[go_sem,seval,t1,t5,gX4,gL4,gB4,cfgC,plC,←hA,aX,aL,aB]
  refine opt_by (h61 h3.t.get L A c cv _ hv4 hs .nils (.int .i64 (valN c.kind c.n c.cuts)) 0 0 _ 1 c.slots 1 l0 (by decide) (by omega) (by omega) (by omega)) fun v1 k1 q1=>?_
  obtain⟨rfl,r1,nx1q⟩:=q1
  replace nx1q:A+1<=k1.next:=nx1q
  obtain⟨a1,ha1⟩:∃a,a=0+c.slots*1:=⟨_,rfl⟩
  rw[←ha1]at r1
  obtain⟨gv1,gcs1,gL1q,og1,ol1⟩:=r1.ex
  have gX1q:=r1.x
  have gA1q:=r1.a
  have gB1q:=(r1.old B hBL).trans hBg
  have og1v:=og1.one
  simp only[go_sem,seval,t1,t5,nx1q,gX1q,gL1q,gB1q,gA1q,og1v,oVAL,oh4v,gX4,gL4,gB4,aX,aL,aB,xL,bL,ov2,Al,ohA,cfgC,plC]
  have l1:=r1.setp og1 ol1 ⟨0,0,0,0,0,0,0,0,0,0⟩
  refine opt_by (h62 _ c cv hc0 ov2) fun ve hE qE=>?_
  obtain⟨rfl,stE⟩:=qE
  have lE:=l1.step stE
  obtain⟨gvE,gcsE,gLE,ogE,olE⟩:=lE.ex
  have gXE:=lE.x
  have gBE:=(lE.old B hBL).trans hBg
  have nxE:k1.next<=hE.next:=stE.next
  simp only[go_sem,seval,t1,t5,nxE,gXE,gLE,gBE,gX1q,gL1q,gB1q,xL,bL,cfgC,plC]
  refine opt_by (h61 h3.t.get L A c cv _ hv4 hs .nils (.int .i64 (valN c.kind c.n c.cuts)) 1 a1 _ 2 1 (engN c) lE (by decide) (by omega) (by omega) (by omega)) fun v2 k2 q2=>?_
  obtain⟨rfl,r2,nx2q⟩:=q2
  replace nx2q:hE.next<=k2.next:=nx2q
  obtain⟨a2,ha2⟩:∃a,a=a1+1*(engN c):=⟨_,rfl⟩
  rw[←ha2]at r2
  obtain⟨gv2,gcs2,gL2q,og2,ol2⟩:=r2.ex
  have gX2q:=r2.x
  have gA2q:=r2.a
  have gB2q:=(r2.old B hBL).trans hBg
  have og2v:=og2.one
  simp only[go_sem,seval,t1,t5,nx2q,gX2q,gL2q,gB2q,gA2q,og2v,oVAL,oh4v,gXE,gLE,gBE,gX1q,gL1q,gB1q,gA1q,xL,bL,ov2,Al,ohA,cfgC,plC]
  have l2:=r2.setp og2 ol2 ⟨0,a1,0,0,0,0,0,0,0,0⟩
  refine opt_by (h61 h3.t.get L A c cv _ hv4 hs .nils (.int .i64 (valN c.kind c.n c.cuts)) 2 a2 _ 3 1 1 l2 (by decide) (by omega) (by omega) (by omega)) fun v3 k3 q3=>?_
  obtain⟨rfl,r3,nx3q⟩:=q3
  replace nx3q:k2.next<=k3.next:=nx3q
  obtain⟨a3,ha3⟩:∃a,a=a2+1*1:=⟨_,rfl⟩
  rw[←ha3]at r3
  obtain⟨gv3,gcs3,gL3q,og3,ol3⟩:=r3.ex
  have gX3q:=r3.x
  have gA3q:=r3.a
  have gB3q:=(r3.old B hBL).trans hBg
  have og3v:=og3.one
  simp only[go_sem,seval,t1,t5,nx3q,gX3q,gL3q,gB3q,gA3q,og3v,oVAL,oh4v,gX2q,gL2q,gB2q,gA2q,xL,bL,ov2,Al,ohA,cfgC,plC]
  have l3:=r3.setp og3 ol3 ⟨0,a1,a2,0,0,0,0,0,0,0⟩
  refine opt_by (h61 h3.t.get L A c cv _ hv4 hs .nils (.int .i64 (valN c.kind c.n c.cuts)) 3 a3 _ 4 c.locks 3 l3 (by decide) (by omega) (by omega) (by omega)) fun v4 k4 q4=>?_
  obtain⟨rfl,r4,nx4q⟩:=q4
  replace nx4q:k3.next<=k4.next:=nx4q
  obtain⟨a4,ha4⟩:∃a,a=a3+c.locks*3:=⟨_,rfl⟩
  rw[←ha4]at r4
  obtain⟨gv4,gcs4,gL4q,og4,ol4⟩:=r4.ex
  have gX4q:=r4.x
  have gA4q:=r4.a
  have gB4q:=(r4.old B hBL).trans hBg
  have og4v:=og4.one
  simp only[go_sem,seval,t1,t5,nx4q,gX4q,gL4q,gB4q,gA4q,og4v,oVAL,oh4v,gX3q,gL3q,gB3q,gA3q,xL,bL,ov2,Al,ohA,cfgC,plC]
  have l4:=r4.setp og4 ol4 ⟨0,a1,a2,a3,0,0,0,0,0,0⟩
  refine opt_by (h61 h3.t.get L A c cv _ hv4 hs .nils (.int .i64 (valN c.kind c.n c.cuts)) 4 a4 _ 5 c.locks 1 l4 (by decide) (by omega) (by omega) (by omega)) fun v5 k5 q5=>?_
  obtain⟨rfl,r5,nx5q⟩:=q5
  replace nx5q:k4.next<=k5.next:=nx5q
  obtain⟨a5,ha5⟩:∃a,a=a4+c.locks*1:=⟨_,rfl⟩
  rw[←ha5]at r5
  obtain⟨gv5,gcs5,gL5q,og5,ol5⟩:=r5.ex
  have gX5q:=r5.x
  have gA5q:=r5.a
  have gB5q:=(r5.old B hBL).trans hBg
  have og5v:=og5.one
  simp only[go_sem,seval,t1,t5,nx5q,gX5q,gL5q,gB5q,gA5q,og5v,oVAL,oh4v,gX4q,gL4q,gB4q,gA4q,xL,bL,ov2,Al,ohA,cfgC,plC]
  have l5:=r5.setp og5 ol5 ⟨0,a1,a2,a3,a4,0,0,0,0,0⟩
  refine opt_by (h61 h3.t.get L A c cv _ hv4 hs .nils (.int .i64 (valN c.kind c.n c.cuts)) 5 a5 _ 6 6 1 l5 (by decide) (by omega) (by omega) (by omega)) fun v6 k6 q6=>?_
  obtain⟨rfl,r6,nx6q⟩:=q6
  replace nx6q:k5.next<=k6.next:=nx6q
  obtain⟨a6,ha6⟩:∃a,a=a5+6*1:=⟨_,rfl⟩
  rw[←ha6]at r6
  obtain⟨gv6,gcs6,gL6q,og6,ol6⟩:=r6.ex
  have gX6q:=r6.x
  have gA6q:=r6.a
  have gB6q:=(r6.old B hBL).trans hBg
  have og6v:=og6.one
  simp only[go_sem,seval,t1,t5,nx6q,gX6q,gL6q,gB6q,gA6q,og6v,oVAL,oh4v,gX5q,gL5q,gB5q,gA5q,xL,bL,ov2,Al,ohA,cfgC,plC]
  have l6:=r6.setp og6 ol6 ⟨0,a1,a2,a3,a4,a5,0,0,0,0⟩
  refine opt_by (h61 h3.t.get L A c cv _ hv4 hs .nils (.int .i64 (valN c.kind c.n c.cuts)) 6 a6 _ 7 (hs.length:Int) 1 l6 (by decide) (by omega) (by omega) (by omega)) fun v7 k7 q7=>?_
  obtain⟨rfl,r7,nx7q⟩:=q7
  replace nx7q:k6.next<=k7.next:=nx7q
  obtain⟨a7,ha7⟩:∃a,a=a6+(hs.length:Int)*1:=⟨_,rfl⟩
  rw[←ha7]at r7
  obtain⟨gv7,gcs7,gL7q,og7,ol7⟩:=r7.ex
  have gX7q:=r7.x
  have gA7q:=r7.a
  have gB7q:=(r7.old B hBL).trans hBg
  have og7v:=og7.one
  simp only[go_sem,seval,t1,t5,nx7q,gX7q,gL7q,gB7q,gA7q,og7v,oVAL,oh4v,gX6q,gL6q,gB6q,gA6q,xL,bL,ov2,Al,ohA,cfgC,plC]
  have l7:=r7.setp og7 ol7 ⟨0,a1,a2,a3,a4,a5,a6,0,0,0⟩
  refine opt_by (h61 h3.t.get L A c cv _ hv4 hs .nils (.int .i64 (valN c.kind c.n c.cuts)) 7 a7 _ 8 (valN c.kind c.n c.cuts) 7 l7 (by decide) (by omega) (by omega) (by omega)) fun v8 k8 q8=>?_
  obtain⟨rfl,r8,nx8q⟩:=q8
  replace nx8q:k7.next<=k8.next:=nx8q
  obtain⟨a8,ha8⟩:∃a,a=a7+(valN c.kind c.n c.cuts)*7:=⟨_,rfl⟩
  rw[←ha8]at r8
  obtain⟨gv8,gcs8,gL8q,og8,ol8⟩:=r8.ex
  have gX8q:=r8.x
  have gA8q:=r8.a
  have gB8q:=(r8.old B hBL).trans hBg
  have og8v:=og8.one
  simp only[go_sem,seval,t1,t5,nx8q,gX8q,gL8q,gB8q,gA8q,og8v,oVAL,oh4v,gX7q,gL7q,gB7q,gA7q,xL,bL,ov2,Al,ohA,cfgC,plC]
  have l9:=r8.setp og8 ol8 ⟨0,a1,a2,a3,a4,a5,a6,a7,a8,0⟩
  refine loop_in (I34 h3.t.get B L A c cv ⟨0,a1,a2,a3,a4,a5,a6,a7,a8,0⟩ gv8 hv4 hs (.int .i64 (valN c.kind c.n c.cuts)) (a8+sumH hs)) _ _ (fun k tm h' hI=>step34 P ov2 og8v rfl hmem (by omega) (by omega) k tm h' hI) (fun tm5 h5 hR5=>?_) (fun _ _ hh=>hh.elim) hs.length _ _
   ⟨⟨by simp[go_sem,t5],by simp[go_sem],by simp[go_sem],by simp[go_sem]⟩,0,by omega,by simp[go_sem],[],a8,rfl,by omega,rfl,⟨l9.old,l9.x,l9.a,l9.lA,l9.nx,⟨.nils,by simp[go_sem,cfgC,plC],.nil,fun a ha=>by cases ha⟩,l9.oh,l9.ohl⟩⟩
  obtain⟨⟨s5,s8,-,-⟩,ts5,lt5⟩:=hR5
  obtain⟨tv5,gL5,ot5,otl5⟩:=lt5.ex
  have gX5:=lt5.x
  have gA5:=lt5.a
  have otv:=ot5.one
  have nx5:=lt5.nx
  simp only[go_sem,seval,s5,s8,gX5,gA5,gL5,xL,cfgC,plC]
  have oldF:∀b,b<L->h5.t.get b=h3.t.get b:=lt5.old
  have c93':c.engine=3->c.buckets<=16:=fun e=>(hb1 e).2
  refine⟨⟨L,⟨0,a1,a2,a3,a4,a5,a6,a7,a8,a8+sumH hs⟩,rfl,by omega,⟨rfl,by show a1=c.slots;omega,?_,?_,?_,?_,?_⟩,⟨⟨cv,gv8,hv4,tv5,valN c.kind c.n c.cuts,by simp[go_sem,cfgC,plC],?_,?_,?_,?_,og8v,otv⟩,?_⟩⟩,⟨?_,fun b hb=>?_⟩⟩
  ·show a1+engN c<=a8+sumH hs
   omega
  ·show c.slots<=a5∧a5+6<=a8+sumH hs
   omega
  ·rw[←hhs]
   show c.slots<=a6∧a6+(hs.length:Int)<=a8+sumH hs
   omega
  ·show a8+sumH hs<=5000
   omega
  ·unfold plOf plA
   rw[PlT.mk.injEq,←hhs]
   exact⟨rfl,by omega,by omega,by omega,by omega,by omega,by omega,by omega,by omega,by omega⟩
  ·refine rd2 _ fun b hb hn=>?_
   have n1:¬b=L:=by omega
   simp only[go_sem,seval,n1]
   exact(oldF b (by omega)).trans (old3 b (by omega) hn)
  ·intro a ha
   have:=(p2.lo a ha).2
   show a<h5.next
   omega
  ·rw[←hhs]
   refine Own.rdl1 (e:=3) (len:=hs.length) (lt5.oh.keep (Nat.le_refl _) fun b hb=>?_) (by omega)
   have:=lt5.ohl b hb
   have n1:¬b=L:=by omega
   simp only[go_sem,seval,n1]
  ·intro a ha
   have:=lt5.ohl a ha
   show a<h5.next
   omega
  ·show L<h5.next
   omega
  ·show h.next<=h5.next
   omega
  ·have n1:¬b=L:=by omega
   simp only[go_sem,seval,n1]
   exact((oldF b (by omega)).trans (old3 b (by omega) (by omega))).trans (st02.old b hb)
 ·have n1:¬b=L:=by omega
  simp only[go_sem,seval,n1]
def c79_l11:CC:=(Sq [qb 20 3 19 18] (Qq (Cq 20 .skip (.exit 0)) (Qq (.block 1 (Sq [a 21 19,E 22 1 17 19,i 23 22,a 4 21,a 5 23] (Sq [a 24 4,zv 25 3 24 0,a 26 25,B 27 26 0,qm 28 26 27,W 29 26 27 28,Y 30 26 29,B 31 26 4,⟨some 32,some (26,true),.p (.bin .sub 3 false true (.t 31) (.c (.int .i64 1)))⟩,zG 33 26 1 30 32,Y 34 26 33,B 35 26 5,z7 36 26 3 34 35,O 37 26 36] (Cq 37 (Oq [a 38 3,a 39 0,m 40 39,d 41 16 40,d 42 6 41,i 43 42,a 44 4,qf 45 3 43 44,qo 46 3 45 1,a 47 4,C 48 3 47 1,qX 49 48,E 50 1 38 46,t 1 50 49]) (.drw ⟨[([g 0 3,g 1 0,n 2 53 1,j 3 54 2 16,j 4 55 3 5,k 5 56 4,g 6 5,qz 7 57 5 58 6 3,qJ 8 59 7 3 1,g 9 4,qY 10 61 9 3 1],some ⟨11,[(62,some 10)],none,.cv (.c (.fn (.func 160) [] [])) [.c (.int .u64 0),.t 62]⟩),([y 12 63 11,N 13 51 12 0,N 14 51 12 1,Q 15 52 0 60 8 1],some (R 16 66 15 64 13 1)),([],none)],[(0,52),(1,53),(2,54),(3,55),(4,56),(5,57),(6,58),(7,59),(8,60),(9,61),(10,62),(11,63),(12,51),(13,64),(14,65),(15,66)],[(⟨5,[(56,(some 4))],none,.r (.ld none (.t 56))⟩,[1])]⟩))))) (Oq [C 67 3 19 1,a 19 67]))))
@[go_sem]def c79:CF:=⟨1,(Sq [D 2] (Qq (Sq [a 6 0,u 7 91 6] (Kq 7 [D 2] .skip)) (Sq [a 8 0,m 9 8,d 10 16 9,d 11 9 10,i 12 11,ze 13 51 1 8 0 12,a 3 13] (Qq (Sq [a 14 0,m 15 14,d 16 27 15,i 17 16,A 18 17,b 19 0] (.block 0 (.loop c79_l11))) (Rq [a 68 3,a 2 68]))))),[.tmp 2]⟩
def F160(call:CallE):Prop:=∀h (t:Int),0<=t->t<=1024->call 160 [.int .u64 0,.int .i64 t] h=some (.tup [.int .u64 t,.int .i64 0],h)
structure Zero(W:Nat)(s:Int)(ws:List Int):Prop where
 len:ws.length=W
 zero:∀i:Nat,(i:Int)<s->ws[i]?=some 0
theorem Zero.set{W:Nat}{s:Int}{ws:List Int}(z:Zero W s ws){j:Nat}(hj:s<=(j:Int))(x:Int):Zero W s (ws.set j x):=⟨by rw[List.length_set];exact z.len,fun i hi=>by
 rw[List.getElem?_set,if_neg (by omega)]
 exact z.zero i hi⟩
def stepA(po li:Int)(hs:List Int)(i:Nat)(ws:List Int):List Int:=match hs[i]? with
 |none=>ws
 |some x=>if 0<i∧hs[i-1]?=some x then ws.set (li+(i:Int) -1).toNat ((i:Int)+1)else ws.set (po+x-1).toNat ((i:Int)+1)
def iniA(po li:Int)(hs:List Int)(W:Nat):Nat->List Int
 |0=>List.replicate W 0
 |i+1=>stepA po li hs i (iniA po li hs W i)
def I22(h0:H)(L:Nat)(hv:AV)(W n:Nat)(s:Int)(po li:Int)(hs:List Int)(k:Nat)(tm:T AV)(h:H):Prop:=
 tm.get 0=some (.ptr L 0)∧tm.get 3=some (.sl h0.next 0 W 1 (some W))∧tm.get 17=some hv∧tm.get 18=some (.int .i64 (n:Int))∧h.next=h0.next+1∧(∀b,b<h0.next->h.t.get b=h0.t.get b)∧
    ∃(i:Nat) (ws:List Int),i+k=n∧tm.get 19=some (.int .i64 (i:Int))∧h.t.get h0.next=some (.row (putList 0 (uL ws) T.e) W 51)∧Zero W s ws∧ws=iniA po li hs W i
theorem uL_set(ws:List Int)(j:Nat)(x:Int):(uL ws).set j (.int .u64 x)=uL (ws.set j x):=by unfold uL;rw[List.map_set]
theorem uL_len(ws:List Int):(uL ws).length=ws.length:=List.length_map _
theorem step22(P:Program){call:CallE}(h65:F160 call){h0:H}{L:Nat}{c:CfgT}{p:PlT}{cv gv hv tv:AV}{val:Int}{hs:List Int}{W:Nat}(hp:PlOK c p)(hlen:(hs.length:Int)=(hsL c).length)(hs0:0<=c.slots)(hm:∀x∈hs,1<=x∧x<=6)(hn:hs.length<=60)(hW:p.wo=(W:Int))(hL:L<h0.next)
 (gL:h0.t.get L=some (rowL (cfgC c cv++(plC p++[gv,hv,tv,.int .i64 val])) 315)) (rh:RdL none 1 h0 hv (iL hs)) (rl:∀a,own hv=some a->a<h0.next) (k:Nat) (tm:T AV) (h:H) (hI:I22 h0 L hv W hs.length c.slots p.po p.li hs k tm h):
 WC P call c79_l11 (loopQ 0 (fun tm h=>∃j,j<k∧I22 h0 L hv W hs.length c.slots p.po p.li hs j tm h) (fun tm h=>tm.get 3=some (.sl h0.next 0 W 1 (some W))∧StepN h0 h∧h0.next<h.next∧∃ws,h.t.get h0.next=some (.row (putList 0 (uL ws) T.e) W 51)∧Zero W c.slots ws∧ws=iniA p.po p.li hs W hs.length) (fun _ _=>False)) tm h:=by
 obtain⟨t0,t3,t17,t18,nx,old,i,ws,hik,t19,gO,z,zi⟩:=hI
 have gL1:=(old L hL).trans gL
 cases k with
 |zero=>
  have e1:¬(i:Int)<(hs.length:Int):=by omega
  simp only[go_sem,seval,c79_l11,t18,t19,e1,t3]
  exact⟨⟨by omega,old⟩,by omega,ws,gO,z,by rw[zi,show i=hs.length by omega]⟩
 |succ k=>
  have e1:(i:Int)<(hs.length:Int):=by omega
  have hi:i<hs.length:=by omega
  have p1:=hp.po
  have p2:=hp.li
  have p3:=hp.wo
  have rh1:=rh.keep (h':=h) fun b hb=>old b (rl b hb)
  have hil:(iL hs).length=hs.length:=List.length_map _
  have hget:∀j,j<hs.length->∃x,hs[j]?=some x∧(iL hs)[j]?=some (.int .i64 x)∧1<=x∧x<=6:=fun j hj=>⟨hs[j],List.getElem?_eq_getElem hj,by unfold iL;rw[List.getElem?_map,List.getElem?_eq_getElem hj];rfl,hm _ (List.getElem_mem hj)⟩
  rcases rh1 with⟨rfl,hh⟩|⟨a,o,cap,rfl,_,ra⟩
  ·rw[hh]at hil;simp at hil;omega
  rw[hil]at gL1 t17
  obtain⟨x,hxs,hx,hx1,hx6⟩:=hget i hi
  have ra1:=ra i _ hx
  rw[rLdA,Nat.mul_one]at ra1
  have f1:fw .i64 ((i:Int)+1)=(i:Int)+1:=fwI (by omega) (by omega)
  have f2:fw .u64 ((i:Int)+1)=(i:Int)+1:=fwU (by omega) (by omega)
  have f3:fw .i64 (p.po+x)=p.po+x:=fwI (by omega) (by omega)
  have f4:fw .i64 (p.po+x-1)=p.po+x-1:=fwI (by omega) (by omega)
  have e3:((i+1:Nat):Int)=(i:Int)+1:=rfl
  have h65':=h65 h ((i:Int)+1) (by omega) (by omega)
  obtain⟨q,hq⟩:∃q:Nat,p.po+x-1=(q:Int):=⟨(p.po+x-1).toNat,by omega⟩
  have fq:fw .i64 (q:Int)=(q:Int):=fwI (by omega) (by omega)
  have hqW:q<W:=by omega
  have hqW':(q:Int)<(W:Int):=by omega
  have hul:=uL_len ws
  rw[z.len]at hul
  have fin:∀(j:Nat) (y:Int),ws.set j y=stepA p.po p.li hs i ws->c.slots<=(j:Int)->j<W->∀tm':T AV,tm'.get 0=some (.ptr L 0)->tm'.get 3=some (.sl h0.next 0 W 1 (some W))->tm'.get 17=some (AV.sl a o hs.length 1 cap)->tm'.get 18=some (.int .i64 (hs.length:Int))->tm'.get 19=some (.int .i64 ((i:Int)+1))->
        ∃j',j'<k+1∧I22 h0 L (AV.sl a o hs.length 1 cap) W hs.length c.slots p.po p.li hs j' tm' ⟨h.next,h.t.set h0.next (.row (putList 0 ((uL ws).set j (.int .u64 y)) T.e) W 51)⟩:=fun j y h0s h1 h2 tm' a1 a2 a3 a4 a5=>
   ⟨k,Nat.lt_succ_self k,a1,a2,a3,a4,nx,fun b hb=>by
        have e0:¬b=h0.next:=by omega
        simp only[go_sem,seval,e0]
        exact old b hb,i+1,ws.set j y,by omega,a5,by simp[go_sem,uL_set],z.set h1 y,by rw[h0s,zi];rfl⟩
  rw[hil]
  by_cases i0:i=0
  ·subst i0
   rw[Nat.add_zero]at ra1
   have e1':(0:Int)<(hs.length:Int):=by omega
   have h651:=h65 h 1 (by decide) (by decide)
   simp only[go_sem,seval,c79_l11,t0,t3,t17,t18,t19,e1',Nat.mul_one,ra1,gL1,cfgC,plC,fl1,f3,fq,h651,hq,hqW',gO,hul,hqW,Nat.succ_le_of_lt]
   exact fin q _ (by unfold stepA;rw[hxs];simp only[];rw[if_neg (fun hh=>Nat.lt_irrefl 0 hh.1),hq];rfl) (by omega) hqW _ (by simp[go_sem,t0]) (by simp[go_sem,t3]) (by simp[go_sem,t17]) (by simp[go_sem,t18]) (by simp[go_sem])
  ·obtain⟨m,rfl⟩:∃m,i=m+1:=⟨i-1,by omega⟩
   obtain⟨y,hys,hy,_,_⟩:=hget m (by omega)
   have ra2:=ra m _ hy
   rw[rLdA,Nat.mul_one]at ra2
   have c1:((m+1:Nat):Int)=(m:Int)+1:=rfl
   have g1:(0:Int)<(m:Int)+1:=by omega
   have k1:(0:Int)<=(m:Int)+1:=by omega
   have k2:((m:Int)+1).toNat=m+1:=by omega
   have g2:(m:Int)+1-1=(m:Int):=by omega
   have g3:fw .i64 (m:Int)=(m:Int):=fwI (by omega) (by omega)
   have g4:(m:Int)<(hs.length:Int):=by omega
   rw[c1]at e1 f1 f2 h65' t19 fin
   by_cases hxy:y=x
   ·have f5:fw .i64 (p.li+((m:Int)+1))=p.li+((m:Int)+1):=fwI (by omega) (by omega)
    have f6:fw .i64 (p.li+((m:Int)+1) -1)=p.li+((m:Int)+1) -1:=fwI (by omega) (by omega)
    obtain⟨q2,hq2⟩:∃q:Nat,p.li+((m:Int)+1) -1=(q:Int):=⟨(p.li+((m:Int)+1) -1).toNat,by omega⟩
    have fq2:fw .i64 (q2:Int)=(q2:Int):=fwI (by omega) (by omega)
    have hqW2:q2<W:=by omega
    have hqW2':(q2:Int)<(W:Int):=by omega
    simp only[go_sem,seval,c79_l11,t0,t3,t17,t18,t19,e1,Nat.mul_one,ra1,ra2,gL1,cfgC,plC,f1,f2,f5,fq2,k1,k2,g1,g2,g3,g4,hxy,hq2,hqW2',gO,hul,hqW2,Nat.succ_le_of_lt]
    exact fin q2 _ (by unfold stepA;rw[hxs];simp only[];rw[if_pos ⟨Nat.succ_pos m,by rw[Nat.add_sub_cancel,hys,hxy]⟩,c1,hq2];rfl) (by omega) hqW2 _ (by simp[go_sem,t0]) (by simp[go_sem,t3]) (by simp[go_sem,t17]) (by simp[go_sem,t18]) (by simp[go_sem])
   ·simp only[go_sem,seval,c79_l11,t0,t3,t17,t18,t19,e1,Nat.mul_one,ra1,ra2,gL1,cfgC,plC,f1,f3,fq,k1,k2,g1,g2,g3,g4,hxy,h65',hq,hqW',gO,hul,hqW,Nat.succ_le_of_lt]
    exact fin q _ (by unfold stepA;rw[hxs];simp only[];rw[if_neg (fun hh=>by have h2:=hh.2;rw[Nat.add_sub_cancel,hys]at h2;exact hxy (Option.some.inj h2)),c1,hq];rfl) (by omega) hqW _ (by simp[go_sem,t0]) (by simp[go_sem,t3]) (by simp[go_sem,t17]) (by simp[go_sem,t18]) (by simp[go_sem])
def IniOK(c:CfgT)(W:Nat)(ws:List Int):Prop:=ws=iniA (plOf c).po (plOf c).li (hsL c) W (hsL c).length
structure PostI(W:Nat)(s:Int)(sp:List Int->Prop)(h:H)(v:AV)(h':H):Prop where
 ex:∃ws,Own 1 51 h' v ws.length (uL ws)∧Zero W s ws∧sp ws
 lo:∀a,own v=some a->h.next<=a
 st:StepN h h'
theorem w79(h65:F160 call){h:H}{L:Nat}{c:CfgT}{p:PlT}(hL:LayH h L c p (hsL c))(hp:PlOK c p)(hs0:0<=c.slots)(hn:(hsL c).length<=60)(W:Nat)(hW:p.wo=(W:Int))(hW0:0<W):
 WF P call c79 [.ptr L 0] h (PostI W c.slots (IniOK c W) h):=by
 obtain⟨cv,gv,hv,tv,val,gL,r1,r2,r3,r4,o1,o2⟩:=hL.ex
 have hlt:=hL.lt
 have p3:=hp.wo
 have p2:=hp.li
 have p1:=hp.po
 have e1:8*W<=281474976710656:=by omega
 have e2:W<=281474976710656:=by omega
 have x1:¬L=h.next:=by omega
 have hll:=r3.lenA
 unfold iL at hll
 rw[List.length_map]at hll
 have z0:Zero W c.slots (List.replicate W 0):=⟨List.length_replicate,fun i hi=>by rw[List.getElem?_replicate,if_pos (by omega)]⟩
 have hz:uL (List.replicate W 0)=List.replicate W (.int .u64 0):=by unfold uL;rw[List.map_replicate]
 simp only[go_sem,seval,gL,cfgC,plC,x1,hW,evLenN,rep_one,Nat.mul_one,Nat.le_refl,e1,e2,decide_true,Bool.and_self,cond_true,hll]
 refine loop_in (I22 h L hv W (hsL c).length c.slots p.po p.li (hsL c)) _ _ (fun k tm h' hI=>step22 P h65 hp rfl hs0 hsL_mem hn hW hlt gL r3 r4 k tm h' hI) (fun tm2 h2 hR=>?_) (fun _ _ hh=>hh.elim) (hsL c).length _ _
  ⟨by simp[go_sem],by simp[go_sem],by simp[go_sem],by simp[go_sem],rfl,fun b hb=>?_,0,List.replicate W 0,by omega,by simp[go_sem],by simp[go_sem,hz],z0,rfl⟩
 ·obtain⟨t3,st,hlt2,ws,gO,z,zi⟩:=hR
  simp only[go_sem,seval,t3]
  refine⟨⟨ws,?_,z,by unfold IniOK;rw[←hp.eq];exact zi⟩,fun a ha=>by cases ha;exact Nat.le_refl _,st⟩
  rw[z.len]
  refine .sl _ _ _ _ (.inr rfl) hW0 (by rw[uL_len,z.len,Nat.mul_one]) hlt2 ?_
  rw[gO,rowL,uL_len,z.len]
 ·have n1:¬b=h.next:=by omega
  simp only[go_sem,seval,n1]
@[go_sem]def c234:CF:=⟨1,(Sq [b 2 0,b 3 0] (Qq (Sq [a 4 0,K 5 3 4 1,a 6 5,s 7 6 0,qc 8 6 3 7 64,r 9 6 8] (Kq 9 [b 2 0,b 3 2] .skip)) (Rq [a 10 0,a 2 10,b 3 0]))),[.tmp 2,.tmp 3]⟩
@[go_sem]def c235:CF:=⟨1,(Sq [b 2 0,b 3 0] (Qq (Sq [a 4 0,K 5 3 4 1,a 6 5,s 7 6 0,qc 8 6 3 7 64,r 9 6 8] (Kq 9 [b 2 0,b 3 2] .skip)) (Rq [a 10 0,qq 11 3 2 10,a 2 11,b 3 0]))),[.tmp 2,.tmp 3]⟩
@[go_sem]def c236:CF:=⟨1,(Sq [b 2 0,b 3 0] (Qq (Sq [a 4 0,K 5 3 4 1,a 6 5,s 7 6 0,qc 8 6 3 7 16,r 9 6 8] (Kq 9 [b 2 0,b 3 2] .skip)) (Rq [a 10 0,qq 11 3 4 10,a 2 11,b 3 0]))),[.tmp 2,.tmp 3]⟩
@[go_sem]def c162:CF:=⟨3,(Sq [b 6 0,b 7 0] (Qq (Sq [a 8 1,K 9 3 8 1,a 10 9,s 11 10 1,qc 12 10 3 11 64,r 13 10 12,a 14 13,s 15 14 0,zY 16 14 5 15 3,s 17 14 16,B 18 17 2,zZ 19 17 3 18 0,zC 20 14 17 19,r 21 14 20] (Kq 21 [b 6 0,b 7 2] .skip)) (Qq (Sq [a 22 0] (.block 0 (Sq [J 24 5 22 1,a 23 24] (Kq 23 [a 25 1,q 26 234 25,o 27 26 0,o 28 26 1,a 6 27,a 7 28] (Sq [J 30 5 22 2,a 29 30] (Kq 29 [a 31 1,q 32 235 31,o 33 32 0,o 34 32 1,a 6 33,a 7 34] (Sq [J 36 5 22 3,a 35 36] (Kq 35 [a 37 2,q 38 236 37,o 39 38 0,o 40 38 1,a 6 39,a 7 40] .skip)))))))) (Rq [b 6 0,b 7 2])))),[.tmp 6,.tmp 7]⟩
@[go_sem]def c163:CF:=⟨3,(Sq [p 6,b 7 0] (Qq (Sq [a 12 0,u 13 86 12] (Kq 13 [p 6,b 7 1] .skip)) (Qq (Sq [a 15 2,q 16 234 15,a 14 16,o 17 14 0,o 18 14 1,a 8 17,a 9 18] (Sq [a 19 9,z 20 54 19 0] (Kq 20 [a 21 9,p 6,a 7 21] .skip))) (Qq (Sq [a 22 1,K 23 3 22 0,a 24 23,s 25 24 1,qc 26 24 3 25 65536,r 27 24 26] (Kq 27 [p 6,b 7 3] .skip)) (Qq (Sq [a 29 0,a 30 1,a 31 2,qf 32 3 30 31,qo 33 3 32 1,Z 34 109 29 33,a 28 34,o 35 28 0,o 36 28 1,a 10 35,a 11 36] (Sq [a 37 11,qe 38 37] (Kq 38 [p 6,b 7 3] .skip))) (Qq (.drw ⟨[([g 0 0,g 1 1,g 2 2,⟨3,[(41,some 2),(41,some 2)],none,.n (.mksl 51 1 8 [.int .u64 0] (.t 41) (.t 41))⟩,g 4 2,zH 5 43 4 4 4 1 1,⟨6,[(39,some 0),(40,some 1),(42,some 3),(44,some 5)],none,.p (.build [.nilp,.int .i64 0,.nils,.nils] [(0,1,.t 39),(1,1,.t 40),(2,1,.t 42),(3,1,.t 44)])⟩,q8 7 45 6 427,y 8 46 7,zi 9 0],none)],[(0,39),(1,40),(2,41),(3,42),(4,43),(5,44),(6,45),(7,46),(8,6),(9,7)],[]⟩) .ret)))))),[.tmp 6,.tmp 7]⟩
@[go_sem]def c164:CF:=⟨3,(Sq [w 4 3 1,p 6,b 7 0] (Qq (Sq [a 12 0,u 13 86 12] (Kq 13 [p 6,b 7 1] .skip)) (Sq [a 15 2,q 16 235 15,a 14 16,o 17 14 0,o 18 14 1,a 8 17,a 9 18] (Qq (Sq [a 19 9,z 20 54 19 0] (Kq 20 [a 21 9,p 6,a 7 21] .skip)) (Qq (Sq [i 22 4,K 23 3 22 0,a 24 23,L 25 24 4,qc 26 24 3 25 65536,r 27 24 26] (Kq 27 [p 6,b 7 3] .skip)) (Qq (Sq [a 29 0,i 30 4,a 31 8,qf 32 3 30 31,qo 33 3 32 1,Z 34 109 29 33,a 28 34,o 35 28 0,o 36 28 1,a 10 35,a 11 36] (Sq [a 37 11,qe 38 37] (Kq 38 [p 6,b 7 3] .skip))) (Rq [a 39 0,a 40 2,⟨some 41,none,.n (.mksl 593 2 16 [.int .u64 0,.bool false] (.t 40) (.t 40))⟩,zI 42 237 4,⟨some 43,none,.p (.build [.nilp,.nils,.nilf] [(0,1,.t 39),(1,1,.t 41),(2,1,.t 42)])⟩,w 44 430 43,a 6 44,b 7 0]))))))),[.tmp 6,.tmp 7]⟩
@[go_sem]def c165:CF:=⟨3,(Sq [p 6,b 7 0] (Qq (Sq [a 12 0,u 13 86 12] (Kq 13 [p 6,b 7 1] .skip)) (Sq [a 15 2,q 16 236 15,a 14 16,o 17 14 0,o 18 14 1,a 8 17,a 9 18] (Qq (Sq [a 19 9,z 20 54 19 0] (Kq 20 [a 21 9,p 6,a 7 21] .skip)) (Qq (Sq [a 22 1,K 23 3 22 0,a 24 23,s 25 24 1,qc 26 24 3 25 65536,r 27 24 26] (Kq 27 [p 6,b 7 3] .skip)) (Qq (Sq [a 29 0,a 30 1,a 31 8,qf 32 3 30 31,qo 33 3 32 1,Z 34 109 29 33,a 28 34,o 35 28 0,o 36 28 1,a 10 35,a 11 36] (Sq [a 37 11,qe 38 37] (Kq 38 [p 6,b 7 3] .skip))) (Rq [a 39 0,a 40 1,a 41 2,zj 42,⟨some 43,none,.p (.build [.nilp,.int .i64 0,.int .i64 0,.nilm] [(0,1,.t 39),(1,1,.t 40),(2,1,.t 41),(3,1,.t 42)])⟩,w 44 433 43,a 6 44,b 7 0]))))))),[.tmp 6,.tmp 7]⟩
@[go_sem]def c82:CF:=⟨5,(Sq [p 10,b 11 0] (Qq (Sq [a 19 0,u 20 86 19] (Kq 20 [p 10,b 11 1] .skip)) (Qq (Sq [a 22 1,a 23 3,a 24 4,qa 25 162 22 23 24,a 21 25,o 26 21 0,o 27 21 1,a 12 26,a 13 27] (Sq [a 28 13,z 29 54 28 0] (Kq 29 [a 30 13,p 10,a 11 30] .skip))) (Sq [a 31 1,a 32 3,⟨some 33,none,.p (.build [.nili,.int .u8 0,.int .i64 0] [(1,1,.t 31),(2,1,.t 32)])⟩,w 34 206 33,a 14 34] (Sq [b 15 0] (Qq (Sq [a 35 1] (.block 0 (Sq [J 51 5 35 1,a 50 51] (Cq 50 (Sq [p 16] (Sq [a 53 0,a 54 2,a 55 3,qa 56 163 53 54 55,a 52 56,o 57 52 0,o 58 52 1,a 16 57,a 15 58] (Oq [a 59 14,a 60 16,qt 61 327 60,zk 62 0 1 61,qt 63 333 62,m 64 59,d 65 0 64,t 1 65 63]))) (Sq [J 67 5 35 2,a 66 67] (Cq 66 (Sq [p 17] (Sq [a 69 0,a 70 2,a 71 3,qa 72 164 69 70 71,a 68 72,o 73 68 0,o 74 68 1,a 17 73,a 15 74] (Oq [a 75 14,a 76 17,qt 77 334 76,zk 78 0 1 77,qt 79 340 78,m 80 75,d 81 0 80,t 1 81 79]))) (Sq [p 18] (Sq [a 37 0,a 38 2,a 39 4,qa 40 165 37 38 39,a 36 40,o 41 36 0,o 42 36 1,a 18 41,a 15 42] (Oq [a 43 14,a 44 18,qt 45 341 44,zk 46 0 1 45,qt 47 347 46,m 48 43,d 49 0 48,t 1 49 47]))))))))) (Qq (Sq [a 82 15,z 83 54 82 0] (Kq 83 [a 84 15,p 10,a 11 84] .skip)) (Rq [a 85 14,a 10 85,b 11 0])))))))),[.tmp 10,.tmp 11]⟩
inductive PrcuH(h:H)(R:Nat)(n:Nat):Prop where
 |full (G N B M:Nat) (base kind:Int) (gR:h.t.get R=some (rowL [.ifc 333 (.agg [.ifc 327 (.ptr G 0)]),.int .u8 kind,.int .i64 (n:Int)] 206))
   (gG:h.t.get G=some (rowL [.ptr M 0,.int .i64 base,.sl N 0 n 1 (some n),.sl B 0 n 1 (some n)] 427)) (gN:h.t.get N=some (.row (putList 0 (List.replicate n (.int .u64 0)) T.e) n 51)) (lR:R<h.next) (lG:G<h.next) (lN:N<h.next)
 |each (G N M:Nat) (fv:AV) (kind:Int) (gR:h.t.get R=some (rowL [.ifc 340 (.agg [.ifc 334 (.ptr G 0)]),.int .u8 kind,.int .i64 (n:Int)] 206))
   (gG:h.t.get G=some (rowL [.ptr M 0,.sl N 0 n 2 (some n),fv] 430)) (gN:h.t.get N=some (.row (putList 0 (rep [.int .u64 0,.bool false] (n*2)) T.e) (n*2) 593)) (lR:R<h.next) (lG:G<h.next) (lN:N<h.next)
 |gate (G S M:Nat) (base nb kind:Int) (gR:h.t.get R=some (rowL [.ifc 347 (.agg [.ifc 341 (.ptr G 0)]),.int .u8 kind,.int .i64 (n:Int)] 206))
   (gG:h.t.get G=some (rowL [.ptr M 0,.int .i64 base,.int .i64 nb,.map S] 433)) (gS:h.t.get S=some (.map [] 0)) (lR:R<h.next) (lG:G<h.next) (lS:S<h.next)
theorem PrcuH.step{h h':H}{R n:Nat}(p:PrcuH h R n)(s:StepN h h'):PrcuH h' R n:=by
 have l:∀{a},a<h.next->a<h'.next:=fun ha=>Nat.lt_of_lt_of_le ha s.next
 cases p with
 |full G N B M base kind gR gG gN lR lG lN=>exact .full G N B M base kind ((s.old _ lR).trans gR) ((s.old _ lG).trans gG) ((s.old _ lN).trans gN) (l lR) (l lG) (l lN)
 |each G N M fv kind gR gG gN lR lG lN=>exact .each G N M fv kind ((s.old _ lR).trans gR) ((s.old _ lG).trans gG) ((s.old _ lN).trans gN) (l lR) (l lG) (l lN)
 |gate G S M base nb kind gR gG gS lR lG lS=>exact .gate G S M base nb kind ((s.old _ lR).trans gR) ((s.old _ lG).trans gG) ((s.old _ lS).trans gS) (l lR) (l lG) (l lS)
theorem w234(P:Program){call:CallE}{h:H}{n:Int}(h1:1<=n)(h2:n<=64):WF P call c234 [.int .i64 n] h fun v h'=>v=.tup [.int .i64 n,.int .i64 0]∧h'=h:=by
 have e1:¬n<1:=by omega
 have e2:¬64<n:=by omega
 simp only[go_sem,seval,e1,e2]
theorem w235(P:Program){call:CallE}{h:H}{n:Int}(h1:1<=n)(h2:n<=64):WF P call c235 [.int .i64 n] h fun v h'=>v=.tup [.int .i64 (2*n),.int .i64 0]∧h'=h:=by
 have e1:¬n<1:=by omega
 have e2:¬64<n:=by omega
 have f1:fw .i64 (2*n)=2*n:=fwI (by omega) (by omega)
 simp only[go_sem,seval,e1,e2,f1]
theorem w236(P:Program){call:CallE}{h:H}{n:Int}(h1:1<=n)(h2:n<=16):WF P call c236 [.int .i64 n] h fun v h'=>v=.tup [.int .i64 (4*n),.int .i64 0]∧h'=h:=by
 have e1:¬n<1:=by omega
 have e2:¬16<n:=by omega
 have f1:fw .i64 (4*n)=4*n:=fwI (by omega) (by omega)
 simp only[go_sem,seval,e1,e2,f1]
def FW(call:CallE)(f:FuncId)(m k:Int):Prop:=∀h (n:Int),1<=n->n<=m->call f [.int .i64 n] h=some (.tup [.int .i64 (k*n),.int .i64 0],h)
def EngOK(c:CfgT):Prop:=(1<=c.slots∧c.slots<=64)∧(c.engine=1∧c.buckets=0∨c.engine=2∧c.buckets=0∨c.engine=3∧1<=c.buckets∧c.buckets<=16)
theorem layB.eng{c:CfgT}(h:layB c):EngOK c:=by
 obtain⟨_,_,h2,h3,h4,h5,h6,_⟩:=h
 refine⟨h2,?_⟩
 by_cases e1:c.engine=1
 ·exact .inl ⟨e1,h6 (by omega)⟩
 by_cases e2:c.engine=2
 ·exact .inr (.inl ⟨e2,h6 (by omega)⟩)
 ·exact .inr (.inr ⟨by omega,h5 (by omega)⟩)
theorem w162(P:Program){call:CallE}(h104:FW call 234 64 1)(h105:FW call 235 64 2)(h106:FW call 236 16 4){h:H}{c:CfgT}(hc:EngOK c):
 WF P call c162 [.int .u8 c.engine,.int .i64 c.slots,.int .i64 c.buckets] h fun v h'=>v=.tup [.int .i64 (engN c),.int .i64 0]∧h'=h:=by
 obtain⟨hs,hc⟩:=hc
 have e1:¬c.slots<1:=by omega
 have e2:¬64<c.slots:=by omega
 have k1:=h104 h c.slots hs.1 hs.2
 have k2:=h105 h c.slots hs.1 hs.2
 rw[Int.one_mul]at k1
 rcases hc with⟨he,hb⟩|⟨he,hb⟩|⟨he,hb1,hb2⟩
 ·simp only[go_sem,seval,e1,e2,he,hb,k1,engN]
 ·simp only[go_sem,seval,e1,e2,he,hb,k2,engN]
 ·have k3:=h106 h c.buckets hb1 hb2
  simp only[go_sem,seval,e1,e2,he,k3,engN]
def FPeek(call:CallE):Prop:=∀h M W ws (a:Int),MemH h M W ws->call 109 [.ptr M 0,.int .i64 a] h=some ((if h:0<=a∧a.toNat<ws.length then .tup [.int .u64 (ws[a.toNat]'h.2),.bool true]else .tup [.int .u64 0,.bool false]),h)
theorem FPeek.yes{call:CallE}(f:FPeek call){h:H}{M W:Nat}{ws:List Int}(m:MemH h M W ws){a:Int}(h0:0<=a)(h1:a<(ws.length:Int)):∃x,call 109 [.ptr M 0,.int .i64 a] h=some (.tup [.int .u64 x,.bool true],h):=by
 have:=f h M W ws a m
 rw[dif_pos ⟨h0,by omega⟩]at this
 exact⟨_,this⟩
theorem FPeek.no{call:CallE}(f:FPeek call){h:H}{M W:Nat}{ws:List Int}(m:MemH h M W ws){a:Int}(h1:(ws.length:Int)<=a):call 109 [.ptr M 0,.int .i64 a] h=some (.tup [.int .u64 0,.bool false],h):=by
 have:=f h M W ws a m
 rw[dif_neg (by omega)]at this
 exact this
def Eng70(M:Nat)(n:Nat)(base:Int)(h:H)(v:AV)(h':H):Prop:=StepN h h'∧∃G N B,v=.tup [.ptr G 0,.int .i64 0]∧h'.t.get G=some (rowL [.ptr M 0,.int .i64 base,.sl N 0 n 1 (some n),.sl B 0 n 1 (some n)] 427)∧h'.t.get N=some (.row (putList 0 (List.replicate n (.int .u64 0)) T.e) n 51)∧G<h'.next∧N<h'.next∧h'.t.get B=some (.row (putList 0 (List.replicate n (.bool false)) T.e) n 4)∧B<h'.next∧h.next<=G∧h.next<=N∧h.next<=B∧N≠B
theorem w163(h104:FW call 234 64 1)(hpk:FPeek call){h:H}{M W:Nat}{ws:List Int}(hm:MemH h M W ws){n:Nat}(h1:1<=n)(h2:n<=64){base:Int}(b0:0<=base)(b1:base+(n:Int)<=(ws.length:Int))(b2:base<=60000):
 WF P call c163 [.ptr M 0,.int .i64 base,.int .i64 (n:Int)] h (Eng70 M n base h):=by
 have k1:=h104 h (n:Int) (by omega) (by omega)
 rw[Int.one_mul]at k1
 obtain⟨x,hx⟩:=hpk.yes hm (a:=base+(n:Int) -1) (by omega) (by omega)
 have f1:fw .i64 (base+(n:Int))=base+(n:Int):=fwI (by omega) (by omega)
 have f2:fw .i64 (base+(n:Int) -1)=base+(n:Int) -1:=fwI (by omega) (by omega)
 have e1:¬base<0:=by omega
 have e2:¬65536<base:=by omega
 have m1:8*n<=281474976710656:=by omega
 have m2:n<=281474976710656:=by omega
 have m3:1*n<=281474976710656:=by omega
 simp only[go_sem,seval,k1,hx,f1,f2,e1,e2,evLenN,rep_one,Nat.mul_one,Nat.le_refl,m1,m2,m3,decide_true,Bool.and_self,cond_true]
 refine⟨⟨by show h.next<=h.next+3;omega,fun b hb=>?_⟩,_,_,_,rfl,by simp only[go_sem,seval];rfl,?_,by show h.next+2<h.next+3;omega,by show h.next<h.next+3;omega,?_,by show h.next+1<h.next+3;omega,by omega,by omega,by omega,by omega⟩
 ·have n1:¬b=h.next:=by omega
  have n2:¬b=h.next+1:=by omega
  have n3:¬b=h.next+2:=by omega
  simp only[go_sem,seval,n1,n2,n3]
 ·have n1:¬h.next=h.next+1:=by omega
  have n2:¬h.next=h.next+2:=by omega
  simp only[go_sem,seval,n1,n2]
 ·have n2:¬h.next+1=h.next+2:=by omega
  simp only[go_sem,seval,n2]
def Eng71(M:Nat)(n:Nat)(base:Int)(h:H)(v:AV)(h':H):Prop:=StepN h h'∧∃G N fv F,v=.tup [.ptr G 0,.int .i64 0]∧h'.t.get G=some (rowL [.ptr M 0,.sl N 0 n 2 (some n),fv] 430)∧h'.t.get N=some (.row (putList 0 (rep [.int .u64 0,.bool false] (n*2)) T.e) (n*2) 593)∧G<h'.next∧N<h'.next∧fv=.fn (.func 237) [] [.ptr F 0]∧h'.t.get F=some (rowL [.int .i64 base] 3)∧F<h'.next∧h.next<=G∧h.next<=N∧h.next<=F
theorem w164(h105:FW call 235 64 2)(hpk:FPeek call){h:H}{M W:Nat}{ws:List Int}(hm:MemH h M W ws)(hM:M<h.next)(hW:W<h.next){n:Nat}(h1:1<=n)(h2:n<=64){base:Int}(b0:0<=base)(b1:base+2*(n:Int)<=(ws.length:Int))(b2:base<=60000):
 WF P call c164 [.ptr M 0,.int .i64 base,.int .i64 (n:Int)] h (Eng71 M n base h):=by
 have st0:=StepN.new h (.row (putList 0 [.int .i64 base] T.e) 1 3)
 have hm1:MemH ⟨h.next+1,h.t.set h.next (.row (putList 0 [.int .i64 base] T.e) 1 3)⟩ M W ws:=by
  obtain⟨⟨lg,g,o⟩,w,ne⟩:=hm
  exact⟨⟨lg,(st0.old M hM).trans g,o⟩,(st0.old W hW).trans w,ne⟩
 have k1:=h105 ⟨h.next+1,h.t.set h.next (.row (putList 0 [.int .i64 base] T.e) 1 3)⟩ (n:Int) (by omega) (by omega)
 obtain⟨x,hx⟩:=hpk.yes hm1 (a:=base+2*(n:Int) -1) (by omega) (by omega)
 have f1:fw .i64 (base+2*(n:Int))=base+2*(n:Int):=fwI (by omega) (by omega)
 have f2:fw .i64 (base+2*(n:Int) -1)=base+2*(n:Int) -1:=fwI (by omega) (by omega)
 have e1:¬base<0:=by omega
 have e2:¬65536<base:=by omega
 have m1:16*n<=281474976710656:=by omega
 have m2:n<=281474976710656:=by omega
 simp only[go_sem,seval,k1,hx,f1,f2,e1,e2,evLenN,Nat.le_refl,m1,m2,decide_true,Bool.and_self,cond_true]
 refine⟨⟨by show h.next<=h.next+3;omega,fun b hb=>?_⟩,_,_,_,h.next,rfl,by simp only[go_sem,seval];rfl,?_,by show h.next+2<h.next+3;omega,by show h.next+1<h.next+3;omega,rfl,?_,by show h.next<h.next+3;omega,by omega,by omega,by omega⟩
 ·have n1:¬b=h.next:=by omega
  have n2:¬b=h.next+1:=by omega
  have n3:¬b=h.next+2:=by omega
  simp only[go_sem,seval,n1,n2,n3]
 ·have n1:¬h.next+1=h.next+2:=by omega
  simp only[go_sem,seval,n1]
 ·have n1:¬h.next=h.next+1:=by omega
  have n2:¬h.next=h.next+2:=by omega
  simp only[go_sem,seval,n1,n2]
  rfl
def Eng72(M:Nat)(base nb:Int)(h:H)(v:AV)(h':H):Prop:=StepN h h'∧∃G S,v=.tup [.ptr G 0,.int .i64 0]∧h'.t.get G=some (rowL [.ptr M 0,.int .i64 base,.int .i64 nb,.map S] 433)∧h'.t.get S=some (.map [] 0)∧G<h'.next∧S<h'.next∧h.next<=G∧h.next<=S
theorem w165(h106:FW call 236 16 4)(hpk:FPeek call){h:H}{M W:Nat}{ws:List Int}(hm:MemH h M W ws){n:Int}(h1:1<=n)(h2:n<=16){base:Int}(b0:0<=base)(b1:base+4*n<=(ws.length:Int))(b2:base<=60000):
 WF P call c165 [.ptr M 0,.int .i64 base,.int .i64 n] h (Eng72 M base n h):=by
 have k1:=h106 h n (by omega) (by omega)
 obtain⟨x,hx⟩:=hpk.yes hm (a:=base+4*n-1) (by omega) (by omega)
 have f1:fw .i64 (base+4*n)=base+4*n:=fwI (by omega) (by omega)
 have f2:fw .i64 (base+4*n-1)=base+4*n-1:=fwI (by omega) (by omega)
 have e1:¬base<0:=by omega
 have e2:¬65536<base:=by omega
 simp only[go_sem,seval,k1,hx,f1,f2,e1,e2]
 refine⟨⟨by show h.next<=h.next+2;omega,fun b hb=>?_⟩,_,_,rfl,by simp only[go_sem,seval];rfl,?_,by show h.next+1<h.next+2;omega,by show h.next<h.next+2;omega,by omega,by omega⟩
 ·have n1:¬b=h.next:=by omega
  have n2:¬b=h.next+1:=by omega
  simp only[go_sem,seval,n1,n2]
 ·have n1:¬h.next=h.next+1:=by omega
  simp only[go_sem,seval,n1]
theorem MemH.step{h h':H}{M W:Nat}{ws:List Int}(m:MemH h M W ws)(hM:M<h.next)(hW:W<h.next)(s:StepN h h'):MemH h' M W ws:=by
 obtain⟨⟨lg,g,o⟩,w,ne⟩:=m
 exact⟨⟨lg,(s.old M hM).trans g,o⟩,(s.old W hW).trans w,ne⟩
inductive PrcuX(lo:Nat)(h:H)(M:Nat)(base:Int)(R n:Nat)(c:CfgT):Prop where
 |full (G N B:Nat) (he:c.engine=1) (gR:h.t.get R=some (rowL [.ifc 333 (.agg [.ifc 327 (.ptr G 0)]),.int .u8 1,.int .i64 (n:Int)] 206))
   (gG:h.t.get G=some (rowL [.ptr M 0,.int .i64 base,.sl N 0 n 1 (some n),.sl B 0 n 1 (some n)] 427)) (gN:h.t.get N=some (.row (putList 0 (List.replicate n (.int .u64 0)) T.e) n 51)) (gB:h.t.get B=some (.row (putList 0 (List.replicate n (.bool false)) T.e) n 4)) (lR:R<h.next) (lG:G<h.next) (lN:N<h.next) (lB:B<h.next) (oR:lo<=R) (oG:lo<=G) (oN:lo<=N) (oB:lo<=B)
 |each (G N F:Nat) (he:c.engine=2) (gR:h.t.get R=some (rowL [.ifc 340 (.agg [.ifc 334 (.ptr G 0)]),.int .u8 2,.int .i64 (n:Int)] 206))
   (gG:h.t.get G=some (rowL [.ptr M 0,.sl N 0 n 2 (some n),.fn (.func 237) [] [.ptr F 0]] 430)) (gN:h.t.get N=some (.row (putList 0 (rep [.int .u64 0,.bool false] (n*2)) T.e) (n*2) 593)) (gF:h.t.get F=some (rowL [.int .i64 base] 3)) (lR:R<h.next) (lG:G<h.next) (lN:N<h.next) (lF:F<h.next) (oR:lo<=R) (oG:lo<=G) (oN:lo<=N) (oF:lo<=F)
 |gate (G S:Nat) (he:c.engine=3) (hb:1<=c.buckets∧c.buckets<=16) (gR:h.t.get R=some (rowL [.ifc 347 (.agg [.ifc 341 (.ptr G 0)]),.int .u8 3,.int .i64 (n:Int)] 206))
   (gG:h.t.get G=some (rowL [.ptr M 0,.int .i64 base,.int .i64 c.buckets,.map S] 433)) (gS:h.t.get S=some (.map [] 0)) (lR:R<h.next) (lG:G<h.next) (lS:S<h.next) (oR:lo<=R) (oG:lo<=G) (oS:lo<=S)
theorem PrcuX.keep{lo:Nat}{h h':H}{M:Nat}{base:Int}{R n:Nat}{c:CfgT}(p:PrcuX lo h M base R n c)(hn:h.next<=h'.next)(k:∀b,lo<=b->b<h.next->h'.t.get b=h.t.get b):PrcuX lo h' M base R n c:=by
 have l:∀{a},a<h.next->a<h'.next:=fun ha=>Nat.lt_of_lt_of_le ha hn
 cases p with
 |full G N B he gR gG gN gB lR lG lN lB oR oG oN oB=>exact .full G N B he ((k _ oR lR).trans gR) ((k _ oG lG).trans gG) ((k _ oN lN).trans gN) ((k _ oB lB).trans gB) (l lR) (l lG) (l lN) (l lB) oR oG oN oB
 |each G N F he gR gG gN gF lR lG lN lF oR oG oN oF=>exact .each G N F he ((k _ oR lR).trans gR) ((k _ oG lG).trans gG) ((k _ oN lN).trans gN) ((k _ oF lF).trans gF) (l lR) (l lG) (l lN) (l lF) oR oG oN oF
 |gate G S he hb gR gG gS lR lG lS oR oG oS=>exact .gate G S he hb ((k _ oR lR).trans gR) ((k _ oG lG).trans gG) ((k _ oS lS).trans gS) (l lR) (l lG) (l lS) oR oG oS
def PostP(M:Nat)(base:Int)(c:CfgT)(n:Nat)(h:H)(v:AV)(h':H):Prop:=StepN h h'∧∃R,v=.tup [.ptr R 0,.int .i64 0]∧PrcuH h' R n∧PrcuX h.next h' M base R n c
theorem w82(h69:∀h c,EngOK c->call 162 [.int .u8 c.engine,.int .i64 c.slots,.int .i64 c.buckets] h=some (.tup [.int .i64 (engN c),.int .i64 0],h))
 (h70:∀h M W ws n base,MemH h M W ws->1<=n->n<=64->0<=base->base+((n:Nat):Int)<=((ws:List Int).length:Int)->base<=60000->∃v h',call 163 [.ptr M 0,.int .i64 base,.int .i64 (n:Int)] h=some (v,h')∧Eng70 M n base h v h')
 (h71:∀h M W ws n base,MemH h M W ws->M<h.next->W<h.next->1<=n->n<=64->0<=base->base+2*((n:Nat):Int)<=((ws:List Int).length:Int)->base<=60000->∃v h',call 164 [.ptr M 0,.int .i64 base,.int .i64 (n:Int)] h=some (v,h')∧Eng71 M n base h v h')
 (h72:∀h M W ws n base,MemH h M W ws->1<=n->n<=16->0<=base->base+4*n<=((ws:List Int).length:Int)->base<=60000->∃v h',call 165 [.ptr M 0,.int .i64 base,.int .i64 n] h=some (v,h')∧Eng72 M base n h v h')
 {h:H} {M W:Nat} {ws:List Int} (hm:MemH h M W ws) (hM:M<h.next) (hW:W<h.next) {c:CfgT} (hc:EngOK c) {base:Int} (b0:0<=base) (b1:base+engN c<=(ws.length:Int)) (b2:base<=60000) {n:Nat} (hn:c.slots=(n:Int)):
 WF P call c82 [.ptr M 0,.int .u8 c.engine,.int .i64 base,.int .i64 c.slots,.int .i64 c.buckets] h (PostP M base c n h):=by
 have k69:=h69 h c hc
 obtain⟨hs,hc⟩:=hc
 have st0:∀x,StepN h ⟨h.next+1,h.t.set h.next x⟩:=fun x=>StepN.new h x
 have fin:∀{x h1 y},StepN ⟨h.next+1,h.t.set h.next x⟩ h1->StepN h ⟨h1.next,h1.t.set h.next y⟩:=fun{x h1 y} s=>⟨by have:=s.next;show h.next<=h1.next;have h2:h.next+1<=h1.next:=this;omega,fun b hb=>by
  have e1:¬b=h.next:=by omega
  have:=s.old b (by show b<h.next+1;omega)
  simp only[go_sem,seval,e1]at this
  simp only[go_sem,seval,e1,this]⟩
 rcases hc with⟨he,hb⟩|⟨he,hb⟩|⟨he,hb1,hb2⟩
 ·have hN:engN c=(n:Int):=by unfold engN;rw[if_pos he,hn]
  rw[he,hb,hn,hN]at k69
  rw[he,hb,hn]
  simp only[go_sem,seval,k69]
  refine opt_by (h70 _ M W ws n base (hm.step hM hW (st0 _)) (by omega) (by omega) b0 (by omega) b2) fun v1 h1 p1=>?_
  obtain⟨st1,G,N,B,rfl,gG,gN,lG,lN,gBg,lBg,loG,loN,loB,NB⟩:=p1
  have nx1:h.next+1<=h1.next:=st1.next
  have gR:=st1.old h.next (Nat.lt_succ_self _)
  simp only[go_sem,seval]at gR
  simp only[go_sem,seval,gR]
  by_cases hG:G=h.next
  ·rw[hG,gR]at gG;simp at gG
  by_cases hNn:N=h.next
  ·rw[hNn,gR]at gN;simp at gN
  by_cases hB:B=h.next
  ·rw[hB,gR]at gBg;simp at gBg
  have o1:h.next+1<=G:=loG
  have o2:h.next+1<=N:=loN
  have o3:h.next+1<=B:=loB
  exact⟨fin st1,h.next,rfl,.full G N B M base 1 (by simp[go_sem]) (by simp[go_sem,hG,gG]) (by simp[go_sem,hNn,gN]) (by show h.next<h1.next;omega) lG lN,.full G N B he (by simp only[go_sem,seval];rfl) (by simp[go_sem,hG,gG]) (by simp[go_sem,hNn,gN]) (by simp[go_sem,hB,gBg]) (by show h.next<h1.next;omega) lG lN lBg (Nat.le_refl _) (by omega) (by omega) (by omega)⟩
 ·have hN:engN c=2*(n:Int):=by unfold engN;rw[if_neg (by omega),if_pos he,hn]
  rw[he,hb,hn,hN]at k69
  rw[he,hb,hn]
  simp only[go_sem,seval,k69]
  refine opt_by (h71 _ M W ws n base (hm.step hM hW (st0 _)) (Nat.lt_succ_of_lt hM) (Nat.lt_succ_of_lt hW) (by omega) (by omega) b0 (by omega) b2) fun v1 h1 p1=>?_
  obtain⟨st1,G,N,fv,F,rfl,gG,gN,lG,lN,efv,gF,lF,loG,loN,loF⟩:=p1
  have nx1:h.next+1<=h1.next:=st1.next
  have gR:=st1.old h.next (Nat.lt_succ_self _)
  simp only[go_sem,seval]at gR
  simp only[go_sem,seval,gR]
  by_cases hG:G=h.next
  ·rw[hG,gR]at gG;simp at gG
  by_cases hNn:N=h.next
  ·rw[hNn,gR]at gN;simp at gN
  by_cases hF:F=h.next
  ·rw[hF,gR]at gF;simp[rowL]at gF
  have o1:h.next+1<=G:=loG
  have o2:h.next+1<=N:=loN
  have o3:h.next+1<=F:=loF
  subst efv
  exact⟨fin st1,h.next,rfl,.each G N M (.fn (.func 237) [] [.ptr F 0]) 2 (by simp[go_sem]) (by simp[go_sem,hG,gG]) (by simp[go_sem,hNn,gN]) (by show h.next<h1.next;omega) lG lN,.each G N F he (by simp only[go_sem,seval];rfl) (by simp[go_sem,hG,gG]) (by simp[go_sem,hNn,gN]) (by simp[go_sem,hF,gF]) (by show h.next<h1.next;omega) lG lN lF (Nat.le_refl _) (by omega) (by omega) (by omega)⟩
 ·have hN:engN c=4*c.buckets:=by unfold engN;rw[if_neg (by omega),if_neg (by omega)]
  rw[he,hn,hN]at k69
  rw[he,hn]
  simp only[go_sem,seval,k69]
  refine opt_by (h72 _ M W ws c.buckets base (hm.step hM hW (st0 _)) hb1 hb2 b0 (by omega) b2) fun v1 h1 p1=>?_
  obtain⟨st1,G,S,rfl,gG,gN,lG,lN,loG,loN⟩:=p1
  have nx1:h.next+1<=h1.next:=st1.next
  have gR:=st1.old h.next (Nat.lt_succ_self _)
  simp only[go_sem,seval]at gR
  simp only[go_sem,seval,gR]
  by_cases hG:G=h.next
  ·rw[hG,gR]at gG;simp at gG
  by_cases hNn:S=h.next
  ·rw[hNn,gR]at gN;simp at gN
  have o1:h.next+1<=G:=loG
  have o2:h.next+1<=S:=loN
  exact⟨fin st1,h.next,rfl,.gate G S M base c.buckets 3 (by simp[go_sem]) (by simp[go_sem,hG,gG]) (by simp[go_sem,hNn,gN]) (by show h.next<h1.next;omega) lG lN,.gate G S he ⟨hb1,hb2⟩ (by simp only[go_sem,seval];rfl) (by simp[go_sem,hG,gG]) (by simp[go_sem,hNn,gN]) (by show h.next<h1.next;omega) lG lN (Nat.le_refl _) (by omega) (by omega)⟩
@[go_sem]def c80:CF:=⟨2,(Sq [p 4,b 5 0] (Qq (Sq [a 11 0,u 12 86 11,a 13 12,s 14 13 1,qA 15 13 91 14,r 16 13 15] (Kq 16 [p 4,b 5 1] .skip)) (Sq [a 17 1,q 18 83 17,zS 6 38 0 0 0 0 0 0 0 0 0 0,t 10 6 18] (Qq (Sq [a 20 0,d 21 9 6,i 22 21,qo 23 3 22 1,Z 24 109 20 23,a 19 24,o 25 19 0,o 26 19 1,a 7 25,a 8 26] (Sq [a 27 8,qe 28 27] (Kq 28 [p 4,b 5 2] .skip))) (Qq (Sq [a 30 0,d 31 9 6,i 32 31,Z 33 109 30 32,a 29 33,o 34 29 0,o 35 29 1,a 9 34,a 10 35] (Sq [a 36 10] (Kq 36 [p 4,b 5 2] .skip))) (Qq (.drw ⟨[([g 0 0,g 1 1,S 2 6 5,k 3 39 2,S 4 6 6,k 5 41 4,⟨6,[],none,.n .mkmap⟩,g 7 1],some (qg 8 44 7 161)),([q9 9 45 8 8 3 1 8 0,⟨10,[(37,some 0),(38,some 1),(40,some 3),(42,some 5),(43,some 6),(46,some 9)],none,.p (.build [.nilp,.nilp,iz,iz,.nilm,.nils] [(0,1,.t 37),(1,1,.t 38),(2,1,.t 40),(3,1,.t 42),(4,1,.t 43),(5,1,.t 46)])⟩,q8 11 47 10 302,y 12 48 11,zi 13 0],none)],[(0,37),(1,38),(2,39),(3,40),(4,41),(5,42),(6,43),(7,44),(8,45),(9,46),(10,47),(11,48),(12,4),(13,5)],[(⟨3,[(39,(some 2))],none,.r (.ld none (.t 39))⟩,[0,1]),(⟨5,[(41,(some 4))],none,.r (.ld none (.t 41))⟩,[0,1])]⟩) .ret)))))),[.tmp 4,.tmp 5]⟩
@[go_sem]def c81:CF:=⟨2,(Sq [p 4,b 5 0] (Qq (Sq [a 6 0,u 7 86 6,a 8 7,s 9 8 1,qA 10 8 91 9,r 11 8 10] (Kq 11 [p 4,b 5 1] .skip)) (Qq (Sq [a 12 0,q 13 60 12,A 14 13,a 15 1,q 16 83 15,zJ 17 3 9 16,qK 18 3 14 17] (Kq 18 [p 4,b 5 2] .skip)) (Rq [a 19 0,a 20 1,zK 21 0 1 19 1 1 20,w 22 325 21,a 4 22,b 5 0])))),[.tmp 4,.tmp 5]⟩
@[go_sem]def c20:CF:=⟨1,(Sq [w 1 27 0,p 2,b 3 0] (Sq [V 8 16 1,q 9 77 8,a 7 9,o 10 7 0,o 11 7 1,a 4 10,a 5 11] (Qq (Sq [a 12 5,z 13 54 12 0] (Kq 13 [a 14 5,p 2,a 3 14] .skip)) (Sq [a 15 4,⟨some 16,none,.p (.build [.nilp,.nilp,.nilp,.nilp,.nilp] [(0,1,.t 15)])⟩,zj 17,zj 18,⟨some 19,none,.p (.build [.nilp,.nilp,.nilp,.nilp,.nilp,.nils,.nils,.nilm,.nilm] [(0,5,.t 16),(7,1,.t 17),(8,1,.t 18)])⟩,w 20 100 19,a 6 20] (Qq (Sq [a 22 6,a 23 4,q 24 79 23,q 25 78 24,a 21 25,o 26 21 0,o 27 21 1,m 28 22,d 29 0 28,d 30 1 29,t 1 30 26,a 5 27] (Sq [a 31 5,z 32 54 31 0] (Kq 32 [a 33 5,p 2,a 3 33] .skip))) (Qq (Sq [a 35 6,a 36 6,m 37 36,d 38 0 37,d 39 1 38,i 40 39,a 41 4,Z 42 80 40 41,a 34 42,o 43 34 0,o 44 34 1,m 45 35,d 46 0 45,d 47 2 46,t 1 47 43,a 5 44] (Sq [a 48 5,z 49 54 48 0] (Kq 49 [a 50 5,p 2,a 3 50] .skip))) (Qq (Sq [a 52 6,a 53 6,m 54 53,d 55 0 54,d 56 1 55,i 57 56,a 58 4,Z 59 81 57 58,a 51 59,o 60 51 0,o 61 51 1,m 62 52,d 63 0 62,d 64 3 63,t 1 64 60,a 5 61] (Sq [a 65 5,z 66 54 65 0] (Kq 66 [a 67 5,p 2,a 3 67] .skip))) (Qq (Qq (.drw ⟨[([g 0 6,g 1 6,n 2 70 1,j 3 71 2 0,j 4 72 3 1,k 5 73 4,S 6 1 2,k 7 75 6,g 8 4,S 11 1 1,k 12 80 11,S 13 1 3,k 14 82 13],some (qg 9 77 8 83)),([zL 10 78 9 3 1],some (qZ 15 74 5 76 7 79 10 81 12 83 14 82)),([y 16 84 15,N 17 68 16 0,N 18 68 16 1,n 19 69 0,j 20 87 19 0,j 21 88 20 4],some (R 22 89 21 85 17 1)),([y 23 86 18],none)],[(0,69),(1,70),(2,71),(3,72),(4,73),(5,74),(6,75),(7,76),(8,77),(9,78),(10,79),(11,80),(12,81),(13,82),(14,83),(15,84),(16,68),(17,85),(18,86),(19,87),(20,88),(21,89),(23,5)],[(⟨5,[(73,(some 4))],none,.r (.ld none (.t 73))⟩,[1]),(⟨7,[(75,(some 6))],none,.r (.ld none (.t 75))⟩,[1]),(⟨12,[(80,(some 11))],none,.r (.ld none (.t 80))⟩,[1]),(⟨14,[(82,(some 13))],none,.r (.ld none (.t 82))⟩,[1])]⟩) (Sq [a 90 5,z 91 54 90 0] (Kq 91 [a 92 5,p 2,a 3 92] .skip))) (Rq [a 93 6,a 2 93,b 3 0]))))))))),[.tmp 2,.tmp 3]⟩
structure StepX(M W:Nat)(h h':H):Prop where
 next:h.next<=h'.next
 old:∀b,b<h.next->b≠M->b≠W->h'.t.get b=h.t.get b
theorem StepX.trans{M W:Nat}{a b c:H}(h:StepX M W a b)(k:StepX M W b c):StepX M W a c:=⟨Nat.le_trans h.next k.next,fun x hx m w=>(k.old x (Nat.lt_of_lt_of_le hx h.next) m w).trans (h.old x hx m w)⟩
theorem StepN.x{h h':H}(s:StepN h h')(M W:Nat):StepX M W h h':=⟨s.next,fun b hb _ _=>s.old b hb⟩
theorem StepN.withX{M W:Nat}{a b c:H}(h:StepN a b)(k:StepX M W b c)(hM:a.next<=M)(hW:a.next<=W):StepN a c:=⟨Nat.le_trans h.next k.next,fun x hx=>(k.old x (Nat.lt_of_lt_of_le hx h.next) (by omega) (by omega)).trans (h.old x hx)⟩
theorem PrcuH.off{h h':H}{M W R n:Nat}{ws:List Int}{lg:AV}(p:PrcuH h R n)(m:MemG h M W ws lg)(s:StepX M W h h'):PrcuH h' R n:=by
 have l:∀{a},a<h.next->a<h'.next:=fun ha=>Nat.lt_of_lt_of_le ha s.next
 have gM:=m.g
 have gW:=m.w
 have k:∀{b cells len e},b<h.next->h.t.get b=some (.row cells len e)->e≠197->e≠194->h'.t.get b=some (.row cells len e):=fun{b cells len e} hb g n1 n2=>by
  refine(s.old b hb (fun e=>?_) (fun e=>?_)).trans g
  ·subst e;rw[gM]at g;simp at g;exact n1 g.2.2.symm
  ·subst e;rw[gW]at g;simp[rowL]at g;exact n2 g.2.2.symm
 cases p with
 |full G N B M' base kind gR gG gN lR lG lN=>exact .full G N B M' base kind (k lR gR (by decide) (by decide)) (k lG gG (by decide) (by decide)) (k lN gN (by decide) (by decide)) (l lR) (l lG) (l lN)
 |each G N M' fv kind gR gG gN lR lG lN=>exact .each G N M' fv kind (k lR gR (by decide) (by decide)) (k lG gG (by decide) (by decide)) (k lN gN (by decide) (by decide)) (l lR) (l lG) (l lN)
 |gate G S M' base nb kind gR gG gS lR lG lS=>
  refine .gate G S M' base nb kind (k lR gR (by decide) (by decide)) (k lG gG (by decide) (by decide)) ((s.old S lS (fun e=>?_) (fun e=>?_)).trans gS) (l lR) (l lG) (l lS)
  ·subst e;rw[gM]at gS;simp at gS
  ·subst e;rw[gW]at gS;simp[rowL]at gS
def F83(call:CallE):Prop:=∀h L c p hs,LayH h L c p hs->∃v h',call 83 [.ptr L 0] h=some (v,h')∧(v=.agg (plC p)∧StepN h h')
theorem w83'{h:H}{L:Nat}{c:CfgT}{p:PlT}{hs:List Int}(hL:LayH h L c p hs):WF P call c83 [.ptr L 0] h fun v h'=>v=.agg (plC p)∧StepN h h':=by
 obtain⟨cv,gv,hv,tv,val,g,r1,r2,r3,r4,o1,o2⟩:=hL.ex
 exact w83 P hL.lt g (by simp[go_sem,cfgC,plC])
def F161(call:CallE):Prop:=∀h L c p hs,LayH h L c p hs->call 161 [.ptr L 0] h=some (.int .i64 (hs.length:Int),h)
def PoolH(h:H)(M L:Nat)(p:PlT)(R O:Nat):Prop:=∃gv,h.t.get R=some (rowL [.ptr M 0,.ptr L 0,.int .i64 p.po,.int .i64 p.li,.map O,gv] 302)∧h.t.get O=some (.map [] 0)∧R<h.next∧O<h.next∧oneA gv=true
theorem w80(h26:F83 call)(hpk:FPeek call)(h67:F161 call){h:H}{M W L:Nat}{ws:List Int}{c:CfgT}{p:PlT}(hm:MemH h M W ws)(hM:M<h.next)(hW:W<h.next)(hL:LayH h L c p (hsL c))(hw:p.wo=(ws.length:Int))(hw0:0<ws.length)(hw1:p.wo<=5000)(hn:(hsL c).length<=60):
 WF P call c80 [.ptr M 0,.ptr L 0] h fun v h'=>(∃R O,v=.tup [.ptr R 0,.int .i64 0]∧PoolH h' M L p R O∧h.next<=R∧h.next<=O)∧StepN h h':=by
 simp only[go_sem,seval]
 refine opt_by (h26 h L c p _ hL) fun v1 h1 p1=>?_
 obtain⟨rfl,st1⟩:=p1
 have st2:=st1.trans (StepN.new h1 (.row (putList 0 (plC p) T.e) 10 38))
 have hm2:=hm.step hM hW st2
 have hL2:=hL.step st2
 obtain⟨x,hx⟩:=hpk.yes hm2 (a:=p.wo-1) (by omega) (by omega)
 have hy:=hpk.no hm2 (a:=p.wo) (by omega)
 have f1:fw .i64 (p.wo-1)=p.wo-1:=fwI (by omega) (by omega)
 have k67:=h67 _ L c p _ (hL2.step (StepN.new _ (.map [] 0)))
 have m1:8*(hsL c).length<=281474976710656:=by omega
 have m2:(hsL c).length<=281474976710656:=by omega
 simp only[plC]at hx hy k67
 have n1:¬h1.next=h1.next+1:=by omega
 simp only[go_sem,seval,plC,f1,hx,hy,k67,evLenN,rep_one,Nat.mul_one,Nat.le_refl,m1,m2,decide_true,Bool.and_self,cond_true,n1]
 have nx:=st1.next
 refine⟨⟨_,h1.next+1,rfl,⟨.sl (h1.next+2) 0 (hsL c).length 1 (some (hsL c).length),by simp[go_sem],by simp[go_sem],by show h1.next+3<h1.next+4;omega,by show h1.next+1<h1.next+4;omega,rfl⟩,by omega,by omega⟩,by show h.next<=h1.next+4;omega,fun b hb=>?_⟩
 have e1:¬b=h1.next:=by omega
 have e2:¬b=h1.next+1:=by omega
 have e3:¬b=h1.next+2:=by omega
 have e4:¬b=h1.next+3:=by omega
 simp only[go_sem,seval,e1,e2,e3,e4]
 exact st1.old b hb
def F60(call:CallE):Prop:=∀h M W ws,MemH h M W ws->M<h.next->W<h.next->ws.length<=65536->∃v h',call 60 [.ptr M 0] h=some (v,h')∧Post60 ws h v h'
theorem w81(h26:F83 call)(h68:F60 call){h:H}{M W L:Nat}{ws:List Int}{c:CfgT}{p:PlT}{hs:List Int}(hm:MemH h M W ws)(hM:M<h.next)(hW:W<h.next)(hL:LayH h L c p hs)(hw:p.wo=(ws.length:Int))(hw1:p.wo<=5000):
 WF P call c81 [.ptr M 0,.ptr L 0] h fun v h'=>(∃R,v=.tup [.ptr R 0,.int .i64 0])∧StepN h h':=by
 simp only[go_sem,seval]
 refine opt_by (h68 h M W ws hm hM hW (by omega)) fun v1 h1 p1=>?_
 obtain⟨st1,O,rfl,_⟩:=p1
 simp only[go_sem,seval]
 refine opt_by (h26 h1 L c p hs (hL.step st1)) fun v2 h2 p2=>?_
 obtain⟨rfl,st2⟩:=p2
 simp only[go_sem,seval,plC,hw,part3]
 exact⟨⟨_,rfl⟩,(st1.trans st2).trans (StepN.new h2 _)⟩
structure BaseH(h:H)(B:Nat)(c:CfgT)(p:PlT)(M W R:Nat):Prop where
 ex:∃L P T V G,h.t.get B=some (rowL [.ptr L 0,.ptr M 0,.ptr P 0,.ptr T 0,.ptr R 0,.nils,.nils,.map V,.map G] 100)∧LayH h L c p (hsL c)
 pr:∃n:Nat,c.slots=(n:Int)∧PrcuH h R n
 lt:B<h.next
def StA(h0:Nat)(h:H)(B:Nat)(c:CfgT)(M W R:Nat):Prop:=∃L P T V G O,∃hL:H,∃lo n:Nat,(LayH hL L c (plOf c) (hsL c)∧StepN hL h∧h0<=L∧hL.next<=V∧hL.next<=G∧hL.next<=B∧hL.next<=M∧hL.next<=W∧hL.next<=P∧hL.next<=O∧hL.next<=lo)∧(c.slots=(n:Int)∧PrcuX lo h M (plOf c).en R n c∧V<lo∧G<lo∧B<lo∧M<lo∧W<lo∧P<lo∧O<lo∧lo<=h.next)∧h.t.get B=some (rowL [.ptr L 0,.ptr M 0,.ptr P 0,.ptr T 0,.ptr R 0,.nils,.nils,.map V,.map G] 100)∧h.t.get V=some (.map [] 0)∧h.t.get G=some (.map [] 0)∧PoolH h M L (plOf c) P O∧LayH h L c (plOf c) (hsL c)∧V<h.next∧G<h.next∧V≠G∧O≠V∧O≠G
structure Post6(c:CfgT)(h:H)(v:AV)(h':H):Prop where
 st:StepN h h'
 ex:∃B p M W R ws,v=.tup [.ptr B 0,.int .i64 0]∧p.ow=0∧(∃w:Nat,p.wo=(w:Int)∧Zero w c.slots ws∧IniOK c w ws)∧c.slots<p.wo∧ws.length<=5000∧MemG h' M W ws .nils∧M<h'.next∧W<h'.next∧h.next<=M∧h.next<=W∧(∀h2,StepX M W h' h2->BaseH h2 B c p M W R)∧p=plOf c∧StA h.next h' B c M W R
def F77(call:CallE):Prop:=∀h c v,RdL none 1 h v (uL c.cuts)->(∀a,own v=some a->a<h.next)->layB c->(hsL c).length<=60->∃v' h',call 77 [.agg (cfgC c v)] h=some (v',h')∧PostL c h v' h'
def F79(call:CallE):Prop:=∀h L c p (W:Nat),LayH h L c p (hsL c)->PlOK c p->0<=c.slots->(hsL c).length<=60->p.wo=(W:Int)->0<W->∃v h',call 79 [.ptr L 0] h=some (v,h')∧PostI W c.slots (IniOK c W) h v h'
def F78(call:CallE):Prop:=∀h v (ws:List Int) e,Own 1 e h v ws.length (ws.map (AV.int .u64))->0<ws.length->ws.length<=65536->∃v' h',call 78 [v] h=some (v',h')∧PostM ws h v' h'
def F80(call:CallE):Prop:=∀h M W L (ws:List Int) c p,MemH h M W ws->M<h.next->W<h.next->LayH h L c p (hsL c)->p.wo=(ws.length:Int)->0<ws.length->p.wo<=5000->(hsL c).length<=60->∃v h',call 80 [.ptr M 0,.ptr L 0] h=some (v,h')∧((∃R O,v=.tup [.ptr R 0,.int .i64 0]∧PoolH h' M L p R O∧h.next<=R∧h.next<=O)∧StepN h h')
def F81(call:CallE):Prop:=∀h M W L (ws:List Int) c p,MemH h M W ws->M<h.next->W<h.next->LayH h L c p (hsL c)->p.wo=(ws.length:Int)->p.wo<=5000->∃v h',call 81 [.ptr M 0,.ptr L 0] h=some (v,h')∧((∃R,v=.tup [.ptr R 0,.int .i64 0])∧StepN h h')
def F82(call:CallE):Prop:=∀h M W (ws:List Int) c base (n:Nat),MemH h M W ws->M<h.next->W<h.next->EngOK c->0<=base->base+engN c<=(ws.length:Int)->base<=60000->c.slots=(n:Int)->∃v h',call 82 [.ptr M 0,.int .u8 c.engine,.int .i64 base,.int .i64 c.slots,.int .i64 c.buckets] h=some (v,h')∧PostP M base c n h v h'
theorem w20(h20:F77 call)(h22:F79 call)(h21:F78 call)(h23:F80 call)(h24:F81 call)(h26:F83 call)(h25:F82 call)
 {h:H} {c:CfgT} {v:AV} (hv:RdL none 1 h v (uL c.cuts)) (hlv:∀a,own v=some a->a<h.next) (hc:layB c) (hn:(hsL c).length<=60):WF P call c20 [.agg (cfgC c v)] h (Post6 c h):=by
 have hcE:=hc.eng
 have hsl:=hcE.1
 have ov:=hv.one
 have st0:=StepN.new h (.row (putList 0 (cfgC c v) T.e) 16 27)
 simp only[go_sem,seval,ov,cfgC]
 refine opt_by (h20 _ c v (hv.keep fun b hb=>st0.old b (hlv b hb)) (fun a ha=>Nat.lt_succ_of_lt (hlv a ha)) hc hn) fun v1 h1 p1=>?_
 obtain⟨⟨L,p,rfl,hL0,hp,hL⟩,st1⟩:=p1
 have g1:=st1.old h.next (Nat.lt_succ_self _)
 simp only[go_sem,seval,cfgC]at g1
 have st01:=st0.trans st1
 have nx1:h.next<h1.next:=st1.next
 obtain⟨w,hw⟩:∃w:Nat,p.wo=(w:Int):=⟨p.wo.toNat,by have:=hp.po;have:=hcE.1;omega⟩
 have hp5:=hp.wo
 have hw0:0<w:=by have:=hp.po;have:=hcE.1;omega
 obtain⟨B,hB⟩:∃B,B=h1.next+2:=⟨_,rfl⟩
 simp only[go_sem,seval,g1,←hB]
 obtain⟨b1,hb1⟩:∃x,x=h1.next:=⟨_,rfl⟩
 have st2:StepN h1 ⟨B+1,((h1.t.set h1.next (.map [] 0)).set (h1.next+1) (.map [] 0)).set B (.row (putList 0 [.ptr L 0,.nilp,.nilp,.nilp,.nilp,.nils,.nils,.map h1.next,.map (h1.next+1)] T.e) 9 100)⟩:=⟨by show h1.next<=B+1;omega,fun b hb=>by
  have e1:¬b=h1.next:=by omega
  have e2:¬b=h1.next+1:=by omega
  have e3:¬b=B:=by omega
  simp only[go_sem,seval,e1,e2,e3]⟩
 refine opt_by (h22 _ L c p w (hL.step st2) hp (by omega) hn hw hw0) fun v3 h3 p3=>?_
 obtain⟨⟨ws,hws,hz,hio⟩,hlo3,st3⟩:=p3
 have hwl:=hz.len
 simp only[go_sem,seval]
 refine opt_by (h21 h3 v3 ws 51 hws (by omega) (by omega)) fun v4 h4 p4=>?_
 obtain⟨rfl,nx4,old4,m4⟩:=p4
 have st4:StepN h3 h4:=⟨by omega,old4⟩
 obtain⟨M,hM⟩:∃x,x=h3.next+1:=⟨_,rfl⟩
 obtain⟨W,hW⟩:∃x,x=h3.next:=⟨_,rfl⟩
 rw[←hM,←hW]at m4
 simp only[←hM]
 have nx3:B+1<=h3.next:=st3.next
 have st34:=st3.trans st4
 have gB4:=st34.old B (by show B<B+1;omega)
 have gC4:=st34.old h.next (by show h.next<B+1;omega)
 have c1:¬h.next=h1.next:=by omega
 have c2:¬h.next=h1.next+1:=by omega
 have c93:¬h.next=B:=by omega
 have BM:¬B=M:=by omega
 have BW:¬B=W:=by omega
 have MB:¬M=B:=by omega
 have WB:¬W=B:=by omega
 simp only[go_sem,seval]at gB4
 simp only[go_sem,seval,c1,c2,c93,g1]at gC4
 simp only[go_sem,seval,gB4]
 have stB:∀x,∀b,b<h4.next->b≠B->(h4.t.set B x).get b=h4.t.get b:=fun x b hb hn=>by simp only[go_sem,seval,hn]
 have mem5:∀x,MemH ⟨h4.next,h4.t.set B x⟩ M W ws:=fun x=>by
  obtain⟨⟨lg,g,o⟩,w',ne⟩:=m4.mem
  exact⟨⟨lg,by simp only[go_sem,seval,MB];exact g,o⟩,by simp only[go_sem,seval,WB];exact w',ne⟩
 have stL4:StepN h1 h4:=st2.trans st34
 have stL5:∀x,StepN h1 ⟨h4.next,h4.t.set B x⟩:=fun x=>⟨stL4.next,fun b hb=>by
  have e3:¬b=B:=by omega
  simp only[go_sem,seval,e3]
  exact stL4.old b hb⟩
 obtain⟨hM,hhM⟩:∃x:H,x=⟨h1.next+2,(h1.t.set h1.next (.map [] 0)).set (h1.next+1) (.map [] 0)⟩:=⟨_,rfl⟩
 have hMn:hM.next=B:=by rw[hhM,hB]
 have stM4:∀b,b<B->h4.t.get b=hM.t.get b:=fun b hb=>by
  have k1:=st34.old b (by show b<B+1;omega)
  have e3:¬b=B:=by omega
  simp only[go_sem,seval,e3]at k1
  rw[k1,hhM]
  simp only[go_sem,seval]
 have hwi:p.wo=(ws.length:Int):=by omega
 refine opt_by (h23 _ M W L ws c p (mem5 _) (by show M<h4.next;omega) (by show W<h4.next;omega) (hL.step (stL5 _)) hwi (by omega) hp5 hn) fun v6 h6 p6=>?_
 obtain⟨⟨Po,Oo,rfl,hPo,loP,loO⟩,st6⟩:=p6
 have nx6:h4.next<=h6.next:=st6.next
 have gB6:=st6.old B (by show B<h4.next;omega)
 simp only[go_sem,seval]at gB6
 simp only[go_sem,seval,gB6]
 have stL6:∀x,StepN h1 ⟨h6.next,h6.t.set B x⟩:=fun x=>⟨by have:=stL4.next;show h1.next<=h6.next;omega,fun b hb=>by
  have e3:¬b=B:=by omega
  have:=st6.old b (by have:=stL4.next;show b<h4.next;omega)
  simp only[go_sem,seval,e3]at this
  simp only[go_sem,seval,e3,this]
  exact stL4.old b hb⟩
 have mem6:∀x,MemG ⟨h6.next,h6.t.set B x⟩ M W ws .nils:=fun x=>by
  have k1:=st6.old M (by show M<h4.next;omega)
  have k2:=st6.old W (by show W<h4.next;omega)
  simp only[go_sem,seval,MB,WB]at k1 k2
  exact⟨by simp only[go_sem,seval,MB,k1];exact m4.g,rfl,by simp only[go_sem,seval,WB,k2];exact m4.w,m4.ne⟩
 refine opt_by (h24 _ M W L ws c p (mem6 _).mem (by show M<h6.next;omega) (by show W<h6.next;omega) (hL.step (stL6 _)) hwi hp5) fun v7 h7 p7=>?_
 obtain⟨⟨To,rfl⟩,st7⟩:=p7
 have nx7:h6.next<=h7.next:=st7.next
 have gB7:=st7.old B (by show B<h6.next;omega)
 simp only[go_sem,seval]at gB7
 have gC7:h7.t.get h.next=some (.row (putList 0 [.int .i64 c.threads,.int .i64 c.slots,.int .u8 c.engine,.int .i64 c.buckets,.int .u8 c.kind,.int .i64 c.n,v,.int .i64 c.t0,.int .i64 c.t1,.int .i64 c.t2,.int .i64 c.t3,.int .i64 c.t4,.int .i64 c.t5,.int .i64 c.locks,.int .i64 c.tries,.int .i64 c.batch] T.e) 16 27):=by
  have k1:=st7.old h.next (by show h.next<h6.next;omega)
  have k2:=st6.old h.next (by show h.next<h4.next;omega)
  simp only[go_sem,seval,c93]at k1 k2
  rw[k1,k2,gC4]
 have stL7:∀x,StepN h1 ⟨h7.next,h7.t.set B x⟩:=fun x=>⟨by have:=stL4.next;show h1.next<=h7.next;omega,fun b hb=>by
  have e3:¬b=B:=by omega
  have k1:=st7.old b (by have:=stL4.next;show b<h6.next;omega)
  have k2:=(stL6 (.dead)).old b hb
  simp only[go_sem,seval,e3]at k1 k2
  simp only[go_sem,seval,e3,k1,k2]⟩
 have mem7:∀x,MemG ⟨h7.next,h7.t.set B x⟩ M W ws .nils:=fun x=>by
  have k1:=st7.old M (by show M<h6.next;omega)
  have k2:=st7.old W (by show W<h6.next;omega)
  have k3:=(mem6 .dead).g
  have k4:=(mem6 .dead).w
  simp only[go_sem,seval,MB,WB]at k1 k2 k3 k4
  exact⟨by simp[go_sem,MB,k1,k3],rfl,by simp[go_sem,WB,k2,k4],m4.ne⟩
 simp only[go_sem,seval,gB7,gC7,c93]
 refine opt_by (h26 _ L c p _ (hL.step (stL7 _))) fun v8 h8 p8=>?_
 obtain⟨rfl,st8⟩:=p8
 have nx8:h7.next<=h8.next:=st8.next
 have gB8:=st8.old B (by show B<h7.next;omega)
 have gC8:=st8.old h.next (by show h.next<h7.next;omega)
 simp only[go_sem,seval]at gB8
 simp only[go_sem,seval,c93,gC7]at gC8
 have mem8:MemG h8 M W ws .nils:=by
  have k1:=st8.old M (by show M<h7.next;omega)
  have k2:=st8.old W (by show W<h7.next;omega)
  have k3:=(mem7 .dead).g
  have k4:=(mem7 .dead).w
  simp only[go_sem,seval,MB,WB]at k1 k2 k3 k4
  exact⟨by rw[k1,k3],rfl,by rw[k2,k4],m4.ne⟩
 have stL8:StepN h1 h8:=(stL7 _).trans st8
 simp only[go_sem,seval,gB8,gC8,c93,plC,gB7,gC7,part3]
 have hen:=hp.en
 have heng:=hp.eng
 have hE:=engOK hc
 obtain⟨n,hnn⟩:∃n:Nat,c.slots=(n:Int):=⟨c.slots.toNat,by omega⟩
 refine⟨nx8,opt_by (h25 h8 M W ws c p.en n mem8.mem (by omega) (by omega) hcE (by omega) (by omega) (by omega) hnn) fun v9 h9 p9=>?_⟩
 obtain⟨st9,R,rfl,hR,hX⟩:=p9
 have nx9:h8.next<=h9.next:=st9.next
 have gB9:=st9.old B (by omega)
 have gC9:=st9.old h.next (by omega)
 rw[gB8]at gB9
 rw[gC8]at gC9
 simp only[go_sem,seval,gB9,gC9,gB8,gC8,gB7,gC7,c93,nx9]
 have mem9:∀x,MemG ⟨h9.next,h9.t.set B x⟩ M W ws .nils:=fun x=>⟨by simp only[go_sem,seval,MB];exact(st9.old M (by omega)).trans mem8.g,rfl,by simp only[go_sem,seval,WB];exact(st9.old W (by omega)).trans mem8.w,m4.ne⟩
 have stL9:∀x,StepN h1 ⟨h9.next,h9.t.set B x⟩:=fun x=>⟨by have:=stL8.next;show h1.next<=h9.next;omega,fun b hb=>by
  have e3:¬b=B:=by omega
  simp only[go_sem,seval,e3]
  exact(st9.old b (by have:=stL8.next;omega)).trans (stL8.old b hb)⟩
 have hR9:∀x,PrcuH ⟨h9.next,h9.t.set B (.row x 9 100)⟩ R n:=fun x=>by
  have k:∀{b cells len e},h9.t.get b=some (.row cells len e)->e≠100->(h9.t.set B (.row x 9 100)).get b=some (.row cells len e):=fun{b cells len e} g n1=>by
   by_cases e3:b=B
   ·subst e3
    rw[gB9]at g
    simp at g
    exact absurd g.2.2.symm n1
   ·simp only[go_sem,seval,e3]
    exact g
  cases hR with
  |full G N B' M' base kind gR gG gN lR lG lN=>exact .full G N B' M' base kind (k gR (by decide)) (k gG (by decide)) (k gN (by decide)) lR lG lN
  |each G N M' fv kind gR gG gN lR lG lN=>exact .each G N M' fv kind (k gR (by decide)) (k gG (by decide)) (k gN (by decide)) lR lG lN
  |gate G S M' base nb kind gR gG gS lR lG lS=>
   refine .gate G S M' base nb kind (k gR (by decide)) (k gG (by decide)) ?_ lR lG lS
   by_cases e3:S=B
   ·subst e3
    rw[gB9]at gS
    simp at gS
   ·simp only[go_sem,seval,e3]
    exact gS
 refine⟨st01.trans (stL9 _),B,p,M,W,R,ws,rfl,hp.ow,⟨w,hw,hz,hio⟩,by have:=hp.po;omega,by omega,mem9 _,by show M<h9.next;omega,by show W<h9.next;omega,by omega,by omega,fun h2 sx=>?_,hp.eq,?_⟩
 rotate_left
 ·have keep6:∀b o,h6.t.get b=some o->b<h6.next->b≠B->(h9.t.set B (AO.row (putList 0 [.ptr L 0,.ptr M 0,.ptr Po 0,.ptr To 0,.ptr R 0,.nils,.nils,.map h1.next,.map (h1.next+1)] T.e) 9 100)).get b=some o:=fun b o g lb nb=>by
   have k1:=st7.old b (by show b<h6.next;omega)
   have k2:=st8.old b (by show b<h7.next;omega)
   have k3:=st9.old b (by omega)
   simp only[go_sem,seval,nb]at k1 k2
   simp only[go_sem,seval,nb,k3,k2,k1,g]
  have keepM:∀b o,hM.t.get b=some o->b<B->(h9.t.set B (AO.row (putList 0 [.ptr L 0,.ptr M 0,.ptr Po 0,.ptr To 0,.ptr R 0,.nils,.nils,.map h1.next,.map (h1.next+1)] T.e) 9 100)).get b=some o:=fun b o g lb=>by
   have k1:=st6.old b (by show b<h4.next;omega)
   have e3:¬b=B:=by omega
   simp only[go_sem,seval,e3]at k1
   exact keep6 b o (k1.trans ((stM4 b lb).trans g)) (by omega) e3
  obtain⟨gv,gP,gO,lP,lO,og⟩:=hPo
  have nPB:Po≠B:=fun e=>by subst e;rw[gB6]at gP;simp[rowL]at gP
  have nOB:Oo≠B:=fun e=>by subst e;rw[gB6]at gO;cases gO
  have nx69:h6.next<=h9.next:=by omega
  rw[hp.eq]at gP hL
  have nx49:B+1<=h4.next:=by omega
  have lo4:h4.next<=Oo:=loO
  rw[hp.eq]at hX
  have stL9':StepN h1 ⟨h9.next,h9.t.set B (AO.row (putList 0 [.ptr L 0,.ptr M 0,.ptr Po 0,.ptr To 0,.ptr R 0,.nils,.nils,.map h1.next,.map (h1.next+1)] T.e) 9 100)⟩:=stL9 _
  have hX9:=hX.keep (h':=⟨h9.next,h9.t.set B (AO.row (putList 0 [.ptr L 0,.ptr M 0,.ptr Po 0,.ptr To 0,.ptr R 0,.nils,.nils,.map h1.next,.map (h1.next+1)] T.e) 9 100)⟩) (Nat.le_refl _) fun b lb _=>by
   have q:¬b=B:=by omega
   simp only[go_sem,seval,q]
  have lP4:h4.next<=Po:=loP
  refine⟨L,Po,To,h1.next,h1.next+1,Oo,h1,h8.next,n,⟨hL,stL9',by show h.next<=L;have:h.next+1<=L:=hL0;omega,Nat.le_refl _,by omega,by omega,by omega,by omega,by omega,by omega,by omega⟩,⟨hnn,hX9,by omega,by omega,by omega,by omega,by omega,by omega,by omega,nx9⟩,by simp[go_sem],keepM _ _ (by rw[hhM];simp only[go_sem,seval]) (by omega),keepM _ _ (by rw[hhM];simp only[go_sem,seval]) (by omega),⟨gv,keep6 _ _ gP lP nPB,keep6 _ _ gO lO nOB,by show Po<h9.next;omega,by show Oo<h9.next;omega,og⟩,hL.step (stL9 _),by show h1.next<h9.next;omega,by show h1.next+1<h9.next;omega,by omega,by omega,by omega⟩
 have hBx:=sx.old B (by show B<h9.next;omega) BM BW
 simp only[go_sem,seval]at hBx
 exact⟨⟨L,Po,To,h1.next,h1.next+1,hBx,hL.step ((stL9 _).withX sx (by omega) (by omega))⟩,⟨n,hnn,(hR9 _).off (mem9 _) sx⟩,Nat.lt_of_lt_of_le (by show B<h9.next;omega) sx.next⟩
end
end Go.Proofs.YtghmnaojmpjglaaGreatDoor.PR
