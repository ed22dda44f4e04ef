/-
  What functions of the program compute. Conditions: those of each theorem.
-/
import Derived.Test.YtgkjlklfjbljeaaGreatCwF
import Derived.Test.YtgkjlklfjbljeaaGreatEoE
import Derived.Sort.Grow
set_option linter.all false
namespace Go.Proofs.YtgkjlklfjbljeaaGreat.CQ
open Go.Proofs.YtgkjlklfjbljeaaGreat.Eo
noncomputable section
variable(P:Program)[PT P]{call:ab}
@[go_sem]def c9:CF:=⟨1,(Sq [p 2] (Qq (Sq [a 3 0,y 4 30 3] (Kq 4 [p 2] .skip)) (Rq [a 5 0,j 6 5,d 7 0 6,d 8 0 7,i 9 8,a 2 9]))),[.tmp 2]⟩
@[go_sem]def c45:CF:=⟨1,(Sq [p 2] (Qq (Sq [a 3 0,y 4 30 3] (Kq 4 [p 2] .skip)) (Rq [a 5 0,j 6 5,d 7 0 6,d 8 4 7,i 9 8,a 2 9]))),[.tmp 2]⟩
@[go_sem]def aaK:CF:=⟨1,(Sq [v 2 0] (Qq (Sq [a 3 0,y 4 98 3] (Kq 4 [v 2 0] .skip)) (Rq [a 5 0,j 6 5,d 7 1 6,i 8 7,a 2 8]))),[.tmp 2]⟩
@[go_sem]def c39:CF:=⟨3,(Sq [qd 6 0] (Qq (Sq [a 9 2,A 10 41 9 0] (Kq 10 [qd 6 0] .skip)) (Sq [a 12 0,j 13 12,d 14 0 13,i 15 14,a 16 1,M 17 90 15 16,a 11 17,o 18 11 0,o 19 11 1,a 7 18,a 8 19] (Rq [a 20 7,a 6 20])))),[.tmp 6]⟩
@[go_sem]def c38:CF:=⟨3,(Sq [qd 4 0] (Qq (.cn ⟨[([W 0 1,W 1 1,n 2 6 1,m 3 7 2 1,k 4 8 3,W 5 2,g 6 0],some (qm 7 9 4 10 5 11 6 10)),([B 8 12 7 0,B 9 12 7 1],some (qm 10 5 0 13 8 14 9 39)),([t 11 15 10],none)],[(0,5),(1,6),(2,7),(3,8),(4,9),(5,10),(6,11),(7,12),(8,13),(9,14),(10,15),(11,4)],[(⟨0,[(1,none)],none,.r (.ld none (.t 1))⟩,[1])]⟩) .ret)),[.tmp 4]⟩
def vo:CC:=(Sq [qc 41 3 40 39] (Qq (Cq 41 .skip (.exit 0)) (Qq (.block 1 (Sq [a 42 40,a 10 42] (.cn ⟨[([R 0 9 5,k 1 43 0,W 2 2,W 3 2,n 4 46 3,m 5 47 4 1,k 6 48 5,W 7 3,g 8 10],some (qm 9 49 6 50 7 51 8 40)),([B 10 52 9 0,B 11 52 9 1],some (qm 12 45 2 53 10 54 11 39)),([⟨13,[(55,some 12)],none,.n (.fl 50 1 1 [.int .u64 0] [(0,1,.t 55)])⟩],some (qJ 14 44 1 56 13 50 1 8)),([R 15 9 5],some (V 16 58 15 57 14 1)),([],none)],[(0,43),(1,44),(2,45),(3,46),(4,47),(5,48),(6,49),(7,50),(8,51),(9,52),(10,53),(11,54),(12,55),(13,56),(14,57),(15,58)],[(⟨1,[(43,(some 0))],none,.r (.ld none (.t 43))⟩,[1,2]),(⟨2,[(2,none)],none,.r (.ld none (.t 2))⟩,[1])]⟩))) (Oq [C 59 3 40 1,a 40 59]))))
@[go_sem]def c15:CF:=⟨2,(Sq [z 2 54 0,z 3 3 1,jO 4 52 0 0 0 0 0,b 5 0] (Qq (Sq [i 11 2,y 12 54 11] (Kq 12 [jP 13 0 0 0 0 0,s 6 4 13,b 5 1] .skip)) (Qq (.cn ⟨[([W 0 2,n 1 15 0,m 2 16 1 1,k 3 17 2,W 4 3],some (qq 5 18 3 19 4 33)),([t 6 20 5,B 7 14 6 0,B 8 14 6 1,t 9 21 7,t 10 22 8],none)],[(0,15),(1,16),(2,17),(3,18),(4,19),(5,20),(6,14),(7,21),(8,22),(9,6),(10,7)],[]⟩) (Qq (Sq [a 23 7,A 24 41 23 0] (Kq 24 [jP 25 0 0 0 0 0,a 26 7,s 6 4 25,a 5 26] .skip)) (Sq [zO 27 38 2 3,a 8 27] (Sq [a 28 8,zp 29 28 0,a 30 8,zp 31 30 1,a 32 8,zp 33 32 2,a 34 8,zp 35 34 3,a 36 8,zp 37 36 4,⟨some 38,none,.p (.build [cY,cY,cY,cY,cY,.ax] [(0,1,.t 29),(1,1,.t 31),(2,1,.t 33),(3,1,.t 35),(4,1,.t 37)])⟩,jO 9 52 0 0 0 0 0,s 6 9 38] (Qq (Sq [a 39 6,b 40 0] (.block 0 (.loop vo))) (Rq [S 60 6 9,s 6 4 60,b 5 0])))))))),[(.cell 4 (some 6)),.tmp 5]⟩
@[go_sem]def c16:CF:=⟨1,(Sq [zb 2 27 0 0 0 0 0 0 0 0 0 0 0 0 0 0 0] (Qq (Sq [a 3 0,y 4 30 3] (Kq 4 [jo 5 0 0 0 0 0 0 0 0 0 0 0 0 0 0 0,s 16 2 5] .skip)) (Rq [a 6 0,j 7 6,d 8 0 7,d 9 0 8,i 10 9,q 11 41 10,s 16 2 11]))),[(.cell 2 (some 16))]⟩
@[go_sem]def c94:CF:=⟨2,(Sq [b 4 0] (Rq [a 5 0,q 6 9 5,q 7 18 6,qT 8 3 0 7,a 9 1,qg 10 3 8 9,a 4 10])),[.tmp 4]⟩
def vp:CC:=(Sq [qc 16 3 15 14] (Qq (Cq 16 .skip (.exit 0)) (Qq (.block 1 (Sq [a 17 15,a 4 17] (Sq [a 18 3,a 19 4,G 20 1 18 19,qp 1 20 (-1)] (Sq [a 22 0,q 23 12 22,a 24 0,a 25 4,M 26 94 24 25,M 27 90 23 26,a 21 27,o 28 21 0,o 29 21 1,a 5 28,a 6 29] (Sq [a 30 5,⟨some 31,none,.p (.bin .geq 50 false true (.t 30) (.c (.int .u64 1)))⟩,a 32 31,K 33 32 5,jG 34 32 50 33 64,O 35 32 34] (Cq 35 (Oq [a 36 3,a 37 4,a 38 5,qD 39 38,ql 40 3 39 1,G 41 1 36 37,s 1 41 40]) .skip)))))) (Oq [C 42 3 15 1,a 15 42]))))
@[go_sem]def c43:CF:=⟨1,(Sq [U 2] (Qq (Sq [a 7 0,y 8 30 7] (Kq 8 [U 2] .skip)) (Sq [a 9 0,q 10 16 9,qT 11 3 1 10,⟨some 12,none,.n (.yb 3 1 8 [.int .i64 0] (.t 11) (.t 11))⟩,a 3 12] (Qq (Sq [a 13 3,N 14 13,b 15 0] (.block 0 (.loop vp))) (Rq [a 43 3,a 2 43]))))),[.tmp 2]⟩
theorem w9(P:Program)[PF P]{call:ab}{h:H}{B:Nat}{x:AV}{r:List AV}(g:h.t.get B=some (ag (x::r) 104)):WF P call c9 [.ptr B 0] h fun v h'=>v=x/\h'=h:=by
 simp only[go_sem,seval,g]
theorem w45(P:Program)[PF P]{call:ab}{h:H}{B:Nat}{x y z u w:AV}{r:List AV}(g:h.t.get B=some (ag (x::y::z::u::w::r) 104)):WF P call c45 [.ptr B 0] h fun v h'=>v=w/\h'=h:=by
 simp only[go_sem,seval,g]
theorem akt(P:Program)[PF P]{call:ab}{h:H}{R:Nat}{a b c:AV}(g:h.t.get R=some (ag [a,b,c] 206)):WF P call aaK [.ptr R 0] h fun v h'=>v=b/\h'=h:=by
 simp only[go_sem,seval,g]
def Ul(call:ab):Prop:=∀h R a b c,h.t.get R=some (ag [a,b,c] 206)->call 199 [.ptr R 0] h=some (b,h)
structure AR(h:H)(a:AA)(c:aj)(ws:List Int):Prop where
 aw:AW h a c
 mm:dK h a.M a.W ws
 lt:a.M<h.next/\a.W<h.next
 len:(ws.length:Int)=(aA c).wo
 nn:∀(i:Nat) (x:Int),ws[i]?=some x->0<=x
theorem AR.step{h h':H}{a:AA}{c:aj}{ws:List Int}(m:AR h a c ws)(s:ae h h'):AR h' a c ws:=
 ⟨m.aw.step s,m.mm.step m.lt.1 m.lt.2 s,⟨Nat.lt_of_lt_of_le m.lt.1 s.next,Nat.lt_of_lt_of_le m.lt.2 s.next⟩,m.len,m.nn⟩
theorem AC.ar{L:List Cm}{a:AA}{c:aj}{ia it iz n mm:Nat}{lv:AV}{ws:List Int}{h:H}(m:AC L a c ia it iz)(s:Sp h L)(hc:L[n]?=some (cA a.M a.W lv ws mm))(len:(ws.length:Int)=(aA c).wo)(nn:∀(i:Nat) (x:Int),ws[i]?=some x->0<=x):AR h a c ws:=by
 obtain⟨l,hl,q⟩:=s.ok n _ hc;exact⟨m.aw s,q.mem,⟨q.lM,q.lW⟩,len,nn⟩
theorem AR.word{h:H}{a:AA}{c:aj}{ws:List Int}(m:AR h a c ws){i:Nat}{x y:Int}(hx:(aH c)[i]?=some x)(hy:(nO c)[i]?=some y){w:Nat}(hw:w<5):∃(j:Nat) (u:Int),y+(w:Int)=(j:Int)/\ws[j]?=some u:=by
 obtain⟨y',sV,y0,y1,x1,x6,i60⟩:=m.aw.b.tw hx;obtain rfl:y'=y:=Option.some.inj (sV.symm.trans hy);have n:=m.aw.b.dq;have:=m.len;have v:=m.aw.b.val;exact⟨(y'+(w:Int)).toNat,_,by omega,List.getElem?_eq_getElem (by omega)⟩
theorem AR.nx{h:H}{a:AA}{c:aj}{ws:List Int}(m:AR h a c ws){r k:Int}(n:Nd c r k):∃(j:Nat) (u:Int),kD c r k=(j:Int)/\ws[j]?=some u:=by
 obtain⟨_,h2,h3,_⟩:=n.at m.aw.b;have:=m.len;exact⟨(kD c r k).toNat,_,by omega,List.getElem?_eq_getElem (by omega)⟩
theorem wA{call:ab}(f:iK call){h:H}{M W:Nat}{ws:List Int}(m:dK h M W ws){i:Nat}{x:Int}(hx:ws[i]?=some x):call 90 [.ptr M 0,.int .i64 (i:Int)] h=some (.aE [.int .u64 x,.bool true],h):=by
 obtain⟨vf,H8⟩:=List.getElem?_eq_some_iff.1 hx;have:=f h M W ws (i:Int) m;rw[dif_pos ⟨by omega,by omega⟩]at this;simp only[Int.toNat_natCast,H8]at this;exact this
theorem w39(P:Program)[PF P]{call:ab}(k90:iK call){h:H}{a:AA}{c:aj}{ws:List Int}(m:AR h a c ws){i:Nat}{x:Int}(hx:ws[i]?=some x):WF P call c39 [.ptr a.To 0,.int .i64 (i:Int),.int .i64 0] h fun v h'=>v=.int .u64 x/\h'=h:=by
 have k:=wA k90 m.mm hx;have gT:=m.aw.gT;simp only[go_sem,seval,gT,k]
def F39(call:ab):Prop:=∀h a c ws (i:Nat) (x:Int),AR h a c ws->ws[i]?=some x->call 39 [.ptr a.To 0,.int .i64 (i:Int),.int .i64 0] h=some (.int .u64 x,h)
theorem w38(P:Program)[PF P]{call:ab}(JF:S2 call)(Um:F39 call){h:H}{a:AA}{c:aj}{ws:List Int}(m:AR h a c ws){i:Nat}{x y:Int}(hx:(aH c)[i]?=some x)(hy:(nO c)[i]?=some y){w:Nat}(hw:w<5){j:Nat}{u:Int}(hj:y+(w:Int)=(j:Int))(hu:ws[j]?=some u){C1 C2:Nat}(g1:h.t.get C1=some (ag [.ptr a.To 0] 54))(g2:h.t.get C2=some (ag [.int .i64 ((i:Int)+1)] 3)):
 WF P call c38 [.int .i64 (w:Int),.ptr C1 0,.ptr C2 0] h fun v h'=>v=.int .u64 u/\h'=h:=by
 have gT:=m.aw.gT;have k:=JF h a.L c i x y w m.aw.lay m.aw.b hx hy hw;rw[hj]at k;have k2:=Um h a c ws j u m hu;simp only[go_sem,seval,g1,g2,gT,k,k2]
def F38(call:ab):Prop:=∀h a c ws (i:Nat) (x y:Int) (w j:Nat) (u:Int) (C1 C2:Nat),AR h a c ws->(aH c)[i]?=some x->(nO c)[i]?=some y->w<5->y+(w:Int)=(j:Int)->ws[j]?=some u->h.t.get C1=some (ag [.ptr a.To 0] 54)->h.t.get C2=some (ag [.int .i64 ((i:Int)+1)] 3)->call 38 [.int .i64 (w:Int),.ptr C1 0,.ptr C2 0] h=some (.int .u64 u,h)
theorem Un{e:TypeId}{HH:H}{lv:AV}{len:Nat}{cs src:List AV}{K:AV×H->Prop}(o:Own 1 e HH lv len cs)(hs:src.length=1)(hl:len<=1000000)
 (hK:∀X:H,X.next=HH.next+1->Own 1 e X (.sl HH.next 0 (len+1) 1 none) (len+1) (cs++src)->(∀b,b<HH.next->own lv≠some b->X.t.get b=HH.t.get b)->K (.sl HH.next 0 (len+1) 1 none,X)):@gw _ (ry HH e 1 8 lv 1 src) ⟨K⟩:=
 b8 (du o (by decide) (by decide) (by omega) (by omega)) (hK _ rfl (eV o (by decide) hs) fun b hb hn=>cT hb hn)
def I15(h0:H)(a:AA)(i:Nat)(x:Int)(a0 a1 a2 a3 a4:AV)(n:Nat)(tm:T AV)(h:H):Prop:=
 tm.get 2=some (.ptr h0.next 0)/\tm.get 3=some (.ptr (h0.next+1) 0)/\tm.get 4=some (.ptr (h0.next+2) 0)/\tm.get 9=some (.ptr (h0.next+3) 0)/\tm.get 39=some (.int .i64 x)/\ae h0 h/\
 h0.next+3<h.next/\h.t.get h0.next=some (ag [.ptr a.To 0] 54)/\h.t.get (h0.next+1)=some (ag [.int .i64 ((i:Int)+1)] 3)/\h.t.get (h0.next+2)=some (ag [.int .u64 0,.int .u64 0,.int .u64 0,.int .u64 0,.int .u64 0,.ax] 52)/\
 ∃(j:Nat) (v:AV) (l:List AV),(j:Int)+(n:Int)=x/\tm.get 40=some (.int .i64 (j:Int))/\h.t.get (h0.next+3)=some (ag [a0,a1,a2,a3,a4,v] 52)/\Own 1 50 h v j l/\∀b,own v=some b->h0.next+3<b
def R15(h0:H)(a0 a1 a2 a3 a4:AV)(tm:T AV)(h:H):Prop:=tm.get 4=some (.ptr (h0.next+2) 0)/\tm.get 9=some (.ptr (h0.next+3) 0)/\ae h0 h/\h.t.get (h0.next+2)=some (ag [.int .u64 0,.int .u64 0,.int .u64 0,.int .u64 0,.int .u64 0,.ax] 52)/\∃v l n,h.t.get (h0.next+3)=some (ag [a0,a1,a2,a3,a4,v] 52)/\Own 1 50 h v n l
theorem Uo(P:Program)[PF P]{call:ab}(Um:F39 call)(OA:Xv call){h0:H}{a:AA}{c:aj}{ws:List Int}(m0:AR h0 a c ws){i:Nat}{x:Int}(hx:(aH c)[i]?=some x){a0 a1 a2 a3 a4:AV}(n:Nat)(tm:T AV)(h:H)(hI:I15 h0 a i x a0 a1 a2 a3 a4 n tm h):
 WC P call vo (bM 0 (fun tm h=>∃n',n'<n/\I15 h0 a i x a0 a1 a2 a3 a4 n' tm h) (R15 h0 a0 a1 a2 a3 a4) (fun _ _=>False)) tm h:=by
 obtain⟨t2,t3,t4,t9,t39,st,lt,g1,g2,g3,j,v,l,hjn,t40,gX,ov,AQ⟩:=hI;have xb:=dh x (List.mem_of_getElem? hx);have m:=m0.step st;have gT:=m.aw.gT;cases n with
 |zero=>
  have e1:¬(j:Int)<x:=by omega
  simp only[go_sem,seval,vo,t39,t40,e1];exact⟨by simp[go_sem,t4],by simp[go_sem,t9],st,g3,v,l,j,gX,ov⟩
 |succ n=>
  have e1:(j:Int)<x:=by omega
  have f1:fw .i64 ((j:Int)+1)=(j:Int)+1:=aS (by omega) (by omega);have nd:Nd c ((i:Int)+1) (j:Int):=.inr ⟨i,x,rfl,hx,by omega,e1⟩;obtain⟨ad,u,oZ,hu⟩:=m.nx nd;have k1:=OA h a.L c ((i:Int)+1) (j:Int) m.aw.lay m.aw.b nd;rw[oZ]at k1;have k2:=Um h a c ws ad u m hu;have QG:=ov.one;have sO:Own 1 50 ⟨h.next+1,h.t.set h.next (.row (aa 0 [.int .u64 u] T.e) 1 50)⟩ v j l:=ov.aF (Nat.le_succ _) fun b hb=>(ae.new h _).old b (ov.lt hb)
  have e3:((j+1:Nat):Int)=(j:Int)+1:=rfl;simp only[go_sem,seval,vo,t2,t3,t9,t39,t40,e1,g1,g2,gX,gT,k1,k2];refine Un sO rfl (by omega) fun X nX oX kX=>?_
  replace nX:X.next=h.next+2:=nX;have kp:∀b,b<h.next->own v≠some b->X.t.get b=h.t.get b:=fun b hb hn=>by
   have e0:¬b=h.next:=by omega
   have:=kX b (by show b<h.next+1;omega) hn;simp only[go_sem,seval,e0]at this;exact this
  have nv:∀b,b<=h0.next+3->own v≠some b:=fun b hb e=>by have:=AQ b e;omega
  have g1':=(kp h0.next (by omega) (nv _ (by omega))).trans g1;have g2':=(kp (h0.next+1) (by omega) (nv _ (by omega))).trans g2;have g3':=(kp (h0.next+2) (by omega) (nv _ (by omega))).trans g3;have gX':=(kp (h0.next+3) (by omega) (nv _ (by omega))).trans gX;have q1:¬h0.next=h0.next+3:=by omega
  have q2:¬h0.next+1=h0.next+3:=by omega
  have q3:¬h0.next+2=h0.next+3:=by omega
  have Yn:h.next+1<=X.next:=by omega
  have nn0:¬h0.next+3=h.next:=by omega
  simp only[go_sem,seval,t9,t40,f1,gX',gX,Yn,nn0];refine⟨n,Nat.lt_succ_self n,by simp[go_sem,t2],by simp[go_sem,t3],by simp[go_sem,t4],by simp[go_sem,t9],by simp[go_sem,t39],⟨by have:=st.next;show h0.next<=X.next;omega,fun b hb=>?_⟩,by show h0.next+3<X.next;omega,by simp only[go_sem,seval,q1];exact g1',by simp only[go_sem,seval,q2];exact g2',by simp only[go_sem,seval,q3];exact g3',j+1,_,_,by omega,by simp[go_sem,e3],by simp[go_sem],oX.aF (Nat.le_refl _) fun b hb=>?_,fun b hb=>?_⟩
  ·have q4:¬b=h0.next+3:=by omega
   simp only[go_sem,seval,q4];exact(kp b (Nat.lt_of_lt_of_le hb st.next) (nv b (by omega))).trans (st.old b hb)
  ·have q5:h.next+1=b:=Option.some.inj hb;have q6:¬b=h0.next+3:=by omega
   simp only[go_sem,seval,q6]
  ·have q5:h.next+1=b:=Option.some.inj hb;omega
theorem w15(P:Program)[PF P]{call:ab}(NU:Xu call)(Up:F38 call)(Um:F39 call)(OA:Xv call){h:H}{a:AA}{c:aj}{ws:List Int}(m:AR h a c ws){i:Nat}{x:Int}(hx:(aH c)[i]?=some x){y:Int}(hy:(nO c)[i]?=some y){ad:Nat}{u:Int}(oZ:y+4=(ad:Int))(hu:ws[ad]?=some u):
 WF P call c15 [.ptr a.To 0,.int .i64 ((i:Int)+1)] h fun v h'=>ae h h'/\∃(a0 a1 a2 a3:Int) (nv:AV),aY nv=true/\v=.aE [.agg [.int .u64 a0,.int .u64 a1,.int .u64 a2,.int .u64 a3,.int .u64 u,nv],.int .i64 0]:=by
 obtain⟨_,_,_,_,_,_,i60⟩:=m.aw.b.tw hx;have xb:=dh x (List.mem_of_getElem? hx);obtain⟨j0,u0,e0,h0⟩:=m.word hx hy (w:=0) (by decide);obtain⟨j1,u1,e1,h1⟩:=m.word hx hy (w:=1) (by decide);obtain⟨j2,u2,e2,h2⟩:=m.word hx hy (w:=2) (by decide);obtain⟨j3,u3,e3,h3⟩:=m.word hx hy (w:=3) (by decide);have n1:¬h.next=h.next+1:=by omega
 have n2:¬h.next=h.next+2:=by omega
 have n3:¬h.next+1=h.next+2:=by omega
 have n4:¬h.next+1=h.next:=by omega
 have n5:¬h.next+2=h.next:=by omega
 have n6:¬h.next+2=h.next+1:=by omega
 have dT:¬a.To=h.next:=by have:=m.aw.lt;omega
 have dT1:¬a.To=h.next+1:=by have:=m.aw.lt;omega
 have dT2:¬a.To=h.next+2:=by have:=m.aw.lt;omega
 obtain⟨H,hH⟩:∃H:H,H=⟨h.next+3,((h.t.set h.next (ag [.ptr a.To 0] 54)).set (h.next+1) (ag [.int .i64 ((i:Int)+1)] 3)).set (h.next+2) (ag [.int .u64 0,.int .u64 0,.int .u64 0,.int .u64 0,.int .u64 0,.ax] 52)⟩:=⟨_,rfl⟩;have stH:ae h H:=by
  rw[hH];exact(ae.new h _).trans ((ae.new ⟨h.next+1,_⟩ _).trans (ae.new ⟨h.next+2,_⟩ _))
 have mH:=m.step stH;have nH:H.next=h.next+3:=by rw[hH]
 have g1:H.t.get h.next=some (ag [.ptr a.To 0] 54):=by rw[hH];simp only[go_sem,seval,n1,n2]
 have g2:H.t.get (h.next+1)=some (ag [.int .i64 ((i:Int)+1)] 3):=by rw[hH];simp only[go_sem,seval,n3]
 have g3:H.t.get (h.next+2)=some (ag [.int .u64 0,.int .u64 0,.int .u64 0,.int .u64 0,.int .u64 0,.ax] 52):=by rw[hH];simp only[go_sem,seval]
 have gT:=mH.aw.gT;have k1:=NU H a.L c _ _ i x mH.aw.lay hx (by omega);have q0:call 38 [.int .i64 0,.ptr h.next 0,.ptr (h.next+1) 0] H=some (.int .u64 u0,H):=Up H a c ws i x y 0 j0 u0 _ _ mH hx hy (by decide) e0 h0 g1 g2;have q1:call 38 [.int .i64 1,.ptr h.next 0,.ptr (h.next+1) 0] H=some (.int .u64 u1,H):=Up H a c ws i x y 1 j1 u1 _ _ mH hx hy (by decide) e1 h1 g1 g2;have q2:call 38 [.int .i64 2,.ptr h.next 0,.ptr (h.next+1) 0] H=some (.int .u64 u2,H):=Up H a c ws i x y 2 j2 u2 _ _ mH hx hy (by decide) e2 h2 g1 g2;have q3:call 38 [.int .i64 3,.ptr h.next 0,.ptr (h.next+1) 0] H=some (.int .u64 u3,H):=Up H a c ws i x y 3 j3 u3 _ _ mH hx hy (by decide) e3 h3 g1 g2;have q4:call 38 [.int .i64 4,.ptr h.next 0,.ptr (h.next+1) 0] H=some (.int .u64 u,H):=Up H a c ws i x y 4 ad u _ _ mH hx hy (by decide) oZ hu g1 g2;simp only[ag,List.length_cons,List.length_nil]at hH;have gT0:=m.aw.gT;simp only[go_sem,seval,n1,n2,n3,dT,dT1,dT2,gT0];rw[←hH];simp only[go_sem,seval,g1,g2,g3,gT,k1,q0,q1,q2,q3,q4,n1,n2,n3,nH];have o1:¬h.next=h.next+3:=by omega
 have o2:¬h.next+1=h.next+3:=by omega
 have o3:¬h.next+2=h.next+3:=by omega
 refine aT (I15 h a i x (.int .u64 u0) (.int .u64 u1) (.int .u64 u2) (.int .u64 u3) (.int .u64 u)) _ _ (fun n tm h' hI=>Uo P Um OA m hx n tm h' hI) (fun dC h2 hR=>?_) (fun _ _ hh=>hh.elim) x.toNat _ _
  ⟨by simp[go_sem],by simp[go_sem],by simp[go_sem],by simp[go_sem],by simp[go_sem],⟨by show h.next<=h.next+4;omega,fun b hb=>by
    have o4:¬b=h.next+3:=by omega
    simp only[go_sem,seval,o4];exact stH.old b hb⟩,by show h.next+3<h.next+4;omega,by simp only[go_sem,seval,o1];exact g1,by simp only[go_sem,seval,o2];exact g2,by simp only[go_sem,seval,o3];exact g3,0,.ax,[],by omega,by simp[go_sem],by simp[go_sem],.nil,fun b hb=>(by cases hb)⟩
 obtain⟨t4,t9,st,g3',v,l,n,gX,ov⟩:=hR;have QG:=ov.one;simp only[go_sem,seval,t4,t9,g3',gX,QG];refine⟨⟨st.next,fun b hb=>?_⟩,_,_,_,_,_,QG,rfl⟩;have o4:¬b=h.next+2:=by omega
 simp only[go_sem,seval,o4];exact st.old b hb
def F15(call:ab):Prop:=∀h a c ws (i:Nat) (x y:Int) (ad:Nat) (u:Int),AR h a c ws->(aH c)[i]?=some x->(nO c)[i]?=some y->y+4=(ad:Int)->ws[ad]?=some u->aG call 15 [.ptr a.To 0,.int .i64 ((i:Int)+1)] h fun v h'=>ae h h'/\∃(a0 a1 a2 a3:Int) (nv:AV),aY nv=true/\v=.aE [.agg [.int .u64 a0,.int .u64 a1,.int .u64 a2,.int .u64 a3,.int .u64 u,nv],.int .i64 0]
def Uq(c:aj)(v:AV)(h h':H):Prop:=(∃cv,v=.agg (au c cv)/\aY cv=true/\cm none 1 h' cv (uL c.aI)/\∀a,own cv=some a->h.next<=a/\a<h'.next)/\ae h h'
def F41(call:ab):Prop:=∀h L c p hs,eU h L c p hs->c.aI.length<=1000->aG call 41 [.ptr L 0] h fun v h'=>Uq c v h h'
theorem LB.aI{c:aj}(b:LB c):c.aI.length<=64:=by
 obtain⟨hT,Ib,mL,IG,IH,iD,oU,hd,Eh,MZ,II⟩:=b.lay;rcases hd with⟨_,_,e⟩|⟨_,_,e⟩|⟨_,_,_,e,_⟩
 ·rw[e];decide
 ·rw[e];decide
 ·omega
theorem w16(P:Program)[PF P]{call:ab}(k41:F41 call){h:H}{a:AA}{c:aj}(m:AW h a c):WF P call c16 [.ptr a.A 0] h fun v h'=>Uq c v h h':=by
 obtain⟨⟨rest,g⟩,gT,hL,⟨lt,_⟩,b⟩:=m;have hl:=b.aI;have x1:¬a.A=h.next:=by omega
 simp only[go_sem,seval,g,x1];have cr:=ae.new h (.row (aa 0 [.int .i64 0,.int .i64 0,.int .u8 0,.int .i64 0,.int .u8 0,.int .i64 0,.ax,.int .i64 0,.int .i64 0,.int .i64 0,.int .i64 0,.int .i64 0,.int .i64 0,.int .i64 0,.int .i64 0,.int .i64 0] T.e) 16 27);refine af (k41 _ a.L c _ _ (hL.step cr) (by omega)) fun v1 h1 p1=>?_
 obtain⟨⟨cv,rfl,ov,rd,lo⟩,bC⟩:=p1;have g1:=bC.old h.next (Nat.lt_succ_self _);simp only[go_sem,seval]at g1;have nx:h.next<h1.next:=bC.next;simp only[go_sem,seval,g1,au,ov];refine⟨⟨cv,rfl,ov,rd.aF fun b hb=>?_,fun a ha=>?_⟩,by show h.next<=h1.next;omega,fun b hb=>?_⟩
 ·have e0:h.next+1<=b:=(lo b hb).1;have e1:¬b=h.next:=by omega
  simp only[go_sem,seval,e1]
 ·have e0:h.next+1<=a:=(lo a ha).1;exact⟨by omega,(lo a ha).2⟩
 ·have e1:¬b=h.next:=by omega
  have:=bC.old b (by show b<h.next+1;omega);simp only[go_sem,seval,e1]at this;simp only[go_sem,seval,e1,this]
def QP(call:ab):Prop:=∀h a c,AW h a c->aG call 16 [.ptr a.A 0] h fun v h'=>Uq c v h h'
theorem w94(P:Program)[PF P]{call:ab}(k9:FB call 9 0)(Ha:IV call){h:H}{a:AA}{c:aj}(m:AW h a c){s:Int}(s0:0<=s)(s1:s<=1000):WF P call c94 [.ptr a.A 0,.int .i64 s] h fun v h'=>v=.int .i64 s/\ae h h':=by
 obtain⟨⟨rest,g⟩,gT,hL,lt,b⟩:=m;have k:=k9 h a.A _ _ g (by simp) rfl;simp only[go_sem,seval,k];refine af (Ha h a.L c _ _ hL) fun v2 h2 p2=>?_
 obtain⟨rfl,st⟩:=p2;have f1:fw .i64 s=s:=aS (by omega) (by omega);have ho:(aA c).ow=0:=rfl;simp only[go_sem,seval,cb,bo,ho,Int.zero_add,f1];exact st
def F94(call:ab):Prop:=∀h a c (s:Int),AW h a c->0<=s->s<=1000->aG call 94 [.ptr a.A 0,.int .i64 s] h fun v h'=>v=.int .i64 s/\ae h h'
def wB(w:Int):Int:=if 1<=w/\w<=64 then w-1 else-1
def I36(h0:H)(O A:Nat)(n:Nat)(ws:List Int)(k:Nat)(tm:T AV)(h:H):Prop:=
 tm.get 0=some (.ptr A 0)/\tm.get 3=some (.sl O 0 n 1 (some n))/\tm.get 14=some (.int .i64 (n:Int))/\ae h0 h/\h0.next<=O/\O<h.next/\∃(i:Nat) (cs:List AV),i+k=n/\tm.get 15=some (.int .i64 (i:Int))/\h.t.get O=some (.row (aa 0 cs T.e) n 3)/\cs.length=n/\(∀j x,j<i->ws[j]?=some x->cs[j]?=some (.int .i64 (wB x)))
def R36(h0:H)(O:Nat)(n:Nat)(ws:List Int)(tm:T AV)(h:H):Prop:=
 tm.get 3=some (.sl O 0 n 1 (some n))/\ae h0 h/\O<h.next/\h0.next<=O/\∃cs:List AV,h.t.get O=some (.row (aa 0 cs T.e) n 3)/\(∀j x,j<n->ws[j]?=some x->cs[j]?=some (.int .i64 (wB x)))
theorem Ur(P:Program)[PF P]{call:ab}(mW:FB call 12 1)(Jc:F94 call)(Ig:iK call){h0:H}{O:Nat}{a:AA}{c:aj}{ws:List Int}{n:Nat}(hn:n<=64)(m:AR h0 a c ws)(hw:n<=ws.length)(k:Nat)(tm:T AV)(h:H)(hI:I36 h0 O a.A n ws k tm h):
 WC P call vp (bM 0 (fun tm h=>∃j,j<k/\I36 h0 O a.A n ws j tm h) (R36 h0 O n ws) (fun _ _=>False)) tm h:=by
 obtain⟨t0,t3,t14,st,hO,lO,i,cs,Cu,t15,gO,iT,uD⟩:=hI;cases k with
 |zero=>
  have e1:¬(i:Int)<(n:Int):=by omega
  obtain rfl:i=n:=by omega
  simp only[go_sem,seval,vp,t14,t15,e1];exact⟨by simp[go_sem,t3],st,lO,hO,cs,gO,uD⟩
 |succ k=>
  have e1:(i:Int)<(n:Int):=by omega
  have hi:i<n:=by omega
  have vf:i+1<=n:=hi;have f1:fw .i64 ((i:Int)+1)=(i:Int)+1:=aS (by omega) (by omega);have e3:((i+1:Nat):Int)=(i:Int)+1:=rfl;have nx:=st.next;obtain⟨w,AI⟩:∃x,ws[i]?=some x:=⟨_,List.getElem?_eq_getElem (by omega)⟩;have sB:∀x,ae h0 ⟨h.next,h.t.set O x⟩:=fun x=>⟨nx,fun b hb=>by
   have n1:¬b=O:=by omega
   simp only[go_sem,seval,n1];exact st.old b hb⟩
  simp only[go_sem,seval,vp,t0,t3,t14,t15,e1,gO,iT,hi,vf,Nat.mul_one];obtain⟨⟨rest,gA⟩,_⟩:=(m.step (sB (.row (aa 0 (cs.set i (.int .i64 (-1))) T.e) n 3))).aw;refine b8 (mW _ a.A _ (.ptr a.M 0) gA (by simp) rfl) ?_
  simp only[go_sem,seval,t0];refine af (Jc _ a c (i:Int) (m.step (sB _)).aw (by omega) (by omega)) fun v1 h1 p1=>?_
  obtain⟨rfl,bC⟩:=p1;have eW:h.next<=h1.next:=bC.next;have k1:=wA Ig (m.step ((sB _).trans bC)).mm AI;have QI:=bC.old O lO;simp only[go_sem,seval]at QI;have Us:∀b,b<h.next->b≠O->h1.t.get b=h.t.get b:=fun b hb hn=>by
   have:=bC.old b hb;simp only[go_sem,seval,hn]at this;exact this
  have fin:∀(cs':List AV) (h2:H),h2.next=h1.next->(∀b,b<h.next->b≠O->h2.t.get b=h.t.get b)->h2.t.get O=some (.row (aa 0 cs' T.e) n 3)->cs'=cs.set i (.int .i64 (wB w))->∀aC:T AV,aC.get 0=some (.ptr a.A 0)->aC.get 3=some (.sl O 0 n 1 (some n))->aC.get 14=some (.int .i64 (n:Int))->aC.get 15=some (.int .i64 ((i:Int)+1))->∃j',j'<k+1/\I36 h0 O a.A n ws j' aC h2:=fun cs' h2 q1 q2 q3 q4 aC a1 a2 a3 a4=>by
   subst q4;refine⟨k,Nat.lt_succ_self k,a1,a2,a3,⟨by omega,fun b hb=>(q2 b (by omega) (by omega)).trans (st.old b hb)⟩,hO,by omega,i+1,_,by omega,a4,q3,by rw[List.length_set];exact iT,fun j x hj hx=>?_⟩
   by_cases Qi:j=i
   ·subst Qi;rw[AI]at hx;rw[←Option.some.inj hx,List.getElem?_set_self (by rw[iT];exact hi)]
   ·rw[List.getElem?_set_ne (by omega)];exact uD j x (by omega) hx
  by_cases z1:w<1
  ·have ov:wB w=-1:=by unfold wB;rw[if_neg (by omega)]
   simp only[go_sem,seval,k1,z1,f1,t0,t3,t14,t15];exact fin _ _ rfl Us QI (by rw[ov]) _ (by simp[go_sem,t0]) (by simp[go_sem,t3]) (by simp[go_sem,t14]) (by simp[go_sem])
  ·by_cases z2:64<w
   ·have ov:wB w=-1:=by unfold wB;rw[if_neg (by omega)]
    simp only[go_sem,seval,k1,z1,z2,f1,t0,t3,t14,t15];exact fin _ _ rfl Us QI (by rw[ov]) _ (by simp[go_sem,t0]) (by simp[go_sem,t3]) (by simp[go_sem,t14]) (by simp[go_sem])
   ·have ov:wB w=w-1:=by unfold wB;rw[if_pos ⟨by omega,by omega⟩]
    have f2:fw .i64 w=w:=aS (by omega) (by omega);have f3:fw .i64 (w-1)=w-1:=aS (by omega) (by omega);simp only[go_sem,seval,k1,QI,z1,z2,f2,f3,f1,t0,t3,t14,t15,e1,iT,vf,hi,Nat.mul_one,List.length_set];refine fin ((cs.set i (.int .i64 (-1))).set i (.int .i64 (w-1))) ⟨h1.next,h1.t.set O (.row (aa 0 ((cs.set i (.int .i64 (-1))).set i (.int .i64 (w-1))) T.e) n 3)⟩ rfl (fun b hb hn=>?_) ?_ (by rw[List.set_set,ov]) _ ?_ ?_ ?_ ?_
    ·simp only[go_sem,seval,hn];exact Us b hb hn
    ·simp only[go_sem,seval]
    ·simp only[go_sem,seval,t0]
    ·simp only[go_sem,seval,t3]
    ·simp only[go_sem,seval,t14]
    ·simp only[go_sem,seval]
def JN(n:Nat)(ws:List Int)(h:H)(v:AV)(h':H):Prop:=ae h h'/\∃O cs,v=.sl O 0 n 1 (some n)/\O<h'.next/\h'.t.get O=some (.row (aa 0 cs T.e) n 3)/\(∀j x,j<n->ws[j]?=some x->cs[j]?=some (.int .i64 (wB x)))
theorem w43(P:Program)[PF P]{call:ab}(Eb:QP call)(mW:FB call 12 1)(k94:F94 call)(Ig:iK call){h:H}{a:AA}{c:aj}{ws:List Int}(m:AR h a c ws){n:Nat}(hs:c.aq=(n:Int)):
 WF P call c43 [.ptr a.A 0] h (JN n ws h):=by
 have hn:n<=64:=by
  obtain⟨hT,Ib,mL,_⟩:=m.aw.b.lay;omega
 have hw:n<=ws.length:=by
  obtain⟨n1,n2,n3,n4,n5,n6,n7,n8,n9,rH,rI⟩:=m.aw.b.dq;have:=m.len;have:=m.aw.b.val;omega
 simp only[go_sem,seval];refine af (Eb h a c m.aw) fun v1 h1 p1=>?_
 obtain⟨⟨cv,rfl,ov,rd,lo⟩,bC⟩:=p1;have e1:8*n<=281474976710656:=by omega
 have e2:n<=281474976710656:=by omega
 have nx:=bC.next;simp only[go_sem,seval,au,bo,hs,fM,dZ,Nat.mul_one,Nat.le_refl,e1,e2,decide_true,Bool.and_self,cond_true];refine aT (I36 h h1.next a.A n ws) _ _ (fun k tm h' hI=>Ur P mW k94 Ig hn m hw k tm h' hI) (fun dC h2 hR=>?_) (fun _ _ hh=>hh.elim) n _ _
  ⟨by simp[go_sem],by simp[go_sem],by simp[go_sem],bC.trans (ae.new h1 _),nx,Nat.lt_succ_self _,0,List.replicate n (.int .i64 0),by omega,by simp[go_sem],by simp[go_sem],List.length_replicate,fun j x hj=>by omega⟩
 obtain⟨t3,cF,lO,oO,cs,gO,uD⟩:=hR;simp only[go_sem,seval,t3];exact⟨cF,_,cs,rfl,lO,gO,uD⟩
def F43(call:ab):Prop:=∀h a c ws (n:Nat),AR h a c ws->c.aq=(n:Int)->aG call 43 [.ptr a.A 0] h (JN n ws h)
end
end Go.Proofs.YtgkjlklfjbljeaaGreat.CQ
namespace Go.Proofs.YtgkjlklfjbljeaaGreat.CQ
open Go.Proofs.YtgkjlklfjbljeaaGreat.Eo Go.Sort
noncomputable section
variable(P:Program)[PT P]{call:ab}
def wC(zs:List Int):List Int:=zs.mergeSort fun x y=>decide (x<=y)
def FJ(P:Program):Prop:=∀(b9 off cap:Nat) (zs:List Int) (w:World),Holds (Value.int .i64) w b9 off zs.toArray->b9<w.heap.size->zs.length<4611686018427387904->Calls P 196 #[.slice (some ⟨b9,off,none⟩) zs.length cap] w fun e w'=>
 e=.returned (.tuple #[])/\∃n os,w'=grow (putRow (Value.int .i64) (Sort.ahead w n) b9 off (wC zs).toArray) os
theorem rK(zs:List Int):(wC zs).Perm zs:=List.mergeSort_perm zs _
theorem A4(zs:List Int):(wC zs).length=zs.length:=(rK zs).length_eq
theorem JO{P:Program}(hc:FJ P)(has:mJ P 196=true){h:H}{a len:Nat}{zs:List Int}(g:h.t.get a=some (.row (aa 0 (iL zs) T.e) len 3))(hl:zs.length<=1000)(h0:0<zs.length):
 A5 P 196 [.sl a 0 zs.length 1 none] h (.aE []) ⟨h.next,h.t.set a (.row (aa 0 (iL (wC zs)) T.e) len 3)⟩:=by
 refine⟨has,rfl,fun ρ w ARGS ha hr hf=>?_⟩;simp only[bE,VR]at ha;obtain⟨V,M,⟨l,CR,_,CU,hV⟩,rfl,rfl⟩:=ha;have hV':V=.slice (some ⟨l.b9,l.off+0,none⟩) zs.length ((l.room-0)/1):=by
  rcases hV with hV|⟨hV,_⟩
  ·exact hV
  ·omega
 subst hV';obtain⟨hb,hlr,c,hbl,uD,B7⟩:=hr.obj a _ l g rfl CR;have mD:∀j (x:Int),zs[j]?=some x->j<len/\c[l.off+j]?=some (.int .i64 x):=fun j x hx=>by
  obtain⟨h1,V,v1,_,v2⟩:=B7 j (.int .i64 x) (by rw[fA];unfold iL;rw[List.getElem?_map,hx];rfl);simp only[VR]at v1;subst v1;exact⟨h1,v2⟩
 have hH:Holds (Value.int .i64) w l.b9 (l.off+0) zs.toArray:=fun j hj=>by
  have FK:j<zs.length:=by simpa using hj
  have hx:zs[j]?=some zs[j]:=List.getElem?_eq_getElem FK;obtain⟨_,h2⟩:=mD j _ hx;constructor
  ·unfold World.cell?;simp only[hbl];rw[Nat.add_zero,h2,getElem!_pos _ j hj];simp
  ·unfold World.frozen?;simp only[hbl];simp
 have aO:=hc l.b9 (l.off+0) ((l.room-0)/1) zs w hH hb (by omega);refine aO.mono fun e w' hh=>?_
 obtain⟨rfl,n,os,rfl⟩:=hh;refine⟨ρ,_,rfl,⟨[],rfl,rfl⟩,?_⟩;have wD:(putRow (Value.int .i64) (Sort.ahead w n) l.b9 (l.off+0) (wC zs).toArray).heap[l.b9]?=some (.cells (putCells (Value.int .i64) (l.off+0) (wC zs).toArray c) 3 (0,0)):=by
  show(w.heap.modify l.b9 (onCells _))[l.b9]?=_
  rw[Array.getElem?_modify,if_pos rfl,hbl];rfl
 have aaP:∀r,r≠l.b9->(putRow (Value.int .i64) (Sort.ahead w n) l.b9 (l.off+0) (wC zs).toArray).heap[r]?=w.heap[r]?:=fun r dB=>by
  show(w.heap.modify l.b9 (onCells _))[r]?=_
  rw[Array.getElem?_modify,if_neg (Ne.symm dB)]
 have rn:(putRow (Value.int .i64) (Sort.ahead w n) l.b9 (l.off+0) (wC zs).toArray).heap.size=w.heap.size:=by
  show(w.heap.modify l.b9 (onCells _)).size=_
  rw[Array.size_modify]
 generalize AI:putRow (Value.int .i64) (Sort.ahead w n) l.b9 (l.off+0) (wC zs).toArray=w1 at wD aaP rn;have akB:Env w w1:=by rw[←AI];exact⟨rfl,rfl,rfl⟩
 have pH:Go.Proofs.YtgkjlklfjbljeaaGreat.Eo.Way ρ h w ρ ⟨h.next,h.t.set a (.row (aa 0 (iL (wC zs)) T.e) len 3)⟩ w1:=by
  refine Go.Proofs.YtgkjlklfjbljeaaGreat.Eo.eY (o:=.row (aa 0 (iL (wC zs)) T.e) len 3) hf CR (lH hr g rfl CR (fun b=>T.ay _ _ _ _) akB rn aaP rfl ⟨hlr,_,wD,?_,fun i v hv=>?_⟩)
  ·rw[uD];unfold putCells;rw[Array.size_mapIdx]
  ·rw[fA]at hv;unfold iL at hv;rw[List.getElem?_map,Option.map_eq_some_iff]at hv;obtain⟨x,hx,rfl⟩:=hv;have hi:=(List.getElem?_eq_some_iff.1 hx).1;have H8:=hi;rw[A4]at H8;obtain⟨h1,h2⟩:=mD i _ (List.getElem?_eq_getElem H8);refine⟨h1,.int .i64 x,rfl,rfl,?_⟩;unfold putCells;rw[Array.getElem?_mapIdx,h2];simp only[Option.map_some];rw[if_pos ⟨by omega,by simp;omega⟩];congr 2;have e1:l.off+i-(l.off+0)=i:=by omega
   rw[e1,getElem!_pos _ i (by simpa using hi)];have:=List.getElem?_eq_some_iff.1 hx;simpa using this.2
 have wb:Go.RowKit.Below w1.heap.size w1 (grow w1 os):=⟨rfl,rfl,rfl,by show w1.heap.size<=(w1.heap++os).size;rw[Array.size_append];omega,fun k hk=>by
  show(w1.heap++os)[k]?=_
  rw[Array.getElem?_append_left hk]⟩
 exact pH.trans (yO pH.nx.rel pH.fresh wb)
end
end Go.Proofs.YtgkjlklfjbljeaaGreat.CQ
namespace Go.Proofs.YtgkjlklfjbljeaaGreat.CQ
open Go.Proofs.YtgkjlklfjbljeaaGreat.Eo
noncomputable section
@[go_sem]def FL:Fj:=[⟨some 12,none,.i (.next (.t 11))⟩,o 13 12 0]
def A6:CC:=(Sq FL (Qq (Cq 13 .skip (.exit 0)) (.block 1 (Sq [⟨some 14,none,.i (.entry (.t 11))⟩,o 15 14 0,a 4 15] (Oq [a 16 3,a 17 4,qM 18 3 1 1 0 0 1 17,qo 19 3 1 8 16 18,a 3 19])))))
@[go_sem]def A7:CF:=⟨1,(Sq [U 2] (Qq (Sq [a 5 0,y 6 97 5] (Kq 6 [U 2] .skip)) (Sq [U 3] (Qq (Sq [a 7 0,j 8 7,d 9 4 8,i 10 9,⟨some 11,none,.i (.range (.t 10))⟩] (.block 0 (.loop A6))) (Sq [a 20 3,q 21 196 20] (Rq [a 22 3,a 2 22])))))),[.tmp 2]⟩
section
variable {v:AV}
theorem sY:∀(l:List Nat) (i:Nat),∀e∈bS v i l,i<=e.2.2/\e.2.2<i+l.length/\∃t,l[e.2.2-i]?=some t/\e=(.int .i64 (t:Int),v,e.2.2)
 | [],i,e,h=>by simp[bS]at h
 |t::l,i,e,h=>by
  unfold bS at h;rcases List.mem_cons.1 h with rfl|h
  ·exact⟨Nat.le_refl _,by show i<i+(l.length+1);omega,t,by simp,rfl⟩
  ·obtain⟨h1,h2,s,h3,h4⟩:=sY l (i+1) e h;refine⟨by omega,by rw[List.length_cons];omega,s,?_,h4⟩;rw[show e.2.2-i=(e.2.2-(i+1))+1 by omega,List.getElem?_cons_succ];exact h3
theorem CV:∀(l:List Nat) (i j t:Nat),l[j]?=some t->(.int .i64 (t:Int),v,i+j)∈bS v i l
 | [],i,j,t,h=>by simp at h
 |s::l,i,0,t,h=>by
  obtain rfl:s=t:=by simpa using h
  unfold bS;exact List.mem_cons_self
 |s::l,i,j+1,t,h=>by
  have:=CV l (i+1) j t (by simpa using h);rw[show i+1+j=i+(j+1) by omega]at this;unfold bS;exact List.mem_cons_of_mem _ this
theorem wE:∀(l:List Nat) (i j t:Nat),l[j]?=some t->tU (i+j) (bS v i l)=some (.int .i64 (t:Int),v)
 | [],i,j,t,h=>by simp at h
 |s::l,i,0,t,h=>by
  obtain rfl:s=t:=by simpa using h
  unfold bS tU;simp
 |s::l,i,j+1,t,h=>by
  have:=wE l (i+1) j t (by simpa using h);rw[show i+1+j=i+(j+1) by omega]at this;unfold bS tU;have e:Nat.beq i (i+(j+1))=false:=by
   cases hb:Nat.beq i (i+(j+1))with
   |false=>rfl
   |true=>have:=Nat.eq_of_beq_eq_true hb;omega
  simp only[e];exact this
theorem CW:∀(l l':List Nat) (i:Nat),bS v i l=bS v i l'->l=l'
 | [],[],_,_=>rfl
 | [],t::l',i,h=>by simp[bS]at h
 |t::l,[],i,h=>by simp[bS]at h
 |t::l,t'::l',i,h=>by
  simp only[bS,List.cons.injEq,Prod.mk.injEq,AV.int.injEq,true_and,and_true]at h;obtain⟨h1,h2⟩:=h;rw[CW l l' (i+1) h2,Int.ofNat.inj h1]
theorem JP{l:List Nat}:A8 l.length (bS v 0 l)=true:=List.all_eq_true.2 fun e he=>by
 obtain⟨_,h2,_⟩:=sY l 0 e he;exact Nat.ble_eq_true_of_le (by omega)
end
theorem Ut{l l':List Int}(h:l.Perm l'):wC l=wC l':=by
 have tr:∀a b c:Int,decide (a<=b)=true->decide (b<=c)=true->decide (a<=c)=true:=fun a b c h1 h2=>by
  have h1:=of_decide_eq_true h1;have h2:=of_decide_eq_true h2;exact decide_eq_true (by omega)
 have to:∀a b:Int,(decide (a<=b)||decide (b<=a))=true:=fun a b=>by
  simp only[Bool.or_eq_true,decide_eq_true_eq];omega
 refine List.Perm.eq_of_pairwise (le:=fun x y=>decide (x<=y)=true) (fun a b _ _ h1 h2=>?_) (List.pairwise_mergeSort tr to l) (List.pairwise_mergeSort tr to l') ((rK l).trans (h.trans (rK l').symm));have h1:=of_decide_eq_true h1;have h2:=of_decide_eq_true h2;omega
def oz(tk seen:List Nat):List Int:=seen.map fun i=>((tk[i]?.getD 0:Nat):Int)
structure Out(h0:H)(O:Nat)(tk seen:List Nat)(v:AV)(h:H):Prop where
 it:h.t.get h0.next=some (.iter (some O) tk.length seen tk.length)
 mp:h.t.get O=some (.map (bS (.bool false) 0 tk) tk.length)
 lt:O<h0.next
 nd:seen.Nodup
 bd:∀i∈seen,i<tk.length
 nx:h.next=h0.next+1+2*seen.length
 old:∀b,b<h0.next->h.t.get b=h0.t.get b
 ov:Own 1 3 h v seen.length (iL (oz tk seen))
 vv:v=if seen.length=0 then .ax else .sl (h0.next+2*seen.length) 0 seen.length 1 none
def OB(h0:H)(O:Nat)(tk:List Nat)(n:Nat)(tm:T AV)(h:H):Prop:=tm.get 11=some (.ptr h0.next 0)/\∃seen v,n+seen.length=tk.length/\tm.get 3=some v/\Out h0 O tk seen v h
section
variable {h0 h:H} {O:Nat} {tk seen:List Nat} {v:AV} {tm:T AV}
theorem Out.cond(o:Out h0 O tk seen v h):(!seen.isEmpty&&!(bS (.bool false) 0 tk).isEmpty&&(bS (.bool false) 0 tk).all (fun e=>Nat.ble tk.length e.2.2))=false:=by
 cases tk with
 |nil=>simp[bS]
 |cons t l=>
  have e:Nat.ble (l.length+1) 0=false:=rfl;simp[bS,e]
theorem Out.left(o:Out h0 O tk seen v h):∀e∈kL (bS (.bool false) 0 tk) seen,e.2.2∉seen/\∃t,tk[e.2.2]?=some t/\e=(.int .i64 (t:Int),.bool false,e.2.2):=fun e he=>by
 unfold kL at he;rw[List.mem_filter]at he;obtain⟨h1,h2⟩:=he;obtain⟨_,_,t,h3,h4⟩:=sY tk 0 e h1;refine⟨by simpa using h2,t,by rw[Nat.sub_zero]at h3;exact h3,h4⟩
theorem Out.nil(o:Out h0 O tk seen v h)(hl:kL (bS (.bool false) 0 tk) seen=[]):∀i,i<tk.length->i∈seen:=fun i hi=>by
 have hx:tk[i]?=some _:=List.getElem?_eq_getElem hi;have:=CV (v:=.bool false) tk 0 i _ hx;rw[Nat.zero_add]at this;cases hs:seen.contains i with
 |true=>simpa using hs
 |false=>
  have:(AV.int .i64 ((tk[i]:Nat):Int),AV.bool false,i)∈kL (bS (.bool false) 0 tk) seen:=by
   unfold kL;rw[List.mem_filter];exact⟨this,by show(!seen.contains i)=true;rw[hs];rfl⟩
  rw[hl]at this;cases this
def mn(h0 h:H)(O n:Nat)(seen:List Nat)(i:Nat):H:=⟨h.next,h.t.set h0.next (.iter (some O) n (seen++[i]) n)⟩
theorem Out.next{P:Program}{call:ab}(hm:P.follows .mixedOrders=true)(aO:bF true P call)(nV:Plain call){N:Nat}{d:Option Nat}{qs:List SQ}{Q:aZ}(o:Out h0 O tk seen v h)(t11:tm.get 11=some (.ptr h0.next 0))
 (hS:∀i t,i∉seen->tk[i]?=some t->WS P call qs (fun tm h=>Q .normal tm h) (rL tm d (.aE [.bool true,.int .i64 (t:Int),.bool false])) (mn h0 h O tk.length seen i))
 (hE:(∀i,i<tk.length->i∈seen)->WS P call qs (fun tm h=>Q .normal tm h) (rL tm d (.aE [.bool false])) h):
 WN P N (.ops (⟨d,none,.i (.next (.t 11))⟩::qs)) Q tm h:=by
 have ev:cV tm (.t 11)=some (.ptr h0.next 0):=t11;have one:∀r,Im tm h (.next (.t 11))=some r->WS P call qs (fun tm h=>Q .normal tm h) (rL tm d r.1) r.2->WN P N (.ops (⟨d,none,.i (.next (.t 11))⟩::qs)) Q tm h:=fun r hr hw=>by
  refine WN.of hm aO nV ?_
  unfold WC WS;refine fP (x:=true) rfl ?_
  refine fP (x:=r) ?_ hw
  show kx P call tm h (.i (.next (.t 11)))=some r
  exact hr
 have hit:=o.it;have hmp:=o.mp;have hcd:=o.cond;cases hl:kL (bS (.bool false) 0 tk) seen with
 |nil=>
  refine one (.aE [.bool false],h) ?_ (hE (o.nil hl));unfold Im;simp only[ev,hit,hmp,hcd,hl]
 |cons e l=>
  have he:e∈kL (bS (.bool false) 0 tk) seen:=by rw[hl];exact List.mem_cons_self
  cases l with
  |nil=>
   obtain⟨h1,t,h2,h3⟩:=o.left e he;have df:=(List.getElem?_eq_some_iff.1 h2).1;have hb:Nat.ble tk.length e.2.2=false:=by
        cases q:Nat.ble tk.length e.2.2 with
        |false=>rfl
        |true=>have:=Nat.le_of_ble_eq_true q;omega
   refine one (.aE [.bool true,e.1,e.2.1],mn h0 h O tk.length seen e.2.2) ?_ ?_
   ·unfold Im;simp only[ev,hit,hmp,hcd,hl,hb];rfl
   ·have:=hS e.2.2 t h1 h2;rw[h3];exact this
  |cons e2 l=>
   have hold:A8 tk.length (e::e2::l)=true:=by
        rw[←hl];refine List.all_eq_true.2 fun x hx=>?_
        unfold kL at hx;exact List.all_eq_true.1 (JP (v:=.bool false) (l:=tk)) x (List.mem_filter.1 hx).1
   have hn:rq tm h (.t 11)=some ((e::e2::l).map fun e=>(.aE [.bool true,e.1,e.2.1],mn h0 h O tk.length seen e.2.2)):=by
        unfold rq;simp only[ev,hit,hmp,hcd,hl,hold];rfl
   refine WN.next aO hn fun r hr=>?_
   obtain⟨x,hx,rfl⟩:=List.mem_map.1 hr;rw[←hl]at hx;obtain⟨h1,t,h2,h3⟩:=o.left x hx;have:=hS x.2.2 t h1 h2;rw[h3];exact this
end
section
variable {P:Program} {h0:H} {O Po M Ly:Nat} {po li:Int} {gv:AV} {tk:List Nat}
theorem Out.put{h:H}{seen:List Nat}{v:AV}(o:Out h0 O tk seen v h){i t:Nat}(hi:i∉seen)(ht:tk[i]?=some t){X:H}(nX:X.next=h.next+2)(oX:Own 1 3 X (.sl (h.next+1) 0 (seen.length+1) 1 none) (seen.length+1) (iL (oz tk seen)++[.int .i64 (t:Int)]))(kX:∀b,b<h.next->own v≠some b->X.t.get b=(mn h0 h O tk.length seen i).t.get b):
 Out h0 O tk (seen++[i]) (.sl (h.next+1) 0 (seen.length+1) 1 none) X:=by
 have I2:=o.nx;have hO:=o.lt;have low:∀b,b<=h0.next->own v≠some b:=fun b hb e=>by
  rw[o.vv]at e;split at e
  ·cases e
  ·have:=Option.some.inj e;omega
 refine⟨?_,?_,hO,?_,?_,?_,fun b hb=>?_,?_,?_⟩
 ·rw[kX h0.next (by omega) (low _ (Nat.le_refl _))]
  show(h.t.set h0.next _).get h0.next=_
  rw[T.ay,if_pos rfl]
 ·rw[kX O (by omega) (low _ (by omega))]
  show(h.t.set h0.next _).get O=_
  rw[T.ay,if_neg (by omega)];exact o.mp
 ·rw[List.nodup_append];exact⟨o.nd,by simp,fun a ha b hb e=>hi (by rw[←List.mem_singleton.1 hb,←e];exact ha)⟩
 ·intro j hj;rcases List.mem_append.1 hj with hj|hj
  ·exact o.bd j hj
  ·rw[List.mem_singleton.1 hj];exact(List.getElem?_eq_some_iff.1 ht).1
 ·rw[nX,List.length_append,List.length_singleton];omega
 ·rw[kX b (by omega) (low _ (by omega))]
  show(h.t.set h0.next _).get b=_
  rw[T.ay,if_neg (by omega)];exact o.old b hb
 ·have e1:iL (oz tk (seen++[i]))=iL (oz tk seen)++[.int .i64 (t:Int)]:=by
   unfold iL oz;rw[List.map_append,List.map_append];simp[ht]
  rw[e1,List.length_append,List.length_singleton];exact oX
 ·rw[List.length_append,List.length_singleton,if_neg (by omega)];congr 1;omega
theorem wF:∀(l:List Nat) (i:Nat),mY (l++[i])=some i
 | [],i=>rfl
 | [x],i=>rfl
 |x::y::l,i=>by
  show mY (x::(y::l++[i]))=some i
  rw[mY]
  ·exact wF (y::l) i
  ·simp
def akD(h0 h:H)(O:Nat)(tk seen:List Nat)(v:AV):aZ:=fun ex aC h'=>ex=.normal/\aC.get 11=some (.ptr h0.next 0)/\aC.get 3=some v/\((∃i t,i∉seen/\tk[i]?=some t/\aC.get 13=some (.bool true)/\h'=mn h0 h O tk.length seen i)\/((∀i,i<tk.length->i∈seen)/\aC.get 13=some (.bool false)/\h'=h))
theorem OC(hm:P.follows .mixedOrders=true){call:ab}(aO:bF true P call)(nV:Plain call){N:Nat}(hn:tk.length<=100){Q:aZ}(hQ:∀tm h seen v,tm.get 3=some v->Out h0 O tk seen v h->seen.length=tk.length->Q (.exit 0) tm h)(k:Nat)(tm:T AV)(h:H)(hI:OB h0 O tk k tm h):
 WN P N A6 (fun ex aC h'=>(ex=.normal->∃j,j<k/\OB h0 O tk j aC h')/\(ex≠.normal->Q ex aC h')) tm h:=by
 obtain⟨t11,seen,v,hk,t3,o⟩:=hI;unfold A6;refine WN.seq (Q1:=akD h0 h O tk seen v) ?_ ?_ (fun _ _ _ dB q=>absurd q.1 dB)
 ·unfold FL;refine o.next hm aO nV t11 (fun i t hi ht=>?_) (fun ha=>?_)
  ·simp only[go_sem,seval];exact⟨rfl,by simp[go_sem,t11],by simp[go_sem,t3],.inl ⟨i,t,hi,ht,by simp[go_sem],rfl⟩⟩
  ·simp only[go_sem,seval];exact⟨rfl,by simp[go_sem,t11],by simp[go_sem,t3],.inr ⟨ha,by simp[go_sem],rfl⟩⟩
 ·rintro eo h1 ⟨_,u11,u3,⟨i,t,hi,ht,u13,rfl⟩|⟨ha,u13,rfl⟩⟩
  ·refine WN.of (call:=call) hm aO nV ?_
   have hit:(mn h0 h O tk.length seen i).t.get h0.next=some (.iter (some O) tk.length (seen++[i]) tk.length):=by
        show(h.t.set h0.next _).get h0.next=_
        rw[T.ay,if_pos rfl]
   have hmp:(mn h0 h O tk.length seen i).t.get O=some (.map (bS (.bool false) 0 tk) tk.length):=by
        show(h.t.set h0.next _).get O=_
        rw[T.ay,if_neg (by have:=o.lt;omega)];exact o.mp
   have hfb:=wE (v:=.bool false) tk 0 i t ht;rw[Nat.zero_add]at hfb;have hen:∀aC:T AV,aC.get 11=some (.ptr h0.next 0)->Im aC (mn h0 h O tk.length seen i) (.entry (.t 11))=some (.aE [.int .i64 (t:Int),.bool false],mn h0 h O tk.length seen i):=fun aC q=>by
        have ev:cV aC (.t 11)=some (.ptr h0.next 0):=q;have hb:Nat.beq tk.length tk.length=true:=Nat.beq_refl _;unfold Im;simp only[ev,hit,hmp,wF,hb,hfb]
   have mL:seen.length<=100:=by omega
   have I2:=o.nx;have Uu:(mn h0 h O tk.length seen i).next=h.next:=rfl;have ow:Own 1 3 (mn h0 h O tk.length seen i) v seen.length (iL (oz tk seen)):=o.ov.aF (Nat.le_refl _) fun b hb=>by
        show(h.t.set h0.next _).get b=_
        rw[T.ay,if_neg];intro e;rw[o.vv]at hb;split at hb
        ·cases hb
        ·have:=Option.some.inj hb;omega
   have en1:=hen eo u11;generalize hX:mn h0 h O tk.length seen i=H1 at*;have Qy:Own 1 3 ⟨H1.next+1,H1.t.set H1.next (ag [.int .i64 (t:Int)] 3)⟩ v seen.length (iL (oz tk seen)):=ow.aF (Nat.le_succ _) fun b hb=>(ae.new H1 _).old b (ow.lt hb)
   have QG:=ow.one;simp only[go_sem,seval,u13,en1,u3,QG];refine Un Qy rfl (by omega) fun X nX oX kX=>?_
   replace nX:X.next=H1.next+2:=nX;simp only[go_sem,seval];have hti:=(List.getElem?_eq_some_iff.1 ht).1;have df:seen.length<tk.length:=by
        have oD:(seen++[i]).Nodup:=by
         rw[List.nodup_append];exact⟨o.nd,by simp,fun a ha b hb e=>hi (by rw[←List.mem_singleton.1 hb,←e];exact ha)⟩
        have hle:=List.Nodup.length_le_of_subset oD (l₂:=List.range tk.length) (fun j hj=>by
         rw[List.mem_range];rcases List.mem_append.1 hj with hj|hj
         ·exact o.bd j hj
         ·rw[List.mem_singleton.1 hj];exact hti)
        rw[List.length_append,List.length_singleton,List.length_range]at hle;omega
   refine⟨⟨k-1,?_,by simp[go_sem,u11],_,_,?_,by simp only[go_sem,seval];exact congrArg some (by rw[Uu]),o.put hi ht (by rw[nX,Uu]) (by rw[←Uu];exact oX) fun b hb dB=>?_⟩,fun e=>absurd rfl e⟩
   ·omega
   ·rw[List.length_append,List.length_singleton];omega
   ·rw[kX b (by show b<H1.next+1;omega) dB,hX];exact(ae.new H1 _).old b (by omega)
  ·refine WN.of (call:=call) hm aO nV ?_
   simp only[go_sem,seval,u13];refine fun _=>hQ _ _ seen v u3 o ?_
   have hle:=List.Nodup.length_le_of_subset (List.nodup_range (n:=tk.length)) (l₂:=seen) fun j hj=>ha j (List.mem_range.1 hj)
   rw[List.length_range]at hle;omega
end
def Ev(tk:List Nat):List Int:=tk.map fun t:Nat=>(t:Int)
theorem Hb{tk seen:List Nat}(nd:seen.Nodup)(bd:∀i∈seen,i<tk.length)(hl:seen.length=tk.length):(oz tk seen).Perm (Ev tk):=by
 have hp:seen.Perm (List.range tk.length):=by
  refine(List.perm_ext_iff_of_nodup nd List.nodup_range).2 fun a=>⟨fun h=>List.mem_range.2 (bd a h),fun h=>?_⟩
  refine Classical.byContradiction fun hn=>?_
  have hle:=List.Nodup.length_le_of_subset (l₁:=a::seen) (List.nodup_cons.2 ⟨hn,nd⟩) (l₂:=List.range tk.length) (fun j hj=>by
   rcases List.mem_cons.1 hj with rfl|hj
   ·exact h
   ·exact List.mem_range.2 (bd j hj))
  rw[List.length_cons,List.length_range]at hle;omega
 refine(hp.map _).trans ?_
 refine List.Perm.of_eq (List.ext_getElem? fun i=>?_);unfold Ev;rw[List.getElem?_map,List.getElem?_map]
 by_cases h:i<tk.length
 ·rw[List.getElem?_range h,List.getElem?_eq_getElem h];simp[h]
 ·rw[List.getElem?_eq_none (by rw[List.length_range];omega),List.getElem?_eq_none (by omega)];rfl
def QR(h0:H)(O:Nat)(tk:List Nat):aZ:=fun ex tm h=>ex=.normal/\∃seen v,tm.get 3=some v/\Out h0 O tk seen v h/\seen.length=tk.length
def QT(h:H)(Po:Nat):aZ:=fun ex eo h1=>ex=.normal/\h1=h/\eo.get 0=some (.ptr Po 0)
theorem OD{P:Program}[PF P](hm:P.follows .mixedOrders=true)(JQ:FJ P)(Uv:mJ P 196=true)(has:mJ P 156=true)(A9:Mz P 156 1=some A7){h:H}{M Ly O Po:Nat}{po li:Int}{gv:AV}{tk:List Nat}(gP:h.t.get Po=some (ym M Ly po li O gv))(gO:h.t.get O=some (.map (bS (.bool false) 0 tk) tk.length))(lO:O<h.next)(hn:tk.length<=100)(h0:0<tk.length):
 A5 P 156 [.ptr Po 0] h (.sl (h.next+2*tk.length) 0 tk.length 1 none) ⟨h.next+1+2*tk.length,(pb h (List.range h.next)).set (h.next+2*tk.length) (ag (iL (wC (Ev tk))) 3)⟩:=by
 refine akF has rfl A9 rfl fun N=>?_
 have aO:bF true P (mo P fun _ _ _ _ _=>False):=wG _;have nV:Plain (mo P fun _ _ _ _ _=>False):=tV _;simp only[ym]at gP;unfold A7;refine WN.seq (Q1:=QT h Po) (WN.of hm aO nV ?_) ?_ (fun _ _ _ dB q=>absurd q.1 dB)
 ·simp only[go_sem,seval,A7];exact⟨rfl,rfl,by simp[go_sem]⟩
 ·rintro eo h1 ⟨_,rfl,t0⟩;refine WN.seq (Q1:=QT h1 Po) (WN.of hm aO nV ?_) ?_ (fun _ _ _ dB q=>absurd q.1 dB)
  ·simp only[go_sem,seval,A7,t0];exact⟨rfl,rfl,by simp[go_sem,t0]⟩
  ·rintro dC h2 ⟨_,rfl,t0⟩;refine WN.seq (Q1:=fun ex aC h'=>ex=.normal/\h'=h2/\aC.get 0=some (.ptr Po 0)/\aC.get 3=some .ax) (WN.of hm aO nV ?_) ?_ (fun _ _ _ dB q=>absurd q.1 dB)
   ·simp only[go_sem,seval,A7,t0]
   ·rintro ZL h3 ⟨_,rfl,t0,t3⟩;refine WN.seq (Q1:=QR h3 O tk) ?_ ?_ (fun _ _ _ dB q=>absurd q.1 dB)
    ·refine WN.seq (Q1:=fun ex aC h'=>ex=.normal/\OB h3 O tk tk.length aC h') (WN.of hm aO nV ?_) ?_ (fun _ _ _ dB q=>absurd q.1 dB)
     ·have hr:∀aC:T AV,aC.get 10=some (.map O)->Im aC h3 (.range (.t 10))=some (.ptr h3.next 0,⟨h3.next+1,h3.t.set h3.next (.iter (some O) tk.length [] tk.length)⟩):=fun aC q=>by
       have ev:cV aC (.t 10)=some (.map O):=q;unfold Im;simp only[ev,gO]
      have hr1:=hr ((((ZL.set 7 (.ptr Po 0)).set 8 (.ptr Po 0)).set 9 (.ptr Po 4)).set 10 (.map O)) (by simp[go_sem]);simp only[go_sem,seval,A7,t0,gP,hr1];refine⟨by simp[go_sem],[],.ax,by rw[List.length_nil,Nat.add_zero],by simp[go_sem,t3],?_⟩;refine⟨by simp[go_sem],?_,lO,List.nodup_nil,fun i hi=>(by cases hi),rfl,fun b hb=>?_,.nil,rfl⟩
      ·have e1:¬O=h3.next:=by omega
       simp only[go_sem,seval,e1];exact gO
      ·have e1:¬b=h3.next:=by omega
       simp only[go_sem,seval,e1]
     ·rintro tm4 h4 ⟨_,hI⟩;refine WN.block ?_
      refine WN.loop (OB h3 O tk) (fun k tm h hI=>OC hm aO nV hn (fun tm h seen v u3 o hl=>?_) k tm h hI) hI
      show oE 0 (QR h3 O tk) (.exit 0) tm h
      simp only[go_sem,seval];exact⟨rfl,seen,v,u3,o,hl⟩
    ·rintro tm4 h4 ⟨_,seen,v,u3,o,hl⟩;have hv:=o.vv;rw[hl,if_neg (by omega)]at hv;subst hv;have ov:=o.ov;rw[hl]at ov;have hg:h4.t.get (h3.next+2*tk.length)=some (ag (iL (oz tk seen)) 3):=by
      cases ov with
      |sl a len cs cap hc h0 iT hb XF=>exact XF
     have hml:(oz tk seen).length=tk.length:=by unfold oz;rw[List.length_map,hl]
     have OE:=JO JQ Uv (h:=h4) (a:=h3.next+2*tk.length) (len:=(iL (oz tk seen)).length) (zs:=oz tk seen) hg (by rw[hml];omega) (by rw[hml];omega);rw[hml,Ut (Hb o.nd o.bd hl)]at OE;obtain⟨vv,hh,JR,_,rfl,rfl⟩:=yP (P:=P) (S:=fun f args h v h'=>f=196/\v=.aE []/\h'=⟨h4.next,h4.t.set (h3.next+2*tk.length) (.row (aa 0 (iL (wC (Ev tk))) T.e) (iL (oz tk seen)).length 3)⟩) ⟨_,_,OE,rfl,rfl,rfl⟩
     refine WN.of (call:=mo P fun f args h v h'=>f=196/\v=.aE []/\h'=⟨h4.next,h4.t.set (h3.next+2*tk.length) (.row (aa 0 (iL (wC (Ev tk))) T.e) (iL (oz tk seen)).length 3)⟩) hm (wG _) (tV _) ?_
     have hlen:(iL (oz tk seen)).length=(iL (wC (Ev tk))).length:=by
      rw[gU,gU,hml,A4];unfold Ev;rw[List.length_map]
     rw[hlen]at JR⊢;have onx:=o.nx;rw[hl]at onx;simp only[go_sem,seval,A7,u3,JR]
     show aaT _ _ _ _ _ _ _
     refine⟨_,rfl,rfl,?_,fun a x ha=>?_,fun a ha=>?_⟩
     ·show h4.next<=h3.next+(1+2*tk.length)
      omega
     ·have ha:((pb h3 (List.range h3.next)).set (h3.next+2*tk.length) (ag (iL (wC (Ev tk))) 3)).get a=some x:=ha
      show(h4.t.set (h3.next+2*tk.length) (ag (iL (wC (Ev tk))) 3)).get a=some x
      rw[T.ay]at ha⊢
      by_cases e:a=h3.next+2*tk.length
      ·rw[if_pos e]at ha⊢;exact ha
      ·rw[if_neg e]at ha⊢;rw[kN]at ha
       by_cases q:a∈List.range h3.next
       ·rw[if_pos q]at ha;rw[o.old a (List.mem_range.1 q)];exact ha
       ·rw[if_neg q]at ha;cases ha
     ·show((pb h3 (List.range h3.next)).set (h3.next+2*tk.length) (ag (iL (wC (Ev tk))) 3)).get a=(h4.t.set (h3.next+2*tk.length) (ag (iL (wC (Ev tk))) 3)).get a
      rw[T.ay,T.ay,if_neg (by omega),if_neg (by omega),kN,if_pos (List.mem_range.2 ha)];exact(o.old a ha).symm
def OG:FuncId->List AV->H->AV->H->Prop:=fun f args h v h'=>f=156/\∃M Ly O Po po li gv tk,args=[.ptr Po 0]/\h.t.get Po=some (ym M Ly po li O gv)/\h.t.get O=some (.map (bS (.bool false) 0 tk) tk.length)/\ae h h'/\∃l:List Int,Own 1 3 h' v l.length (iL l)/\(∀t:Nat,(t:Int)∈l↔t∈tk)/\l.length=tk.length
theorem JS{P:Program}[PF P](hm:P.follows .mixedOrders=true)(JQ:FJ P)(Uv:mJ P 196=true)(has:mJ P 156=true)(A9:Mz P 156 1=some A7):Ub (mo P OG):=by
 intro h M Ly O Po po li gv tk gP gO nd hn _ lO h0;have OE:=OD hm JQ Uv has A9 gP gO lO hn h0;have mL:(wC (Ev tk)).length=tk.length:=by
  rw[A4];unfold Ev;rw[List.length_map]
 obtain⟨v,h',e,_,M',Ly',O',Po',po',li',Xi,tk',ea,gP',gO',st,l,ow,FM,CR⟩:=yP (P:=P) (S:=OG) ⟨_,_,OE,rfl,M,Ly,O,Po,po,li,gv,tk,rfl,gP,gO,⟨by show h.next<=h.next+1+2*tk.length;omega,fun b hb=>by
  show((pb h (List.range h.next)).set (h.next+2*tk.length) _).get b=_
  rw[T.ay,if_neg (by omega),kN,if_pos (List.mem_range.2 hb)]⟩,wC (Ev tk),by
   rw[mL];refine .sl _ _ _ _ (.inl rfl) h0 (by rw[gU,mL,Nat.mul_one]) (by show h.next+2*tk.length<h.next+1+2*tk.length;omega) ?_
   show((pb h (List.range h.next)).set (h.next+2*tk.length) _).get (h.next+2*tk.length)=_
   rw[T.ay,if_pos rfl],fun t=>by
   rw[(rK _).mem_iff];unfold Ev;rw[List.mem_map];exact⟨fun⟨a,ha,e⟩=>by rw[←Int.ofNat.inj e];exact ha,fun ht=>⟨t,ht,rfl⟩⟩,mL⟩
 refine⟨v,h',e,st,l,ow,fun t=>?_,by
  have:tk'.length=tk.length:=by
   obtain rfl:Po=Po':=by simpa using ea
   rw[gP]at gP';have e1:=congrArg (fun o:AO=>match o with| .row c _ _=>c.get 4|_=>none) (Option.some.inj gP')
   unfold ym at e1;simp only[fA]at e1;obtain rfl:O=O':=by simpa using e1
   rw[gO]at gO';have e2:=Option.some.inj gO';injection e2 with e3 e4
   exact e4.symm
  omega⟩
 obtain rfl:Po=Po':=by simpa using ea
 rw[gP]at gP';have e1:=congrArg (fun o:AO=>match o with| .row c _ _=>c.get 4|_=>none) (Option.some.inj gP')
 unfold ym at e1;simp only[fA]at e1;obtain rfl:O=O':=by simpa using e1
 rw[gO]at gO';have e2:=Option.some.inj gO';injection e2 with e3 e4
 rw[CW _ _ _ e3];exact FM t
end
end Go.Proofs.YtgkjlklfjbljeaaGreat.CQ
namespace Go.Proofs.YtgkjlklfjbljeaaGreat.CQ
open Go.Proofs.YtgkjlklfjbljeaaGreat.Eo
noncomputable section
@[go_sem]def aaU:CF:=⟨3,(Sq [b 6 0] (Rq [a 7 0,q 8 9 7,q 9 18 8,qT 10 3 3 9,a 11 1,qs 12 3 3 11,qg 13 3 10 12,a 14 2,qg 15 3 13 14,a 6 15])),[.tmp 6]⟩
@[go_sem]def aaV:CF:=⟨2,(Sq [qd 4 0] (Qq (.cn ⟨[([g 0 0,n 1 8 0,m 2 9 1 0,k 3 10 2,g 5 0,n 6 13 5,m 7 14 6 1,k 8 15 7,g 9 0,n 10 17 9,m 11 18 10 0,k 12 19 11,g 13 0,n 14 21 13,m 15 22 14 6,k 16 23 15,g 17 1],some (Z 4 11 3 12)),([],some (qm 18 20 12 24 16 25 17 172)),([],some (qm 19 12 4 16 8 26 18 169)),([t 20 27 19,B 21 7 20 0,B 22 7 20 1,t 23 28 21,t 24 29 22],none)],[(0,8),(1,9),(2,10),(3,11),(4,12),(5,13),(6,14),(7,15),(8,16),(9,17),(10,18),(11,19),(12,20),(13,21),(14,22),(15,23),(16,24),(17,25),(18,26),(19,27),(20,7),(21,28),(22,29),(23,5),(24,6)],[(⟨8,[(15,(some 7))],none,.r (.ld none (.t 15))⟩,[1,2]),(⟨12,[(19,(some 11))],none,.r (.ld none (.t 19))⟩,[1]),(⟨16,[(23,(some 15))],none,.r (.ld none (.t 23))⟩,[1])]⟩) (Rq [a 30 5,a 4 30]))),[.tmp 4]⟩
@[go_sem]def aaW:CF:=⟨3,(.cn ⟨[([g 0 0,n 1 6 0,m 2 7 1 0,k 3 8 2,g 5 0,n 6 11 5,m 7 12 6 1,k 8 13 7,g 9 0,n 10 15 9,m 11 16 10 0,k 12 17 11,g 13 0,n 14 19 13,m 15 20 14 7,k 16 21 15,g 17 1,g 19 2],some (Z 4 9 3 12)),([],some (qm 18 18 12 22 16 23 17 172)),([],some (qw 20 10 4 14 8 24 18 25 19 13)),([],none)],[(0,6),(1,7),(2,8),(3,9),(4,10),(5,11),(6,12),(7,13),(8,14),(9,15),(10,16),(11,17),(12,18),(13,19),(14,20),(15,21),(16,22),(17,23),(18,24),(19,25),(20,26)],[(⟨8,[(13,(some 7))],none,.r (.ld none (.t 13))⟩,[1,2]),(⟨12,[(17,(some 11))],none,.r (.ld none (.t 17))⟩,[1]),(⟨16,[(21,(some 15))],none,.r (.ld none (.t 21))⟩,[1])]⟩),[]⟩
@[go_sem]def aaX:CF:=⟨1,(Sq [v 2 0] (Qq (.cn ⟨[([g 0 0,n 1 6 0,m 2 7 1 0,k 3 8 2,g 5 0,n 6 11 5,m 7 12 6 1,k 8 13 7,g 9 0,n 10 15 9,m 11 16 10 0,k 12 17 11,g 16 0,n 17 22 16,m 18 23 17 1,k 19 24 18,zn 20 25 19,zB 21 26 20 50 1],some (Z 4 9 3 12)),([],some (Z 13 18 12 9)),([],some (Z 14 19 13 18)),([zx 15 20 14 3 2],some ⟨22,[(10,some 4),(14,some 8),(21,some 15),(27,some 21)],none,.cv (.c (.fn (.func 160) [] [])) [.t 10,.t 14,.t 21,.c (.int .u64 0),.t 27]⟩),([t 23 28 22,B 24 5 23 0,B 25 5 23 1,t 26 29 24,t 27 30 25],none)],[(0,6),(1,7),(2,8),(3,9),(4,10),(5,11),(6,12),(7,13),(8,14),(9,15),(10,16),(11,17),(12,18),(13,19),(14,20),(15,21),(16,22),(17,23),(18,24),(19,25),(20,26),(21,27),(22,28),(23,5),(24,29),(25,30),(26,3),(27,4)],[(⟨8,[(13,(some 7))],none,.r (.ld none (.t 13))⟩,[1,2,3]),(⟨12,[(17,(some 11))],none,.r (.ld none (.t 17))⟩,[1]),(⟨19,[(24,(some 18))],none,.r (.ld none (.t 24))⟩,[1,2,3])]⟩) (Qq (Sq [a 31 3,qa 32 31] (Cq 32 (Sq [a 33 0,j 34 33,d 35 5 34,i 36 35,C 37 3 36 1,j 38 33,d 39 5 38,s 1 39 37] (Rq [a 40 0,q 41 161 40,a 2 41])) .skip)) (Sq [a 42 0,a 43 0,a 44 0,j 45 42,d 46 6 45,qp 1 46 0,j 47 43,d 48 7 47,qp 1 48 (-1),j 49 44,d 50 9 49,⟨none,none,.e (.st 1 (.t 50) (.c (.bool false)))⟩] (Rq [v 2 37]))))),[.tmp 2]⟩
@[go_sem]def aaY:CF:=⟨1,(Sq [v 2 0] (Sq [a 3 0,j 4 3,d 5 6 4,i 6 5,C 7 3 6 1,j 8 3,d 9 6 8,s 1 9 7] (Qq (Qq (.cn ⟨[([g 0 0,n 1 10 0,m 2 11 1 6,k 3 12 2,g 4 0,n 5 14 4,m 6 15 5 0,k 7 16 6],some (Z 8 17 7 16)),([zx 9 18 8 3 13,jD 10 13 3 19 9 3],none)],[(0,10),(1,11),(2,12),(3,13),(4,14),(5,15),(6,16),(7,17),(8,18),(9,19),(10,20)],[(⟨3,[(12,(some 2))],none,.r (.ld none (.t 12))⟩,[1])]⟩) (Kq 20 [v 2 37] .skip)) (Qq (Sq [a 21 0,j 22 21,d 23 7 22,i 24 23,D 25 3 24 0] (Kq 25 [a 26 0,q 27 164 26,a 2 27] .skip)) (Rq [v 2 40]))))),[.tmp 2]⟩
@[go_sem]def aaZ:CF:=⟨1,(Sq [v 2 0] (Qq (Sq [a 3 0,q6 4 162 3 0,⟨some 5,none,.p (.bin .neq 50 false true (.t 4) (.c (.int .u64 0)))⟩] (Kq 5 [v 2 38] .skip)) (Qq (Sq [a 6 0,j 7 6,d 8 7 7,i 9 8,D 10 3 9 0] (Cq 10 (Oq [a 11 0,a 12 0,j 13 12,d 14 6 13,i 15 14,j 16 11,d 17 7 16,s 1 17 15]) .skip)) (Rq [a 18 0,q 19 163 18,a 2 19])))),[.tmp 2]⟩
@[go_sem]def aa0:CF:=⟨1,(Sq [v 2 0] (Sq [a 3 0,a 4 0,j 5 4,d 6 2 5,d 7 0 6,i 8 7,q7 9 165 3 1 8] (Rq [v 2 41]))),[.tmp 2]⟩
@[go_sem]def aa1:CF:=⟨1,(Sq [v 2 0] (Sq [a 3 0,a 4 0,j 5 4,d 6 2 5,d 7 1 6,i 8 7,q7 9 165 3 2 8] (Rq [v 2 42]))),[.tmp 2]⟩
@[go_sem]def aa2:CF:=⟨1,(Sq [v 2 0] (Sq [a 3 0,⟨some 4,none,.cv (.c (.fn (.func 165) [] [])) [.t 3,.c (.int .i64 0),.c (.int .u64 1)]⟩] (Rq [v 2 3]))),[.tmp 2]⟩
@[go_sem]def aa3:CF:=⟨1,(Sq [v 2 0] (Qq (.cn ⟨[([g 0 0,n 1 3 0,m 2 4 1 0,k 3 5 2,g 5 0,n 6 8 5,m 7 9 6 1,k 8 10 7,g 9 0,n 10 12 9,m 11 13 10 0,k 12 14 11],some (Z 4 6 3 12)),([],some (Z 13 15 12 9)),([],some (Z 14 16 13 18)),([zx 15 17 14 3 2],some (jb 16 7 4 11 8 18 15 13 0)),([],none)],[(0,3),(1,4),(2,5),(3,6),(4,7),(5,8),(6,9),(7,10),(8,11),(9,12),(10,13),(11,14),(12,15),(13,16),(14,17),(15,18),(16,19)],[(⟨8,[(10,(some 7))],none,.r (.ld none (.t 10))⟩,[1,2,3]),(⟨12,[(14,(some 11))],none,.r (.ld none (.t 14))⟩,[1])]⟩) (Qq (Sq [a 20 0,j 21 20,d 22 9 21,i 23 22] (Kq 23 [a 24 0,q 25 161 24,a 2 25] .skip)) (Rq [v 2 0])))),[.tmp 2]⟩
structure QQ where
 a:AA
 c:aj
 hL:H
 R:Nat
 V:Nat
 Gm:Nat
 G:Nat
 ht:TypeId
 rt:TypeId
structure QOK(k:QQ):Prop where
 lay:eU k.hL k.a.L k.c (aA k.c) (aH k.c)
 b:LB k.c
def Io(ev:AV)(m:Nat):Cm:=⟨fun h=>∃l:List Zt,l.length<=m/\Own 4 339 h ev l.length (tS l),fun b=>own ev=some b,fun hn k ⟨l,hl,q⟩=>⟨l,hl,q.aF hn fun b hb=>k b (q.lt hb) hb⟩,fun⟨l,_,q⟩ x hx=>q.lt hx⟩
def dx(k:QQ)(ev:AV):List AV:=[.ptr k.a.L 0,.ptr k.a.M 0,.ptr k.a.Po 0,.ptr k.a.To 0,.ptr k.R 0,.ax,ev,.map k.V,.map k.Gm]
def oH(k:QQ):List AV:=[.dR k.ht (.agg [.dR k.rt (.ptr k.G 0)]),.int .u8 k.c.az,.int .i64 k.c.aq]
def qL(k:QQ)(lv:AV)(ws:List Int)(m1:Nat)(ev:AV)(m2:Nat)(vm:AO)(E:Cm)(R:List Cm):List Cm:=
 cA k.a.M k.a.W lv ws m1::
 aD k.a.A (ag (dx k ev) 104)::
 aD k.a.To (ag [.ptr k.a.M 0,.ptr k.a.L 0] 123)::
 fz k.hL::
 Io ev m2::
 aD k.R (ag (oH k) 206)::
 aD k.V vm::
 E::R
def QS(h:H)(k:QQ)(ws:List Int)(m:Nat)(vm:AO)(E:Cm)(R:List Cm):Prop:=QOK k/\Er k.c ws/\∃lv ev m1 m2,m1<=m/\m2<=m/\Sp h (qL k lv ws m1 ev m2 vm E R)
section
variable {call:ab} {h h':H} {k:QQ} {ws:List Int} {m m':Nat} {vm:AO} {E c:Cm} {R:List Cm} {b:Nat} {o o':AO}
theorem hY(lv:AV)(m1:Nat)(ev:AV)(m2:Nat):qL k lv ws m1 ev m2 vm E R=qL k lv ws m1 ev m2 vm E []++R:=rfl
theorem QS.step(q:QS h k ws m vm E R)(s:ae h h'):QS h' k ws m vm E R:=by
 obtain⟨o,w,lv,ev,m1,m2,h1,h2,p⟩:=q;exact⟨o,w,lv,ev,m1,m2,h1,h2,p.step s⟩
theorem QS.le(q:QS h k ws m vm E R)(hm:m<=m'):QS h k ws m' vm E R:=by
 obtain⟨o,w,lv,ev,m1,m2,h1,h2,p⟩:=q;exact⟨o,w,lv,ev,m1,m2,by omega,by omega,p⟩
theorem QS.box(q:QS h k ws m vm E R)(a:AO):QS ⟨h.next+1,h.t.set h.next a⟩ k ws m vm E (aD h.next a::R):=by
 obtain⟨o,w,lv,ev,m1,m2,h1,h2,p⟩:=q;refine⟨o,w,lv,ev,m1,m2,h1,h2,(p.new a).perm ?_⟩;rw[hY (R:=R),hY (R:=_::R)];exact List.perm_middle.symm
theorem QS.drop(q:QS h k ws m vm E (c::R)):QS h k ws m vm E R:=by
 obtain⟨o,w,lv,ev,m1,m2,h1,h2,p⟩:=q;refine⟨o,w,lv,ev,m1,m2,h1,h2,Sp.tail (c:=c) (p.perm ?_)⟩;rw[hY (R:=R),hY (R:=_::R)];exact List.perm_middle
theorem QS.perm{R':List Cm}(q:QS h k ws m vm E R)(p:R.Perm R'):QS h k ws m vm E R':=by
 obtain⟨o,w,lv,ev,m1,m2,h1,h2,s⟩:=q;refine⟨o,w,lv,ev,m1,m2,h1,h2,s.perm ?_⟩;rw[hY (R:=R),hY (R:=R')];exact List.Perm.append_left _ p
theorem QS.at(q:QS h k ws m vm E R){j:Nat}(hj:R[j]?=some (aD b o)):h.t.get b=some o/\b<h.next:=by
 obtain⟨_,w,lv,ev,m1,m2,h1,h2,p⟩:=q;exact⟨p.row (n:=j+8) hj,p.uG (n:=j+8) hj⟩
theorem QS.put(q:QS h k ws m vm E R){j:Nat}(hj:R[j]?=some (aD b o))(o':AO):QS ⟨h.next,h.t.set b o'⟩ k ws m vm E (R.set j (aD b o')):=by
 obtain⟨o1,w,lv,ev,m1,m2,h1,h2,p⟩:=q;exact⟨o1,w,lv,ev,m1,m2,h1,h2,p.put (n:=j+8) hj o'⟩
theorem QS.gA(q:QS h k ws m vm E R):∃ev,h.t.get k.a.A=some (ag (dx k ev) 104):=by
 obtain⟨_,w,lv,ev,m1,m2,h1,h2,p⟩:=q;exact⟨ev,p.row (n:=1) rfl⟩
theorem QS.gR(q:QS h k ws m vm E R):h.t.get k.R=some (ag (oH k) 206)/\k.R<h.next:=by
 obtain⟨_,w,lv,ev,m1,m2,h1,h2,p⟩:=q;exact⟨p.row (n:=5) rfl,p.uG (n:=5) rfl⟩
theorem QS.gV(q:QS h k ws m vm E R):h.t.get k.V=some vm/\k.V<h.next:=by
 obtain⟨_,w,lv,ev,m1,m2,h1,h2,p⟩:=q;exact⟨p.row (n:=6) rfl,p.uG (n:=6) rfl⟩
theorem QS.ac{lv ev:AV}{m1 m2:Nat}(o:QOK k):AC (qL k lv ws m1 ev m2 vm E R) k.a k.c 1 2 3:=⟨⟨_,rfl⟩,rfl,⟨_,rfl,o.lay⟩,o.b⟩
theorem QS.ar(q:QS h k ws m vm E R):AR h k.a k.c ws:=by
 obtain⟨o,w,lv,ev,m1,m2,h1,h2,p⟩:=q;exact(QS.ac o).ar p (n:=0) rfl w.len w.nn
theorem QS.load(lu:sW call)(q:QS h k ws m vm E R)(hm:m<=900000){i:Nat}{x:Int}(hx:ws[i]?=some x):∃h',call 169 [.ptr k.a.M 0,.int .i64 0,.int .i64 (i:Int)] h=some (.aE [.int .u64 x,.int .i64 0],h')/\h.next<=h'.next/\QS h' k ws (m+1) vm E R:=by
 obtain⟨o,w,lv,ev,m1,m2,h1,h2,p⟩:=q;obtain⟨h',dU,e,nx,s'⟩:=lu.sp p (n:=0) rfl (by omega) (by decide:(0:Int)<=0) (by decide) hx;exact⟨h',e,nx,o,w,dU,ev,_,m2,Nat.succ_le_succ h1,by omega,s'⟩
theorem QS.store(uH:D6 call)(q:QS h k ws m vm E R)(hm:m<=900000){i:Nat}{x z:Int}(hx:ws[i]?=some x)(z0:0<=z):∃h',call 13 [.ptr k.a.M 0,.int .i64 0,.int .i64 (i:Int),.int .u64 z] h=some (.int .i64 0,h')/\h.next<=h'.next/\QS h' k (ws.set i z) (m+1) vm E R:=by
 obtain⟨o,w,lv,ev,m1,m2,h1,h2,p⟩:=q;obtain⟨h',dU,e,nx,s'⟩:=uH.sp (z:=z) p (n:=0) rfl (by omega) (by decide:(0:Int)<=0) (by decide) hx;exact⟨h',e,nx,o,w.set i z0,dU,ev,_,m2,Nat.succ_le_succ h1,by omega,s'⟩
theorem QS.Uw(Ep:Jr call)(q:QS h k ws m vm E R)(hm:m<=900000){i:Nat}{x z:Int}(hx:ws[i]?=some x)(z0:0<=z):∃h',call 160 [.ptr k.a.M 0,.int .i64 0,.int .i64 (i:Int),.int .u64 x,.int .u64 z] h=some (.aE [.bool true,.int .i64 0],h')/\h.next<=h'.next/\QS h' k (ws.set i z) (m+1) vm E R:=by
 obtain⟨o,w,lv,ev,m1,m2,h1,h2,p⟩:=q;obtain⟨h',dU,e,nx,s'⟩:=Ep h _ 0 k.a.M k.a.W lv ws m1 0 i x z p rfl (by omega) (by decide) (by decide) hx;exact⟨h',e,nx,o,w.set i z0,dU,ev,_,m2,Nat.succ_le_succ h1,by omega,s'⟩
end
def cD(c:aj):Nat:=(aA c).ma.toNat
def bf(c:aj):Nat:=c.bY.toNat
theorem LB.pl{c:aj}(b:LB c):(aA c).ma=(cD c:Int)/\(aA c).lo=(cD c:Int)+1/\c.bY=(bf c:Int)/\1<=bf c/\bf c<=16/\(cD c:Int)+1+3*(bf c:Int)<=(aA c).wo/\(aA c).en=c.aq/\(aA c).ma=c.aq+bD c/\(cD c:Int)+1+3*(bf c:Int)<=(aA c).li:=by
 obtain⟨n1,n2,n3,n4,n5,n6,n7,n8,n9,rH,rI⟩:=b.dq;have hv:=b.val;obtain⟨hT,Ib,mL,IG,IH,iD,oU,hd,Eh,MZ,II⟩:=b.lay;have e1:(aA c).ma=c.aq+bD c:=rfl;have e2:(aA c).lo=c.aq+bD c+1:=rfl;have e3:(aA c).en=c.aq:=rfl;unfold cD bf;refine⟨?_,?_,?_,?_,?_,?_,?_,?_,?_⟩<;>omega
theorem akG(P:Program)[PF P]{call:ab}(k9:FB call 9 0)(Ha:IV call){h:H}{a:AA}{c:aj}(m:AW h a c){e w ad:Nat}(he:e<=16)(hw:w<3)(oZ:ad=cD c+1+3*e+w):WF P call aaU [.ptr a.A 0,.int .i64 (e:Int),.int .i64 (w:Int)] h fun v h'=>v=.int .i64 (ad:Int)/\ae h h':=by
 obtain⟨⟨rest,g⟩,gT,hL,lt,b⟩:=m;have k:=k9 h a.A _ _ g (by simp) rfl;have p:=b.pl;have n:=b.dq;have v:=b.val;simp only[go_sem,seval,k];refine af (Ha h a.L c _ _ hL) fun v2 h2 p2=>?_
 obtain⟨rfl,st⟩:=p2;have f1:fw .i64 (3*(e:Int))=3*(e:Int):=aS (by omega) (by omega);have f2:fw .i64 ((aA c).lo+3*(e:Int))=(aA c).lo+3*(e:Int):=aS (by omega) (by omega);have f3:fw .i64 ((aA c).lo+3*(e:Int)+(w:Int))=(ad:Int):=by rw[aS (by omega) (by omega)];omega
 simp only[go_sem,seval,cb,bo,f1,f2,f3];exact st
def JT(call:ab):Prop:=∀h a c (e w ad:Nat),AW h a c->e<=16->w<3->ad=cD c+1+3*e+w->aG call 172 [.ptr a.A 0,.int .i64 (e:Int),.int .i64 (w:Int)] h fun v h'=>v=.int .i64 (ad:Int)/\ae h h'
def fQ(A Bx Mp:Nat)(tr dc free nx:Int):AO:=ag [.ptr A 0,.int .i64 0,.int .u64 0,.int .u64 18446744073709551615,.int .i64 tr,.int .i64 0,.int .i64 dc,.int .i64 free,.int .u64 0,.bool false,.fn (.func 99) [] [.ptr Bx 0],.map Mp,.int .u8 nx,.int .i64 0] 213
section
variable {call:ab} {h:H} {k:QQ} {ws:List Int} {m:Nat} {vm:AO} {E:Cm} {R:List Cm} {X Bx Mp:Nat} {tr dc free nx:Int}
theorem akH(P:Program)[PF P](mW:FB call 12 1)(CX:JT call)(lu:sW call)(q:QS h k ws m vm E (aD X (fQ k.a.A Bx Mp tr dc free nx)::R))(hm:m<=800000){e ad:Nat}(he:dc=(e:Int))(e16:e<16)(oZ:ad=cD k.c+1+3*e){x:Int}(hx:ws[ad]?=some x):
 WF P call aaV [.ptr X 0,.int .i64 0] h fun v h'=>v=.int .u64 x/\h.next<=h'.next/\QS h' k ws (m+1) vm E (aD X (fQ k.a.A Bx Mp tr dc free nx)::R):=by
 obtain⟨gX,lX⟩:=q.at (j:=0) rfl;obtain⟨ev,gA⟩:=q.gA;have k1:=mW h k.a.A _ (.ptr k.a.M 0) gA (by simp[dx]) rfl;obtain⟨v2,h2,e2,rfl,cF⟩:=CX h k.a k.c e 0 ad q.ar.aw (by omega) (by decide) oZ;have yn:call 172 [.ptr k.a.A 0,.int .i64 (e:Int),.int .i64 0] h=_:=e2;obtain⟨h3,e3,n3,q3⟩:=(q.step cF).load lu (by omega) (i:=ad) hx;have n2:=cF.next;subst he;have kE:=((q.step cF).at (j:=0) rfl).1;simp only[fQ]at gX kE;have n4:=Nat.le_trans n2 n3;simp only[go_sem,seval,gX,kE,k1,yn,e3,n2,n3,n4];exact q3
def Ux(call:ab):Prop:=∀h k ws m vm E R X Bx Mp (tr free nx:Int) (e ad:Nat) (x:Int),QS h k ws m vm E (aD X (fQ k.a.A Bx Mp tr (e:Int) free nx)::R)->m<=800000->e<16->ad=cD k.c+1+3*e->ws[ad]?=some x->aG call 162 [.ptr X 0,.int .i64 0] h fun v h'=>v=.int .u64 x/\h.next<=h'.next/\QS h' k ws (m+1) vm E (aD X (fQ k.a.A Bx Mp tr (e:Int) free nx)::R)
theorem akI(P:Program)[PF P](mW:FB call 12 1)(CX:JT call)(uH:D6 call)(q:QS h k ws m vm E (aD X (fQ k.a.A Bx Mp tr dc 0 nx)::R))(hm:m<=800000){w ad:Nat}(hw:w<3)(oZ:ad=cD k.c+1+w){z:Int}(z0:0<=z):
 WF P call aaW [.ptr X 0,.int .i64 (w:Int),.int .u64 z] h fun v h'=>v=.aE []/\h.next<=h'.next/\QS h' k (ws.set ad z) (m+1) vm E (aD X (fQ k.a.A Bx Mp tr dc 0 nx)::R):=by
 obtain⟨gX,lX⟩:=q.at (j:=0) rfl;obtain⟨ev,gA⟩:=q.gA;have hl:=q.ar.len;have p:=q.ar.aw.b.pl;obtain⟨x,hx⟩:∃x,ws[ad]?=some x:=⟨_,List.getElem?_eq_getElem (by omega)⟩;have k1:=mW h k.a.A _ (.ptr k.a.M 0) gA (by simp[dx]) rfl;obtain⟨v2,h2,e2,rfl,cF⟩:=CX h k.a k.c 0 w ad q.ar.aw (by omega) hw (by omega);have yn:call 172 [.ptr k.a.A 0,.int .i64 0,.int .i64 (w:Int)] h=_:=e2;obtain⟨h3,e3,n3,q3⟩:=(q.step cF).store uH (by omega) (i:=ad) (z:=z) hx z0;have n2:=cF.next;have kE:=((q.step cF).at (j:=0) rfl).1;simp only[fQ]at gX kE;have n4:=Nat.le_trans n2 n3;simp only[go_sem,seval,gX,kE,k1,yn,e3,n2,n3,n4];exact q3
def JU(call:ab):Prop:=∀h k ws m vm E R X Bx Mp (tr dc nx:Int) (w ad:Nat) (z:Int),QS h k ws m vm E (aD X (fQ k.a.A Bx Mp tr dc 0 nx)::R)->m<=800000->w<3->ad=cD k.c+1+w->0<=z->aG call 165 [.ptr X 0,.int .i64 (w:Int),.int .u64 z] h fun v h'=>v=.aE []/\h.next<=h'.next/\QS h' k (ws.set ad z) (m+1) vm E (aD X (fQ k.a.A Bx Mp tr dc 0 nx)::R)
theorem akJ(P:Program)[PF P](mW:FB call 12 1)(k9:FB call 9 0)(Ha:IV call)(Ep:Jr call)(q:QS h k ws m vm E (aD X (fQ k.a.A Bx Mp tr dc free nx)::R))(hm:m<=800000)(hx:ws[cD k.c]?=some 0):
 WF P call aaX [.ptr X 0] h fun v h'=>v=.int .u8 37/\h.next<=h'.next/\QS h' k (ws.set (cD k.c) 1) (m+1) vm E (aD X (fQ k.a.A Bx Mp tr 0 (-1) nx)::R):=by
 obtain⟨gX,lX⟩:=q.at (j:=0) rfl;obtain⟨ev,gA⟩:=q.gA;have k1:=mW h k.a.A _ (.ptr k.a.M 0) gA (by simp[dx]) rfl;have k2:=k9 h k.a.A _ (.ptr k.a.L 0) gA (by simp[dx]) rfl;obtain⟨v2,h2,e2,rfl,cF⟩:=Ha h k.a.L k.c _ _ q.ar.aw.lay;obtain⟨h3,e3,n3,q3⟩:=(q.step cF).Uw Ep (by omega) (i:=cD k.c) (z:=1) hx (by decide);have n2:=cF.next;have p:=q.ar.aw.b.pl.1;obtain⟨D2,lX3⟩:=q3.at (j:=0) rfl;have q4:=q3.put (j:=0) rfl (fQ k.a.A Bx Mp tr 0 (-1) nx);have kE:=((q.step cF).at (j:=0) rfl).1;simp only[fQ]at gX kE D2;simp only[cb]at e2;have fu:fw .u64 0=0:=rfl;have fu1:fw .u64 1=1:=rfl;have n4:=Nat.le_trans n2 n3;simp only[go_sem,seval,gX,kE,k1,k2,e2,cb,bo,p,e3,n2,n3,n4,D2,fu,fu1];exact q4
def Uy(call:ab):Prop:=∀h k ws m vm E R X Bx Mp (tr dc free nx:Int),QS h k ws m vm E (aD X (fQ k.a.A Bx Mp tr dc free nx)::R)->m<=800000->ws[cD k.c]?=some 0->aG call 100 [.ptr X 0] h fun v h'=>v=.int .u8 37/\h.next<=h'.next/\QS h' k (ws.set (cD k.c) 1) (m+1) vm E (aD X (fQ k.a.A Bx Mp tr 0 (-1) nx)::R)
theorem akK(P:Program)[PF P](Eb:QP call){e:Nat}(he:e<bf k.c)(q:QS h k ws m vm E (aD X (fQ k.a.A Bx Mp tr (e:Int) 0 nx)::R)):
 WF P call aaY [.ptr X 0] h fun v h'=>v=.int .u8 (if e+1<bf k.c then 37 else 40)/\h.next<=h'.next/\QS h' k ws m vm E (aD X (fQ k.a.A Bx Mp tr ((e+1:Nat):Int) 0 nx)::R):=by
 obtain⟨gX,lX⟩:=q.at (j:=0) rfl;obtain⟨_,_,p3,p4,p5,_⟩:=q.ar.aw.b.pl;have q1:=q.put (j:=0) rfl (fQ k.a.A Bx Mp tr ((e+1:Nat):Int) 0 nx);have f1:fw .i64 ((e:Int)+1)=(e:Int)+1:=aS (by omega) (by omega);have e3:((e+1:Nat):Int)=(e:Int)+1:=rfl;simp only[fQ]at gX;simp only[go_sem,seval,gX,f1];obtain⟨H,hH⟩:∃H:H,H=⟨h.next,h.t.set X (fQ k.a.A Bx Mp tr ((e+1:Nat):Int) 0 nx)⟩:=⟨_,rfl⟩;have q1:QS H k ws m vm E (aD X (fQ k.a.A Bx Mp tr ((e+1:Nat):Int) 0 nx)::R):=by rw[hH];exact q1
 have nH:H.next=h.next:=by rw[hH]
 simp only[fQ,ag,List.length_cons,List.length_nil,Nat.reduceAdd,e3]at hH;rw[←hH];obtain⟨fI,lX1⟩:=q1.at (j:=0) rfl;simp only[fQ,e3]at fI;refine af (Eb H k.a k.c q1.ar.aw) fun v2 h2 p2=>?_
 obtain⟨⟨cv,rfl,ov,rd,lo⟩,cF⟩:=p2;have kE:=(cF.old X lX1).trans fI;have n2:=cF.next
 by_cases hc:e+1<bf k.c
 ·have JR:(e:Int)+1<(bf k.c:Int):=by omega
  simp only[go_sem,seval,fI,kE,au,bo,p3,JR,hc];exact⟨by omega,by omega,q1.step cF⟩
 ·have JR:¬(e:Int)+1<(bf k.c:Int):=by omega
  simp only[go_sem,seval,fI,kE,au,bo,p3,JR,hc];exact⟨by omega,by omega,q1.step cF⟩
def Uz(call:ab):Prop:=∀h k ws m vm E R X Bx Mp (tr nx:Int) (e:Nat),e<bf k.c->QS h k ws m vm E (aD X (fQ k.a.A Bx Mp tr (e:Int) 0 nx)::R)->aG call 163 [.ptr X 0] h fun v h'=>v=.int .u8 (if e+1<bf k.c then 37 else 40)/\h.next<=h'.next/\QS h' k ws m vm E (aD X (fQ k.a.A Bx Mp tr ((e+1:Nat):Int) 0 nx)::R)
theorem akM(P:Program)[PF P](UA:Ux call)(OH:Uz call){e:Nat}(he:e<bf k.c)(q:QS h k ws m vm E (aD X (fQ k.a.A Bx Mp tr (e:Int) (if e=0 then-1 else 0) nx)::R))(hm:m<=800000)(hx:ws[cD k.c+1+3*e]?=some 0):
 WF P call aaZ [.ptr X 0] h fun v h'=>v=.int .u8 (if e+1<bf k.c then 37 else 40)/\h.next<=h'.next/\QS h' k ws (m+1) vm E (aD X (fQ k.a.A Bx Mp tr ((e+1:Nat):Int) 0 nx)::R):=by
 obtain⟨_,_,p3,p4,p5,_⟩:=q.ar.aw.b.pl;simp only[go_sem,seval];refine af (UA h k ws m vm E R X Bx Mp tr _ nx e _ 0 q hm (by omega) rfl hx) fun v1 h1 p1=>?_
 obtain⟨rfl,n1,q1⟩:=p1;obtain⟨fI,lX1⟩:=q1.at (j:=0) rfl;simp only[fQ]at fI
 by_cases z:e=0
 ·subst z;have q2:=q1.put (j:=0) rfl (fQ k.a.A Bx Mp tr ((0:Nat):Int) 0 nx);simp only[if_pos rfl]at fI;have akN:h1.t.get X=some (ag [.ptr k.a.A 0,.int .i64 0,.int .u64 0,.int .u64 18446744073709551615,.int .i64 tr,.int .i64 0,.int .i64 0,.int .i64 (-1),.int .u64 0,.bool false,.fn (.func 99) [] [.ptr Bx 0],.map Mp,.int .u8 nx,.int .i64 0] 213):=fI;simp only[go_sem,seval,akN];refine af (OH _ k ws (m+1) vm E R X Bx Mp tr nx 0 he q2) fun v2 h2 p2=>?_
  obtain⟨rfl,n2,q3⟩:=p2;simp only[go_sem,seval];exact⟨Nat.le_trans n1 n2,q3⟩
 ·simp only[if_neg z]at fI q1;simp only[go_sem,seval,fI];refine af (OH _ k ws (m+1) vm E R X Bx Mp tr nx e he q1) fun v2 h2 p2=>?_
  obtain⟨rfl,n2,q3⟩:=p2;simp only[go_sem,seval];exact⟨Nat.le_trans n1 n2,q3⟩
def UB(call:ab):Prop:=∀h k ws m vm E R X Bx Mp (tr nx:Int) (e:Nat),e<bf k.c->QS h k ws m vm E (aD X (fQ k.a.A Bx Mp tr (e:Int) (if e=0 then-1 else 0) nx)::R)->m<=800000->ws[cD k.c+1+3*e]?=some 0->aG call 101 [.ptr X 0] h fun v h'=>v=.int .u8 (if e+1<bf k.c then 37 else 40)/\h.next<=h'.next/\QS h' k ws (m+1) vm E (aD X (fQ k.a.A Bx Mp tr ((e+1:Nat):Int) 0 nx)::R)
def Ba(call:ab)(f:FuncId)(w:Nat)(z y:Int):Prop:=∀h k ws m vm E R X Bx Mp (tr dc nx:Int),QS h k ws m vm E (aD X (fQ k.a.A Bx Mp tr dc 0 nx)::R)->m<=800000->aG call f [.ptr X 0] h fun v h'=>v=.int .u8 y/\h.next<=h'.next/\QS h' k (ws.set (cD k.c+1+w) z) (m+1) vm E (aD X (fQ k.a.A Bx Mp tr dc 0 nx)::R)
theorem akO(P:Program)[PF P](Ew:JU call)(q:QS h k ws m vm E (aD X (fQ k.a.A Bx Mp tr dc 0 nx)::R))(hm:m<=800000):
 WF P call aa0 [.ptr X 0] h fun v h'=>v=.int .u8 41/\h.next<=h'.next/\QS h' k (ws.set (cD k.c+1+1) 0) (m+1) vm E (aD X (fQ k.a.A Bx Mp tr dc 0 nx)::R):=by
 obtain⟨gX,lX⟩:=q.at (j:=0) rfl;simp only[fQ]at gX;simp only[go_sem,seval,gX];refine af (Ew h k ws m vm E R X Bx Mp tr dc nx 1 _ 0 q hm (by decide) rfl (by decide)) fun v1 h1 p1=>?_
 obtain⟨rfl,n1,q1⟩:=p1;simp only[go_sem,seval];exact⟨n1,q1⟩
theorem akP(P:Program)[PF P](Ew:JU call)(q:QS h k ws m vm E (aD X (fQ k.a.A Bx Mp tr dc 0 nx)::R))(hm:m<=800000):
 WF P call aa1 [.ptr X 0] h fun v h'=>v=.int .u8 42/\h.next<=h'.next/\QS h' k (ws.set (cD k.c+1+2) 18446744073709551615) (m+1) vm E (aD X (fQ k.a.A Bx Mp tr dc 0 nx)::R):=by
 obtain⟨gX,lX⟩:=q.at (j:=0) rfl;simp only[fQ]at gX;simp only[go_sem,seval,gX];refine af (Ew h k ws m vm E R X Bx Mp tr dc nx 2 _ 18446744073709551615 q hm (by decide) rfl (by decide)) fun v1 h1 p1=>?_
 obtain⟨rfl,n1,q1⟩:=p1;simp only[go_sem,seval];exact⟨n1,q1⟩
theorem akQ(P:Program)[PF P](Ew:JU call)(q:QS h k ws m vm E (aD X (fQ k.a.A Bx Mp tr dc 0 nx)::R))(hm:m<=800000):
 WF P call aa2 [.ptr X 0] h fun v h'=>v=.int .u8 3/\h.next<=h'.next/\QS h' k (ws.set (cD k.c+1+0) 1) (m+1) vm E (aD X (fQ k.a.A Bx Mp tr dc 0 nx)::R):=by
 obtain⟨gX,lX⟩:=q.at (j:=0) rfl;simp only[fQ]at gX;simp only[go_sem,seval,gX];refine af (Ew h k ws m vm E R X Bx Mp tr dc nx 0 _ 1 q hm (by decide) rfl (by decide)) fun v1 h1 p1=>?_
 obtain⟨rfl,n1,q1⟩:=p1;simp only[go_sem,seval];exact⟨n1,q1⟩
theorem akR(P:Program)[PF P](mW:FB call 12 1)(k9:FB call 9 0)(Ha:IV call)(uH:D6 call)(q:QS h k ws m vm E (aD X (fQ k.a.A Bx Mp tr dc free nx)::R))(hm:m<=800000):
 WF P call aa3 [.ptr X 0] h fun v h'=>v=.int .u8 0/\h.next<=h'.next/\QS h' k (ws.set (cD k.c) 0) (m+1) vm E (aD X (fQ k.a.A Bx Mp tr dc free nx)::R):=by
 obtain⟨gX,lX⟩:=q.at (j:=0) rfl;obtain⟨ev,gA⟩:=q.gA;have k1:=mW h k.a.A _ (.ptr k.a.M 0) gA (by simp[dx]) rfl;have k2:=k9 h k.a.A _ (.ptr k.a.L 0) gA (by simp[dx]) rfl;obtain⟨v2,h2,e2,rfl,cF⟩:=Ha h k.a.L k.c _ _ q.ar.aw.lay;have hl:=q.ar.len;obtain⟨p,_,_,_,_,p6,_⟩:=q.ar.aw.b.pl;obtain⟨x,hx⟩:∃x,ws[cD k.c]?=some x:=⟨_,List.getElem?_eq_getElem (by omega)⟩;obtain⟨h3,e3,n3,q3⟩:=(q.step cF).store uH (by omega) (i:=cD k.c) (z:=0) hx (by decide);have n2:=cF.next;obtain⟨D2,lX3⟩:=q3.at (j:=0) rfl;have kE:=((q.step cF).at (j:=0) rfl).1;simp only[fQ]at gX kE D2;simp only[cb]at e2;have n4:=Nat.le_trans n2 n3;simp only[go_sem,seval,gX,kE,k1,k2,e2,cb,bo,p,e3,n2,n3,n4,D2];exact q3
def UC(call:ab):Prop:=∀h k ws m vm E R X Bx Mp (tr dc free nx:Int),QS h k ws m vm E (aD X (fQ k.a.A Bx Mp tr dc free nx)::R)->m<=800000->aG call 107 [.ptr X 0] h fun v h'=>v=.int .u8 0/\h.next<=h'.next/\QS h' k (ws.set (cD k.c) 0) (m+1) vm E (aD X (fQ k.a.A Bx Mp tr dc free nx)::R)
end
end
end Go.Proofs.YtgkjlklfjbljeaaGreat.CQ
namespace Go.Proofs.YtgkjlklfjbljeaaGreat.CQ
open Go.Proofs.YtgkjlklfjbljeaaGreat.Eo
noncomputable section
@[go_sem]def UD:CF:=⟨1,(Sq [v 2 0,w 3] (Qq (Sq [a 4 0,y 5 132 4,a 6 5,r 7 6 0,qf 8 6 7,J 9 6 12 8,E 10 6 9,zm 11 6 5 10 0,u 12 6 11] (Kq 12 [v 2 0,w 3] .skip)) (Sq [a 13 0,j 14 13,d 15 12 14,i 16 15,a 2 16] (Sq [a 17 0,a 18 0,j 19 18,d 20 11 19,i 21 20,a 22 2,jE 23 0 21 22,a 24 0,zY 25 23 24,j 26 17,d 27 12 26,s 1 27 25] (Qq (.cn ⟨[([g 0 2,g 1 0,n 2 29 1,m 3 30 2 12,k 4 31 3,zZ 5 32 4 5 0,t 6 28 0,t 7 33 5],none)],[(0,28),(1,29),(2,30),(3,31),(4,32),(5,33),(6,2),(7,3)],[]⟩) .ret))))),[.tmp 2,.tmp 3]⟩
@[go_sem]def c49:CF:=⟨1,(Sq [v 2 0] (Qq (Sq [a 3 0,y 4 132 3] (Kq 4 [v 2 0] .skip)) (Rq [a 5 0,j 6 5,d 7 12 6,i 8 7,a 2 8]))),[.tmp 2]⟩
@[go_sem]def aa4:CF:=⟨1,(Sq [b 2 0,b 3 0,b 4 0] (Qq (.block 0 (Sq [a 6 0,y 7 132 6,a 5 7] (Kq 5 [b 2 0,b 3 0,b 4 1] (Sq [a 9 0,j 10 9,d 11 12 10,i 12 11,zl 13 5 12 0,a 8 13] (Kq 8 [b 2 0,b 3 0,b 4 8] (Sq [a 15 0,j 16 15,d 17 13 16,i 18 17,A 19 41 18 0,a 14 19] (Cq 14 (Qq (.cn ⟨[([g 0 0,n 1 20 0,m 2 21 1 5,k 3 22 2,g 4 0,n 5 24 4,m 6 25 5 13,k 7 26 6,qS 8 0,t 9 23 3,t 10 27 7],none)],[(0,20),(1,21),(2,22),(3,23),(4,24),(5,25),(6,26),(7,27),(8,2),(9,3),(10,4)],[]⟩) .ret) .skip))))))) (Qq (.cn ⟨[([g 0 0,n 1 28 0,m 2 29 1 7,k 3 30 2,g 4 0,n 5 32 4,m 6 33 5 5,k 7 34 6,t 8 31 3,t 9 35 7,qS 10 0],none)],[(0,28),(1,29),(2,30),(3,31),(4,32),(5,33),(6,34),(7,35),(8,2),(9,3),(10,4)],[]⟩) .ret))),[.tmp 2,.tmp 3,.tmp 4]⟩
@[go_sem]def aa5:CF:=⟨3,(Sq [b 6 0] (Qq (Sq [a 9 0,y 10 30 9] (Kq 10 [b 6 1] .skip)) (Qq (Sq [a 11 1,D 12 3 11 0,a 13 12,r 14 13 1,qk 15 13 3 14 64,u 16 13 15] (Kq 16 [b 6 2] .skip)) (Qq (Sq [a 17 2,D 18 3 17 0,a 19 18,r 20 19 2,r 21 19 0,qH 22 19 16 21,jS 23 19 3 13 22,qG 24 19 3 20 23,u 25 19 24] (Kq 25 [b 6 3] .skip)) (Qq (Sq [a 27 0,q 28 12 27,a 29 0,a 30 2,zz 31 172 29 30 0,M 32 90 28 31,a 26 32,o 33 26 0,o 34 26 1,a 7 33,a 8 34] (Sq [a 35 7,qV 36 50 35 0] (Kq 36 [b 6 8] .skip))) (Rq [a 37 0,q 38 12 37,a 39 1,a 40 0,a 41 2,zz 42 172 40 41 0,⟨some 43,none,.cv (.c (.fn (.func 13) [] [])) [.t 38,.t 39,.t 42,.c (.int .u64 0)]⟩,a 6 43])))))),[.tmp 6]⟩
@[go_sem]def c98:CF:=⟨1,(Sq [z 1 140 0,b 2 0] (Qq (Sq [d 3 0 1,i 4 3,d 5 1 1,i 6 5,⟨some 7,none,.p (.bin .gtr 50 false false (.t 4) (.t 6))⟩] (Kq 7 [b 2 13] .skip)) (Rq [b 2 0]))),[.tmp 2]⟩
@[go_sem]def c48:CF:=⟨4,(Sq [z 6 140 2,p 8,b 9 0] (Qq (Sq [a 11 0,y 12 30 11] (Kq 12 [p 8,b 9 1] .skip)) (Qq (Sq [a 13 1,D 14 3 13 0,a 15 14,r 16 15 1,qk 17 15 3 16 64,u 18 15 17,a 19 18,r 20 19 3,qv 21 19 3 20 0,u 22 19 21,a 23 22,r 24 23 3,qb 25 23 3 24 255,u 26 23 25] (Kq 26 [p 8,b 9 2] .skip)) (Qq (Sq [S 27 2 6,q 28 98 27,A 29 41 28 0] (Kq 29 [p 8,b 9 13] .skip)) (Sq [a 30 0,a 31 1,S 32 2 6,a 33 3,⟨some 34,none,.p (.build [.aJ,aN,cY,cY,aN,aN,aN,aN,cY,bO,.dQ,.kH,ya,aN] [(0,1,.t 30),(1,1,.t 31),(2,2,.t 32),(4,1,.t 33),(12,1,.c (.int .u8 2))])⟩,z 35 213 34,a 10 35] (Sq [a 36 10,jt 37 99 6,j 38 36,d 39 10 38,s 1 39 37] (Sq [a 40 10,zf 41,qx 0 41 2 100,qx 0 41 37 101,qx 0 41 38 102,qx 0 41 39 103,qx 0 41 40 104,qx 0 41 41 105,qx 0 41 42 106,qx 0 41 3 107,a 42 41,j 43 40,d 44 11 43,s 1 44 42] (Rq [a 45 10,a 8 45,b 9 0])))))))),[.tmp 8,.tmp 9]⟩
def yq(f:FuncId):AV:=.fn (.func f) [] []
def OI:List (AV×AV×Nat):=[(.int .u8 2,yq 100,0),(.int .u8 37,yq 101,1),(.int .u8 38,yq 102,2),(.int .u8 39,yq 103,3),(.int .u8 40,yq 104,4),(.int .u8 41,yq 105,5),(.int .u8 42,yq 106,6),(.int .u8 3,yq 107,7)]
def fR(n j:Nat):Int:=if j=0 then 2 else if j<=n then 37 else if j=n+1 then 40 else if j=n+2 then 41 else if j=n+3 then 42 else if j=n+4 then 3 else 0
def FN(n j:Nat):Int:=if j<=n then((j-1:Nat):Int)else(n:Int)
def Hc(j:Nat):Int:=if j=1 then-1 else 0
def iZ(ma n:Nat)(ws:List Int):Nat->List Int
 |0=>ws
 |j+1=>if j=0 then ws.set ma 1 else if j<=n then iZ ma n ws j else if j=n+1 then(iZ ma n ws j).set (ma+1+1) 0 else if j=n+2 then(iZ ma n ws j).set (ma+1+2) 18446744073709551615 else if j=n+3 then(iZ ma n ws j).set (ma+1+0) 1 else(iZ ma n ws j).set ma 0
theorem Bb(ma n:Nat)(ws:List Int):∀j,j<=n->iZ ma n ws (j+1)=ws.set ma 1
 |0,_=>by unfold iZ;rw[if_pos rfl]
 |j+1,h=>by
  unfold iZ;rw[if_neg (by omega),if_pos h];exact Bb ma n ws j (by omega)
def sZ(k:QQ)(X Bx Mp:Nat)(j:Nat)(R:List Cm):List Cm:=
 aD X (fQ k.a.A Bx Mp k.c.tries (FN (bf k.c) j) (Hc j) (fR (bf k.c) j))::aD Mp (.map OI 8)::R
theorem akS(P:Program)[PF P]{call:ab}(Jn:Uy call)(UE:UB call)(UF:Ba call 104 1 0 41)(UG:Ba call 105 2 18446744073709551615 42)(UH:Ba call 106 0 1 3)(UI:UC call)
 {h:H} {k:QQ} {ws:List Int} {m:Nat} {vm:AO} {E:Cm} {R:List Cm} {X Bx Mp j:Nat} (hj:j<bf k.c+5) (q:QS h k (iZ (cD k.c) (bf k.c) ws j) m vm E (sZ k X Bx Mp j R)) (hm:m<=800000) (h0:ws[cD k.c]?=some 0) (hz:∀e,e<bf k.c->ws[cD k.c+1+3*e]?=some 0):
 WF P call UD [.ptr X 0] h fun v h'=>v=.aE [.int .u8 (fR (bf k.c) j),.bool (decide (j=bf k.c+4))]/\h.next<=h'.next/\QS h' k (iZ (cD k.c) (bf k.c) ws (j+1)) (m+1) vm E (sZ k X Bx Mp (j+1) R):=by
 obtain⟨gX,lX⟩:=q.at (j:=0) rfl;obtain⟨gM,lM⟩:=q.at (j:=1) rfl;have fin:∀(f:FuncId) (i:Nat) (pc:Int) (h1:H),¬1099511627776<=f->fR (bf k.c) j=pc->pc≠0->h.next<=h1.next->QS h1 k (iZ (cD k.c) (bf k.c) ws (j+1)) (m+1) vm E (aD X (fQ k.a.A Bx Mp k.c.tries (FN (bf k.c) (j+1)) (Hc (j+1)) (fR (bf k.c) j))::aD Mp (.map OI 8)::R)->call f [.ptr X 0] h=some (.int .u8 (fR (bf k.c) (j+1)),h1)->dL 0 (.int .u8 pc) OI 0=some (some (i,yq f))->WF P call UD [.ptr X 0] h fun v h'=>v=.aE [.int .u8 (fR (bf k.c) j),.bool (decide (j=bf k.c+4))]/\h.next<=h'.next/\QS h' k (iZ (cD k.c) (bf k.c) ws (j+1)) (m+1) vm E (sZ k X Bx Mp (j+1) R):=by
  intro f i pc h1 hf Ty p0 n1 q1 e1 ef;obtain⟨fI,lX1⟩:=q1.at (j:=0) rfl;have q2:=q1.put (j:=0) rfl (fQ k.a.A Bx Mp k.c.tries (FN (bf k.c) (j+1)) (Hc (j+1)) (fR (bf k.c) (j+1)));rw[Ty]at gX fI⊢;simp only[fQ]at gX fI;have hd:fR (bf k.c) (j+1)=0↔j=bf k.c+4:=by
   unfold fR;constructor
   ·intro e
    repeat' split at e
    all_goals first|omega|(exfalso;revert e;decide)
   ·intro e;subst e;rw[if_neg (by omega),if_neg (by omega),if_neg (by omega),if_neg (by omega),if_neg (by omega),if_neg (by omega)]
  have e0:decide (fR (bf k.c) (j+1)=0)=decide (j=bf k.c+4):=decide_eq_decide.2 hd;have kA:iA 0 (.int .u8 pc)=true:=rfl;simp only[go_sem,seval,gX,gM,p0,hf,kA,Go.Proofs.YtgkjlklfjbljeaaGreat.Eo.tS,ef,e1,yq,fI,n1,e0];exact q2
 obtain⟨_,_,p3,p4,p5,p6,_⟩:=q.ar.aw.b.pl;have hl:=q.ar.len;have lkl:FN (bf k.c) j=_:=rfl;have q0:=q;unfold sZ at q0;rcases Nat.lt_or_ge 0 j with j0|j0
 ·rcases Nat.lt_or_ge (bf k.c) j with j1|j1
  ·have eE:FN (bf k.c) j=(bf k.c:Int):=by unfold FN;rw[if_neg (by omega)]
   have QU:FN (bf k.c) (j+1)=(bf k.c:Int):=by unfold FN;rw[if_neg (by omega)]
   have eF:Hc j=0:=by unfold Hc;rw[if_neg (by omega)]
   have XG:Hc (j+1)=0:=by unfold Hc;rw[if_neg (by omega)]
   rw[eE,eF]at q0;have hc:j=bf k.c+1\/j=bf k.c+2\/j=bf k.c+3\/j=bf k.c+4:=by omega
   rcases hc with e|e|e|e
   ·have x0:fR (bf k.c) j=40:=by unfold fR;rw[if_neg (by omega),if_neg (by omega),if_pos e]
    have x1:fR (bf k.c) (j+1)=41:=by unfold fR;rw[if_neg (by omega),if_neg (by omega),if_neg (by omega),if_pos (by omega)]
    obtain⟨v1,h1,e1,rfl,n1,q1⟩:=UF h k _ m vm E _ X Bx Mp _ _ _ q0 hm;refine fin 104 4 40 h1 (by decide) x0 (by decide) n1 ?_ (by rw[x1];exact e1) rfl;rw[QU,XG];unfold iZ;rw[if_neg (by omega),if_neg (by omega),if_pos e];exact q1
   ·have x0:fR (bf k.c) j=41:=by unfold fR;rw[if_neg (by omega),if_neg (by omega),if_neg (by omega),if_pos e]
    have x1:fR (bf k.c) (j+1)=42:=by unfold fR;rw[if_neg (by omega),if_neg (by omega),if_neg (by omega),if_neg (by omega),if_pos (by omega)]
    obtain⟨v1,h1,e1,rfl,n1,q1⟩:=UG h k _ m vm E _ X Bx Mp _ _ _ q0 hm;refine fin 105 5 41 h1 (by decide) x0 (by decide) n1 ?_ (by rw[x1];exact e1) rfl;rw[QU,XG];unfold iZ;rw[if_neg (by omega),if_neg (by omega),if_neg (by omega),if_pos e];exact q1
   ·have x0:fR (bf k.c) j=42:=by unfold fR;rw[if_neg (by omega),if_neg (by omega),if_neg (by omega),if_neg (by omega),if_pos e]
    have x1:fR (bf k.c) (j+1)=3:=by unfold fR;rw[if_neg (by omega),if_neg (by omega),if_neg (by omega),if_neg (by omega),if_neg (by omega),if_pos (by omega)]
    obtain⟨v1,h1,e1,rfl,n1,q1⟩:=UH h k _ m vm E _ X Bx Mp _ _ _ q0 hm;refine fin 106 6 42 h1 (by decide) x0 (by decide) n1 ?_ (by rw[x1];exact e1) rfl;rw[QU,XG];unfold iZ;rw[if_neg (by omega),if_neg (by omega),if_neg (by omega),if_neg (by omega),if_pos e];exact q1
   ·have x0:fR (bf k.c) j=3:=by unfold fR;rw[if_neg (by omega),if_neg (by omega),if_neg (by omega),if_neg (by omega),if_neg (by omega),if_pos e]
    have x1:fR (bf k.c) (j+1)=0:=by unfold fR;rw[if_neg (by omega),if_neg (by omega),if_neg (by omega),if_neg (by omega),if_neg (by omega),if_neg (by omega)]
    obtain⟨v1,h1,e1,rfl,n1,q1⟩:=UI h k _ m vm E _ X Bx Mp _ _ _ _ q0 hm;refine fin 107 7 3 h1 (by decide) x0 (by decide) n1 ?_ (by rw[x1];exact e1) rfl;rw[QU,XG];unfold iZ;rw[if_neg (by omega),if_neg (by omega),if_neg (by omega),if_neg (by omega),if_neg (by omega)];exact q1
  ·obtain⟨i,rfl⟩:∃i,j=i+1:=⟨j-1,by omega⟩;have eE:FN (bf k.c) (i+1)=(i:Int):=by unfold FN;rw[if_pos j1,Nat.add_sub_cancel]
   have QU:FN (bf k.c) (i+1+1)=((i+1:Nat):Int):=by
        unfold FN
        by_cases c:i+1+1<=bf k.c
        ·rw[if_pos c,Nat.add_sub_cancel]
        ·rw[if_neg c];omega
   have eF:Hc (i+1)=if i=0 then-1 else 0:=by
        unfold Hc
        by_cases c:i=0
        ·rw[if_pos c,if_pos (by omega)]
        ·rw[if_neg c,if_neg (by omega)]
   have XG:Hc (i+1+1)=0:=by unfold Hc;rw[if_neg (by omega)]
   have x0:fR (bf k.c) (i+1)=37:=by unfold fR;rw[if_neg (by omega),if_pos j1]
   have x1:fR (bf k.c) (i+1+1)=if i+1<bf k.c then 37 else 40:=by
        unfold fR;rw[if_neg (by omega)]
        by_cases c:i+1<bf k.c
        ·rw[if_pos c,if_pos (by omega)]
        ·rw[if_neg c,if_neg (by omega),if_pos (by omega)]
   have ew:=Bb (cD k.c) (bf k.c) ws i (by omega);have OJ:=Bb (cD k.c) (bf k.c) ws (i+1) j1;rw[eE,eF,ew]at q0;obtain⟨v1,h1,e1,rfl,n1,q1⟩:=UE h k _ m vm E _ X Bx Mp _ _ i (by omega) q0 hm (by rw[List.getElem?_set_ne (by omega)];exact hz i (by omega));refine fin 101 1 37 h1 (by decide) x0 (by decide) n1 ?_ (by rw[x1];exact e1) rfl;rw[QU,XG,OJ];exact q1
 ·obtain rfl:j=0:=by omega
  have QU:FN (bf k.c) (0+1)=0:=by unfold FN;rw[if_pos (by omega)];rfl
  obtain⟨v1,h1,e1,rfl,n1,q1⟩:=Jn h k _ m vm E _ X Bx Mp _ _ _ _ q0 hm h0;have x1:fR (bf k.c) (0+1)=37:=by unfold fR;rw[if_neg (by omega),if_pos (by omega)]
  refine fin 100 0 2 h1 (by decide) rfl (by decide) n1 ?_ (by rw[x1];exact e1) rfl;rw[QU];exact q1
def OK(call:ab):Prop:=∀h k ws m vm E R X Bx Mp j,j<bf k.c+5->QS h k (iZ (cD k.c) (bf k.c) ws j) m vm E (sZ k X Bx Mp j R)->m<=800000->ws[cD k.c]?=some 0->(∀e,e<bf k.c->ws[cD k.c+1+3*e]?=some 0)->aG call 108 [.ptr X 0] h fun v h'=>v=.aE [.int .u8 (fR (bf k.c) j),.bool (decide (j=bf k.c+4))]/\h.next<=h'.next/\QS h' k (iZ (cD k.c) (bf k.c) ws (j+1)) (m+1) vm E (sZ k X Bx Mp (j+1) R)
section
variable {call:ab} {h:H} {k:QQ} {ws:List Int} {m:Nat} {vm:AO} {E:Cm} {R:List Cm} {X Bx Mp j:Nat}
theorem w49(P:Program)[PF P]{A:Nat}{tr e f x:Int}(g:h.t.get X=some (fQ A Bx Mp tr e f x)):WF P call c49 [.ptr X 0] h fun v h'=>v=.int .u8 x/\h'=h:=by
 simp only[fQ]at g;simp only[go_sem,seval,g]
def F49(call:ab):Prop:=∀h A Bx Mp X (tr e f x:Int),h.t.get X=some (fQ A Bx Mp tr e f x)->call 49 [.ptr X 0] h=some (.int .u8 x,h)
theorem akT(P:Program)[PF P]{A:Nat}{tr e:Int}(g:h.t.get X=some (fQ A Bx Mp tr e 0 0)):WF P call aa4 [.ptr X 0] h fun v h'=>v=.aE [.int .i64 0,.int .i64 0,.int .i64 0]/\h'=h:=by
 simp only[fQ]at g;simp only[go_sem,seval,g]
def UJ(call:ab):Prop:=∀h A Bx Mp X (tr e:Int),h.t.get X=some (fQ A Bx Mp tr e 0 0)->call 109 [.ptr X 0] h=some (.aE [.int .i64 0,.int .i64 0,.int .i64 0],h)
theorem akU(P:Program)[PF P](Eb:QP call)(mW:FB call 12 1)(CX:JT call)(k90:iK call)(uH:D6 call)(q:QS h k ws m vm E R)(hm:m<=800000){x:Int}(hx:ws[cD k.c+1]?=some x)(x0:x≠0):
 WF P call aa5 [.ptr k.a.A 0,.int .i64 0,.int .i64 0] h fun v h'=>v=.int .i64 0/\h.next<=h'.next/\QS h' k (ws.set (cD k.c+1) 0) (m+1) vm E R:=by
 obtain⟨_,_,p3,p4,p5,p6,_⟩:=q.ar.aw.b.pl;simp only[go_sem,seval];refine af (Eb h k.a k.c q.ar.aw) fun v1 h1 p1=>?_
 obtain⟨⟨cv,rfl,ov,rd,lo⟩,bC⟩:=p1;have q1:=q.step bC;have n1:=bC.next;obtain⟨ev,Ia⟩:=q1.gA;have c1:(0:Int)<(bf k.c:Int):=by omega
 have k1:=mW h1 k.a.A _ (.ptr k.a.M 0) Ia (by simp[dx]) rfl;simp only[go_sem,seval,au,bo,p3,c1,k1];refine af (CX h1 k.a k.c 0 0 (cD k.c+1) q1.ar.aw (by decide) (by decide) rfl) fun v2 h2 p2=>?_
 obtain⟨rfl,cF⟩:=p2;have q2:=q1.step cF;have n2:=cF.next;have k2:=wA k90 q2.ar.mm hx;obtain⟨ev2,Ik⟩:=q2.gA;have k3:=mW h2 k.a.A _ (.ptr k.a.M 0) Ik (by simp[dx]) rfl;simp only[go_sem,seval,k2,x0,k3];refine af (CX h2 k.a k.c 0 0 (cD k.c+1) q2.ar.aw (by decide) (by decide) rfl) fun v3 h3 p3'=>?_
 obtain⟨rfl,fW⟩:=p3';have n3:=fW.next;obtain⟨h4,e4,n4,q4⟩:=(q2.step fW).store uH (by omega) (i:=cD k.c+1) (z:=0) hx (by decide);simp only[go_sem,seval,e4];exact⟨by omega,q4⟩
def UK(call:ab):Prop:=∀h k ws m vm E R (x:Int),QS h k ws m vm E R->m<=800000->ws[cD k.c+1]?=some x->x≠0->aG call 114 [.ptr k.a.A 0,.int .i64 0,.int .i64 0] h fun v h'=>v=.int .i64 0/\h.next<=h'.next/\QS h' k (ws.set (cD k.c+1) 0) (m+1) vm E R
theorem w98(P:Program)[PF P]:WF P call c98 [.agg [.int .u64 0,.int .u64 18446744073709551615]] h fun v h'=>v=.int .i64 0/\ae h h':=by
 simp only[go_sem,seval];exact ae.new h _
def F98(call:ab):Prop:=∀h,aG call 98 [.agg [.int .u64 0,.int .u64 18446744073709551615]] h fun v h'=>v=.int .i64 0/\ae h h'
theorem kq8(a b:Int):tT 0 (.int .u8 a) (.int .u8 b)=some (decide (a=b)):=by
 show cond (Nat.beq 0 0&&decide (IntKind.u8=IntKind.u8)) (some (yK a b)) none=_
 rw[gJ];rfl
theorem w48(P:Program)[PF P](k98:F98 call)(q:QS h k ws m vm E R):
 WF P call c48 [.ptr k.a.A 0,.int .i64 0,.agg [.int .u64 0,.int .u64 18446744073709551615],.int .i64 k.c.tries] h fun v h'=>h.next<=h'.next/\∃X Bx Mp,v=.aE [.ptr X 0,.int .i64 0]/\QS h' k ws m vm E (sZ k X Bx Mp 0 R):=by
 have b:=q.ar.aw.b;obtain⟨hT,Ib,mL,IG,IH,iD,oU,hd,Eh,MZ,II⟩:=b.lay;have c1:¬k.c.tries<0:=by omega
 have c2:¬255<k.c.tries:=by omega
 have q0:=q.box (ag [.int .u64 0,.int .u64 18446744073709551615] 140);simp only[go_sem,seval,c1,c2];refine af (k98 _) fun v1 h1 p1=>?_
 obtain⟨rfl,bC⟩:=p1;have q1:=q0.step bC;have n1:h.next+1<=h1.next:=bC.next;obtain⟨g1,l1⟩:=q1.at (j:=0) rfl;have q2:=((q1.box (ag [.ptr k.a.A 0,.int .i64 0,.int .u64 0,.int .u64 18446744073709551615,.int .i64 k.c.tries,.int .i64 0,.int .i64 0,.int .i64 0,.int .u64 0,.bool false,.fn (.func 99) [] [.ptr h.next 0],.kH,.int .u8 2,.int .i64 0] 213)).box (.map OI 8)).put (j:=1) rfl (fQ k.a.A h.next (h1.next+1) k.c.tries 0 0 2);have q3:=(q2.perm (List.Perm.trans (.swap _ _ _) (List.Perm.trans (.cons _ (.swap _ _ _)) (List.Perm.trans (.swap _ _ _) (.cons _ (.refl _)))))).drop;have n2:¬h1.next=h1.next+1:=by omega
 simp only[go_sem,seval,g1,G4,dL,iA,kq8,n2,List.append_assoc,List.cons_append,List.nil_append];exact⟨by omega,_,_,_,rfl,q3⟩
end
end
end Go.Proofs.YtgkjlklfjbljeaaGreat.CQ
namespace Go.Proofs.YtgkjlklfjbljeaaGreat.CQ
open Go.Proofs.YtgkjlklfjbljeaaGreat.Eo
noncomputable section
@[go_sem]def aa6:CF:=⟨2,(Sq [b 4 0] (Qq (.block 0 (Sq [a 6 0,y 7 232 6,a 5 7] (Kq 5 [b 4 1] (Sq [a 9 1,D 10 3 9 0,a 11 10,r 12 11 1,qk 13 11 3 12 64,u 14 11 13,a 8 14] (Kq 8 [b 4 2] .skip))))) (Rq [b 4 0]))),[.tmp 4]⟩
@[go_sem]def aa7:CF:=⟨3,(Sq [b 6 0] (Qq (Sq [a 8 0,a 9 1,M 10 277 8 9,a 7 10] (Sq [a 11 7,A 12 41 11 0] (Kq 12 [a 13 7,a 6 13] .skip))) (Qq (Sq [a 14 2,D 15 3 14 0,a 16 15,r 17 16 2,r 18 16 0,qf 19 16 18,J 20 16 2 19,E 21 16 20,qu 22 16 21,qG 23 16 3 17 22,u 24 16 23] (Kq 24 [b 6 3] .skip)) (Rq [b 6 0])))),[.tmp 6]⟩
@[go_sem]def aa8:CF:=⟨2,(Sq [w 4] (Rq [a 5 0,j 6 5,d 7 2 6,i 8 7,a 9 1,G 10 1 8 9,i 11 10,qE 12 50 11 2,qV 13 50 12 1,a 4 13])),[.tmp 4]⟩
@[go_sem]def aa9:CF:=⟨3,(Sq [a 6 0,j 7 6,d 8 2 7,i 9 8,a 10 2,G 11 1 9 10,i 12 11,zX 13 50 12 1,G 14 1 9 10,s 1 14 13] (.cn ⟨[([g 0 0,n 1 15 0,m 2 16 1 0,k 3 17 2,g 4 1,g 5 0,n 6 20 5,m 7 21 6 1,k 8 22 7,g 9 2,qB 10 23 8 24 9 3,g 11 0,n 12 26 11,m 13 27 12 2,k 14 28 13,g 15 2,Y 16 29 14 30 15 1,k 17 31 16],some (qw 18 18 3 19 4 25 10 32 17 13)),([],none)],[(0,15),(1,16),(2,17),(3,18),(4,19),(5,20),(6,21),(7,22),(8,23),(9,24),(10,25),(11,26),(12,27),(13,28),(14,29),(15,30),(16,31),(17,32),(18,33)],[]⟩)),[]⟩
@[go_sem]def aba:CF:=⟨4,(Sq [p 8,b 9 0] (Qq (Sq [a 12 0,a 13 1,a 14 2,Q 15 274 12 13 14,a 10 15] (Sq [a 16 10,A 17 41 16 0] (Kq 17 [a 18 10,p 8,a 9 18] .skip))) (Qq (Sq [a 19 3,D 20 3 19 0,a 21 20,r 22 21 3,qk 23 21 3 22 64,u 24 21 23] (Kq 24 [p 8,b 9 2] .skip)) (Qq (Sq [a 25 0,j 26 25,d 27 3 26,i 28 27,a 29 2,G 30 1 28 29,i 31 30,a 32 31,r 33 32 0,r 34 32 2,zo 35 32 275 33 34,u 36 32 35] (Kq 36 [p 8,b 9 8] .skip)) (Sq [a 37 0,j 38 37,d 39 3 38,i 40 39,a 41 2,G 42 1 40 41,zk 1 42] (Sq [a 43 0,a 44 1,a 45 2,⟨some 46,none,.p (.build [.aJ,.int .i64 0,.int .i64 0,.dQ] [(0,1,.t 43),(1,1,.t 44),(2,1,.t 45)])⟩,z 47 419 46,a 11 47] (Sq [a 48 11,a 49 11,⟨some 50,none,.p (.GQ (.func 276) [.t 49] [])⟩,j 51 48,d 52 3 51,s 1 52 50] (Rq [a 53 11,a 8 53,b 9 0])))))))),[.tmp 8,.tmp 9]⟩
@[go_sem]def abb:CF:=⟨3,(Sq [v 6 0,b 7 0] (Qq (Sq [a 9 0,a 10 1,a 11 2,Q 12 274 9 10 11,a 8 12] (Sq [a 13 8,A 14 41 13 0] (Kq 14 [a 15 8,v 6 0,a 7 15] .skip))) (Qq (Sq [a 16 0,a 17 2,M 18 275 16 17,qa 19 18] (Kq 19 [v 6 0,b 7 8] .skip)) (Sq [a 20 0,a 21 1,a 22 2,Q 23 273 20 21 22] (Rq [v 6 13,b 7 0]))))),[.tmp 6,.tmp 7]⟩
def rM:CC:=(Sq [qc 13 3 12 11] (Qq (Cq 13 .skip (.exit 0)) (Qq (.block 1 (Sq [a 14 12,a 4 14] (Sq [a 15 0,a 16 4,M 17 275 15 16] (Cq 17 (Oq [a 18 3,a 19 4,qM 20 3 1 1 0 0 1 19,qo 21 3 1 8 18 20,a 3 21]) .skip)))) (Oq [C 22 3 12 1,a 12 22]))))
@[go_sem]def abc:CF:=⟨1,(Sq [U 2] (Qq (Sq [a 5 0,y 6 232 5] (Kq 6 [U 2] .skip)) (Sq [U 3] (Qq (Sq [a 7 0,j 8 7,d 9 2 8,i 10 9,N 11 10,b 12 0] (.block 0 (.loop rM))) (Rq [a 23 3,a 2 23]))))),[.tmp 2]⟩
@[go_sem]def abd:CF:=⟨1,(Sq [v 2 0] (Qq (.cn ⟨[([g 0 0,n 1 3 0,m 2 4 1 0,k 3 5 2,g 4 0,n 5 7 4,m 6 8 5 1,k 7 9 6,g 8 0,n 9 11 8,m 10 12 9 2,k 11 13 10],some (qm 12 6 3 10 7 14 11 273)),([],none)],[(0,3),(1,4),(2,5),(3,6),(4,7),(5,8),(6,9),(7,10),(8,11),(9,12),(10,13),(11,14),(12,15)],[]⟩) (Qq (.cn ⟨[([g 0 0,n 1 16 0,m 2 17 1 0,k 3 18 2,n 4 19 3,m 5 20 4 3,k 6 21 5,g 7 0,n 8 23 7,m 9 24 8 2,k 10 25 9,Y 11 22 6 26 10 1],some (zC 12 27 11 1)),([],none)],[(0,16),(1,17),(2,18),(3,19),(4,20),(5,21),(6,22),(7,23),(8,24),(9,25),(10,26),(11,27)],[]⟩) (Sq [a 28 0,j 29 28,d 30 3 29,⟨none,none,.e (.st 1 (.t 30) (.c .dQ))⟩] (Rq [v 2 13]))))),[.tmp 2]⟩
@[go_sem]def OL:CF:=⟨1,(Sq [v 2 0] (Qq (Sq [a 3 0,y 4 417 3,a 5 4,r 6 5 0,qf 7 5 6,J 8 5 3 7,E 9 5 8,jT 10 5 141 9,u 11 5 10] (Kq 11 [v 2 0] .skip)) (Rq [v 2 13]))),[.tmp 2]⟩
@[go_sem]def abe:CF:=⟨1,(Sq [v 2 0,w 3] (Qq (Sq [a 4 0,y 5 417 4,a 6 5,r 7 6 0,qf 8 6 7,J 9 6 3 8,E 10 6 9,jT 11 6 141 10,u 12 6 11] (Kq 12 [v 2 0,w 3] .skip)) (Rq [a 13 0,j 14 13,d 15 3 14,i 16 15,⟨some 17,none,.cv (.t 16) []⟩,a 2 17,qn 3]))),[.tmp 2,.tmp 3]⟩
def pk(l:List Cm):Cm:=⟨fun h=>Sp h l,fun b=>∃c∈l,c.F b,fun hn k s=>⟨fun i x hx=>x.st hn (fun b lb fb=>k b lb ⟨x,List.mem_of_getElem? hx,fb⟩) (s.ok i x hx),s.dj⟩,fun s b ⟨c,hc,fb⟩=>by
 obtain⟨n,hn⟩:=List.getElem?_of_mem hc;exact c.lt (s.ok n c hn) b fb⟩
theorem Sp.pk{h:H}{l L:List Cm}:Sp h (pk l::L)↔Sp h (l++L):=by
 constructor
 ·intro s;refine Sp.of (fun c hc=>?_) ?_
  ·rcases List.mem_append.1 hc with q|q
   ·obtain⟨n,hn⟩:=List.getElem?_of_mem q;exact(show Sp h l from s.ok 0 _ rfl).ok n c hn
   ·obtain⟨n,hn⟩:=List.getElem?_of_mem q;exact s.ok (n+1) c hn
  ·have p:=s.pw;rw[List.pairwise_cons]at p;exact List.pairwise_append.2 ⟨(show Sp h l from s.ok 0 _ rfl).pw,p.2,fun c hc d hd b fb gb=>p.1 d hd b ⟨c,hc,fb⟩ gb⟩
 ·intro s;have p:=List.pairwise_append.1 s.pw;have hI:∀c,c∈l++L->c.I h:=fun c hc=>by
   obtain⟨n,hn⟩:=List.getElem?_of_mem hc;exact s.ok n c hn
  refine Sp.of (fun c hc=>?_) (List.pairwise_cons.2 ⟨fun d hd b ⟨c,hc,fb⟩ gb=>p.2.2 c hc d hd b fb gb,p.2.1⟩);rcases List.mem_cons.1 hc with rfl|q
  ·exact Sp.of (fun c hc=>hI c (List.mem_append_left _ hc)) p.1
  ·exact hI c (List.mem_append_right _ q)
theorem QS.ic{h:H}{k:QQ}{ws:List Int}{m:Nat}{vm:AO}{l R:List Cm}(q:QS h k ws m vm (pk l) R):QS h k ws m vm (pk []) (l++R):=by
 obtain⟨o,w,lv,ev,m1,m2,h1,h2,s⟩:=q;refine⟨o,w,lv,ev,m1,m2,h1,h2,?_⟩;have s1:Sp h (pk l::(qL k lv ws m1 ev m2 vm (pk []) []|>.take 7)++R):=s.perm ?_
 ·have s2:=Sp.pk.1 s1;have s3:Sp h (pk []::(l++((qL k lv ws m1 ev m2 vm (pk []) []|>.take 7)++R))):=Sp.pk.2 s2
  refine s3.perm ?_
  show(pk []::(l++((qL k lv ws m1 ev m2 vm (pk []) []|>.take 7)++R))).Perm ((qL k lv ws m1 ev m2 vm (pk []) []|>.take 7)++pk []::(l++R))
  refine List.Perm.trans ?_ List.perm_middle.symm;refine .cons _ ?_
  rw[←List.append_assoc,←List.append_assoc];exact List.perm_append_comm.append_right R
 ·show((qL k lv ws m1 ev m2 vm (pk []) []|>.take 7)++pk l::R).Perm (pk l::((qL k lv ws m1 ev m2 vm (pk []) []|>.take 7)++R))
  exact List.perm_middle
theorem QS.pk{h:H}{k:QQ}{ws:List Int}{m:Nat}{vm:AO}{l R:List Cm}(q:QS h k ws m vm (pk []) (l++R)):QS h k ws m vm (pk l) R:=by
 obtain⟨o,w,lv,ev,m1,m2,h1,h2,s⟩:=q;refine⟨o,w,lv,ev,m1,m2,h1,h2,?_⟩;have s1:Sp h (CQ.pk []::(l++((qL k lv ws m1 ev m2 vm (CQ.pk []) []|>.take 7)++R))):=s.perm ?_
 ·have s2:Sp h (l++((qL k lv ws m1 ev m2 vm (CQ.pk []) []|>.take 7)++R)):=s1.tail
  refine(Sp.pk.2 s2).perm ?_
  show(CQ.pk l::((qL k lv ws m1 ev m2 vm (CQ.pk []) []|>.take 7)++R)).Perm ((qL k lv ws m1 ev m2 vm (CQ.pk []) []|>.take 7)++CQ.pk l::R)
  exact List.perm_middle.symm
 ·show((qL k lv ws m1 ev m2 vm (CQ.pk []) []|>.take 7)++CQ.pk []::(l++R)).Perm (CQ.pk []::(l++((qL k lv ws m1 ev m2 vm (CQ.pk []) []|>.take 7)++R)))
  refine List.perm_middle.trans (.cons _ ?_);rw[←List.append_assoc,←List.append_assoc];exact List.perm_append_comm.append_right R
def bN(c:aj):Nat:=c.aq.toNat
theorem LB.sl{c:aj}(b:LB c):c.aq=(bN c:Int)/\1<=bN c/\bN c<=64/\(bN c:Int)+bD c=(cD c:Int):=by
 have p:=b.pl;obtain⟨hT,Ib,mL,IG,IH,iD,oU,hd,Eh,MZ,II⟩:=b.lay;unfold bN;refine⟨?_,?_,?_,?_⟩<;>omega
def oI(k:QQ)(N B:Nat):Cm:=aD k.G (ag [.ptr k.a.M 0,.int .i64 (bN k.c:Int),.sl N 0 (bN k.c) 1 (some (bN k.c)),.sl B 0 (bN k.c) 1 (some (bN k.c))] 314)
def pI(k:QQ)(N:Nat)(x:Int):Cm:=aD N (.row (aa 0 (uL (x::List.replicate (bN k.c-1) 0)) T.e) (bN k.c) 50)
def Bc(k:QQ)(B:Nat)(b:Bool):Cm:=aD B (.row (aa 0 ((b::List.replicate (bN k.c-1) false).map AV.bool) T.e) (bN k.c) 4)
def Hd(k:QQ)(X:Nat)(f:AV):Cm:=aD X (ag [.ptr k.G 0,.int .i64 0,.int .i64 0,f] 419)
section
variable {call:ab} {h:H} {k:QQ} {ws:List Int} {m:Nat} {vm:AO} {E:Cm} {R:List Cm} {N B X:Nat} {x:Int}
theorem akY(P:Program)[PF P]{G:Nat}:WF P call aa6 [.ptr G 0,.int .i64 0] h fun v h'=>v=.int .i64 0/\h'=h:=by
 simp only[go_sem,seval]
def rN(call:ab)(f:FuncId):Prop:=∀h G,call f [.ptr G 0,.int .i64 0] h=some (.int .i64 0,h)
theorem akZ(P:Program)[PF P](UL:rN call 277)(q:QS h k ws m vm E (oI k N B::R)):WF P call aa7 [.ptr k.G 0,.int .i64 0,.int .i64 0] h fun v h'=>v=.int .i64 0/\h'=h:=by
 have gG:=(q.at (j:=0) rfl).1;have k1:=UL h k.G;obtain⟨_,s1,s2,_⟩:=q.ar.aw.b.sl;have e1:(0:Int)<(bN k.c:Int):=by omega
 simp only[go_sem,seval,k1,gG,e1]
def OM(call:ab):Prop:=∀h k ws m vm E R N B,QS h k ws m vm E (oI k N B::R)->call 274 [.ptr k.G 0,.int .i64 0,.int .i64 0] h=some (.int .i64 0,h)
theorem ak0(P:Program)[PF P]{s:Nat}{y:Int}(q:QS h k ws m vm E (oI k N B::pI k N x::R))(hs:s<bN k.c)(hy:y=if s=0 then x else 0):WF P call aa8 [.ptr k.G 0,.int .i64 (s:Int)] h fun v h'=>v=.bool (decide (Int.tmod y 2=1))/\h'=h:=by
 have gG:=(q.at (j:=0) rfl).1;have gN:=(q.at (j:=1) rfl).1;have e1:(s:Int)<(bN k.c:Int):=by omega
 have B9:(uL (x::List.replicate (bN k.c-1) 0))[s]?=some (.int .u64 y):=by
  refine kr ?_
  cases s with
  |zero=>rw[hy,if_pos rfl];rfl
  |succ s=>
   rw[hy,if_neg (Nat.succ_ne_zero s),List.getElem?_cons_succ,List.getElem?_replicate,if_pos (by omega)]
 simp only[go_sem,seval,gG,e1,Nat.mul_one,gN,B9]
def He(call:ab):Prop:=∀h k ws m vm E R N B (x:Int) (s:Nat) (y:Int),QS h k ws m vm E (oI k N B::pI k N x::R)->s<bN k.c->(y=if s=0 then x else 0)->call 275 [.ptr k.G 0,.int .i64 (s:Int)] h=some (.bool (decide (Int.tmod y 2=1)),h)
theorem OO(k:QQ)(x:Int)(s:1<=bN k.c):(uL (x::List.replicate (bN k.c-1) 0)).length=bN k.c:=by rw[fm,List.length_cons,List.length_replicate];omega
theorem ak1(P:Program)[PF P](uH:D6 call)(q:QS h k ws m vm E (oI k N B::pI k N x::R))(hm:m<=800000)(x0:0<=x)(x1:x<=1000):
 WF P call aa9 [.ptr k.G 0,.int .i64 0,.int .i64 0] h fun v h'=>v=.aE []/\h.next<=h'.next/\QS h' k (ws.set (bN k.c) (x+1)) (m+1) vm E (oI k N B::pI k N (x+1)::R):=by
 have gG:=(q.at (j:=0) rfl).1;have gN:=(q.at (j:=1) rfl).1;obtain⟨_,s1,s2,s3⟩:=q.ar.aw.b.sl;obtain⟨_,_,_,p4,_,p6,_⟩:=q.ar.aw.b.pl;have hl:=q.ar.len;have b:=q.ar.aw.b.dq;have e1:(0:Int)<(bN k.c:Int):=by omega
 have f1:fw .u64 (x+1)=x+1:=uE (by omega) (by omega);have f2:fw .i64 ((bN k.c:Int))=(bN k.c:Int):=aS (by omega) (by omega);obtain⟨y,hy⟩:∃y,ws[bN k.c]?=some y:=⟨_,List.getElem?_eq_getElem (by omega)⟩;have q1:=q.put (j:=1) rfl (.row (aa 0 (uL ((x+1)::List.replicate (bN k.c-1) 0)) T.e) (bN k.c) 50);have g1:=(q1.at (j:=0) rfl).1;have g2:=(q1.at (j:=1) rfl).1;obtain⟨h3,e3,n3,q3⟩:=q1.store uH (by omega) (i:=bN k.c) (z:=x+1) hy (by omega);have XH:h.next<=h3.next:=n3;have hi:(uL (x::List.replicate (bN k.c-1) 0))[0]?=some (.int .u64 x):=rfl;have vf:(uL ((x+1)::List.replicate (bN k.c-1) 0))[0]?=some (.int .u64 (x+1)):=rfl;have ln:=OO k x s1;have UM:0<bN k.c:=by omega
 have es:(uL (x::List.replicate (bN k.c-1) 0)).set 0 (.int .u64 (x+1))=uL ((x+1)::List.replicate (bN k.c-1) 0):=rfl;have ln1:1<=bN k.c:=s1;simp only[go_sem,seval,gG,e1,gN,hi,ln,UM,ln1,f1,es,g1,g2,vf,Int.add_zero,f2,e3,XH];exact q3
def OP(call:ab):Prop:=∀h k ws m vm E R N B (x:Int),QS h k ws m vm E (oI k N B::pI k N x::R)->m<=800000->0<=x->x<=1000->aG call 273 [.ptr k.G 0,.int .i64 0,.int .i64 0] h fun v h'=>v=.aE []/\h.next<=h'.next/\QS h' k (ws.set (bN k.c) (x+1)) (m+1) vm E (oI k N B::pI k N (x+1)::R)
theorem rO(q:Nat):Int.tmod (2*(q:Int)) 2=0:=by rw[Int.tmod_eq_emod_of_nonneg (by omega)];omega
theorem FO(q:Nat):Int.tmod (2*(q:Int)+1) 2=1:=by rw[Int.tmod_eq_emod_of_nonneg (by omega)];omega
theorem FP(k:QQ)(b:Bool)(s:1<=bN k.c):((b::List.replicate (bN k.c-1) false).map AV.bool).length=bN k.c:=by rw[List.length_map,List.length_cons,List.length_replicate];omega
theorem ak2(P:Program)[PF P](JV:OM call)(Bd:He call){j:Nat}(q:QS h k ws m vm E (oI k N B::pI k N (2*(j:Int))::Bc k B false::R)){v:Int}(v0:0<=v)(v1:v<64):
 WF P call aba [.ptr k.G 0,.int .i64 0,.int .i64 0,.int .i64 v] h fun r h'=>h.next<=h'.next/\∃X,r=.aE [.ptr X 0,.int .i64 0]/\QS h' k ws m vm E (oI k N B::pI k N (2*(j:Int))::Bc k B true::Hd k X (.fn (.func 276) [.ptr X 0] [])::R):=by
 have gG:=(q.at (j:=0) rfl).1;obtain⟨gB,lB⟩:=q.at (j:=2) rfl;obtain⟨_,s1,s2,s3⟩:=q.ar.aw.b.sl;have k1:=JV h k ws m vm E _ N B q;have k2:=Bd h k ws m vm E _ N B _ 0 _ q (by omega) rfl;rw[if_pos rfl,rO]at k2;have Ch:call 275 [.ptr k.G 0,.int .i64 0] h=some (.bool false,h):=k2;have e1:(0:Int)<(bN k.c:Int):=by omega
 have e2:¬v<0:=by omega
 have hi:((false::List.replicate (bN k.c-1) false).map AV.bool)[0]?=some (.bool false):=rfl;have ln:=FP k false s1;have UM:0<bN k.c:=s1;have q1:=((q.put (j:=2) rfl (.row (aa 0 ((true::List.replicate (bN k.c-1) false).map AV.bool) T.e) (bN k.c) 4)).box (ag [.ptr k.G 0,.int .i64 0,.int .i64 0,.fn (.func 276) [.ptr h.next 0] []] 419)).perm (.trans (.swap _ _ _) (.cons _ (.trans (.swap _ _ _) (.cons _ (.swap _ _ _)))));simp only[go_sem,seval,k1,e2,v1,gG,e1,gB,hi,Ch,ln,UM,s1];exact⟨_,rfl,q1⟩
theorem ak3(P:Program)[PF P](JW:OP call){j:Nat}(hj:j<=400)(q:QS h k ws m vm E (oI k N B::pI k N (2*(j:Int))::Bc k B true::Hd k X (.fn (.func 276) [.ptr X 0] [])::R))(hm:m<=800000):
 WF P call abd [.ptr X 0] h fun r h'=>r=.int .u8 13/\h.next<=h'.next/\∃z,QS h' k (ws.set (bN k.c) z) (m+1) vm E (oI k N B::pI k N (2*(j:Int)+1)::Bc k B false::Hd k X .dQ::R):=by
 have gX:=(q.at (j:=3) rfl).1;obtain⟨_,s1,s2,s3⟩:=q.ar.aw.b.sl;simp only[go_sem,seval,gX];refine af (JW h k ws m vm E _ N B _ q hm (by omega) (by omega)) fun v1 h1 p1=>?_
 obtain⟨rfl,n1,q1⟩:=p1;have fI:=(q1.at (j:=3) rfl).1;have gG1:=(q1.at (j:=0) rfl).1;have AK:=(q1.at (j:=2) rfl).1;have q2:=q1.put (j:=2) rfl (.row (aa 0 ((false::List.replicate (bN k.c-1) false).map AV.bool) T.e) (bN k.c) 4);have kE:=(q2.at (j:=3) rfl).1;have q3:=q2.put (j:=3) rfl (ag [.ptr k.G 0,.int .i64 0,.int .i64 0,.dQ] 419);have e1:(0:Int)<(bN k.c:Int):=by omega
 have ln:=FP k true s1;have UM:0<bN k.c:=s1;have es:((true::List.replicate (bN k.c-1) false).map AV.bool).set 0 (.bool false)=(false::List.replicate (bN k.c-1) false).map AV.bool:=rfl;simp only[go_sem,seval,fI,gG1,e1,AK,ln,UM,s1,es,kE,n1];exact⟨_,q3⟩
def UN(call:ab):Prop:=∀h k ws m vm E R N B X (j:Nat),j<=400->QS h k ws m vm E (oI k N B::pI k N (2*(j:Int))::Bc k B true::Hd k X (.fn (.func 276) [.ptr X 0] [])::R)->m<=800000->aG call 276 [.ptr X 0] h fun r h'=>r=.int .u8 13/\h.next<=h'.next/\∃z,QS h' k (ws.set (bN k.c) z) (m+1) vm E (oI k N B::pI k N (2*(j:Int)+1)::Bc k B false::Hd k X .dQ::R)
theorem ak5(P:Program)[PF P](UO:UN call){j:Nat}(hj:j<=400)(q:QS h k ws m vm E (oI k N B::pI k N (2*(j:Int))::Bc k B true::Hd k X (.fn (.func 276) [.ptr X 0] [])::R))(hm:m<=800000):
 WF P call abe [.ptr X 0] h fun r h'=>r=.aE [.int .u8 13,.bool true]/\h.next<=h'.next/\∃z,QS h' k (ws.set (bN k.c) z) (m+1) vm E (oI k N B::pI k N (2*(j:Int)+1)::Bc k B false::Hd k X .dQ::R):=by
 have gX:=(q.at (j:=3) rfl).1;have fn:=Yb P;simp only[go_sem,seval,gX,fn];refine af (UO h k ws m vm E R N B X j hj q hm) fun v1 h1 p1=>?_
 obtain⟨rfl,p1⟩:=p1;simp only[go_sem,seval];exact p1
theorem ak6(P:Program)[PF P]{a b c:AV}(g:h.t.get X=some (ag [a,b,c,.fn (.func 276) [.ptr X 0] []] 419)):WF P call OL [.ptr X 0] h fun r h'=>r=.int .u8 13/\h'=h:=by
 have fn:=Yb P;simp only[go_sem,seval,OL,g,fn]
theorem abf(P:Program)[PF P]{a b c:AV}(g:h.t.get X=some (ag [a,b,c,.dQ] 419)):WF P call OL [.ptr X 0] h fun r h'=>r=.int .u8 0/\h'=h:=by
 have fn:=Yc P;simp only[go_sem,seval,g,fn]
theorem ak7(P:Program)[PF P](JV:OM call)(Bd:He call)(JW:OP call){j:Nat}(hj:j<=400)(q:QS h k ws m vm E (oI k N B::pI k N (2*(j:Int)+1)::R))(hm:m<=800000):
 WF P call abb [.ptr k.G 0,.int .i64 0,.int .i64 0] h fun r h'=>r=.aE [.int .u8 13,.int .i64 0]/\h.next<=h'.next/\∃z,QS h' k (ws.set (bN k.c) z) (m+1) vm E (oI k N B::pI k N (2*((j+1:Nat):Int))::R):=by
 obtain⟨_,s1,s2,s3⟩:=q.ar.aw.b.sl;have k1:=JV h k ws m vm E _ N B q;have k2:=Bd h k ws m vm E _ N B _ 0 _ q (by omega) rfl;rw[if_pos rfl,FO]at k2;have Ch:call 275 [.ptr k.G 0,.int .i64 0] h=some (.bool true,h):=k2;simp only[go_sem,seval,k1,Ch];refine af (JW h k ws m vm E _ N B _ q hm (by omega) (by omega)) fun v1 h1 p1=>?_
 obtain⟨rfl,n1,q1⟩:=p1;rw[show 2*(j:Int)+1+1=2*((j+1:Nat):Int) by omega]at q1;simp only[go_sem,seval];exact⟨n1,_,q1⟩
def UQ(h:H)(k:QQ)(n:Nat)(tm:T AV)(h':H):Prop:=h'=h/\tm.get 0=some (.ptr k.G 0)/\tm.get 3=some .ax/\tm.get 11=some (.int .i64 (bN k.c:Int))/\∃i:Nat,i+n=bN k.c/\tm.get 12=some (.int .i64 (i:Int))
theorem OQ(P:Program)[PF P](Bd:He call){j:Nat}(q:QS h k ws m vm E (oI k N B::pI k N (2*(j:Int))::R))(n:Nat)(tm:T AV)(h':H)(hI:UQ h k n tm h'):
 WC P call rM (bM 0 (fun tm h'=>∃n',n'<n/\UQ h k n' tm h') (fun tm h'=>h'=h/\tm.get 3=some .ax) (fun _ _=>False)) tm h':=by
 obtain⟨rfl,t0,t3,t11,i,fH,t12⟩:=hI;obtain⟨_,s1,s2,s3⟩:=q.ar.aw.b.sl;cases n with
 |zero=>
  have e1:¬(i:Int)<(bN k.c:Int):=by omega
  simp only[go_sem,seval,rM,t11,t12,e1];simp only[go_sem,seval,t3]
 |succ n=>
  have e1:(i:Int)<(bN k.c:Int):=by omega
  have f1:fw .i64 ((i:Int)+1)=(i:Int)+1:=aS (by omega) (by omega);have e3:((i+1:Nat):Int)=(i:Int)+1:=rfl;have k2:=Bd h' k ws m vm E _ N B _ i _ q (by omega) rfl;have z:decide (Int.tmod (if i=0 then 2*(j:Int)else 0) 2=1)=false:=by
   split
   ·rw[rO];rfl
   ·rfl
  rw[z]at k2;simp only[go_sem,seval,rM,t0,t11,t12,e1,k2,f1];exact⟨n,Nat.lt_succ_self n,rfl,by simp[go_sem,t0],by simp[go_sem,t3],by simp[go_sem,t11],i+1,by omega,by simp[go_sem,e3]⟩
theorem ak8(P:Program)[PF P](Bd:He call){j:Nat}(q:QS h k ws m vm E (oI k N B::pI k N (2*(j:Int))::R)):WF P call abc [.ptr k.G 0] h fun r h'=>r=.ax/\h'=h:=by
 have gG:=(q.at (j:=0) rfl).1;simp only[go_sem,seval,gG];refine aT (UQ h k) _ _ (fun n tm h' hI=>OQ P Bd q n tm h' hI) (fun dC h2 hR=>?_) (fun _ _ hh=>hh.elim) (bN k.c) _ _
  ⟨rfl,by simp[go_sem],by simp[go_sem],by simp[go_sem],0,by omega,by simp[go_sem]⟩
 obtain⟨rfl,t3⟩:=hR;simp only[go_sem,seval,t3]
end
end
end Go.Proofs.YtgkjlklfjbljeaaGreat.CQ
