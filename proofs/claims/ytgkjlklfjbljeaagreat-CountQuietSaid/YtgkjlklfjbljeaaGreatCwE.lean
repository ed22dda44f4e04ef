/-
  What functions of the program compute. Conditions: those of each theorem.
-/
import Derived.Test.YtgkjlklfjbljeaaGreatCwD
set_option linter.all false
namespace Go.Proofs.YtgkjlklfjbljeaaGreat.CQ
open Go.Proofs.YtgkjlklfjbljeaaGreat.Eo
noncomputable section
variable(P:Program)[PT P]{call:ab}
def mU:CC:=(Qq (Sq [a 26 8,d 27 2 2,i 28 27,N 29 28,qc 30 3 26 29] (Cq 30 .skip (.exit 1))) (Qq (.block 2 (Sq [d 33 2 2,i 34 33,a 35 8,G 36 1 34 35,i 37 36,a 38 1,zs 39 50 37 38] (Cq 39 (Oq [a 40 7,C 41 3 40 1,a 7 41]) .skip))) (Oq [a 31 8,C 32 3 31 1,a 8 32])))
@[go_sem]def ZG:CF:=⟨2,(Sq [z 2 24 0,b 4 0,b 5 0] (Sq [S 9 3 2,q 10 116 9,a 6 10] (Qq (Sq [a 11 6,A 12 41 11 0] (Kq 12 [a 13 6,b 4 0,a 5 13] .skip)) (Qq (Sq [d 14 0 2,i 15 14] (.block 0 (Sq [L 17 5 15 2,a 16 17] (Kq 16 [a 18 1,d 19 1 2,i 20 19,qQ 21 20,zy 22 50 18 21,qD 23 22,a 4 23,b 5 0] (Sq [L 25 5 15 3,a 24 25] (Cq 24 (Sq [b 7 0] (Qq (Sq [b 8 0] (.block 1 (.loop mU))) (Rq [a 42 7,a 4 42,b 5 0]))) .skip)))))) (Rq [b 4 0,b 5 0]))))),[.tmp 4,.tmp 5]⟩
@[go_sem]def ZH:CF:=⟨3,(Sq [b 6 0,b 7 0] (Qq (Sq [a 11 0,y 12 91 11] (Kq 12 [b 6 0,b 7 1] .skip)) (Sq [a 14 0,j 15 14,d 16 1 15,i 17 16,a 18 1,a 19 2,Q 20 84 17 18 19,a 13 20,o 21 13 0,o 22 13 1,a 8 21,a 9 22] (Qq (Sq [a 23 9,A 24 41 23 0] (Kq 24 [a 25 9,b 6 0,a 7 25] .skip)) (Qq (Sq [a 26 0,j 27 26,d 28 0 27,i 29 28,j 30 29,d 31 0 30,i 32 31,a 33 8,G 34 1 32 33,i 35 34,a 10 35] (Sq [a 36 10,a 37 0,j 38 37,d 39 1 38,i 40 39,j 41 40,d 42 26 41,i 43 42,N 44 43,qQ 45 44,zs 46 50 36 45] (Kq 46 [a 47 10,qD 48 47,a 6 48,b 7 0] .skip))) (Rq [b 6 0,b 7 0])))))),[.tmp 6,.tmp 7]⟩
@[go_sem]def c70:CF:=⟨2,(Sq [z 2 33 0,qd 4 0] (Sq [d 8 1 2,i 9 8,j 10 9,d 11 0 10,i 12 11,a 13 1,zz 14 138 12 13 0,a 7 14,o 15 7 0,o 16 7 1,a 5 15,a 6 16] (Rq [d 17 1 2,i 18 17,j 19 18,d 20 1 19,i 21 20,j 22 21,d 23 0 22,i 24 23,a 25 5,G 26 1 24 25,i 27 26,a 4 27]))),[.tmp 4]⟩
@[go_sem]def c69:CF:=⟨2,(Sq [z 2 33 0,b 4 0] (Sq [d 8 1 2,i 9 8,j 10 9,d 11 0 10,i 12 11,j 13 12,d 14 0 13,d 15 4 14,S 16 3 15,a 17 1,M 18 137 16 17,a 7 18,o 19 7 0,o 20 7 1,a 5 19,a 6 20] (Rq [a 21 5,a 4 21]))),[.tmp 4]⟩
def AP:CC:=(.block 1 (Sq [a 47 0,a 48 12,a 49 2,Q 50 136 47 48 49,a 46 50,o 51 46 0,o 52 46 1,a 13 51,a 14 52] (Qq (Sq [a 53 13,qe 54 127 53 0,a 55 54,r 56 55 11,r 57 55 13,zW 58 55 1 56 57,E 59 55 58,u 60 55 59,a 61 60,r 62 61 0,qf 63 61 62,J 64 61 1 63,E 65 61 64,qf 66 61 65,J 67 61 26 66,E 68 61 67,r 69 61 13,jC 70 61 127 69 1,zW 71 61 1 68 70,E 72 61 71,r 73 61 2,⟨some 74,some (61,false),.p (.bin .leq 3 false false (.t 72) (.t 73))⟩,u 75 61 74] (Kq 75 [a 76 10,a 6 76,b 7 0] .skip)) (Sq [a 77 11,a 78 13,G 79 1 77 78,zk 1 79] (Sq [a 80 10,a 81 13,qM 82 3 1 1 0 0 1 81,qo 83 3 1 8 80 82,a 10 83] (Oq [a 84 13,a 12 84]))))))
@[go_sem]def c68:CF:=⟨3,(Sq [U 6,b 7 0] (Qq (Sq [a 15 0,y 16 91 15] (Kq 16 [U 6,b 7 1] .skip)) (Qq (Sq [a 18 0,j 19 18,d 20 1 19,i 21 20,a 22 1,q2 23 3 (-1) 22,a 24 2,Q 25 84 21 23 24,a 17 25,o 26 17 0,o 27 17 1,a 8 26,a 9 27] (Sq [a 28 1,D 29 3 28 0,a 30 29,r 31 30 9,zu 32 30 41 31 0,u 33 30 32] (Kq 33 [U 6,b 7 3] .skip))) (Sq [U 10] (Sq [a 34 0,j 35 34,d 36 1 35,i 37 36,j 38 37,d 39 26 38,i 40 39,N 41 40,C 42 3 41 1,⟨some 43,none,.n (.yb 4 1 1 [.bool false] (.t 42) (.t 42))⟩,a 11 43] (Sq [a 44 1,q2 45 3 (-1) 44,a 12 45] (.block 0 (.loop AP)))))))),[.tmp 6,.tmp 7]⟩
def Jv(n:Int)(h:H)(v:AV)(h':H):Prop:=(∃x:Int,v=.aE [.int .i64 x,.int .i64 0]/\0<=x/\x<n)/\ae h h'
theorem Jw{h:H}{v:AV}{l:List Int}{i:Nat}{x:Int}(r:cm none 1 h v (uL l))(hx:l[i]?=some x):∃a o cap,v=.sl a o l.length 1 cap/\uT h.t.get none a (o+i)=some (.int .u64 x):=by
 rcases r with⟨_,e⟩|⟨a,o,cap,e,_,k⟩
 ·cases l with
  |nil=>simp at hx
  |cons y l=>simp[uL]at e
 ·have:=k i _ (kr hx);rw[Nat.mul_one]at this;rw[fm]at e;exact⟨a,o,cap,e,this⟩
def I48(h0:H)(D:Nat)(kd n:AV)(v:AV)(y:Int)(l:List Int)(k:Nat)(tm:T AV)(h:H):Prop:=
 tm.get 1=some (.int .u64 y)/\tm.get 2=some (.ptr D 0)/\h=h0/\∃(i:Nat) (c:Int),i+k=l.length/\tm.get 8=some (.int .i64 (i:Int))/\tm.get 7=some (.int .i64 c)/\0<=c/\c<=i
theorem S7(P:Program){call:ab}{h0:H}{D:Nat}{kd n v:AV}{y:Int}{l:List Int}(gD:h0.t.get D=some (.row (aa 0 [kd,n,v] T.e) 3 24))(hv:cm none 1 h0 v (uL l))(hl:l.length<64)(k:Nat)(tm:T AV)(h:H)(hI:I48 h0 D kd n v y l k tm h):
 WC P call mU (bM 1 (fun tm h=>∃j,j<k/\I48 h0 D kd n v y l j tm h) (fun tm h=>h=h0/\∃c:Int,tm.get 7=some (.int .i64 c)/\0<=c/\c<=l.length) (fun _ _=>False)) tm h:=by
 obtain⟨t1,t2,rfl,i,c,Cu,t30,t7,c0,c1⟩:=hI;have pD:=hv.bR;rw[fm]at pD;cases k with
 |zero=>
  have e1:¬(i:Int)<(l.length:Int):=by omega
  simp only[go_sem,seval,mU,t2,gD,pD,t30,e1];exact⟨c,by simp[go_sem,t7],c0,by omega⟩
 |succ k=>
  have e1:(i:Int)<(l.length:Int):=by omega
  have f1:fw .i64 ((i:Int)+1)=(i:Int)+1:=aS (by omega) (by omega);have f2:fw .i64 (c+1)=c+1:=aS (by omega) (by omega);have e3:((i+1:Nat):Int)=(i:Int)+1:=rfl;obtain⟨x,hx⟩:∃x,l[i]?=some x:=⟨_,List.getElem?_eq_getElem (by omega)⟩;obtain⟨a,o,cap,rfl,g⟩:=Jw hv hx;rw[ko]at g
  by_cases Ie:y<x
  ·simp only[go_sem,seval,mU,t1,t2,gD,t30,e1,Nat.mul_one,g,Ie,f1];exact⟨k,Nat.lt_succ_self k,by simp[go_sem,t1],by simp[go_sem,t2],rfl,i+1,c,by omega,by simp[go_sem,e3],by simp[go_sem,t7],c0,by omega⟩
  ·simp only[go_sem,seval,mU,t1,t2,gD,t30,e1,Nat.mul_one,g,Ie,f1,t7,f2];exact⟨k,Nat.lt_succ_self k,by simp[go_sem,t1],by simp[go_sem,t2],rfl,i+1,c+1,by omega,by simp[go_sem,e3],by simp[go_sem],by omega,by omega⟩
theorem ai6(P:Program){call:ab}(D8:ND call){h:H}{kd n y:Int}{v:AV}{l:List Int}(hd:cJ kd n l)(hv:cm none 1 h v (uL l))(dE:∀a,own v=some a->a<h.next)(fH:∀x∈l,kB x)(y0:0<=y):
 WF P call ZG [.agg [.int .u8 kd,.int .i64 n,v],.int .u64 y] h (Jv (db kd n l) h):=by
 have ov:=hv.one;have cr:=ae.new h (.row (aa 0 [.int .u8 kd,.int .i64 n,v] T.e) 3 24);simp only[go_sem,seval,ov];refine af (D8 _ kd n v l (hv.aF fun b hb=>cr.old b (dE b hb)) (fun a ha=>Nat.lt_succ_of_lt (dE a ha)) fH) fun v1 h1 p1=>?_
 obtain⟨e,rfl,he,bC⟩:=p1;obtain rfl:=he.2 hd;have g1:=bC.old h.next (Nat.lt_succ_self _);simp only[go_sem,seval]at g1;have fC:=cr.trans bC;rcases hd with⟨rfl,rfl,rfl⟩|⟨rfl,hn,rfl⟩|⟨rfl,rfl,Cf,Fw,_⟩
 ·simp only[go_sem,seval,g1];exact⟨⟨0,rfl,by omega,by unfold db;decide⟩,fC⟩
 ·have z:¬n=0:=by omega
  have f1:fw .u64 n=n:=uE (by omega) (by omega);have a1:0<=Int.tmod y n:=Int.tmod_nonneg _ y0;have a2:Int.tmod y n<n:=Int.tmod_lt_of_pos y (by omega);have f2:fw .i64 (Int.tmod y n)=Int.tmod y n:=aS (by omega) (by omega);simp only[go_sem,seval,g1,f1,z,f2];exact⟨⟨_,rfl,a1,a2⟩,fC⟩
 ·have xU:=hv.aF fun b hb=>fC.old b (dE b hb)
  have pD:=xU.bR;rw[fm]at pD;simp only[go_sem,seval,g1,pD];refine aT (I48 h1 h.next (.int .u8 3) (.int .i64 0) v y l) _ _ (fun k tm h' hI=>S7 P g1 xU Fw k tm h' hI) (fun dC h2 hR=>?_) (fun _ _ hh=>hh.elim) l.length _ _
   ⟨by simp[go_sem],by simp[go_sem],rfl,0,0,by omega,by simp[go_sem],by simp[go_sem],by omega,by omega⟩
  obtain⟨rfl,c,t7,c0,c1⟩:=hR;simp only[go_sem,seval,t7];exact⟨⟨c,rfl,c0,by unfold db;rw[if_neg (by decide),if_pos rfl];omega⟩,fC⟩
def S8(call:ab):Prop:=∀h (kd n y:Int) v l,cJ kd n l->cm none 1 h v (uL l)->(∀a,own v=some a->a<h.next)->(∀x∈l,kB x)->0<=y->aG call 137 [.agg [.int .u8 kd,.int .i64 n,v],.int .u64 y] h (Jv (db kd n l) h)
structure AB where
 B:Nat
 L:Nat
 M:Nat
 Po:Nat
 To:Nat
 W:Nat
 cv:AV
 hv:AV
 wv:AV
structure BV(h:H)(a:AB)(c:aj)(ws:List Int):Prop where
 gB:∃rest,h.t.get a.B=some (ag (.ptr a.L 0::.ptr a.M 0::.ptr a.Po 0::.ptr a.To 0::rest) 95)
 gT:h.t.get a.To=some (ag [.ptr a.M 0,.ptr a.L 0] 258)
 mm:∃lv,fN h a.M a.W ws lv
 lay:iX h a.L c a.cv a.hv a.wv
 lt:a.B<h.next/\a.To<h.next/\a.M<h.next/\a.W<h.next
 b:LB c
 len:(ws.length:Int)=(aA c).wo
 nn:∀(i:Nat) (x:Int),ws[i]?=some x->0<=x
 cu:∀x∈c.aI,kB x
theorem BV.step{h h':H}{a:AB}{c:aj}{ws:List Int}(m:BV h a c ws)(s:ae h h'):BV h' a c ws:=by
 obtain⟨⟨rest,gB⟩,gT,⟨lv,mm⟩,lay,⟨l1,l2,l3,l4⟩,b,len,nn,cu⟩:=m;have l:∀{x},x<h.next->x<h'.next:=fun q=>Nat.lt_of_lt_of_le q s.next
 exact⟨⟨rest,(s.old _ l1).trans gB⟩,(s.old _ l2).trans gT,⟨lv,mm.step l3 l4 s⟩,lay.step s,⟨l l1,l l2,l l3,l l4⟩,b,len,nn,cu⟩
theorem BV.at{h:H}{a:AB}{c:aj}{ws:List Int}(m:BV h a c ws){r k:Int}(n:Nd c r k):∃w,ws[(kD c r k).toNat]?=some w/\0<=w:=by
 obtain⟨_,h2,h3,_⟩:=n.at m.b;have:=m.len;have hw:ws[(kD c r k).toNat]?=some _:=List.getElem?_eq_getElem (by omega);exact⟨_,hw,m.nn _ _ hw⟩
theorem ai7(P:Program)[PF P]{call:ab}(Mn:Xw call){h:H}{a:AB}{c:aj}{ws:List Int}(m:BV h a c ws){r k w:Int}(n:Nd c r k)(hw:ws[(kD c r k).toNat]?=some w):
 WF P call ZH [.ptr a.To 0,.int .i64 r,.int .i64 k] h fun v h'=>v=.aE [.int .i64 (if w<=((aH c).length:Int)then w else 0),.int .i64 0]/\ae h h':=by
 obtain⟨_,h2,h3,_⟩:=n.at m.b;have gT:=m.gT;have w0:=m.nn _ _ hw;have D7:=m.b.Ce;simp only[go_sem,seval,gT];refine af (Mn h a.L c a.cv a.hv a.wv r k m.lay m.b n) fun v1 h1 p1=>?_
 obtain⟨rfl,st⟩:=p1;have m1:=m.step st;have Jx:=m1.gT;obtain⟨lv,mm⟩:=m1.mm;have gM:=mm.g;have gW:=mm.w;have gL:=m1.lay.g;have hl:=m1.lay.rh.bR;rw[gU]at hl;have hx:=kr hw;have hlen:=m.len;obtain⟨i,hi⟩:∃i:Nat,kD c r k=(i:Int):=⟨(kD c r k).toNat,by omega⟩;rw[hi]at hx h3;rw[show((i:Int)).toNat=i by omega]at hx;have e1:(i:Int)<(ws.length:Int):=by omega
 have f1:fw .u64 ((aH c).length:Int)=((aH c).length:Int):=uE (by omega) (by omega)
 by_cases e2:w<=((aH c).length:Int)
 ·have f2:fw .i64 w=w:=aS (by omega) (by omega);have e3:¬((aH c).length:Int)<w:=by omega
  simp only[go_sem,seval,Jx,gM,gW,gL,au,cb,hl,hi,e1,Nat.mul_one,hx,f1,f2,e2,e3];exact st
 ·have e3:((aH c).length:Int)<w:=by omega
  simp only[go_sem,seval,Jx,gM,gW,gL,au,cb,hl,hi,e1,Nat.mul_one,hx,f1,e2,e3];exact st
def NZ(call:ab):Prop:=∀h a c ws (r k w:Int),BV h a c ws->Nd c r k->ws[(kD c r k).toNat]?=some w->Giv call 136 [.ptr a.To 0,.int .i64 r,.int .i64 k] h (.aE [.int .i64 (if w<=((aH c).length:Int)then w else 0),.int .i64 0])
def N0(call:ab)(f:FuncId)(args:List AV)(h:H)(Q:AV->Prop):Prop:=aG call f args h fun v' h'=>Q v'/\ae h h'
theorem w70(P:Program)[PF P]{call:ab}(Jy:NY call){h:H}{A:Nat}{a:AB}{c:aj}{ws:List Int}(m:BV h a c ws){i:Nat}{x:Int}(hx:(aH c)[i]?=some x):
 WF P call c70 [.agg [.ptr A 0,.ptr a.B 0],.int .i64 ((i:Int)+1)] h fun v h'=>(∃y:Int,v=.int .u64 y/\0<=y)/\ae h h':=by
 obtain⟨y,hy,y0,y1,x1,x6,i6⟩:=m.b.tw hx;obtain⟨n1,n2,n3,n4,n5,n6,n7,n8,n9,rH,rI⟩:=m.b.dq;have hv:=m.b.val;have cr:=ae.new h (ag [.ptr A 0,.ptr a.B 0] 33);have m0:=m.step cr;obtain⟨rest,gB⟩:=m.gB;have hb:¬a.B=h.next:=by have:=m.lt.1;omega
 simp only[go_sem,seval,gB,hb];refine af (Jy _ a.L c a.cv a.hv a.wv i x y 0 m0.lay m.b hx hy (by decide)) fun v1 h1 p1=>?_
 obtain⟨rfl,st⟩:=p1;have m1:=m0.step st;have g2:=st.old h.next (Nat.lt_succ_self _);simp only[go_sem,seval]at g2;obtain⟨ZI,AK⟩:=m1.gB;obtain⟨lv,mm⟩:=m1.mm;have gM:=mm.g;have gW:=mm.w;have hlen:=m.len;obtain⟨j,hj⟩:∃j:Nat,y+((0:Nat):Int)=(j:Int):=⟨y.toNat,by omega⟩;obtain⟨z,hz⟩:∃z,ws[j]?=some z:=⟨_,List.getElem?_eq_getElem (by omega)⟩;have hz1:=kr hz;have e1:(j:Int)<(ws.length:Int):=by omega
 have ZJ:y+0=(j:Int):=by omega
 simp only[go_sem,seval,g2,AK,gM,gW,hj,ZJ,e1,Nat.mul_one,hz1];exact⟨⟨z,rfl,m.nn _ _ hz⟩,cr.trans st⟩
def Xx(call:ab):Prop:=∀h A a c ws (i:Nat) (x:Int),BV h a c ws->(aH c)[i]?=some x->N0 call 70 [.agg [.ptr A 0,.ptr a.B 0],.int .i64 ((i:Int)+1)] h fun v=>∃y:Int,v=.int .u64 y/\0<=y
theorem w69(P:Program)[PF P]{call:ab}(S9:S8 call){h:H}{A:Nat}{a:AB}{c:aj}{ws:List Int}(m:BV h a c ws){y:Int}(y0:0<=y):
 WF P call c69 [.agg [.ptr A 0,.ptr a.B 0],.int .u64 y] h fun v h'=>(∃x:Int,v=.int .i64 x/\0<=x/\x<ir c)/\ae h h':=by
 have cr:=ae.new h (ag [.ptr A 0,.ptr a.B 0] 33);have m0:=m.step cr;obtain⟨rest,gB⟩:=m.gB;have hb:¬a.B=h.next:=by have:=m.lt.1;omega
 have oU:¬a.L=h.next:=by have:=m.lay.lt a.L (.inl rfl);omega
 have gL:=m.lay.g;obtain⟨hT,Ib,mL,IG,IH,iD,awe,hd,Eh,MZ,II⟩:=m.b.lay;simp only[go_sem,seval,gB,hb,gL,oU,au,cb];refine af (S9 _ c.kind c.n y a.cv c.aI hd m0.lay.rd (fun b hb=>m0.lay.lt b (.inr (.inl hb))) m.cu y0) fun v1 h1 p1=>?_
 obtain⟨⟨x,rfl,x0,x1⟩,st⟩:=p1;simp only[go_sem,seval];exact⟨⟨x,rfl,x0,x1⟩,cr.trans st⟩
def F69(call:ab):Prop:=∀h A a c ws (y:Int),BV h a c ws->0<=y->N0 call 69 [.agg [.ptr A 0,.ptr a.B 0],.int .u64 y] h fun v=>∃x:Int,v=.int .i64 x/\0<=x/\x<ir c
def Ta(h0:H)(a:AB)(c:aj)(ws:List Int)(k:Int)(S:Int->Prop)(n:Nat)(tm:T AV)(h:H):Prop:=
 tm.get 0=some (.ptr a.To 0)/\tm.get 2=some (.int .i64 k)/\ae h0 h/\∃(r:Int) (sn:List Bool) (v:AV) (l:List Int) (Sb:Nat),tm.get 12=some (.int .i64 r)/\S r/\sn.count false=n/\sn.length=(aH c).length+1/\tm.get 11=some (.sl Sb 0 sn.length 1 (some sn.length))/\h.t.get Sb=some (.row (aa 0 (sn.map AV.bool) T.e) sn.length 4)/\tm.get 10=some v/\Own 1 3 h v l.length (iL l)/\(∀b,own v=some b->Sb<b)/\h0.next<=Sb/\Sb<h.next/\(∀t∈l,S t/\0<t)/\l.length+n<=100
theorem N6{sn:List Bool}{i:Nat}(h:sn[i]?=some false):(sn.set i true).count false+1=sn.count false:=by
 induction sn generalizing i with
 |nil=>simp at h
 |cons b sn ih=>
  cases i with
  |zero=>
   obtain rfl:b=false:=Option.some.inj h;simp
  |succ i=>
   have:=ih (i:=i) h;rw[List.set_cons_succ,List.count_cons,List.count_cons];omega
theorem N8(P:Program)[PF P]{call:ab}(Jz:NZ call){h0:H}{a:AB}{c:aj}{ws:List Int}(m0:BV h0 a c ws){k:Int}{S:Int->Prop}(hS:∀r,S r->Nd c r k)(iT:∀r (i:Nat) (x:Int),S r->ws[(kD c r k).toNat]?=some ((i:Int)+1)->(aH c)[i]?=some x->k<x->S ((i:Int)+1))(n:Nat)(tm:T AV)(h:H)(hI:Ta h0 a c ws k S n tm h):
 WC P call AP (bM 0 (fun tm h=>∃j,j<n/\Ta h0 a c ws k S j tm h) (fun _ _=>False) (fun tm h=>ae h0 h/\tm.get 7=some (.int .i64 0)/\∃(v:AV) (l:List Int),tm.get 6=some v/\Own 1 3 h v l.length (iL l)/\(∀b,own v=some b->h0.next<=b)/\(∀t∈l,S t/\0<t)/\l.length<=100)) tm h:=by
 obtain⟨t0,t2,st,r,sn,v,l,Sb,t12,sr,hn,mL,t11,gS,t10,ov,AQ,s0,s1,JA,hle⟩:=hI;have m:=m0.step st;have nd:=hS r sr;obtain⟨w,hw,w0⟩:=m.at nd;have D7:=m.b.Ce;simp only[go_sem,seval,AP,t0,t2,t12];refine af (Jz h a c ws r k w m nd hw) fun v1 h1 p1=>?_
 obtain⟨rfl,bC⟩:=p1;have fC:=st.trans bC;have m1:=m.step bC;have gS1:=(bC.old Sb s1).trans gS;have sO:Own 1 3 h1 v _ _:=ov.aF bC.next fun b hb=>bC.old b (ov.lt hb)
 have gT:=m1.gT;have gL:=m1.lay.g;have QG:=ov.one
 by_cases e0:w=0\/¬w<=((aH c).length:Int)
 ·have e1:(if w<=((aH c).length:Int)then w else 0)=0:=by
   rcases e0 with e|e
   ·rw[e];split<;>rfl
   ·rw[if_neg e]
  simp only[go_sem,seval,e1,t10];exact⟨fC,v,l,rfl,sO,fun b hb=>by have:=AQ b hb;omega,JA,by omega⟩
 obtain⟨i,rfl⟩:∃i:Nat,w=((i+1:Nat):Int):=⟨(w-1).toNat,by omega⟩;have hiL:i<(aH c).length:=by omega
 obtain⟨x,hx⟩:∃x,(aH c)[i]?=some x:=⟨_,List.getElem?_eq_getElem hiL⟩;have e1:(if((i+1:Nat):Int)<=((aH c).length:Int)then((i+1:Nat):Int)else 0)=((i+1:Nat):Int):=if_pos (by omega);have e2:¬((i+1:Nat):Int)=0:=by omega
 have e3:((i+1:Nat):Int)<(sn.length:Int):=by omega
 obtain⟨b0,hb0⟩:∃b0,sn[i+1]?=some b0:=⟨_,List.getElem?_eq_getElem (by omega)⟩;have iD:(sn.map AV.bool)[i+1]?=some (.bool b0):=by rw[List.getElem?_map,hb0];rfl
 cases b0 with
 |true=>
  simp only[go_sem,seval,e1,e2,e3,t0,t10,t11,gS1,gT,gL,au,cb,Nat.mul_one,iD];exact⟨fC,v,l,rfl,sO,fun b hb=>by have:=AQ b hb;omega,JA,by omega⟩
 |false=>
  obtain⟨ah,oh,awg,ehv,rd⟩:=m1.lay.rh.Xt (sX hx);rw[gU]at ehv;rw[ehv]at gL;rw[ko]at rd;have f1:fw .i64 (((i+1:Nat):Int) -1)=(i:Int):=by rw[show((i+1:Nat):Int) -1=(i:Int) by omega];exact aS (by omega) (by omega)
  have e4:(i:Int)<((aH c).length:Int):=by omega
  by_cases e5:k<x
  case neg=>
   simp only[go_sem,seval,e1,e2,e3,t0,t2,t10,t11,gS1,gT,gL,au,cb,Nat.mul_one,iD,rd,f1,e4,e5];exact⟨fC,v,l,rfl,sO,fun b hb=>by have:=AQ b hb;omega,JA,by omega⟩
  have s1':Sb<h1.next:=Nat.lt_of_lt_of_le s1 bC.next;have nS1:¬Sb=h1.next:=by omega
  obtain⟨H2,Xy⟩:∃H2:H,H2=⟨h1.next+1,(h1.t.set Sb (.row (aa 0 ((sn.map AV.bool).set (i+1) (.bool true)) T.e) sn.length 4)).set h1.next (.row (aa 0 [.int .i64 ((i+1:Nat):Int)] T.e) 1 3)⟩:=⟨_,rfl⟩;have yF:Own 1 3 H2 v l.length (iL l):=sO.aF (by rw[Xy];exact Nat.le_succ _) fun b hb=>by
   have q1:¬b=h1.next:=by have:=sO.lt hb;omega
   have q2:¬b=Sb:=by have:=AQ b hb;omega
   rw[Xy];simp only[go_sem,seval,q1,q2]
  have hsm:(sn.map AV.bool).length=sn.length:=List.length_map _;have e6:i+1<(sn.map AV.bool).length:=by rw[hsm];omega
  have e7:i+2<=sn.length:=by omega
  simp only[go_sem,seval,e1,e2,e3,t0,t2,t10,t11,t12,gS1,gT,gL,au,cb,Nat.mul_one,iD,rd,f1,e4,e5,e6,e7,decide_true,cond_true,nS1];rw[←Xy];refine b8 (du yF (by decide) (by decide) (by omega) (by omega)) ?_
  have oA:=eV yF (src:=[.int .i64 ((i+1:Nat):Int)]) (n:=1) (by decide) rfl;have yd:=oA.one;have gg:=fun b hb hh=>cT (h:=H2) (e:=3) (v:=v) (cs:=iL l++[.int .i64 ((i+1:Nat):Int)]) (b:=b) hb hh
  have noS:own v≠some Sb:=fun hh=>by have:=AQ _ hh;omega
  have H2n:H2.next=h1.next+1:=by rw[Xy]
  simp only[go_sem,seval,yd,t0,t2,t10,t11,t12,iJ];have hc:=N6 hb0;have el:iL l++[.int .i64 ((i+1:Nat):Int)]=iL (l++[((i+1:Nat):Int)]):=by unfold iL;rw[List.map_append];rfl
  refine⟨(sn.set (i+1) true).count false,by omega,by simp[go_sem,t0],by simp[go_sem,t2],⟨?_,fun b hb=>?_⟩,_,sn.set (i+1) true,mF H2 1 (l.length+1),l++[((i+1:Nat):Int)],Sb,by simp[go_sem],iT r i x sr hw hx e5,rfl,by rw[List.length_set];exact mL,by rw[List.length_set];simp only[go_sem,seval,t11],?_,by simp[go_sem],?_,?_,s0,?_,?_,?_⟩
  ·show h0.next<=H2.next+1
   have:=fC.next;omega
  ·have iD:b<h1.next:=Nat.lt_of_lt_of_le hb fC.next;have q1:¬b=h1.next:=by omega
   have q2:¬b=Sb:=by omega
   have g1:=gg b (by omega) fun hh=>by have:=AQ _ hh;omega
   rw[g1,Xy];simp only[go_sem,seval,q1,q2];exact fC.old b hb
  ·have g1:=gg Sb (by omega) noS;rw[g1,Xy];simp only[go_sem,seval,nS1,List.map_set,List.length_set]
  ·rw[el]at oA;rw[List.length_append];rw[el];exact oA
  ·intro b hb;rw[ez]at hb;obtain rfl:=Option.some.inj hb;omega
  ·show Sb<H2.next+1
   omega
  ·intro t ht;rcases List.mem_append.1 ht with ht|ht
   ·exact JA t ht
   ·obtain rfl:=List.mem_singleton.1 ht;exact⟨iT r i x sr hw hx e5,by omega⟩
  ·rw[List.length_append,List.length_singleton];omega
theorem w68(P:Program)[PF P]{call:ab}(Mn:Xw call)(Jz:NZ call){h:H}{a:AB}{c:aj}{ws:List Int}(m:BV h a c ws){v k:Int}(v0:0<=v){S:Int->Prop}(hS:∀r,S r->Nd c r k)(iT:∀r (i:Nat) (x:Int),S r->ws[(kD c r k).toNat]?=some ((i:Int)+1)->(aH c)[i]?=some x->k<x->S ((i:Int)+1))(hh:S (-1-v)):
 WF P call c68 [.ptr a.To 0,.int .i64 v,.int .i64 k] h fun r h'=>ae h h'/\∃(u:AV) (l:List Int),r=.aE [u,.int .i64 0]/\Own 1 3 h' u l.length (iL l)/\(∀b,own u=some b->h.next<=b)/\(∀t∈l,S t/\0<t)/\l.length<=100:=by
 have nd:=hS _ hh;obtain⟨q1,q2,q3,q4,q5,q6,q7,q8,q9⟩:=nd.at m.b;have gT:=m.gT;have e1:¬v<0:=by omega
 have f1:fw .i64 (-1-v)=-1-v:=aS (by omega) (by omega);simp only[go_sem,seval,gT,f1];refine af (Mn h a.L c a.cv a.hv a.wv (-1-v) k m.lay m.b nd) fun v1 h1 p1=>?_
 obtain⟨rfl,bC⟩:=p1;have m1:=m.step bC;have Jx:=m1.gT;have gL:=m1.lay.g;have hl:=m1.lay.rh.bR;rw[gU]at hl;have D7:=m.b.Ce;have f2:fw .i64 (((aH c).length:Int)+1)=(((aH c).length+1:Nat):Int):=aS (by omega) (by omega);have m1':(aH c).length+1<=281474976710656:=by omega
 simp only[go_sem,seval,e1,Jx,gL,au,cb,hl,f2,fM,dZ,Nat.mul_one,Nat.one_mul,Nat.le_refl,m1',decide_true,Bool.and_self,cond_true];have hcn:(List.replicate ((aH c).length+1) false).count false=(aH c).length+1:=by rw[List.count_replicate];rfl
 have Mh:(List.replicate ((aH c).length+1) false).length=(aH c).length+1:=List.length_replicate;refine aT (Ta h1 a c ws k S) _ _ (fun n tm h' hI=>N8 P Jz m1 hS iT n tm h' hI) (fun _ _ hh=>hh.elim) (fun dC h2 hR=>?_) ((aH c).length+1) _ _
  ⟨by simp[go_sem],by simp[go_sem],ae.new h1 _,-1-v,List.replicate ((aH c).length+1) false,.ax,[],h1.next,by simp[go_sem,f1],hh,hcn,Mh,by simp[go_sem,Mh],by simp[go_sem,Mh,List.map_replicate],by simp[go_sem],.nil,fun b hb=>(by cases hb),Nat.le_refl _,Nat.lt_succ_self _,fun t ht=>(by cases ht),by show 0+((aH c).length+1)<=100;omega⟩
 obtain⟨cF,t7,u,l,t6,ou,AQ,GR,hle⟩:=hR;simp only[go_sem,seval,t6,t7];have:=bC.next;exact⟨bC.trans cF,u,l,rfl,ou,fun b hb=>Nat.le_trans this (AQ b hb),GR,hle⟩
def F68(call:ab):Prop:=∀h a c ws (v k:Int) (S:Int->Prop),BV h a c ws->0<=v->(∀r,S r->Nd c r k)->(∀r (i:Nat) (x:Int),S r->ws[(kD c r k).toNat]?=some ((i:Int)+1)->(aH c)[i]?=some x->k<x->S ((i:Int)+1))->S (-1-v)->
 aG call 68 [.ptr a.To 0,.int .i64 v,.int .i64 k] h fun r h'=>ae h h'/\∃(u:AV) (l:List Int),r=.aE [u,.int .i64 0]/\Own 1 3 h' u l.length (iL l)/\(∀b,own u=some b->h.next<=b)/\(∀t∈l,S t/\0<t)/\l.length<=100
def AU:CC:=(Qq (Sq [a 20 7,a 21 5,N 22 21,qc 23 3 20 22] (Cq 23 .skip (.exit 0))) (Qq (.block 1 (Qq (.cn ⟨[([qt 0 2 2,g 1 5,g 2 7,Y 3 27 1 28 2 1,k 4 29 3,g 6 1],some (qq 5 26 0 30 4 70)),([zi 7 31 5 32 6 50],none)],[(0,26),(1,27),(2,28),(3,29),(4,30),(5,31),(6,32),(7,33)],[]⟩) (Kq 33 [qn 4] .skip))) (Oq [a 24 7,C 25 3 24 1,a 7 25])))
@[go_sem]def c27:CF:=⟨2,(Sq [z 2 33 0,w 4] (Qq (.cn ⟨[([R 0 2 1,k 1 9 0,n 2 10 1,m 3 11 2 3,k 4 12 3,qt 5 2 2,g 6 1],some (qq 7 14 5 15 6 69)),([],some (zA 8 13 4 16 7 68 0)),([t 9 17 8,B 10 8 9 0,B 11 8 9 1,t 12 18 10,t 13 19 11],none)],[(0,9),(1,10),(2,11),(3,12),(4,13),(5,14),(6,15),(7,16),(8,17),(9,8),(10,18),(11,19),(12,5),(13,6)],[(⟨1,[(9,(some 0))],none,.r (.ld none (.t 9))⟩,[1]),(⟨4,[(12,(some 3))],none,.r (.ld none (.t 12))⟩,[1])]⟩) (Qq (Sq [b 7 0] (.block 0 (.loop AU))) (Rq [w 4])))),[.tmp 4]⟩
def AX:CC:=(Qq (Sq [a 26 12,a 27 10,N 28 27,qc 29 3 26 28] (Cq 29 .skip (.exit 0))) (Qq (.block 1 (Qq (.cn ⟨[([qt 0 4 2,g 1 10,g 2 12,Y 3 33 1 34 2 1,k 4 35 3,g 6 3],some (qq 5 32 0 36 4 70)),([jD 7 37 5 38 6 50],none)],[(0,32),(1,33),(2,34),(3,35),(4,36),(5,37),(6,38),(7,39)],[]⟩) (Cq 39 (Oq [a 40 10,a 41 12,G 42 1 40 41,i 43 42,a 9 43]) .skip))) (Oq [a 30 12,C 31 3 30 1,a 12 31])))
@[go_sem]def c83:CF:=⟨4,(Sq [z 4 33 0,b 8 0] (Sq [a 13 1,q2 14 3 (-1) 13,a 9 14] (Sq [d 16 1 4,i 17 16,j 18 17,d 19 3 18,i 20 19,a 21 1,a 22 2,Q 23 68 20 21 22,a 15 23,o 24 15 0,o 25 15 1,a 10 24,a 11 25] (Qq (Sq [b 12 0] (.block 0 (.loop AX))) (Rq [a 44 9,a 8 44]))))),[.tmp 8]⟩
def Tw(c:aj)(t:Int):Prop:=∃(i:Nat) (x:Int),t=(i:Int)+1/\(aH c)[i]?=some x
theorem Nd.tw{c:aj}{r k:Int}(n:Nd c r k)(h:0<r):Tw c r:=by
 rcases n with⟨r0,_⟩|⟨i,x,rfl,hx,_⟩
 ·omega
 ·exact⟨i,x,rfl,hx⟩
theorem Nd.hd{c:aj}{v k:Int}(v0:0<=v)(v1:v<ir c)(k0:0<=k)(k6:k<6):Nd c (-1-v) k:=.inl ⟨by omega,by omega,k0,k6⟩
theorem JB{h:H}{u:AV}{l:List Int}(o:Own 1 3 h u l.length (iL l)){i:Nat}{t:Int}(hi:l[i]?=some t)(hl:l.length<=100):∃a cap,u=.sl a 0 l.length 1 cap/\∃n e,h.t.get a=some (.row (aa 0 (iL l) T.e) n e)/\(iL l)[i]?=some (.int .i64 t):=by
 generalize hn:l.length=n at*;generalize hc:iL l=cs at*;cases o with
 |nil=>rw[List.length_eq_zero_iff.1 hn]at hi;simp at hi
 |sl a len cs cap Cv hp iT ha hg=>exact⟨a,cap,rfl,_,_,hg,by rw[←hc];exact sX hi⟩
def I27(h0:H)(A:Nat)(a:AB)(u:AV)(l:List Int)(y:Int)(Bx:Nat)(k:Nat)(tm:T AV)(h:H):Prop:=
 tm.get 1=some (.int .u64 y)/\tm.get 2=some (.ptr Bx 0)/\tm.get 5=some u/\ae h0 h/\∃i:Nat,i+k=l.length/\tm.get 7=some (.int .i64 (i:Int))
theorem Tb(P:Program)[PF P]{call:ab}(N9:Xx call){h0:H}{A:Nat}{a:AB}{c:aj}{ws:List Int}(m0:BV h0 a c ws){u:AV}{l:List Int}(ou:Own 1 3 h0 u l.length (iL l))(hl:l.length<=100)(hT:∀t∈l,Tw c t){y:Int}{Bx:Nat}(lB:Bx<h0.next)(gB:h0.t.get Bx=some (ag [.ptr A 0,.ptr a.B 0] 33))(k:Nat)(tm:T AV)(h:H)(hI:I27 h0 A a u l y Bx k tm h):
 WC P call AU (bM 0 (fun tm h=>∃j,j<k/\I27 h0 A a u l y Bx j tm h) (fun tm h=>ae h0 h) (fun tm h=>ae h0 h/\tm.get 4=some (.bool true))) tm h:=by
 obtain⟨t1,t2,t5,st,i,Cu,t7⟩:=hI;have m:=m0.step st;have AK:=(st.old Bx lB).trans gB;have ou1:Own 1 3 h u l.length (iL l):=ou.aF st.next fun b hb=>st.old b (ou.lt hb)
 have pD:=ou.bR;cases k with
 |zero=>
  have e1:¬(i:Int)<(l.length:Int):=by omega
  simp only[go_sem,seval,AU,t5,t7,pD,e1];exact st
 |succ k=>
  have e1:(i:Int)<(l.length:Int):=by omega
  obtain⟨t,ht⟩:∃t,l[i]?=some t:=⟨_,List.getElem?_eq_getElem (by omega)⟩;obtain⟨j,x,rfl,hx⟩:=hT t (List.mem_of_getElem? ht);obtain⟨ua,cap,rfl,n,e,gu,gi⟩:=JB ou1 ht hl;have f1:fw .i64 ((i:Int)+1)=(i:Int)+1:=aS (by omega) (by omega);have e3:((i+1:Nat):Int)=(i:Int)+1:=rfl;simp only[go_sem,seval,AU,t1,t2,t5,t7,e1,AK,gu,Nat.mul_one,gi];refine af (N9 h A a c ws j x m hx) fun v1 h1 p1=>?_
  obtain⟨⟨z,rfl,z0⟩,bC⟩:=p1;have fC:=st.trans bC;have eW:=bC.next
  by_cases e2:z=y
  ·simp only[go_sem,seval,e2,eW];exact fC
  ·simp only[go_sem,seval,e2,t7,f1,eW];exact⟨k,Nat.lt_succ_self k,by simp[go_sem,t1],by simp[go_sem,t2],by simp[go_sem,t5],fC,i+1,by omega,by simp[go_sem,e3]⟩
theorem Nd.zcl{c:aj}{ws:List Int}:∀r (i:Nat) (x:Int),Nd c r 0->ws[(kD c r 0).toNat]?=some ((i:Int)+1)->(aH c)[i]?=some x->0<x->Nd c ((i:Int)+1) 0:=fun r i x _ _ hx x0=>.inr ⟨i,x,rfl,hx,Int.le_refl _,x0⟩
theorem w27(P:Program)[PF P]{call:ab}(Ih:F69 call)(ZK:F68 call)(N9:Xx call){h:H}{A:Nat}{a:AB}{c:aj}{ws:List Int}(m:BV h a c ws){y:Int}(y0:0<=y):
 WF P call c27 [.agg [.ptr A 0,.ptr a.B 0],.int .u64 y] h fun v h'=>(∃b,v=.bool b)/\ae h h':=by
 have cr:=ae.new h (ag [.ptr A 0,.ptr a.B 0] 33);have m0:=m.step cr;obtain⟨rest,gB⟩:=m.gB;have hb:¬a.B=h.next:=by have:=m.lt.1;omega
 simp only[go_sem,seval,gB,hb];refine af (Ih _ A a c ws y m0 y0) fun v1 h1 p1=>?_
 obtain⟨⟨v,rfl,v0,v1⟩,bC⟩:=p1;have m1:=m0.step bC;have eW:h.next+1<=h1.next:=bC.next;simp only[go_sem,seval,eW];refine af (ZK h1 a c ws v 0 (fun r=>Nd c r 0) m1 v0 (fun _ q=>q) Nd.zcl (Nd.hd v0 v1 (by decide) (by decide))) fun v2 h2 p2=>?_
 obtain⟨cF,u,l,rfl,ou,ulo,JA,hle⟩:=p2;have pF:=cF.next;have ovu:=ou.one;have g1:=bC.old h.next (Nat.lt_succ_self _);simp only[go_sem,seval]at g1;have g2:=(cF.old h.next (by omega)).trans g1;obtain⟨ZI,AK⟩:=m1.gB;obtain⟨aqH,G2⟩:=(m1.step cF).gB;simp only[go_sem,seval,eW,pF,g1,g2,AK,G2,gB,hb,ovu];have QH:=(cr.trans bC).trans cF;refine aT (I27 h2 A a u l y h.next) _ _ (fun k tm h' hI=>Tb P N9 (m1.step cF) ou hle (fun t ht=>(JA t ht).1.tw (JA t ht).2) (by omega) g2 k tm h' hI) (fun ZL h3 hR=>?_) (fun ZL h3 hR=>?_) l.length _ _
  ⟨by simp[go_sem],by simp[go_sem],by simp[go_sem],ae.refl _,0,by omega,by simp[go_sem]⟩
 ·simp only[go_sem,seval];exact⟨⟨_,rfl⟩,QH.trans hR⟩
 ·obtain⟨fW,t4⟩:=hR;simp only[go_sem,seval,t4];exact⟨⟨_,rfl⟩,QH.trans fW⟩
def F27(call:ab):Prop:=∀h A a c ws (y:Int),BV h a c ws->0<=y->N0 call 27 [.agg [.ptr A 0,.ptr a.B 0],.int .u64 y] h fun v=>∃b,v=.bool b
def I83(h0:H)(a:AB)(u:AV)(l:List Int)(y:Int)(Bx:Nat)(r0:Int)(k:Nat)(tm:T AV)(h:H):Prop:=
 tm.get 3=some (.int .u64 y)/\tm.get 4=some (.ptr Bx 0)/\tm.get 10=some u/\ae h0 h/\∃(i:Nat) (r:Int),i+k=l.length/\tm.get 12=some (.int .i64 (i:Int))/\tm.get 9=some (.int .i64 r)/\(r=r0\/r∈l)
theorem Tc(P:Program)[PF P]{call:ab}(N9:Xx call){h0:H}{A:Nat}{a:AB}{c:aj}{ws:List Int}(m0:BV h0 a c ws){u:AV}{l:List Int}(ou:Own 1 3 h0 u l.length (iL l))(hl:l.length<=100)(hT:∀t∈l,Tw c t){y:Int}{Bx:Nat}(lB:Bx<h0.next)(gB:h0.t.get Bx=some (ag [.ptr A 0,.ptr a.B 0] 33)){r0:Int}(k:Nat)(tm:T AV)(h:H)(hI:I83 h0 a u l y Bx r0 k tm h):
 WC P call AX (bM 0 (fun tm h=>∃j,j<k/\I83 h0 a u l y Bx r0 j tm h) (fun tm h=>ae h0 h/\∃r,tm.get 9=some (.int .i64 r)/\(r=r0\/r∈l)) (fun _ _=>False)) tm h:=by
 obtain⟨t3,t4,t10,st,i,r,Cu,t12,t9,hr⟩:=hI;have m:=m0.step st;have AK:=(st.old Bx lB).trans gB;have ou1:Own 1 3 h u l.length (iL l):=ou.aF st.next fun b hb=>st.old b (ou.lt hb)
 have pD:=ou.bR;cases k with
 |zero=>
  have e1:¬(i:Int)<(l.length:Int):=by omega
  simp only[go_sem,seval,AX,t10,t12,pD,e1];exact⟨st,r,by simp[go_sem,t9],hr⟩
 |succ k=>
  have e1:(i:Int)<(l.length:Int):=by omega
  obtain⟨t,ht⟩:∃t,l[i]?=some t:=⟨_,List.getElem?_eq_getElem (by omega)⟩;have yl:=List.mem_of_getElem? ht;obtain⟨j,x,rfl,hx⟩:=hT t yl;obtain⟨ua,cap,rfl,n,e,gu,gi⟩:=JB ou1 ht hl;have lua:=ou1.lt (b:=ua) rfl;have f1:fw .i64 ((i:Int)+1)=(i:Int)+1:=aS (by omega) (by omega);have e3:((i+1:Nat):Int)=(i:Int)+1:=rfl;simp only[go_sem,seval,AX,t3,t4,t10,t12,e1,AK,gu,Nat.mul_one,gi];refine af (N9 h A a c ws j x m hx) fun v1 h1 p1=>?_
  obtain⟨⟨z,rfl,z0⟩,bC⟩:=p1;have fC:=st.trans bC;have eW:=bC.next;have gu1:=(bC.old ua lua).trans gu
  by_cases e2:z<y
  ·simp only[go_sem,seval,e2,t3,t4,t10,t12,e1,f1,eW,gu1,Nat.mul_one,gi];exact⟨k,Nat.lt_succ_self k,by simp[go_sem,t3],by simp[go_sem,t4],by simp[go_sem,t10],fC,i+1,_,by omega,by simp[go_sem,e3],by simp[go_sem],.inr yl⟩
  ·simp only[go_sem,seval,e2,t12,f1,eW];exact⟨k,Nat.lt_succ_self k,by simp[go_sem,t3],by simp[go_sem,t4],by simp[go_sem,t10],fC,i+1,r,by omega,by simp[go_sem,e3],by simp[go_sem,t9],hr⟩
theorem w83(P:Program)[PF P]{call:ab}(ZK:F68 call)(N9:Xx call){h:H}{A:Nat}{a:AB}{c:aj}{ws:List Int}(m:BV h a c ws){v k y:Int}(v0:0<=v){S:Int->Prop}(hS:∀r,S r->Nd c r k)(iT:∀r (i:Nat) (x:Int),S r->ws[(kD c r k).toNat]?=some ((i:Int)+1)->(aH c)[i]?=some x->k<x->S ((i:Int)+1))(hh:S (-1-v)):
 WF P call c83 [.agg [.ptr A 0,.ptr a.B 0],.int .i64 v,.int .i64 k,.int .u64 y] h fun u h'=>(∃r:Int,u=.int .i64 r/\S r)/\ae h h':=by
 obtain⟨q1,q2,q3,q4,q5,q6,q7,q8,q9⟩:=(hS _ hh).at m.b;have cr:=ae.new h (ag [.ptr A 0,.ptr a.B 0] 33);have m0:=m.step cr;obtain⟨rest,gB⟩:=m.gB;have hb:¬a.B=h.next:=by have:=m.lt.1;omega
 have f1:fw .i64 (-1-v)=-1-v:=aS (by omega) (by omega);simp only[go_sem,seval,gB,hb,f1];refine af (ZK _ a c ws v k S m0 v0 hS iT hh) fun v2 h2 p2=>?_
 obtain⟨cF,u,l,rfl,ou,ulo,JA,hle⟩:=p2;have pF:h.next+1<=h2.next:=cF.next;have ovu:=ou.one;have g2:=cF.old h.next (Nat.lt_succ_self _);simp only[go_sem,seval]at g2;simp only[go_sem,seval,ovu];refine aT (I83 h2 a u l y h.next (-1-v)) _ _ (fun k' tm h' hI=>Tc P N9 (m0.step cF) ou hle (fun t ht=>(hS t (JA t ht).1).tw (JA t ht).2) (by omega) g2 k' tm h' hI) (fun ZL h3 hR=>?_) (fun _ _ hh=>hh.elim) l.length _ _
  ⟨by simp[go_sem],by simp[go_sem],by simp[go_sem],ae.refl _,0,-1-v,by omega,by simp[go_sem],by simp[go_sem],.inl rfl⟩
 obtain⟨fW,r,t9,hr⟩:=hR;simp only[go_sem,seval,t9];refine⟨⟨r,rfl,?_⟩,(cr.trans cF).trans fW⟩;rcases hr with rfl|hr
 ·exact hh
 ·exact(JA r hr).1
def F83(call:ab):Prop:=∀h A a c ws (v k y:Int) (S:Int->Prop),BV h a c ws->0<=v->(∀r,S r->Nd c r k)->(∀r (i:Nat) (x:Int),S r->ws[(kD c r k).toNat]?=some ((i:Int)+1)->(aH c)[i]?=some x->k<x->S ((i:Int)+1))->S (-1-v)->
 N0 call 83 [.agg [.ptr A 0,.ptr a.B 0],.int .i64 v,.int .i64 k,.int .u64 y] h fun u=>∃r:Int,u=.int .i64 r/\S r
end
end Go.Proofs.YtgkjlklfjbljeaaGreat.CQ
namespace Go.Proofs.YtgkjlklfjbljeaaGreat.CQ
open Go.Proofs.YtgkjlklfjbljeaaGreat.Eo
noncomputable section
@[go_sem]def ZM:CF:=⟨1,(.cn ⟨[([g 0 0,g 1 0,n 2 4 1,m 3 5 2 0,k 4 6 3,n 5 7 4,m 6 8 5 0,k 7 9 6,g 8 0,n 9 11 8,m 10 12 9 1,k 11 13 10,g 12 0,n 13 15 12,m 14 16 13 3,k 15 17 14],some (qm 16 10 7 14 11 18 15 169)),([t 17 19 16,B 18 2 17 0,B 19 2 17 1,n 20 3 0,m 21 22 20 4],some (V 22 23 21 20 18 1)),([],none)],[(0,3),(1,4),(2,5),(3,6),(4,7),(5,8),(6,9),(7,10),(8,11),(9,12),(10,13),(11,14),(12,15),(13,16),(14,17),(15,18),(16,19),(17,2),(18,20),(19,21),(20,22),(21,23)],[]⟩),[]⟩
@[go_sem]def ZN:CF:=⟨1,(Sq [b 2 0] (Rq [a 3 0,qE 4 50 3 65536,qD 5 4,a 2 5])),[.tmp 2]⟩
@[go_sem]def ZO:CF:=⟨2,(Sq [b 4 0] (Rq [a 5 0,j 6 5,d 7 0 6,i 8 7,j 9 8,d 10 3 9,i 11 10,a 12 1,qg 13 3 11 12,ql 14 3 13 1,a 4 14])),[.tmp 4]⟩
@[go_sem]def ZP:CF:=⟨1,(Sq [v 2 0] (Qq (Sq [a 3 0,y 4 342 3] (Kq 4 [v 2 0] .skip)) (Rq [a 5 0,j 6 5,d 7 5 6,i 8 7,a 2 8]))),[.tmp 2]⟩
@[go_sem]def ZQ:CF:=⟨1,(Sq [qd 2 0] (Rq [a 3 0,q4 4 50 3 65536,a 2 4])),[.tmp 2]⟩
@[go_sem]def ZR:CF:=⟨2,(Sq [w 4] (Sq [a 10 0,j 11 10,d 12 4 11,i 13 12,q 14 201 13,zX 15 50 14 1,⟨some 16,none,.p (.bin .and 50 false true (.t 15) (.c (.int .u64 1099511627775)))⟩,a 17 1,M 18 123 16 17,a 9 18,o 19 9 0,o 20 9 1,a 5 19,a 6 20] (Qq (.cn ⟨[([g 0 0,n 1 22 0,m 2 23 1 0,k 3 24 2,n 4 25 3,m 5 26 4 0,k 6 27 5,g 7 0,n 8 29 7,m 9 30 8 1,k 10 31 9,g 11 0,n 12 33 11,m 13 34 12 3,k 14 35 13,g 15 0,n 16 37 15,m 17 38 16 4,k 18 39 17,g 19 5],some (qU 20 28 6 32 10 36 14 40 18 41 19 160)),([t 21 42 20,B 22 21 21 0,B 23 21 21 1,t 24 43 22,t 25 44 23],none)],[(0,22),(1,23),(2,24),(3,25),(4,26),(5,27),(6,28),(7,29),(8,30),(9,31),(10,32),(11,33),(12,34),(13,35),(14,36),(15,37),(16,38),(17,39),(18,40),(19,41),(20,42),(21,21),(22,43),(23,44),(24,7),(25,8)],[]⟩) (Rq [a 45 7,a 4 45])))),[.tmp 4]⟩
@[go_sem]def ZS:CF:=⟨1,(Sq [a 2 0,j 3 2,d 4 0 3,q 5 183 4] (Sq [a 6 0,j 7 6,d 8 0 7,d 9 5 8,qj 1 9 5] (Sq [a 10 0,a 11 0,j 12 11,d 13 0 12,d 14 4 13,i 15 14,q 16 184 15,j 17 10,d 18 0 17,d 19 2 18,s 1 19 16] (Sq [a 20 0,j 21 20,d 22 0 21,d 23 2 22,i 24 23,qe 25 3 24 0] (Cq 25 (Oq [a 26 0,a 27 0,j 28 26,d 29 0 28,d 30 5 29,qj 1 30 0,j 31 27,d 32 10 31,qp 1 32 6]) .skip))))),[]⟩
@[go_sem]def ZT:CF:=⟨1,(Qq (.cn ⟨[([g 0 0,n 1 5 0,m 2 6 1 0,m 3 7 2 0,k 4 8 3,n 5 9 4,m 6 10 5 0,k 7 11 6,g 8 0,n 9 13 8,m 10 14 9 0,m 11 15 10 1,k 12 16 11,g 13 0,n 14 18 13,m 15 19 14 0,g 16 0,n 17 21 16,m 18 22 17 0,m 19 23 18 2,k 20 24 19],some (qq 21 20 15 25 20 185)),([],some (qm 22 12 7 17 12 26 21 169)),([t 23 27 22,B 24 4 23 0,B 25 4 23 1,t 26 28 24,t 27 29 25],none)],[(0,5),(1,6),(2,7),(3,8),(4,9),(5,10),(6,11),(7,12),(8,13),(9,14),(10,15),(11,16),(12,17),(13,18),(14,19),(15,20),(16,21),(17,22),(18,23),(19,24),(20,25),(21,26),(22,27),(23,4),(24,28),(25,29),(26,2),(27,3)],[(⟨4,[(8,(some 3))],none,.r (.ld none (.t 8))⟩,[1]),(⟨7,[(11,(some 6))],none,.r (.ld none (.t 11))⟩,[1]),(⟨12,[(16,(some 11))],none,.r (.ld none (.t 16))⟩,[1])]⟩) (Oq [a 30 0,a 31 0,a 32 2,qD 33 32,j 34 30,d 35 7 34,s 1 35 33,j 36 31,d 37 0 36,d 38 5 37,qj 1 38 6])),[]⟩
@[go_sem]def ZU:CF:=⟨1,(Qq (Qq (.cn ⟨[([g 0 0,n 1 2 0,m 2 3 1 0,g 3 0,n 4 5 3,m 5 6 4 7,k 6 7 5],some (qq 7 4 2 8 6 186)),([],none)],[(0,2),(1,3),(2,4),(3,5),(4,6),(5,7),(6,8),(7,9)],[]⟩) (Cq 9 (Qq (.cn ⟨[([g 0 0,n 1 10 0,m 2 11 1 0,m 3 12 2 0,k 4 13 3,n 5 14 4,m 6 15 5 4,k 7 16 6,g 8 0,n 9 18 8,m 10 19 9 0,m 11 20 10 2,k 12 21 11],some ⟨13,[(17,some 7),(22,some 12)],none,.m (.lq 0 (.t 17) (.t 22) (.c (.bool false)))⟩),([],none)],[(0,10),(1,11),(2,12),(3,13),(4,14),(5,15),(6,16),(7,17),(8,18),(9,19),(10,20),(11,21),(12,22)],[]⟩) (Rq [a 23 0,j 24 23,d 25 0 24,d 26 5 25,qj 1 26 0])) .skip)) (Sq [a 27 0,a 28 0,j 29 27,d 30 0 29,d 31 2 30,qp 1 31 0,j 32 28,d 33 0 32,d 34 5 33,qj 1 34 4] (Sq [a 35 0,j 36 35,d 37 8 36,i 38 37,C 39 3 38 1,j 40 35,d 41 8 40,s 1 41 39] (Qq (.cn ⟨[([g 0 0,n 1 42 0,m 2 43 1 8,k 3 44 2,g 4 0,n 5 46 4,m 6 47 5 9,k 7 48 6,zi 8 45 3 49 7 3],none)],[(0,42),(1,43),(2,44),(3,45),(4,46),(5,47),(6,48),(7,49),(8,50)],[]⟩) (Cq 50 (Oq [a 51 0,a 52 0,j 53 51,d 54 0 53,d 55 5 54,qj 1 55 0,j 56 52,d 57 10 56,qp 1 57 11]) .skip))))),[]⟩
@[go_sem]def ZV:CF:=⟨1,(Sq [v 2 0] (Qq (Sq [a 3 0,y 4 169 3] (Kq 4 [v 2 0] .skip)) (Rq [a 5 0,j 6 5,d 7 0 6,q 8 187 7,a 2 8]))),[.tmp 2]⟩
@[go_sem]def c75:CF:=⟨1,(Sq [v 2 0,w 3] (Qq (Sq [a 4 0,q 5 143 4,a 2 5] (Sq [a 6 2,L 7 5 6 0] (Kq 7 [a 8 2,a 2 8,w 3] .skip))) (Sq [a 9 0,j 10 9,d 11 6 10,i 12 11,a 13 2,jE 14 0 12 13,a 15 0,zY 16 14 15] (Qq (.cn ⟨[([g 0 2,g 1 0,n 2 18 1,m 3 19 2 0,m 4 20 3 5,k 5 21 4,zZ 6 22 5 5 0,t 7 17 0,t 8 23 6],none)],[(0,17),(1,18),(2,19),(3,20),(4,21),(5,22),(6,23),(7,2),(8,3)],[]⟩) .ret)))),[.tmp 2,.tmp 3]⟩
@[go_sem]def c72:CF:=⟨4,(Sq [p 8,b 9 0] (Qq (.block 0 (Sq [a 12 0,y 13 97 12,a 11 13] (Kq 11 [p 8,b 9 1] (Sq [a 15 1,D 16 3 15 0,a 17 16,r 18 17 1,qk 19 17 3 18 64,u 20 17 19,a 21 20,r 22 21 3,qv 23 21 3 22 0,u 24 21 23,a 25 24,r 26 25 3,qb 27 25 3 26 255,u 28 25 27,a 14 28] (Kq 14 [p 8,b 9 2] (Sq [a 30 2,D 31 3 30 1,a 32 31,r 33 32 2,qb 34 32 3 33 6,u 35 32 34,a 29 35] (Kq 29 [p 8,b 9 3] .skip))))))) (Sq [a 36 0,a 37 1,a 38 0,j 39 38,d 40 2 39,i 41 40,a 42 2,qg 43 3 41 42,ql 44 3 43 1,⟨some 45,none,.p (.build [.aJ,aN,aN,aN,cY,ya] [(0,1,.t 36),(1,1,.t 37),(3,1,.t 44),(5,1,.c (.int .u8 4))])⟩,a 46 3,⟨some 47,none,.p (.build [.aJ,aN,aN,aN,cY,ya,.kH,aN,aN,aN,aN] [(0,6,.t 45),(9,1,.t 46)])⟩,z 48 277 47,a 10 48] (Sq [a 49 10,zf 50,qx 0 50 4 139,qx 0 50 5 140,qx 0 50 6 141,a 51 50,j 52 49,d 53 6 52,s 1 53 51] (Rq [a 54 10,a 8 54,b 9 0]))))),[.tmp 8,.tmp 9]⟩
@[go_sem]def c77:CF:=⟨1,(Sq [b 2 0,b 3 0,b 4 0] (Qq (.block 0 (Sq [a 6 0,y 7 169 6,a 5 7] (Kq 5 [b 2 0,b 3 0,b 4 1] (Sq [a 9 0,j 10 9,d 11 0 10,d 12 5 11,i 13 12,zl 14 5 13 0,a 8 14] (Kq 8 [b 2 0,b 3 0,b 4 8] .skip))))) (Qq (.cn ⟨[([g 0 0,n 1 15 0,m 2 16 1 0,m 3 17 2 2,k 4 18 3,g 5 0,n 6 20 5,m 7 21 6 8,k 8 22 7,g 9 0,n 10 24 9,m 11 25 10 10,k 12 26 11,t 13 19 4,t 14 23 8,t 15 27 12],none)],[(0,15),(1,16),(2,17),(3,18),(4,19),(5,20),(6,21),(7,22),(8,23),(9,24),(10,25),(11,26),(12,27),(13,2),(14,3),(15,4)],[]⟩) .ret))),[.tmp 2,.tmp 3,.tmp 4]⟩
@[go_sem]def c71:CF:=⟨1,(Sq [p 2] (Qq (Sq [a 3 0,y 4 30 3] (Kq 4 [p 2] .skip)) (Rq [a 5 0,j 6 5,d 7 0 6,d 8 2 7,i 9 8,a 2 9]))),[.tmp 2]⟩
theorem ZW{n:Nat}(h:n<=1000):Td .u64 (n:Int) 1099511627775=(n:Int):=by
 unfold Td;have e1:BitVec.ofInt 64 (n:Int)=BitVec.ofNat 64 n:=BitVec.ofInt_natCast ..;have e2:BitVec.ofInt 64 1099511627775=BitVec.ofNat 64 (2^40-1):=rfl
 show fw .u64 ((BitVec.ofInt 64 (n:Int)&&&BitVec.ofInt 64 1099511627775).toNat:Int)=_
 rw[e1,e2,BitVec.toNat_and,BitVec.toNat_ofNat,BitVec.toNat_ofNat,Nat.mod_eq_of_lt (show n<2^64 by omega),show(2^40-1)%2^64=2^40-1 from rfl,Nat.and_two_pow_sub_one_eq_mod,Nat.mod_eq_of_lt (show n<2^40 by omega)];exact uE (by omega) (by omega)
theorem ajc(P:Program){call:ab}{h:H}{g t:Nat}(ht:t<65536):WF P call ZN [.int .u64 ((t+65536*g:Nat):Int)] h fun v h'=>v=.int .i64 (t:Int)/\h'=h:=by
 have e1:Int.tmod ((t+65536*g:Nat):Int) 65536=(t:Int):=by rw[Int.tmod_eq_emod_of_nonneg (by omega)];omega
 have f1:fw .i64 (t:Int)=(t:Int):=aS (by omega) (by omega);simp only[go_sem,seval,e1,f1]
theorem ajd(P:Program){call:ab}{h:H}{g t:Nat}(ht:t<65536)(hg:g<1000):WF P call ZQ [.int .u64 ((t+65536*g:Nat):Int)] h fun v h'=>v=.int .u64 (g:Int)/\h'=h:=by
 have e1:Int.tdiv ((t+65536*g:Nat):Int) 65536=(g:Int):=by rw[Int.tdiv_eq_ediv_of_nonneg (by omega)];omega
 have f1:fw .u64 (g:Int)=(g:Int):=uE (by omega) (by omega);simp only[go_sem,seval,e1,f1]
def ym(M L:Nat)(po li:Int)(O:Nat)(gv:AV):AO:=.row (aa 0 [.ptr M 0,.ptr L 0,.int .i64 po,.int .i64 li,.map O,gv] T.e) 6 230
def Mo(Po:Nat)(t tw hd w pc:Int)(Y:Nat)(bl e:Int):AO:=.row (aa 0 [.ptr Po 0,.int .i64 t,.int .i64 tw,.int .i64 hd,.int .u64 w,.int .u8 pc,.map Y,.int .i64 bl,.int .i64 0,.int .i64 0,.int .i64 e] T.e) 11 277
def stM:AO:=.map [(.int .u8 4,.fn (.func 139) [] [],0),(.int .u8 5,.fn (.func 140) [] [],1),(.int .u8 6,.fn (.func 141) [] [],2)] 3
structure ZX where
 n:Nat
 q:Nat
 x:Nat
 y:Nat
 M:Nat
 W:Nat
 Po:Nat
 X:Nat
 Y:Nat
 O:Nat
 Ly:Nat
 gv:AV
 po:Int
 li:Int
 t:Int
 hd:Nat
def G3(L:List Cm)(k:ZX)(lv:AV)(ws:List Int)(m:Nat)(tw w pc bl e:Int):List Cm:=(L.set k.n (cA k.M k.W lv ws m)).set k.x (aD k.X (Mo k.Po k.t tw (k.hd:Int) w pc k.Y bl e))
structure PD(h:H)(L:List Cm)(k:ZX)(lv:AV)(ws:List Int)(m:Nat)(tw w pc bl e:Int):Prop where
 s:Sp h (G3 L k lv ws m tw w pc bl e)
 ln:k.n<L.length/\k.x<L.length
 hp:L[k.q]?=some (aD k.Po (ym k.M k.Ly k.po k.li k.O k.gv))
 hy:L[k.y]?=some (aD k.Y stM)
 xn:k.x≠k.n/\k.q≠k.n/\k.y≠k.n/\k.q≠k.x/\k.y≠k.x
 t0:0<=k.t/\k.t<64/\0<=k.li/\k.li<=10000
section
variable {call:ab} {h h1:H} {L:List Cm} {k:ZX} {lv mV:AV} {ws ZY:List Int} {m m1:Nat} {tw w pc bl e:Int}
theorem ZZ(hn:k.n<L.length)(xn:k.x≠k.n):(G3 L k lv ws m tw w pc bl e)[k.n]?=some (cA k.M k.W lv ws m):=by
 unfold G3;rw[List.getElem?_set_ne xn,List.getElem?_set_self hn]
theorem Z0(hx:k.x<L.length):(G3 L k lv ws m tw w pc bl e)[k.x]?=some (aD k.X (Mo k.Po k.t tw (k.hd:Int) w pc k.Y bl e)):=by
 unfold G3;rw[List.getElem?_set_self (by rw[List.length_set];exact hx)]
theorem Fx{i:Nat}(h1:i≠k.n)(h2:i≠k.x):(G3 L k lv ws m tw w pc bl e)[i]?=L[i]?:=by
 unfold G3;rw[List.getElem?_set_ne h2.symm,List.getElem?_set_ne h1.symm]
theorem PD.hc(p:PD h L k lv ws m tw w pc bl e):(G3 L k lv ws m tw w pc bl e)[k.n]?=some (cA k.M k.W lv ws m):=ZZ p.ln.1 p.xn.1
theorem PD.hx(p:PD h L k lv ws m tw w pc bl e):(G3 L k lv ws m tw w pc bl e)[k.x]?=some (aD k.X (Mo k.Po k.t tw (k.hd:Int) w pc k.Y bl e)):=Z0 p.ln.2
theorem PD.acc(p:PD h L k lv ws m tw w pc bl e)(s:Sp h1 ((G3 L k lv ws m tw w pc bl e).set k.n (cA k.M k.W mV ZY m1))):PD h1 L k mV ZY m1 tw w pc bl e:=by
 refine⟨?_,p.ln,p.hp,p.hy,p.xn,p.t0⟩;unfold G3 at s⊢;rw[List.set_comm _ _ p.xn.1,List.set_set]at s;exact s
theorem PD.tk(p:PD h L k lv ws m tw w pc bl e)(Ij w' D9 Mq e':Int):PD ⟨h.next,h.t.set k.X (Mo k.Po k.t Ij (k.hd:Int) w' D9 k.Y Mq e')⟩ L k lv ws m Ij w' D9 Mq e':=by
 refine⟨?_,p.ln,p.hp,p.hy,p.xn,p.t0⟩;have s:=p.s.put p.hx (Mo k.Po k.t Ij (k.hd:Int) w' D9 k.Y Mq e');unfold G3 at s⊢;rw[List.set_set]at s;exact s
theorem PD.gX(p:PD h L k lv ws m tw w pc bl e):h.t.get k.X=some (.row (aa 0 [.ptr k.Po 0,.int .i64 k.t,.int .i64 tw,.int .i64 (k.hd:Int),.int .u64 w,.int .u8 pc,.map k.Y,.int .i64 bl,.int .i64 0,.int .i64 0,.int .i64 e] T.e) 11 277):=p.s.row p.hx
theorem PD.gP(p:PD h L k lv ws m tw w pc bl e):h.t.get k.Po=some (.row (aa 0 [.ptr k.M 0,.ptr k.Ly 0,.int .i64 k.po,.int .i64 k.li,.map k.O,k.gv] T.e) 6 230):=p.s.row ((Fx p.xn.2.1 p.xn.2.2.2.1).trans p.hp)
theorem PD.gY(p:PD h L k lv ws m tw w pc bl e):h.t.get k.Y=some (.map [(.int .u8 4,.fn (.func 139) [] [],0),(.int .u8 5,.fn (.func 140) [] [],1),(.int .u8 6,.fn (.func 141) [] [],2)] 3):=p.s.row ((Fx p.xn.2.2.1 p.xn.2.2.2.2).trans p.hy)
def Lv(h:H)(L:List Cm)(k:ZX)(ws:List Int)(m:Nat)(tw w pc bl e:Int)(h':H):Prop:=∃dU,h.next<=h'.next/\PD h' L k dU ws m tw w pc bl e
theorem aje(P:Program)[PF P](lu:sW call)(p:PD h L k lv ws m tw w pc bl e)(hm:m<=999000){w':Int}(hw:ws[k.hd]?=some w'):
 WF P call ZM [.ptr k.X 0] h fun v h'=>v=.aE []/\Lv h L k ws (m+1) tw w' pc bl e h':=by
 obtain⟨h1,mV,e1,eW,s1⟩:=lu.sp p.s p.hc (by omega) p.t0.1 p.t0.2.1 hw;have gX:=p.gX;have gP:=p.gP;have p1:=p.acc s1;have fI:=p1.gX;simp only[go_sem,seval,gX,gP,e1,eW,fI];exact⟨mV,eW,p1.tk _ _ _ _ _⟩
def Te(call:ab):Prop:=∀h L k lv ws m tw w pc bl e w',PD h L k lv ws m tw w pc bl e->m<=999000->ws[k.hd]?=some w'->aG call 183 [.ptr k.X 0] h fun v h'=>v=.aE []/\Lv h L k ws (m+1) tw w' pc bl e h'
theorem ajf(P:Program)[PF P](p:PD h L k lv ws m tw w pc bl e){b:Int}(b0:0<=b)(b1:b<=10000):
 WF P call ZO [.ptr k.X 0,.int .i64 b] h fun v h'=>v=.int .i64 (k.li+b-1)/\h'=h:=by
 have gX:=p.gX;have gP:=p.gP;have:=p.t0;have f1:fw .i64 (k.li+b)=k.li+b:=aS (by omega) (by omega);have f2:fw .i64 (k.li+b-1)=k.li+b-1:=aS (by omega) (by omega);simp only[go_sem,seval,gX,gP,f1,f2]
def Tf(call:ab):Prop:=∀h L k lv ws m tw w pc bl e b,PD h L k lv ws m tw w pc bl e->0<=b->b<=10000->call 185 [.ptr k.X 0,.int .i64 b] h=some (.int .i64 (k.li+b-1),h)
theorem Z1(P:Program){h:H}{g u:Nat}(hg:g<=1000)(hu:u<=1024):WF P call RW [.int .u64 (g:Int),.int .i64 (u:Int)] h fun v h'=>v=.aE [.int .u64 ((u+65536*g:Nat):Int),.int .i64 0]/\h'=h:=by
 have e1:¬1099511627775<(g:Int):=by omega
 have e2:¬(u:Int)<0:=by omega
 have e3:¬1024<(u:Int):=by omega
 have f1:fw .u64 (u:Int)=u:=uE (by omega) (by omega);have f2:fw .u64 (65536*(g:Int))=65536*g:=uE (by omega) (by omega);have f3:fw .u64 ((u:Int)+65536*g)=((u+65536*g:Nat):Int):=by rw[uE (by omega) (by omega)];omega
 simp only[go_sem,seval,e1,e2,e3,f1,f2,f3]
def Tg(call:ab):Prop:=∀h (g u:Nat),g<=1000->u<=1024->call 123 [.int .u64 (g:Int),.int .i64 (u:Int)] h=some (.aE [.int .u64 ((u+65536*g:Nat):Int),.int .i64 0],h)
def Th(call:ab):Prop:=∀h (g u:Nat),u<65536->g<1000->call 201 [.int .u64 ((u+65536*g:Nat):Int)] h=some (.int .u64 (g:Int),h)
def Ti(call:ab):Prop:=∀h (g u:Nat),u<65536->call 184 [.int .u64 ((u+65536*g:Nat):Int)] h=some (.int .i64 (u:Int),h)
theorem ajg(P:Program)[PF P](Tj:Th call)(ajh:Tg call)(Ep:Jr call){g u b:Nat}(p:PD h L k lv ws m tw ((u+65536*g:Nat):Int) pc bl e)(hm:m<=999000)(hw:ws[k.hd]?=some ((u+65536*g:Nat):Int))(hu:u<65536)(hg:g<900)(hb:b<=1024):
 WF P call ZR [.ptr k.X 0,.int .i64 (b:Int)] h fun v h'=>v=.bool true/\Lv h L k (ws.set k.hd ((b+65536*(g+1):Nat):Int)) (m+1) tw ((u+65536*g:Nat):Int) pc bl e h':=by
 obtain⟨h1,mV,e1,eW,s1⟩:=Ep h _ k.n k.M k.W lv ws m k.t k.hd _ ((b+65536*(g+1):Nat):Int) p.s p.hc (by omega) p.t0.1 p.t0.2.1 hw;have k1:=Tj h g u hu (by omega);have k2:=ajh h (g+1) b (by omega) hb;have gX:=p.gX;have gP:=p.gP;have f1:fw .u64 ((g:Int)+1)=((g+1:Nat):Int):=by rw[uE (by omega) (by omega)];rfl
 have f2:=ZW (n:=g+1) (by omega);simp only[go_sem,seval,gX,gP,k1,f1,f2,k2,e1,eW];exact⟨mV,eW,p.acc s1⟩
def Tl(call:ab):Prop:=∀h L k lv ws m tw pc bl e (g u b:Nat),PD h L k lv ws m tw ((u+65536*g:Nat):Int) pc bl e->m<=999000->ws[k.hd]?=some ((u+65536*g:Nat):Int)->u<65536->g<900->b<=1024->aG call 186 [.ptr k.X 0,.int .i64 (b:Int)] h fun v h'=>v=.bool true/\Lv h L k (ws.set k.hd ((b+65536*(g+1):Nat):Int)) (m+1) tw ((u+65536*g:Nat):Int) pc bl e h'
theorem aji(P:Program)[PF P](Tm:Te call)(Tn:Ti call){g u:Nat}(p:PD h L k lv ws m tw w pc bl e)(hm:m<=999000)(hw:ws[k.hd]?=some ((u+65536*g:Nat):Int))(hu:u<65536):
 WF P call ZS [.ptr k.X 0] h fun v h'=>v=.aE []/\Lv h L k ws (m+1) (u:Int) ((u+65536*g:Nat):Int) (if u=0 then 0 else 5) bl (if u=0 then 6 else e) h':=by
 simp only[go_sem,seval];refine af (Tm h L k lv ws m tw w pc bl e _ p hm hw) fun v1 h1 p1=>?_
 obtain⟨rfl,mV,eW,q1⟩:=p1;have fI:=q1.gX;have k2:=Tn ⟨h1.next,h1.t.set k.X (Mo k.Po k.t tw (k.hd:Int) ((u+65536*g:Nat):Int) 5 k.Y bl e)⟩ g u hu;simp only[Mo]at k2
 by_cases h0:u=0
 ·have e1:(u:Int)=0:=by omega
  simp only[go_sem,seval,fI,k2,e1,if_pos h0];exact⟨mV,eW,q1.tk _ _ _ _ _⟩
 ·have e1:¬(u:Int)=0:=by omega
  simp only[go_sem,seval,fI,k2,e1,if_neg h0];exact⟨mV,eW,q1.tk _ _ _ _ _⟩
theorem ajj(P:Program)[PF P](Tp:Tf call)(lu:sW call){u b:Nat}(p:PD h L k lv ws m (u:Int) w pc bl e)(hm:m<=999000){a:Nat}(ha:k.li+(u:Int) -1=(a:Int))(hw:ws[a]?=some (b:Int))(hu:u<=10000)(hb:b<=10000):
 WF P call ZT [.ptr k.X 0] h fun v h'=>v=.aE []/\Lv h L k ws (m+1) (u:Int) w 6 (b:Int) e h':=by
 have k1:=Tp h L k lv ws m u w pc bl e u p (by omega) (by omega);rw[ha]at k1;obtain⟨h1,mV,e1,eW,s1⟩:=lu.sp p.s p.hc (by omega) p.t0.1 p.t0.2.1 hw;have gX:=p.gX;have gP:=p.gP;have p1:=p.acc s1;have fI:=p1.gX;have Z2:=p1.gP;have f1:fw .i64 (b:Int)=b:=aS (by omega) (by omega);simp only[go_sem,seval,gX,gP,k1,e1,eW,fI,Z2,f1];exact⟨mV,eW,p1.tk _ _ _ _ _⟩
theorem PD.out(p:PD h L k lv ws m tw w pc bl e){o:Nat}{a b:AO}(ho:L[o]?=some (aD k.O a))(on:o≠k.n/\o≠k.x/\o≠k.q/\o≠k.y):PD ⟨h.next,h.t.set k.O b⟩ (L.set o (aD k.O b)) k lv ws m tw w pc bl e:=by
 refine⟨?_,by rw[List.length_set];exact p.ln,eX p.hp on.2.2.1.symm,eX p.hy on.2.2.2.symm,p.xn,p.t0⟩;have s:=p.s.put ((Fx on.1 on.2.1).trans ho) b;unfold G3 at s⊢;rw[List.set_comm _ _ on.1,List.set_comm _ _ on.2.1];exact s
theorem ajk(P:Program)[PF P](Tq:Tl call){g u b:Nat}(p:PD h L k lv ws m tw ((u+65536*g:Nat):Int) pc (b:Int) e)(hm:m<=999000)(hw:ws[k.hd]?=some ((u+65536*g:Nat):Int))(hu:u<65536)(hg:g<900)(hb:b<=1024){o:Nat}{es:List (AV×AV×Nat)}{Ts:Nat}(ho:L[o]?=some (aD k.O (.map es Ts)))(on:o≠k.n/\o≠k.x/\o≠k.q/\o≠k.y)(hf:dL 0 (.int .i64 tw) es 0=some none):
 WF P call ZU [.ptr k.X 0] h fun v h'=>v=.aE []/\Lv h (L.set o (aD k.O (.map (es++[(.int .i64 tw,.bool false,Ts)]) (Ts+1)))) k (ws.set k.hd ((b+65536*(g+1):Nat):Int)) (m+1) tw ((u+65536*g:Nat):Int) 0 (b:Int) e h':=by
 have gX:=p.gX;simp only[go_sem,seval,gX];refine af (Tq h L k lv ws m tw pc b e g u b p hm hw hu hg hb) fun v1 h1 p1=>?_
 obtain⟨rfl,mV,eW,q1⟩:=p1;have fI:=q1.gX;have Z2:=q1.gP;have QI:=q1.s.row ((Fx on.1 on.2.1).trans ho);have kA:iA 0 (.int .i64 tw)=true:=rfl;have XO:¬k.X=k.O:=fun q=>by rw[←q,fI]at QI;cases QI
 simp only[go_sem,seval,fI,Z2,QI,kA,hf,G4,eW,XO];exact⟨mV,eW,(q1.out ho on).tk _ _ _ _ _⟩
theorem ajl(P:Program)[PF P](p:PD h L k lv ws m tw w pc bl e):WF P call ZP [.ptr k.X 0] h fun v h'=>v=.int .u8 pc/\h'=h:=by
 have gX:=p.gX;simp only[go_sem,seval,gX]
def Tt(call:ab):Prop:=∀h L k lv ws m tw w pc bl e,PD h L k lv ws m tw w pc bl e->call 187 [.ptr k.X 0] h=some (.int .u8 pc,h)
theorem ajm(P:Program)[PF P](Tu:Tt call)(p:PD h L k lv ws m tw w pc bl e):WF P call ZV [.ptr k.X 0] h fun v h'=>v=.int .u8 pc/\h'=h:=by
 have k1:=Tu h L k lv ws m tw w pc bl e p;simp only[go_sem,seval,k1]
def Tv(call:ab):Prop:=∀h L k lv ws m tw w pc bl e,PD h L k lv ws m tw w pc bl e->call 143 [.ptr k.X 0] h=some (.int .u8 pc,h)
theorem w75(P:Program)[PF P](Tx:Tv call)(p:PD h L k lv ws m tw w pc bl e){f:Nat}(Ty:pc=4/\f=139\/pc=5/\f=140\/pc=6/\f=141){L':List Cm}{cz:List Int}{m':Nat}{Ij w' D9 Mq e':Int}(kf:aG call f [.ptr k.X 0] h fun v h'=>v=.aE []/\Lv h L' k cz m' Ij w' D9 Mq e' h'):
 WF P call c75 [.ptr k.X 0] h fun v h'=>v=.aE [.int .u8 pc,.bool (decide (D9=0))]/\Lv h L' k cz m' Ij w' D9 Mq e' h':=by
 have k1:=Tx h L k lv ws m tw w pc bl e p;have gX:=p.gX;have gY:=p.gY;have kA:iA 0 (.int .u8 pc)=true:=rfl;have e0:¬pc=0:=by omega
 have hf:dL 0 (.int .u8 pc) [(.int .u8 4,.fn (.func 139) [] [],0),(.int .u8 5,.fn (.func 140) [] [],1),(.int .u8 6,.fn (.func 141) [] [],2)] 0=some (some ((pc-4).toNat,.fn (.func f) [] [])):=by
  rcases Ty with⟨rfl,rfl⟩|⟨rfl,rfl⟩|⟨rfl,rfl⟩<;>rfl
 have e9:¬1099511627776<=f:=by omega
 simp only[go_sem,seval,k1,e0,gX,gY,kA,hf,Go.Proofs.YtgkjlklfjbljeaaGreat.Eo.tS,e9,decide_false,cond_false];refine af kf fun v1 h1 p1=>?_
 obtain⟨rfl,mV,eW,q1⟩:=p1;have fI:=q1.gX;simp only[go_sem,seval,fI];exact⟨mV,eW,q1⟩
theorem w77(P:Program)[PF P](p:PD h L k lv ws m tw w 0 bl e):WF P call c77 [.ptr k.X 0] h fun v h'=>v=.aE [.int .i64 tw,.int .i64 0,.int .i64 e]/\h'=h:=by
 have gX:=p.gX;simp only[go_sem,seval,gX]
end
theorem w71(P:Program)[PF P]{call:ab}{h:H}{B:Nat}{a b c:AV}{r:List AV}(g:h.t.get B=some (ag (a::b::c::r) 104)):WF P call c71 [.ptr B 0] h fun v h'=>v=c/\h'=h:=by
 simp only[go_sem,seval,g]
theorem w72(P:Program)[PF P]{call:ab}{h:H}{L:List Cm}{q ht M Ly Po O:Nat}{po li:Int}{gv:AV}(hp:L[q]?=some (aD Po (ym M Ly po li O gv)))(s:Sp h L)(h1:1<=ht)(h6:ht<=6)(p0:0<=po)(p1:po<=10000):
 WF P call c72 [.ptr Po 0,.int .i64 0,.int .i64 (ht:Int),.int .i64 0] h fun v h'=>∃X Y,v=.aE [.ptr X 0,.int .i64 0]/\h.next<=h'.next/\Sp h' (aD Y stM::aD X (Mo Po 0 0 (po+ht-1) 0 4 Y 0 0)::L):=by
 have gP:=s.row hp;have df:=s.uG hp;simp only[ym]at gP;have e1:¬(ht:Int)<1:=by omega
 have e2:¬6<(ht:Int):=by omega
 have f1:fw .i64 (po+(ht:Int))=po+ht:=aS (by omega) (by omega);have f2:fw .i64 (po+(ht:Int) -1)=po+ht-1:=aS (by omega) (by omega);have a0:dL 0 (.int .u8 4) [] 0=some none:=rfl;have a1:∀v k,dL 0 (.int .u8 5) [(.int .u8 4,v,k)] 0=some none:=fun _ _=>rfl
 have a2:∀v k u j,dL 0 (.int .u8 6) [(.int .u8 4,v,k),(.int .u8 5,u,j)] 0=some none:=fun _ _ _ _=>rfl
 have k4:iA 0 (.int .u8 4)=true:=rfl;have k5:iA 0 (.int .u8 5)=true:=rfl;have k6:iA 0 (.int .u8 6)=true:=rfl;have n1:¬h.next+1=h.next:=by omega
 have n2:¬h.next=h.next+1:=by omega
 simp only[go_sem,seval,gP,e1,e2,f1,f2,G4,a0,a1,a2,k4,k5,k6,List.nil_append,List.cons_append,n1,n2];exact⟨_,_,rfl,((s.new _).new _).put (n:=1) rfl _⟩
end
end Go.Proofs.YtgkjlklfjbljeaaGreat.CQ
namespace Go.Proofs.YtgkjlklfjbljeaaGreat.CQ
open Go.Proofs.YtgkjlklfjbljeaaGreat.Eo
noncomputable section
@[go_sem]def Z3:CF:=⟨1,(Sq [b 2 0] (Rq [a 3 0,qE 4 50 3 65536,qD 5 4,a 2 5])),[.tmp 2]⟩
@[go_sem]def Z4:CF:=⟨2,(Sq [qd 4 0,b 5 0] (Qq (Sq [a 6 0,zM 7 50 6 1099511627775,a 8 7,r 9 8 1,qv 10 8 3 9 0,u 11 8 10,a 12 11,r 13 12 1,qb 14 12 3 13 1024,u 15 12 14] (Kq 15 [qd 4 0,b 5 2] .skip)) (Rq [a 16 1,qQ 17 16,a 18 0,jp 19 50 65536 18,qg 20 50 17 19,a 4 20,b 5 0]))),[.tmp 4,.tmp 5]⟩
@[go_sem]def Z5:CF:=⟨1,(Sq [qd 2 0] (Rq [a 3 0,q4 4 50 3 65536,a 2 4])),[.tmp 2]⟩
@[go_sem]def c74:CF:=⟨1,(Sq [v 2 0] (Qq (Sq [a 3 0,y 4 173 3] (Kq 4 [v 2 0] .skip)) (Rq [a 5 0,j 6 5,d 7 5 6,i 8 7,a 2 8]))),[.tmp 2]⟩
@[go_sem]def c76:CF:=⟨1,(Sq [v 2 0,w 3] (Qq (Sq [a 17 0,y 18 173 17,a 19 18,r 20 19 0,qf 21 19 20,J 22 19 5 21,E 23 19 22,zm 24 19 5 23 0,u 25 19 24] (Kq 25 [v 2 0,w 3] .skip)) (Qq (.cn ⟨[([g 0 0,n 1 26 0,m 2 27 1 5,k 3 28 2,g 4 0,n 5 30 4,m 6 31 5 0,k 7 32 6,n 8 33 7,m 9 34 8 0,k 10 35 9,g 11 0,n 12 37 11,m 13 38 12 0,k 14 39 13,n 15 40 14,m 16 41 15 1,k 17 42 16,n 18 43 17,m 19 44 18 16,m 20 45 19 5,k 21 46 20,g 22 0,n 23 48 22,m 24 49 23 2,k 25 50 24,qB 26 47 21 51 25 3,qI 27 52 26 3 1,g 28 0,n 29 54 28,m 30 55 29 0,k 31 56 30,n 32 57 31,m 33 58 32 1,k 34 59 33,n 35 60 34,m 36 61 35 16,m 37 62 36 6,k 38 63 37,qI 39 64 38 3 1,t 40 29 3,t 41 36 10,t 42 53 27,t 43 65 39],none)],[(0,26),(1,27),(2,28),(3,29),(4,30),(5,31),(6,32),(7,33),(8,34),(9,35),(10,36),(11,37),(12,38),(13,39),(14,40),(15,41),(16,42),(17,43),(18,44),(19,45),(20,46),(21,47),(22,48),(23,49),(24,50),(25,51),(26,52),(27,53),(28,54),(29,55),(30,56),(31,57),(32,58),(33,59),(34,60),(35,61),(36,62),(37,63),(38,64),(39,65),(40,4),(41,5),(42,6),(43,7)],[]⟩) (Sq [a 66 0,j 67 66,d 68 6 67,i 69 68,q 70 144 69,a 8 70] (Qq (Sq [a 71 4] (.block 0 (Sq [L 73 5 71 4,a 72 73] (Cq 72 (Sq [a 75 0,a 76 5,a 77 0,j 78 77,d 79 1 78,i 80 79,a 81 6,Q 82 145 76 80 81,a 74 82,o 83 74 0,o 84 74 1,j 85 75,d 86 6 85,s 1 86 83] (Sq [a 87 0,j 88 87,d 89 3 88,i 90 89,qW 91 3 90 0] (Cq 91 (Oq [a 92 0,j 93 92,d 94 5 93,qj 1 94 7]) (Sq [a 95 0,j 96 95,d 97 6 96,i 98 97,q 99 144 98,qe 100 3 99 0] (Cq 100 (Oq [a 101 0,a 102 0,j 103 101,d 104 5 103,qj 1 104 0,j 105 102,d 106 10 105,qp 1 106 6]) (Oq [a 107 0,j 108 107,d 109 5 108,qj 1 109 5])))))) (Sq [L 111 5 71 5,a 110 111] (Cq 110 (Sq [a 113 0,a 114 5,a 115 0,j 116 115,d 117 1 116,i 118 117,a 119 7,a 120 8,qg 121 3 119 120,Q 122 145 114 118 121,a 112 122,o 123 112 0,o 124 112 1,j 125 113,d 126 7 125,s 1 126 123] (Oq [a 127 0,j 128 127,d 129 5 128,qj 1 129 6])) (Sq [L 131 5 71 7,a 130 131] (Cq 130 (Qq (.cn ⟨[([g 0 5,g 1 0,n 2 133 1,m 3 134 2 1,k 4 135 3,g 5 7,g 6 0,n 7 138 6,m 8 139 7 3,k 9 140 8,qB 10 137 5 141 9 3,g 11 8,zn 12 143 11],some (qw 13 132 0 136 4 142 10 144 12 87)),([],none)],[(0,132),(1,133),(2,134),(3,135),(4,136),(5,137),(6,138),(7,139),(8,140),(9,141),(10,142),(11,143),(12,144),(13,145)],[]⟩) (Oq [a 146 0,j 147 146,d 148 5 147,qj 1 148 8])) (Sq [L 150 5 71 6,a 149 150] (Cq 149 (Qq (.cn ⟨[([g 0 0,n 1 152 0,m 2 153 1 6,k 3 154 2,g 6 0,n 7 158 6,m 8 159 7 7,k 9 160 8,⟨10,[(161,some 9)],none,.p (.conv .i64 (.t 161))⟩],some (Z 4 155 3 147)),([zB 5 156 4 50 1],some (qq 11 157 5 162 10 146)),([t 12 163 11,B 13 151 12 0,B 14 151 12 1,t 15 164 13,t 16 165 14],none)],[(0,152),(1,153),(2,154),(3,155),(4,156),(5,157),(6,158),(7,159),(8,160),(9,161),(10,162),(11,163),(12,151),(13,164),(14,165),(15,9),(16,10)],[(⟨9,[(160,(some 8))],none,.r (.ld none (.t 160))⟩,[1])]⟩) (Qq (Qq (.cn ⟨[([g 0 5,g 1 0,n 2 168 1,m 3 169 2 1,k 4 170 3,g 5 6,g 6 0,n 7 173 6,m 8 174 7 6,k 9 175 8,g 10 9],some (qU 11 167 0 171 4 172 5 176 9 177 10 148)),([t 12 178 11,B 13 166 12 0,B 14 166 12 1,t 15 179 13,t 16 180 14],none)],[(0,167),(1,168),(2,169),(3,170),(4,171),(5,172),(6,173),(7,174),(8,175),(9,176),(10,177),(11,178),(12,166),(13,179),(14,180),(15,11),(16,12)],[]⟩) (Sq [a 181 11] (Cq 181 (Sq [a 182 0,a 183 0,a 184 8,j 185 182,d 186 8 185,s 1 186 184,j 187 183,d 188 5 187,qj 1 188 0] (Sq [a 189 0,j 190 189,d 191 0 190,i 192 191,j 193 192,d 194 2 193,i 195 194,a 196 8,G 197 1 195 196,zk 1 197] (.exit 0))) .skip))) (Sq [a 198 0,j 199 198,d 200 9 199,i 201 200,C 202 3 201 1,j 203 198,d 204 9 203,s 1 204 202] (Sq [a 205 0,j 206 205,d 207 5 206,qj 1 207 4] (Qq (.cn ⟨[([g 0 0,n 1 208 0,m 2 209 1 9,k 3 210 2,g 4 0,n 5 212 4,m 6 213 5 4,k 7 214 6,zi 8 211 3 215 7 3],none)],[(0,208),(1,209),(2,210),(3,211),(4,212),(5,213),(6,214),(7,215),(8,216)],[]⟩) (Cq 216 (Oq [a 217 0,a 218 0,j 219 217,d 220 5 219,qj 1 220 0,j 221 218,d 222 10 221,qp 1 222 11]) .skip)))))) (Sq [L 224 5 71 8,a 223 224] (Cq 223 (Qq (.cn ⟨[([g 0 0,n 1 226 0,m 2 227 1 6,k 3 228 2,g 6 0,n 7 232 6,m 8 233 7 3,k 9 234 8],some (Z 4 229 3 147)),([zB 5 230 4 50 1],some (qq 10 231 5 235 9 146)),([t 11 236 10,B 12 225 11 0,B 13 225 11 1,t 14 237 12,t 15 238 13],none)],[(0,226),(1,227),(2,228),(3,229),(4,230),(5,231),(6,232),(7,233),(8,234),(9,235),(10,236),(11,225),(12,237),(13,238),(14,13),(15,14)],[(⟨9,[(234,(some 8))],none,.r (.ld none (.t 234))⟩,[1])]⟩) (Sq [a 239 0,j 240 239,d 241 5 240,qj 1 241 4] (Qq (.cn ⟨[([g 0 5,g 1 0,n 2 244 1,m 3 245 2 1,k 4 246 3,g 5 6,g 6 0,n 7 249 6,m 8 250 7 6,k 9 251 8,g 10 13],some (qU 11 243 0 247 4 248 5 252 9 253 10 148)),([t 12 254 11,B 13 242 12 0,B 14 242 12 1,t 15 255 13,t 16 256 14],none)],[(0,243),(1,244),(2,245),(3,246),(4,247),(5,248),(6,249),(7,250),(8,251),(9,252),(10,253),(11,254),(12,242),(13,255),(14,256),(15,15),(16,16)],[]⟩) (Sq [a 257 15] (Cq 257 (Sq [a 258 0,j 259 258,d 260 5 259,qj 1 260 0] (Qq (.cn ⟨[([g 0 0,n 1 261 0,m 2 262 1 0,k 3 263 2,n 4 264 3,m 5 265 4 2,k 6 266 5,g 7 0,n 8 268 7,m 9 269 8 3,k 10 270 9,g 11 0,n 12 272 11,m 13 273 12 0,k 14 274 13,n 15 275 14,m 16 276 15 3,k 17 277 16,g 18 0,n 19 279 18,m 20 280 19 3,k 21 281 20,Y 22 267 6 271 10 1],some (zC 23 283 22 1)),([Y 24 278 17 282 21 1],some (zC 25 284 24 1)),([],none)],[(0,261),(1,262),(2,263),(3,264),(4,265),(5,266),(6,267),(7,268),(8,269),(9,270),(10,271),(11,272),(12,273),(13,274),(14,275),(15,276),(16,277),(17,278),(18,279),(19,280),(20,281),(21,282),(22,283),(24,284)],[]⟩) (.cn ⟨[([g 0 0,n 1 285 0,m 2 286 1 0,k 3 287 2,n 4 288 3,m 5 289 4 4,k 6 290 5,g 7 0,n 8 292 7,m 9 293 8 3,k 10 294 9,Y 11 291 6 295 10 1,k 12 296 11,qR 13 297 12 3 1,Y 14 291 6 295 10 1],some (V 15 299 14 298 13 1)),([],none)],[(0,285),(1,286),(2,287),(3,288),(4,289),(5,290),(6,291),(7,292),(8,293),(9,294),(10,295),(11,296),(12,297),(13,298),(14,299)],[]⟩))) .skip))))) .skip)))))))))))) (Qq (.cn ⟨[([g 0 4,g 1 0,n 2 301 1,m 3 302 2 5,k 4 303 3,zZ 5 304 4 5 0,t 6 300 0,t 7 305 5],none)],[(0,300),(1,301),(2,302),(3,303),(4,304),(5,305),(6,2),(7,3)],[]⟩) .ret)))))),[.tmp 2,.tmp 3]⟩
@[go_sem]def c73:CF:=⟨4,(Sq [p 8,b 9 0] (Qq (.block 0 (Sq [a 11 0,y 12 90 11,a 10 12] (Kq 10 [p 8,b 9 1] (Sq [a 14 1,q 15 142 14,qa 16 15,a 17 16,r 18 17 3,qv 19 17 3 18 0,u 20 17 19,a 21 20,r 22 21 3,qb 23 21 3 22 255,u 24 21 23,a 13 24] (Kq 13 [p 8,b 9 2] (Sq [a 26 2,D 27 3 26 1,a 28 27,r 29 28 2,qb 30 28 3 29 6,u 31 28 30,a 25 31] (Kq 25 [p 8,b 9 3] .skip))))))) (Rq [a 32 0,a 33 1,a 34 2,a 35 3,⟨some 36,none,.p (.build [.aJ,aN,aN,aN,aN,ya,cY,cY,aN,aN,aN] [(0,1,.t 32),(1,1,.t 33),(2,1,.t 34),(4,1,.t 35),(5,1,.c (.int .u8 4))])⟩,z 37 281 36,a 8 37,b 9 0]))),[.tmp 8,.tmp 9]⟩
@[go_sem]def c78:CF:=⟨1,(Sq [b 2 0,b 3 0,b 4 0] (Qq (.block 0 (Sq [a 6 0,y 7 173 6,a 5 7] (Kq 5 [b 2 0,b 3 0,b 4 1] (Sq [a 9 0,j 10 9,d 11 5 10,i 12 11,zl 13 5 12 0,a 8 13] (Kq 8 [b 2 0,b 3 0,b 4 8] .skip))))) (Qq (.cn ⟨[([g 0 0,n 1 14 0,m 2 15 1 8,k 3 16 2,g 4 0,n 5 18 4,m 6 19 5 9,k 7 20 6,g 8 0,n 9 22 8,m 10 23 9 10,k 11 24 10,t 12 17 3,t 13 21 7,t 14 25 11],none)],[(0,14),(1,15),(2,16),(3,17),(4,18),(5,19),(6,20),(7,21),(8,22),(9,23),(10,24),(11,25),(12,2),(13,3),(14,4)],[]⟩) .ret))),[.tmp 2,.tmp 3,.tmp 4]⟩
theorem ajn(P:Program){call:ab}{h:H}{g t:Nat}(ht:t<65536):WF P call Z3 [.int .u64 ((t+65536*g:Nat):Int)] h fun v h'=>v=.int .i64 (t:Int)/\h'=h:=by
 have e1:Int.tmod ((t+65536*g:Nat):Int) 65536=(t:Int):=by rw[Int.tmod_eq_emod_of_nonneg (by omega)];omega
 have f1:fw .i64 (t:Int)=(t:Int):=aS (by omega) (by omega);simp only[go_sem,seval,e1,f1]
theorem ajo(P:Program){call:ab}{h:H}{g t:Nat}(ht:t<65536)(hg:g<1000):WF P call Z5 [.int .u64 ((t+65536*g:Nat):Int)] h fun v h'=>v=.int .u64 (g:Int)/\h'=h:=by
 have e1:Int.tdiv ((t+65536*g:Nat):Int) 65536=(g:Int):=by rw[Int.tdiv_eq_ediv_of_nonneg (by omega)];omega
 have f1:fw .u64 (g:Int)=(g:Int):=uE (by omega) (by omega);simp only[go_sem,seval,e1,f1]
theorem ajp(P:Program){call:ab}{h:H}{g u:Nat}(hg:g<=1000)(hu:u<=1024):WF P call Z4 [.int .u64 (g:Int),.int .i64 (u:Int)] h fun v h'=>v=.aE [.int .u64 ((u+65536*g:Nat):Int),.int .i64 0]/\h'=h:=by
 have e1:¬1099511627775<(g:Int):=by omega
 have e2:¬(u:Int)<0:=by omega
 have e3:¬1024<(u:Int):=by omega
 have f1:fw .u64 (u:Int)=u:=uE (by omega) (by omega);have f2:fw .u64 (65536*(g:Int))=65536*g:=uE (by omega) (by omega);have f3:fw .u64 ((u:Int)+65536*g)=((u+65536*g:Nat):Int):=by rw[uE (by omega) (by omega)];omega
 simp only[go_sem,seval,e1,e2,e3,f1,f2,f3]
def JC(call:ab):Prop:=∀h (g u:Nat),u<65536->call 144 [.int .u64 ((u+65536*g:Nat):Int)] h=some (.int .i64 (u:Int),h)
def Tz(call:ab):Prop:=∀h (g u:Nat),u<65536->g<1000->call 147 [.int .u64 ((u+65536*g:Nat):Int)] h=some (.int .u64 (g:Int),h)
def TA(call:ab):Prop:=∀h (g u:Nat),g<=1000->u<=1024->call 146 [.int .u64 (g:Int),.int .i64 (u:Int)] h=some (.aE [.int .u64 ((u+65536*g:Nat):Int),.int .i64 0],h)
def Mr(M L q Tk:Nat)(gv gn:AV):AO:=.row (aa 0 [.ptr M 0,.ptr L 0,.sl Tk 0 q 1 (some q),gv,gn] T.e) 5 256
def Ms(Po:Nat)(t ht pc hd lk fO e:Int):AO:=.row (aa 0 [.ptr Po 0,.int .i64 t,.int .i64 ht,.int .i64 0,.int .i64 0,.int .u8 pc,.int .u64 hd,.int .u64 lk,.int .i64 fO,.int .i64 0,.int .i64 e] T.e) 11 281
structure Z6 where
 n:Nat
 q:Nat
 x:Nat
 z:Nat
 M:Nat
 W:Nat
 Po:Nat
 X:Nat
 L:Nat
 Tk:Nat
 ql:Nat
 gv:AV
 gn:AV
 cv:AV
 hv:AV
 wv:AV
 c:aj
 t:Int
 ht:Int
def G5(L:List Cm)(k:Z6)(lv:AV)(ws:List Int)(m:Nat)(pc hd lk fO e:Int):List Cm:=(L.set k.n (cB k.M k.W lv ws m)).set k.x (aD k.X (Ms k.Po k.t k.ht pc hd lk fO e))
structure PE(h:H)(L:List Cm)(k:Z6)(lv:AV)(ws:List Int)(m:Nat)(pc hd lk fO e:Int):Prop where
 s:Sp h (G5 L k lv ws m pc hd lk fO e)
 ln:k.n<L.length/\k.x<L.length
 hp:L[k.q]?=some (aD k.Po (Mr k.M k.L k.ql k.Tk k.gv k.gn))
 hz:L[k.z]?=some (Mm k.L k.c k.cv k.hv k.wv)
 xn:k.x≠k.n/\k.q≠k.n/\k.z≠k.n/\k.q≠k.x/\k.z≠k.x
 t0:0<=k.t/\k.t<64/\1<=k.ht/\k.ht<=6
 b:LB k.c
section
variable {call:ab} {h h1:H} {L:List Cm} {k:Z6} {lv mV:AV} {ws ZY:List Int} {m m1:Nat} {pc hd lk fO e:Int}
theorem Z7(hn:k.n<L.length)(xn:k.x≠k.n):(G5 L k lv ws m pc hd lk fO e)[k.n]?=some (cB k.M k.W lv ws m):=by
 unfold G5;rw[List.getElem?_set_ne xn,List.getElem?_set_self hn]
theorem Z8(hx:k.x<L.length):(G5 L k lv ws m pc hd lk fO e)[k.x]?=some (aD k.X (Ms k.Po k.t k.ht pc hd lk fO e)):=by
 unfold G5;rw[List.getElem?_set_self (by rw[List.length_set];exact hx)]
theorem Fy{i:Nat}(h1:i≠k.n)(h2:i≠k.x):(G5 L k lv ws m pc hd lk fO e)[i]?=L[i]?:=by
 unfold G5;rw[List.getElem?_set_ne h2.symm,List.getElem?_set_ne h1.symm]
theorem PE.hc(p:PE h L k lv ws m pc hd lk fO e):(G5 L k lv ws m pc hd lk fO e)[k.n]?=some (cB k.M k.W lv ws m):=Z7 p.ln.1 p.xn.1
theorem PE.hx(p:PE h L k lv ws m pc hd lk fO e):(G5 L k lv ws m pc hd lk fO e)[k.x]?=some (aD k.X (Ms k.Po k.t k.ht pc hd lk fO e)):=Z8 p.ln.2
theorem PE.acc(p:PE h L k lv ws m pc hd lk fO e)(s:Sp h1 ((G5 L k lv ws m pc hd lk fO e).set k.n (cB k.M k.W mV ZY m1))):PE h1 L k mV ZY m1 pc hd lk fO e:=by
 refine⟨?_,p.ln,p.hp,p.hz,p.xn,p.t0,p.b⟩;unfold G5 at s⊢;rw[List.set_comm _ _ p.xn.1,List.set_set]at s;exact s
theorem PE.tk(p:PE h L k lv ws m pc hd lk fO e)(D9 G6 Mt TB e':Int):PE ⟨h.next,h.t.set k.X (Ms k.Po k.t k.ht D9 G6 Mt TB e')⟩ L k lv ws m D9 G6 Mt TB e':=by
 refine⟨?_,p.ln,p.hp,p.hz,p.xn,p.t0,p.b⟩;have s:=p.s.put p.hx (Ms k.Po k.t k.ht D9 G6 Mt TB e');unfold G5 at s⊢;rw[List.set_set]at s;exact s
theorem PE.gX(p:PE h L k lv ws m pc hd lk fO e):h.t.get k.X=some (.row (aa 0 [.ptr k.Po 0,.int .i64 k.t,.int .i64 k.ht,.int .i64 0,.int .i64 0,.int .u8 pc,.int .u64 hd,.int .u64 lk,.int .i64 fO,.int .i64 0,.int .i64 e] T.e) 11 281):=p.s.row p.hx
theorem PE.gP(p:PE h L k lv ws m pc hd lk fO e):h.t.get k.Po=some (.row (aa 0 [.ptr k.M 0,.ptr k.L 0,.sl k.Tk 0 k.ql 1 (some k.ql),k.gv,k.gn] T.e) 5 256):=p.s.row ((Fy p.xn.2.1 p.xn.2.2.2.1).trans p.hp)
theorem PE.lay(p:PE h L k lv ws m pc hd lk fO e):iX h k.L k.c k.cv k.hv k.wv:=p.s.ok _ _ ((Fy p.xn.2.2.1 p.xn.2.2.2.2).trans p.hz)
theorem PE.XP(p:PE h L k lv ws m pc hd lk fO e):¬k.Po=k.X:=fun q=>by have:=p.gP;rw[q,p.gX]at this;injection this with h1;injection h1 with _ h2;exact absurd h2 (by decide)
def Lw(h:H)(L:List Cm)(k:Z6)(ws:List Int)(m:Nat)(pc hd lk fO e:Int)(h':H):Prop:=∃dU,h.next<=h'.next/\PE h' L k dU ws m pc hd lk fO e
theorem w74(P:Program)[PF P](p:PE h L k lv ws m pc hd lk fO e):WF P call c74 [.ptr k.X 0] h fun v h'=>v=.int .u8 pc/\h'=h:=by
 have gX:=p.gX;simp only[go_sem,seval,gX]
theorem w78(P:Program)[PF P](p:PE h L k lv ws m 0 hd lk fO e):WF P call c78 [.ptr k.X 0] h fun v h'=>v=.aE [.int .i64 fO,.int .i64 0,.int .i64 e]/\h'=h:=by
 have gX:=p.gX;simp only[go_sem,seval,gX]
theorem ajq(P:Program)[PF P](CP:JC call)(JD:NS call){g u:Nat}(p:PE h L k lv ws m 4 0 lk fO e)(hm:m<=999000){a:Nat}(ha:(aA k.c).po+k.ht-1=(a:Int))(hw:ws[a]?=some ((u+65536*g:Nat):Int))(hu:u<65536):
 WF P call c76 [.ptr k.X 0] h fun v h'=>v=.aE [.int .u8 4,.bool (decide (u=0))]/\Lw h L k ws (m+1) (if u=0 then 0 else 5) ((u+65536*g:Nat):Int) lk fO (if u=0 then 6 else e) h':=by
 obtain⟨n1,n2,n3,n4,n5,n6,n7,n8,n9,rH,rI⟩:=p.b.dq;have hv:=p.b.val;obtain⟨h1,mV,e1,eW,s1⟩:=JD h _ k.n k.M k.W lv ws m k.t a _ p.s p.hc (by omega) p.t0.1 p.t0.2.1 hw;have gX:=p.gX;have gP:=p.gP;have gL:=p.lay.g;have t0:=p.t0;have f1:fw .i64 ((aA k.c).po+k.ht)=(aA k.c).po+k.ht:=aS (by omega) (by omega);have f2:fw .i64 ((aA k.c).po+k.ht-1)=(a:Int):=by rw[←ha];exact aS (by omega) (by omega)
 have f3:fw .i64 ((aA k.c).li-1)=(aA k.c).li-1:=aS (by omega) (by omega);have k0:call 144 [.int .u64 0] h=some (.int .i64 0,h):=CP h 0 0 (by decide);have q1:=p.acc s1;have fI:=q1.gX;have k2:=CP ⟨h1.next,h1.t.set k.X (Ms k.Po k.t k.ht 4 ((u+65536*g:Nat):Int) lk fO e)⟩ g u hu;simp only[Ms]at k2
 by_cases h0:u=0
 ·have e3:(u:Int)=0:=by omega
  simp only[go_sem,seval,gX,gP,gL,au,cb,f1,f2,f3,k0,e1,fI,k2,e3,if_pos h0];exact⟨by rw[decide_eq_true h0],mV,eW,q1.tk _ _ _ _ _⟩
 ·have e3:¬(u:Int)=0:=by omega
  simp only[go_sem,seval,gX,gP,gL,au,cb,f1,f2,f3,k0,e1,fI,k2,e3,if_neg h0];exact⟨by rw[decide_eq_false h0],mV,eW,q1.tk _ _ _ _ _⟩
theorem ajr(P:Program)[PF P](CP:JC call)(JD:NS call){g u b:Nat}(p:PE h L k lv ws m 5 ((u+65536*g:Nat):Int) lk fO e)(hm:m<=999000){a:Nat}(ha:(aA k.c).li+(u:Int) -1=(a:Int))(hw:ws[a]?=some (b:Int))(hu:u<2000):
 WF P call c76 [.ptr k.X 0] h fun v h'=>v=.aE [.int .u8 5,.bool false]/\Lw h L k ws (m+1) 6 ((u+65536*g:Nat):Int) (b:Int) fO e h':=by
 obtain⟨n1,n2,n3,n4,n5,n6,n7,n8,n9,rH,rI⟩:=p.b.dq;have hv:=p.b.val;obtain⟨h1,mV,e1,eW,s1⟩:=JD h _ k.n k.M k.W lv ws m k.t a _ p.s p.hc (by omega) p.t0.1 p.t0.2.1 hw;have gX:=p.gX;have gP:=p.gP;have gL:=p.lay.g;have t0:=p.t0;have f1:fw .i64 ((aA k.c).po+k.ht)=(aA k.c).po+k.ht:=aS (by omega) (by omega);have f2:fw .i64 ((aA k.c).po+k.ht-1)=(aA k.c).po+k.ht-1:=aS (by omega) (by omega);have f3:fw .i64 ((aA k.c).li-1)=(aA k.c).li-1:=aS (by omega) (by omega);have f4:fw .i64 ((aA k.c).li-1+(u:Int))=(a:Int):=by rw[aS (by omega) (by omega)];omega
 have k0:=CP h g u (by omega);have q1:=p.acc s1;have fI:=q1.gX;simp only[go_sem,seval,gX,gP,gL,au,cb,f1,f2,f3,f4,k0,e1,fI];exact⟨mV,eW,q1.tk _ _ _ _ _⟩
theorem PE.out(p:PE h L k lv ws m pc hd lk fO e){o:Nat}{a b:AO}(ho:L[o]?=some (aD k.Tk a))(on:o≠k.n/\o≠k.x/\o≠k.q/\o≠k.z):PE ⟨h.next,h.t.set k.Tk b⟩ (L.set o (aD k.Tk b)) k lv ws m pc hd lk fO e:=by
 refine⟨?_,by rw[List.length_set];exact p.ln,eX p.hp on.2.2.1.symm,eX p.hz on.2.2.2.symm,p.xn,p.t0,p.b⟩;have s:=p.s.put ((Fy on.1 on.2.1).trans ho) b;unfold G5 at s⊢;rw[List.set_comm _ _ on.1,List.set_comm _ _ on.2.1];exact s
theorem ajs(P:Program)[PF P](CP:JC call)(TC:Tz call)(TD:TA call)(TE:S1 call){g u b:Nat}(p:PE h L k lv ws m 6 ((u+65536*g:Nat):Int) (b:Int) fO e)(hm:m<=999000){a:Nat}(ha:(aA k.c).po+k.ht-1=(a:Int))(hw:ws[a]?=some ((u+65536*g:Nat):Int))(hu:u<2000)(hg:g<900)(hb:b<=1024){o:Nat}{tk:List Bool}(ho:L[o]?=some (aD k.Tk (.row (aa 0 (tk.map AV.bool) T.e) k.ql 4)))(on:o≠k.n/\o≠k.x/\o≠k.q/\o≠k.z)(htl:tk.length=k.ql)(Cc:u<k.ql):
 WF P call c76 [.ptr k.X 0] h fun v h'=>v=.aE [.int .u8 6,.bool true]/\Lw h (L.set o (aD k.Tk (.row (aa 0 ((tk.set u true).map AV.bool) T.e) k.ql 4))) k (ws.set a ((b+65536*(g+1):Nat):Int)) (m+1) 0 ((u+65536*g:Nat):Int) (b:Int) (u:Int) e h':=by
 obtain⟨n1,n2,n3,n4,n5,n6,n7,n8,n9,rH,rI⟩:=p.b.dq;have hv:=p.b.val;obtain⟨h1,mV,e1,eW,s1⟩:=TE h _ k.n k.M k.W lv ws m k.t a _ ((b+65536*(g+1):Nat):Int) p.s p.hc (by omega) p.t0.1 p.t0.2.1 hw;have gX:=p.gX;have gP:=p.gP;have gL:=p.lay.g;have t0:=p.t0;have f1:fw .i64 ((aA k.c).po+k.ht)=(aA k.c).po+k.ht:=aS (by omega) (by omega);have f2:fw .i64 ((aA k.c).po+k.ht-1)=(a:Int):=by rw[←ha];exact aS (by omega) (by omega)
 have f3:fw .i64 ((aA k.c).li-1)=(aA k.c).li-1:=aS (by omega) (by omega);have f5:fw .u64 ((g:Int)+1)=((g+1:Nat):Int):=by rw[uE (by omega) (by omega)];rfl
 have f6:fw .i64 (b:Int)=b:=aS (by omega) (by omega);have k0:=CP h g u (by omega);have k1:=TC h g u (by omega) (by omega);have k2:=TD h (g+1) b (by omega) hb;have q1:=p.acc s1;have fI:=q1.gX;have Z2:=q1.gP;have q2:=q1.tk 0 ((u+65536*g:Nat):Int) (b:Int) (u:Int) e;have Jx:=q1.s.row ((Fy on.1 on.2.1).trans ho);have XP:=q1.XP;have XT:¬k.Tk=k.X:=fun q=>by rw[q,fI]at Jx;injection Jx with h1;injection h1 with _ _ h2;exact absurd h2 (by decide)
 have TX:¬k.X=k.Tk:=fun q=>XT q.symm
 have e5:(u:Int)<(k.ql:Int):=by omega
 have e6:u<(tk.map AV.bool).length:=by rw[List.length_map];omega
 have e7:u+1<=k.ql:=Cc;simp only[go_sem,seval,gX,gP,gL,au,cb,f1,f2,f3,k0,k1,f5,f6,k2,e1,eW,fI,Z2,XP];simp only[go_sem,seval,e5,Nat.mul_one,XT,Jx,e6];rw[decide_eq_true e7,cond_true];have q3:=q2.out ho on (b:=.row (aa 0 ((tk.set u true).map AV.bool) T.e) k.ql 4);rw[List.map_set]at q3⊢;simp only[go_sem,seval,TX];exact⟨mV,eW,q3⟩
theorem w73(P:Program)[PF P](JE:Ji call){q M Ly ql Tk Po:Nat}{gv gn:AV}{ht:Nat}(hp:L[q]?=some (aD Po (Mr M Ly ql Tk gv gn)))(s:Sp h L)(h1:1<=ht)(h6:ht<=6):
 WF P call c73 [.ptr Po 0,.int .i64 0,.int .i64 (ht:Int),.int .i64 0] h fun v h'=>∃X,v=.aE [.ptr X 0,.int .i64 0]/\h.next<=h'.next/\Sp h' (aD X (Ms Po 0 ht 4 0 0 0 0)::L):=by
 have gP:=s.row hp;simp only[Mr]at gP;have e1:¬(ht:Int)<1:=by omega
 have e2:¬6<(ht:Int):=by omega
 have k:=JE h 0;rw[decide_eq_true (by decide)]at k;simp only[go_sem,seval,gP,e1,e2,k];exact⟨_,rfl,s.new _⟩
end
end
end Go.Proofs.YtgkjlklfjbljeaaGreat.CQ
namespace Go.Proofs.YtgkjlklfjbljeaaGreat.CQ
open Go.Proofs.YtgkjlklfjbljeaaGreat.Eo
noncomputable section
variable(P:Program)[PT P]{call:ab}
@[go_sem]def Z9:CF:=⟨1,(Sq [b 2 0] (Qq (Sq [a 3 0] (.block 0 (Qq (.block 6 (.block 5 (.block 4 (Qq (.block 3 (.block 2 (.block 1 (Qq (Qq (Sq [L 5 5 3 0,a 4 5] (Cq 4 (.exit 1) .skip)) (Qq (Sq [L 7 5 3 1,a 6 7] (Cq 6 (.exit 2) .skip)) (Qq (Sq [L 9 5 3 2,a 8 9] (Cq 8 (.exit 3) .skip)) (Qq (Sq [L 11 5 3 3,a 10 11] (Cq 10 (.exit 4) .skip)) (Qq (Sq [L 13 5 3 4,a 12 13] (Cq 12 (.exit 5) .skip)) (Sq [L 15 5 3 5,a 14 15] (Cq 14 (.exit 6) .skip))))))) (.exit 0))))) (Qq (Rq [b 2 1]) (.exit 0)))))) (Qq (Rq [b 2 2]) (.exit 0))))) (Rq [b 2 0]))),[.tmp 2]⟩
@[go_sem]def aaa:CF:=⟨3,(Sq [w 6] (Qq (Sq [a 7 0,q 8 202 7] (.block 0 (Sq [qe 10 3 8 1,a 9 10] (Kq 9 [a 11 1,qe 12 3 11 0,a 13 12,K 14 13 2,jF 15 13 50 14 0,O 16 13 15,a 6 16] (Sq [qe 18 3 8 2,a 17 18] (Kq 17 [a 19 1,qP 20 3 19 0,a 21 20,K 22 21 1,qy 23 21 3 22 16,O 24 21 23,a 25 24,K 26 25 2,jG 27 25 50 26 1099511627775,O 28 25 27,a 6 28] .skip)))))) (Rq [w 6]))),[.tmp 6]⟩
@[go_sem]def aab:CF:=⟨1,(Sq [v 2 0] (Rq [a 3 0,qE 4 50 3 8,⟨some 5,none,.p (.conv .u8 (.t 4))⟩,a 2 5])),[.tmp 2]⟩
@[go_sem]def aac:CF:=⟨1,(Sq [b 2 0] (Rq [a 3 0,qE 4 50 3 65536,q4 5 50 4 8,qD 6 5,a 2 6])),[.tmp 2]⟩
@[go_sem]def aad:CF:=⟨1,(Sq [qd 2 0] (Rq [a 3 0,q4 4 50 3 65536,a 2 4])),[.tmp 2]⟩
@[go_sem]def aae:CF:=⟨1,(Sq [b 2 0] (Qq (Sq [a 3 0,q 4 189 3,a 5 0,q 6 190 5,a 7 0,q 8 191 7,Q 9 188 4 6 8,qa 10 9] (Kq 10 [b 2 4] .skip)) (Rq [b 2 0]))),[.tmp 2]⟩
@[go_sem]def aaf:CF:=⟨3,(Sq [w 6] (Qq (Sq [a 7 0,⟨some 8,none,.p (.bin .gtr 5 false true (.t 7) (.c (.int .u8 5)))⟩,a 9 8,r 10 9 1,qv 11 9 3 10 0,u 12 9 11,a 13 12,r 14 13 1,qk 15 13 3 14 16,u 16 13 15,a 17 16,r 18 17 2,⟨some 19,some (17,false),.p (.bin .gtr 50 false true (.t 18) (.c (.int .u64 1099511627775)))⟩,u 20 17 19] (Kq 20 [w 6] .skip)) (Rq [a 21 0,q 22 203 21,qa 23 22,a 24 23,r 25 24 1,zj 26 24 3 25 0,r 27 24 26,K 28 27 2,jF 29 27 50 28 0,zJ 30 24 27 29,u 31 24 30,a 6 31]))),[.tmp 6]⟩
@[go_sem]def aag:CF:=⟨1,(Sq [v 2 0] (Rq [a 3 0,qE 4 50 3 8,⟨some 5,none,.p (.conv .u8 (.t 4))⟩,a 2 5])),[.tmp 2]⟩
@[go_sem]def aah:CF:=⟨1,(Sq [b 2 0] (Rq [a 3 0,qE 4 50 3 65536,q4 5 50 4 8,qD 6 5,a 2 6])),[.tmp 2]⟩
@[go_sem]def aai:CF:=⟨1,(Sq [qd 2 0] (Rq [a 3 0,q4 4 50 3 65536,a 2 4])),[.tmp 2]⟩
@[go_sem]def aaj:CF:=⟨1,(Sq [w 2] (Rq [a 3 0,L 4 5 3 0,a 5 4,r 6 5 0,zm 7 5 5 6 1,u 8 5 7,a 9 8,r 10 9 0,zm 11 9 5 10 2,u 12 9 11,a 2 12])),[.tmp 2]⟩
@[go_sem]def aak:CF:=⟨1,(Sq [b 2 0] (Qq (Sq [a 3 0,q 4 193 3,a 5 0,q 6 194 5,a 7 0,q 8 195 7,Q 9 192 4 6 8,qa 10 9] (Kq 10 [b 2 4] .skip)) (Rq [b 2 0]))),[.tmp 2]⟩
def FC(call:ab)(f:FuncId)(args:List AV)(v:AV):Prop:=∀h,call f args h=some (v,h)
theorem ajt(P:Program){call:ab}{h:H}:WF P call Z9 [.int .u8 1] h fun v h'=>v=.int .i64 1/\h'=h:=by
 simp only[go_sem,seval]
theorem aju(P:Program){call:ab}(TF:FC call 202 [.int .u8 1] (.int .i64 1)){h:H}:WF P call aaa [.int .u8 1,.int .i64 0,.int .u64 0] h fun v h'=>v=.bool true/\h'=h:=by
 have k:=TF h;simp only[go_sem,seval,k]
theorem ajv(P:Program){call:ab}{h:H}:WF P call aab [.int .u64 1] h fun v h'=>v=.int .u8 1/\h'=h:=by
 have e:fw .u8 (Int.tmod 1 8)=1:=rfl;simp only[go_sem,↓reduceIte,Int.reduceEq,reduceCtorEq,e]
theorem ajw(P:Program){call:ab}{h:H}:WF P call aac [.int .u64 1] h fun v h'=>v=.int .i64 0/\h'=h:=by
 have e:fw .u64 (Int.tdiv (Int.tmod 1 65536) 8)=0:=rfl;have e2:fw .i64 0=0:=rfl;simp only[go_sem,↓reduceIte,Int.reduceEq,reduceCtorEq,e,e2]
theorem ajx(P:Program){call:ab}{h:H}:WF P call aad [.int .u64 1] h fun v h'=>v=.int .u64 0/\h'=h:=by
 have e:fw .u64 (Int.tdiv 1 65536)=0:=rfl;simp only[go_sem,↓reduceIte,Int.reduceEq,reduceCtorEq,e]
theorem ajy(P:Program){call:ab}(TG:FC call 188 [.int .u8 1,.int .i64 0,.int .u64 0] (.bool true))(TH:FC call 189 [.int .u64 1] (.int .u8 1))(TI:FC call 190 [.int .u64 1] (.int .i64 0))(TJ:FC call 191 [.int .u64 1] (.int .u64 0)){h:H}:WF P call aae [.int .u64 1] h fun v h'=>v=.int .i64 0/\h'=h:=by
 have a:=TG h;have b:=TH h;have c:=TI h;have d:=TJ h;simp only[go_sem,seval,a,b,c,d]
theorem ajz(P:Program){call:ab}{h:H}:WF P call aaj [.int .u8 1] h fun v h'=>v=.bool true/\h'=h:=by
 simp only[go_sem,seval]
theorem ajA(P:Program){call:ab}(TK:FC call 203 [.int .u8 1] (.bool true)){h:H}:WF P call aaf [.int .u8 1,.int .i64 0,.int .u64 0] h fun v h'=>v=.bool true/\h'=h:=by
 have k:=TK h;simp only[go_sem,seval,k]
theorem ajB(P:Program){call:ab}{h:H}:WF P call aag [.int .u64 1] h fun v h'=>v=.int .u8 1/\h'=h:=by
 have e:fw .u8 (Int.tmod 1 8)=1:=rfl;simp only[go_sem,↓reduceIte,Int.reduceEq,reduceCtorEq,e]
theorem ajC(P:Program){call:ab}{h:H}:WF P call aah [.int .u64 1] h fun v h'=>v=.int .i64 0/\h'=h:=by
 have e:fw .u64 (Int.tdiv (Int.tmod 1 65536) 8)=0:=rfl;have e2:fw .i64 0=0:=rfl;simp only[go_sem,↓reduceIte,Int.reduceEq,reduceCtorEq,e,e2]
theorem ajD(P:Program){call:ab}{h:H}:WF P call aai [.int .u64 1] h fun v h'=>v=.int .u64 0/\h'=h:=by
 have e:fw .u64 (Int.tdiv 1 65536)=0:=rfl;simp only[go_sem,↓reduceIte,Int.reduceEq,reduceCtorEq,e]
theorem ajE(P:Program){call:ab}(TL:FC call 192 [.int .u8 1,.int .i64 0,.int .u64 0] (.bool true))(TM:FC call 193 [.int .u64 1] (.int .u8 1))(TN:FC call 194 [.int .u64 1] (.int .i64 0))(TP:FC call 195 [.int .u64 1] (.int .u64 0)){h:H}:WF P call aak [.int .u64 1] h fun v h'=>v=.int .i64 0/\h'=h:=by
 have a:=TL h;have b:=TM h;have c:=TN h;have d:=TP h;simp only[go_sem,seval,a,b,c,d]
end
end Go.Proofs.YtgkjlklfjbljeaaGreat.CQ
namespace Go.Proofs.YtgkjlklfjbljeaaGreat.CQ
open Go.Proofs.YtgkjlklfjbljeaaGreat.Eo
noncomputable section
@[go_sem]def c79:CF:=⟨5,(Sq [z 5 54 0,z 7 3 2,z 8 83 3,p 10,b 11 0] (Qq (Sq [i 15 5,y 16 54 15] (Kq 16 [p 10,b 11 1] .skip)) (Qq (Sq [a 17 1,D 18 3 17 0,a 19 18,r 20 19 1,qk 21 19 3 20 64,u 22 19 21] (Kq 22 [p 10,b 11 2] .skip)) (Qq (Qq (.cn ⟨[([W 0 5,n 1 24 0,m 2 25 1 1,k 3 26 2,W 4 7],some (qq 5 27 3 28 4 33)),([t 6 29 5,B 7 23 6 0,B 8 23 6 1,t 9 30 7,t 10 31 8],none)],[(0,24),(1,25),(2,26),(3,27),(4,28),(5,29),(6,23),(7,30),(8,31),(9,12),(10,13)],[]⟩) (Sq [a 32 13,A 33 41 32 0] (Kq 33 [a 34 13,p 10,a 11 34] .skip))) (Qq (Sq [a 35 4,q 36 149 35,A 37 41 36 0] (Kq 37 [p 10,b 11 2] .skip)) (Sq [zO 38 150 5 7,a 14 38] (Qq (.cn ⟨[([W 0 5,n 1 39 0,m 2 40 1 0,k 3 41 2,g 4 1,g 5 14,R 6 8 0,k 7 45 6,z0 8 46 7 0 0 0 0 1 9 1 1 0 2 1,R 9 8 1,k 10 48 9,z0 11 49 10 0 0 0 0 1 10 1 1 1 2 1,g 12 4,z0 13 51 12 0 0 0 0 1 11 1 1 4 2 1,⟨14,[(47,some 8),(50,some 11),(52,some 13)],none,.n (.fl 287 3 3 [ya,aN,cY,ya,aN,cY,ya,aN,cY] [(0,3,.t 47),(3,3,.t 50),(6,3,.t 52)])⟩,⟨15,[(42,some 3),(43,some 4),(44,some 5),(53,some 14)],none,.p (.build [.aJ,.int .i64 0,.dQ,.ax] [(0,1,.t 42),(1,1,.t 43),(2,1,.t 44),(3,1,.t 53)])⟩,qY 16 54 15 290,t 17 55 16,qS 18 0],none)],[(0,39),(1,40),(2,41),(3,42),(4,43),(5,44),(6,45),(7,46),(8,47),(9,48),(10,49),(11,50),(12,51),(13,52),(14,53),(15,54),(16,55),(17,10),(18,11)],[(⟨0,[(5,none)],none,.r (.ld none (.t 5))⟩,[0]),(⟨3,[(41,(some 2))],none,.r (.ld none (.t 41))⟩,[0]),(⟨7,[(45,(some 6))],none,.r (.ld none (.t 45))⟩,[0]),(⟨10,[(48,(some 9))],none,.r (.ld none (.t 48))⟩,[0])]⟩) .ret))))))),[.tmp 10,.tmp 11]⟩
@[go_sem]def aal:CF:=⟨3,(Sq [b 4 0] (Qq (.cn ⟨[([W 0 1,n 1 8 0,m 2 9 1 1,k 3 10 2,W 4 2,g 5 0],some (qm 6 11 3 12 4 13 5 10)),([t 7 14 6,B 8 7 7 0,B 9 7 7 1,t 10 15 8,t 11 16 9],none)],[(0,8),(1,9),(2,10),(3,11),(4,12),(5,13),(6,14),(7,7),(8,15),(9,16),(10,5),(11,6)],[]⟩) (Rq [a 17 5,a 4 17]))),[.tmp 4]⟩
@[go_sem]def c81:CF:=⟨1,(Sq [v 2 0,w 3] (Qq (Sq [a 5 0,y 6 180 5,a 7 6,r 8 7 0,qf 9 7 8,J 10 7 3 9,E 11 7 10,qu 12 7 11,zj 13 7 3 12 0,u 14 7 13] (Kq 14 [v 2 0,w 3] .skip)) (Sq [a 15 0,j 16 15,d 17 3 16,i 18 17,z1 19 3 18 0,S 20 3 19,⟨some 4,none,.n (.new 287 [.int .u8 0,.int .i64 0,.int .u64 0])⟩,s 3 4 20] (Sq [a 21 0,a 22 0,j 23 22,d 24 3 23,i 25 24,jH 26 3 25 1,j 27 21,d 28 3 27,s 1 28 26] (Qq (.cn ⟨[([g 0 0,n 1 29 0,m 2 30 1 0,k 3 31 2,g 4 0,n 5 33 4,m 6 34 5 1,k 7 35 6,g 8 0,n 9 37 8,m 10 38 9 2,k 11 39 10,R 12 4 1,k 13 41 12,R 15 4 2,k 16 44 15],some (z2 14 40 11 42 13)),([],some (qw 17 32 3 36 7 43 14 45 16 13)),([],none)],[(0,29),(1,30),(2,31),(3,32),(4,33),(5,34),(6,35),(7,36),(8,37),(9,38),(10,39),(11,40),(12,41),(13,42),(14,43),(15,44),(16,45),(17,46)],[(⟨3,[(31,(some 2))],none,.r (.ld none (.t 31))⟩,[1]),(⟨7,[(35,(some 6))],none,.r (.ld none (.t 35))⟩,[1]),(⟨16,[(44,(some 15))],none,.r (.ld none (.t 44))⟩,[1])]⟩) (Qq (.cn ⟨[([R 0 4 0,k 1 47 0,g 2 0,n 3 49 2,m 4 50 3 3,k 5 51 4,qK 6 52 5,z3 7 53 6 3 0,t 8 48 1,t 9 54 7],none)],[(0,47),(1,48),(2,49),(3,50),(4,51),(5,52),(6,53),(7,54),(8,2),(9,3)],[]⟩) .ret)))))),[.tmp 2,.tmp 3]⟩
structure AA where
 A:Nat
 L:Nat
 M:Nat
 Po:Nat
 To:Nat
 W:Nat
structure AW(h:H)(a:AA)(c:aj):Prop where
 gA:∃rest,h.t.get a.A=some (ag (.ptr a.L 0::.ptr a.M 0::.ptr a.Po 0::.ptr a.To 0::rest) 104)
 gT:h.t.get a.To=some (ag [.ptr a.M 0,.ptr a.L 0] 123)
 lay:eU h a.L c (aA c) (aH c)
 lt:a.A<h.next/\a.To<h.next
 b:LB c
theorem AW.step{h h':H}{a:AA}{c:aj}(m:AW h a c)(s:ae h h'):AW h' a c:=by
 obtain⟨⟨rest,gA⟩,gT,lay,⟨l1,l2⟩,b⟩:=m;exact⟨⟨rest,(s.old _ l1).trans gA⟩,(s.old _ l2).trans gT,lay.step s,⟨Nat.lt_of_lt_of_le l1 s.next,Nat.lt_of_lt_of_le l2 s.next⟩,b⟩
def fz(hL:H):Cm:=⟨fun h=>ae hL h,fun b=>b<hL.next,fun hn k q=>⟨Nat.le_trans q.next hn,fun b hb=>(k b (Nat.lt_of_lt_of_le hb q.next) hb).trans (q.old b hb)⟩,fun q b hb=>Nat.lt_of_lt_of_le hb q.next⟩
structure AC(L:List Cm)(a:AA)(c:aj)(ia it iz:Nat):Prop where
 hA:∃rest,L[ia]?=some (aD a.A (ag (.ptr a.L 0::.ptr a.M 0::.ptr a.Po 0::.ptr a.To 0::rest) 104))
 hT:L[it]?=some (aD a.To (ag [.ptr a.M 0,.ptr a.L 0] 123))
 hz:∃hL,L[iz]?=some (fz hL)/\eU hL a.L c (aA c) (aH c)
 b:LB c
section
variable {L:List Cm} {a:AA} {c:aj} {ia it iz:Nat}
theorem AC.set(m:AC L a c ia it iz){j:Nat}{d:Cm}(h1:ia≠j)(h2:it≠j)(h3:iz≠j):AC (L.set j d) a c ia it iz:=by
 obtain⟨⟨r,hA⟩,hT,⟨hL,hz,q⟩,b⟩:=m;exact⟨⟨r,eX hA h1⟩,eX hT h2,⟨hL,eX hz h3,q⟩,b⟩
theorem AC.cons(m:AC L a c ia it iz){d:Cm}:AC (d::L) a c (ia+1) (it+1) (iz+1):=m.casesOn fun a b c d=>⟨a,b,c,d⟩
theorem AC.aw{h:H}(m:AC L a c ia it iz)(s:Sp h L):AW h a c:=by
 obtain⟨⟨r,hA⟩,hT,⟨hL,hz,q⟩,b⟩:=m;exact⟨⟨r,s.row hA⟩,s.row hT,q.step (s.ok _ _ hz),⟨s.uG hA,s.uG hT⟩,b⟩
end
def Cg(M C1 C2 Lf j:Nat):AO:=.row (aa 0 [.ptr M 0,.int .i64 0,.fn (.func 150) [] [.ptr C1 0,.ptr C2 0],.sl Lf (3*if j=3 then 2 else j) (3-j) 3 (some (3-j))] T.e) 4 290
def TQ(y z:Int):AO:=.row (aa 0 [.int .u8 9,.int .i64 0,.int .u64 y,.int .u8 10,.int .i64 1,.int .u64 z,.int .u8 11,.int .i64 4,.int .u64 1] T.e) 9 287
theorem w79(P:Program)[PF P]{call:ab}(NU:Xu call)(TS:FC call 149 [.int .u64 1] (.int .i64 0)){h:H}{L:List Cm}(s:Sp h L){a:AA}{c:aj}(m:AW h a c){i:Nat}{x:Int}(hx:(aH c)[i]?=some x){y z:Int}:
 WF P call c79 [.ptr a.To 0,.int .i64 0,.int .i64 ((i:Int)+1),.agg [.int .u64 y,.int .u64 z],.int .u64 1] h fun v h'=>∃X Lf C3 C2 C1,v=.aE [.ptr X 0,.int .i64 0]/\h.next<=h'.next/\Sp h' (aD X (Cg a.M C1 C2 Lf 0)::aD Lf (TQ y z)::aD C3 (ag [.int .u64 y,.int .u64 z] 83)::aD C2 (ag [.int .i64 ((i:Int)+1)] 3)::aD C1 (ag [.ptr a.To 0] 54)::L):=by
 have gT:=m.gT;have lT:=m.lt.2;have hn:i<1000:=by obtain⟨_,_,_,_,_,_,q⟩:=m.b.tw hx;omega
 have d1:¬a.To=h.next:=by omega
 have d2:¬a.To=h.next+1:=by omega
 have d3:¬a.To=h.next+2:=by omega
 have d4:¬a.To=h.next+3:=by omega
 have n1:¬h.next=h.next+1:=by omega
 have n2:¬h.next=h.next+2:=by omega
 have n3:¬h.next+1=h.next+2:=by omega
 have n4:¬h.next=h.next+3:=by omega
 have n5:¬h.next+1=h.next+3:=by omega
 have n6:¬h.next+2=h.next+3:=by omega
 have s3:=((s.new (ag [.ptr a.To 0] 54)).new (ag [.int .i64 ((i:Int)+1)] 3)).new (ag [.int .u64 y,.int .u64 z] 83);have fW:ae h ⟨h.next+1+1+1,((h.t.set h.next (ag [.ptr a.To 0] 54)).set (h.next+1) (ag [.int .i64 ((i:Int)+1)] 3)).set (h.next+2) (ag [.int .u64 y,.int .u64 z] 83)⟩:=(ae.new h _).trans ((ae.new ⟨h.next+1,_⟩ _).trans (ae.new ⟨h.next+2,_⟩ _));have k1:=NU _ a.L c _ _ i x (m.lay.step fW) hx hn;have k2:=TS ⟨h.next+1+1+1,((h.t.set h.next (ag [.ptr a.To 0] 54)).set (h.next+1) (ag [.int .i64 ((i:Int)+1)] 3)).set (h.next+2) (ag [.int .u64 y,.int .u64 z] 83)⟩;simp only[ag,List.length_cons,List.length_nil]at k1 k2;simp only[go_sem,seval]at k1 k2;have d5:¬a.To=h.next+4:=by omega
 simp only[go_sem,seval,gT,d1,d2,d3,d4,d5,n1,n2,n3,n4,n5,n6,k1,k2];exact⟨h.next+4,h.next+3,h.next+2,h.next+1,h.next,rfl,(s3.new (TQ y z)).new (Cg a.M h.next (h.next+1) (h.next+3) 0)⟩
theorem ajF(P:Program)[PF P]{call:ab}(JF:S2 call){h:H}{a:AA}{c:aj}(m:AW h a c){i:Nat}{x y:Int}(hx:(aH c)[i]?=some x)(hy:(nO c)[i]?=some y){C1 C2 w:Nat}(hw:w<5)(g1:h.t.get C1=some (ag [.ptr a.To 0] 54))(g2:h.t.get C2=some (ag [.int .i64 ((i:Int)+1)] 3)):
 WF P call aal [.int .i64 (w:Int),.ptr C1 0,.ptr C2 0] h fun v h'=>v=.int .i64 (y+(w:Int))/\h'=h:=by
 have gT:=m.gT;have k:=JF h a.L c i x y w m.lay m.b hx hy hw;simp only[go_sem,seval,g1,g2,gT,k]
def TT(call:ab):Prop:=∀h a c (i:Nat) (x y:Int) (C1 C2 w:Nat),AW h a c->(aH c)[i]?=some x->(nO c)[i]?=some y->w<5->h.t.get C1=some (ag [.ptr a.To 0] 54)->h.t.get C2=some (ag [.int .i64 ((i:Int)+1)] 3)->call 150 [.int .i64 (w:Int),.ptr C1 0,.ptr C2 0] h=some (.int .i64 (y+(w:Int)),h)
def wW(j:Nat):Nat:=if j=2 then 4 else j
def wV(y z:Int)(j:Nat):Int:=if j=0 then y else if j=1 then z else 1
theorem w81(P:Program)[PF P]{call:ab}(TU:TT call)(uH:D6 call){h:H}{L:List Cm}(s:Sp h L){a:AA}{c:aj}{ia it iz:Nat}(m:AC L a c ia it iz){n q X Lf C2 C1 mm p1 p2 p3:Nat}{lv:AV}{ws:List Int}(hc:L[n]?=some (cA a.M a.W lv ws mm))(hm:mm<=999000){i:Nat}{x y z t:Int}(hx:(aH c)[i]?=some x)(ht:(nO c)[i]?=some t){j:Nat}(hj:j<3)(hX:L[q]?=some (aD X (Cg a.M C1 C2 Lf j)))(h1:L[p1]?=some (aD Lf (TQ y z)))(h2:L[p2]?=some (aD C2 (ag [.int .i64 ((i:Int)+1)] 3)))(h3:L[p3]?=some (aD C1 (ag [.ptr a.To 0] 54)))(qn:n≠q/\ia≠q/\it≠q/\iz≠q/\p1≠q/\p2≠q/\p3≠q){ad:Nat}(oZ:t+(wW j:Int)=(ad:Int)){o:Int}(ho:ws[ad]?=some o):
 WF P call c81 [.ptr X 0] h fun v h'=>v=.aE [.int .u8 (9+j),.bool (decide (j=2))]/\∃dU,h.next<=h'.next/\Sp h' ((L.set q (aD X (Cg a.M C1 C2 Lf (j+1)))).set n (cA a.M a.W dU (ws.set ad (wV y z j)) (mm+1))):=by
 have gX:=s.row hX;have lX:=s.uG hX;have gL:=s.row h1;simp only[Cg,TQ]at gX gL;have nX:¬X=h.next:=by omega
 have lLf:=s.uG h1;have nLf:¬Lf=h.next:=by omega
 have nX':¬h.next=X:=by omega
 have hXL:¬X=Lf:=s.ne hX h1 qn.2.2.2.2.1.symm (b:=X) rfl;have key:∀tmp,∃h1 h2 dU,h1=⟨h.next+1,(h.t.set h.next tmp).set X (Cg a.M C1 C2 Lf (j+1))⟩/\call 150 [.int .i64 (wW j:Int),.ptr C1 0,.ptr C2 0] h1=some (.int .i64 (ad:Int),h1)/\call 13 [.ptr a.M 0,.int .i64 0,.int .i64 (ad:Int),.int .u64 (wV y z j)] h1=some (.int .i64 0,h2)/\h1.next<=h2.next/\h1.t.get X=some (Cg a.M C1 C2 Lf (j+1))/\h1.t.get h.next=some tmp/\h2.t.get X=some (Cg a.M C1 C2 Lf (j+1))/\h2.t.get h.next=some tmp/\Sp h2 (aD h.next tmp::(L.set q (aD X (Cg a.M C1 C2 Lf (j+1)))).set n (cA a.M a.W dU (ws.set ad (wV y z j)) (mm+1))):=fun tmp=>by
  have s1:=(s.new tmp).put (n:=q+1) hX (Cg a.M C1 C2 Lf (j+1));have m1:=(m.set (j:=q) (d:=aD X (Cg a.M C1 C2 Lf (j+1))) qn.2.1 qn.2.2.1 qn.2.2.2.1).aw s1.tail;have k1:=TU _ a c i x t C1 C2 (wW j) m1 hx ht (by unfold wW;split<;>omega) (s1.tail.row (eX h3 qn.2.2.2.2.2.2)) (s1.tail.row (eX h2 qn.2.2.2.2.2.1))
  rw[oZ]at k1;obtain⟨h2,dU,e2,pF,s2⟩:=uH.sp (z:=wV y z j) s1 (n:=n+1) (eX (L:=L) hc qn.1) (by omega) (by decide:(0:Int)<=0) (by decide) ho;exact⟨_,h2,dU,rfl,k1,e2,pF,s1.row (n:=q+1) (Fs (L:=L) hX),s1.row (n:=0) rfl,s2.row (n:=q+1) (eX (L:=L.set q _) (Fs (L:=L) hX) qn.1.symm),s2.row (n:=0) rfl,s2⟩
 have hq:j=0\/j=1\/j=2:=by omega
 rcases hq with rfl|rfl|rfl
 ·simp only[Nat.reduceMul,Nat.reduceSub,Nat.reduceEqDiff,↓reduceIte]at gX;obtain⟨H1,H2,dU,eH,k1,k2,nx,fI,g1,kE,g2,s2⟩:=key (.row (aa 0 [.int .u8 9,.int .i64 0,.int .u64 y] T.e) 3 287);have Oa:call 150 [.int .i64 0,.ptr C1 0,.ptr C2 0] H1=_:=k1;have Ch:call 13 [.ptr a.M 0,.int .i64 0,.int .i64 (ad:Int),.int .u64 y] H1=_:=k2;simp only[Cg,Nat.reduceMul,Nat.reduceSub,Nat.reduceAdd,Nat.reduceEqDiff,↓reduceIte]at eH fI kE;have yJ:h.next<=H2.next:=by rw[eH]at nx;exact Nat.le_trans (Nat.le_succ _) nx
  simp only[go_sem,seval,gX,gL,nX,nLf,nX',Option.isSome,Bool.or_true,cond_true,Nat.reduceSub];rw[←eH];simp only[go_sem,seval,Oa,Ch,fI,g1,g2,kE,nx];exact⟨dU,yJ,s2.tail⟩
 ·simp only[Nat.reduceMul,Nat.reduceSub,Nat.reduceEqDiff,↓reduceIte]at gX;obtain⟨H1,H2,dU,eH,k1,k2,nx,fI,g1,kE,g2,s2⟩:=key (.row (aa 0 [.int .u8 10,.int .i64 1,.int .u64 z] T.e) 3 287);have Oa:call 150 [.int .i64 1,.ptr C1 0,.ptr C2 0] H1=_:=k1;have Ch:call 13 [.ptr a.M 0,.int .i64 0,.int .i64 (ad:Int),.int .u64 z] H1=_:=k2;simp only[Cg,Nat.reduceMul,Nat.reduceSub,Nat.reduceAdd,Nat.reduceEqDiff,↓reduceIte]at eH fI kE;have yJ:h.next<=H2.next:=by rw[eH]at nx;exact Nat.le_trans (Nat.le_succ _) nx
  simp only[go_sem,seval,gX,gL,nX,nLf,nX',Option.isSome,Bool.or_true,cond_true,Nat.reduceSub];rw[←eH];simp only[go_sem,seval,Oa,Ch,fI,g1,g2,kE,nx];exact⟨dU,yJ,s2.tail⟩
 ·simp only[Nat.reduceMul,Nat.reduceSub,Nat.reduceEqDiff,↓reduceIte]at gX;obtain⟨H1,H2,dU,eH,k1,k2,nx,fI,g1,kE,g2,s2⟩:=key (.row (aa 0 [.int .u8 11,.int .i64 4,.int .u64 1] T.e) 3 287);have Oa:call 150 [.int .i64 4,.ptr C1 0,.ptr C2 0] H1=_:=k1;have Ch:call 13 [.ptr a.M 0,.int .i64 0,.int .i64 (ad:Int),.int .u64 1] H1=_:=k2;simp only[Cg,Nat.reduceMul,Nat.reduceSub,Nat.reduceAdd,Nat.reduceEqDiff,↓reduceIte]at eH fI kE;have yJ:h.next<=H2.next:=by rw[eH]at nx;exact Nat.le_trans (Nat.le_succ _) nx
  simp only[go_sem,seval,gX,gL,nX,nLf,nX',Option.isSome,Bool.or_true,cond_true,Nat.reduceSub];rw[←eH];simp only[go_sem,seval,Oa,Ch,fI,g1,g2,kE,nx];exact⟨dU,yJ,s2.tail⟩
end
end Go.Proofs.YtgkjlklfjbljeaaGreat.CQ
namespace Go.Proofs.YtgkjlklfjbljeaaGreat.CQ
open Go.Proofs.YtgkjlklfjbljeaaGreat.Eo
noncomputable section
@[go_sem]def c80:CF:=⟨5,(Sq [z 8 83 3,p 10,b 11 0] (Qq (Sq [a 14 0,y 15 91 14] (Kq 15 [p 10,b 11 1] .skip)) (Qq (Sq [a 16 1,q 17 142 16,qa 18 17] (Kq 18 [p 10,b 11 2] .skip)) (Sq [a 20 0,j 21 20,d 22 1 21,i 23 22,a 24 2,zz 25 138 23 24 0,a 19 25,o 26 19 0,o 27 19 1,a 12 26,a 13 27] (Qq (Sq [a 28 13,A 29 41 28 0] (Kq 29 [a 30 13,p 10,a 11 30] .skip)) (Qq (Sq [a 31 4,q 32 151 31,A 33 41 32 0] (Kq 33 [p 10,b 11 2] .skip)) (Rq [a 34 0,a 35 1,a 36 12,a 37 12,C 38 3 37 1,a 39 12,C 40 3 39 4,⟨some 41,none,.n (.fl 3 1 3 [.int .i64 0,.int .i64 0,.int .i64 0] [(0,1,.t 36),(1,1,.t 38),(2,1,.t 40)])⟩,d 42 0 8,i 43 42,d 44 1 8,i 45 44,a 46 4,⟨some 47,none,.n (.fl 50 1 3 [.int .u64 0,.int .u64 0,.int .u64 0] [(0,1,.t 43),(1,1,.t 45),(2,1,.t 46)])⟩,⟨some 48,none,.n (.fl 5 1 3 [.int .u8 0,.int .u8 0,.int .u8 0] [(0,1,.c (.int .u8 9)),(1,1,.c (.int .u8 10)),(2,1,.c (.int .u8 11))])⟩,⟨some 49,none,.p (.build [.aJ,aN,aN,.ax,.ax,.ax] [(0,1,.t 34),(1,1,.t 35),(3,1,.t 41),(4,1,.t 47),(5,1,.t 48)])⟩,z 50 293 49,a 10 50,b 11 0]))))))),[.tmp 10,.tmp 11]⟩
@[go_sem]def aam:CF:=⟨1,(Sq [v 2 0] (Qq (Sq [a 3 0,y 4 183 3,a 5 4,r 6 5 0,qf 7 5 6,J 8 5 5 7,E 9 5 8,qu 10 5 9,zj 11 5 3 10 0,u 12 5 11] (Kq 12 [v 2 0] .skip)) (Rq [a 13 0,j 14 13,d 15 5 14,i 16 15,z1 17 1 16 0,i 18 17,a 2 18]))),[.tmp 2]⟩
@[go_sem]def c82:CF:=⟨1,(Sq [v 2 0,w 3] (Sq [a 5 0,q 6 152 5,a 4 6] (Qq (Sq [a 7 4,L 8 5 7 0] (Kq 8 [a 9 4,a 2 9,w 3] .skip)) (Qq (.cn ⟨[([g 0 0,n 1 10 0,m 2 11 1 0,k 3 12 2,n 4 13 3,m 5 14 4 0,k 6 15 5,g 7 0,n 8 17 7,m 9 18 8 1,k 10 19 9,g 11 0,n 12 21 11,m 13 22 12 3,k 14 23 13,jI 15 24 14 1 0,k 16 25 15,g 17 0,n 18 27 17,m 19 28 18 4,k 20 29 19,jI 21 30 20 1 0,k 22 31 21],some (qw 23 16 6 20 10 26 16 32 22 87)),([],none)],[(0,10),(1,11),(2,12),(3,13),(4,14),(5,15),(6,16),(7,17),(8,18),(9,19),(10,20),(11,21),(12,22),(13,23),(14,24),(15,25),(16,26),(17,27),(18,28),(19,29),(20,30),(21,31),(22,32),(23,33)],[]⟩) (Qq (.cn ⟨[([g 0 0,g 1 0,g 2 0,g 3 0,n 4 37 3,m 5 38 4 3,k 6 39 5,z4 7 40 6 1 1,g 8 0,n 9 42 8,m 10 43 9 4,k 11 44 10,z4 12 45 11 1 1,g 13 0,n 14 47 13,m 15 48 14 5,k 16 49 15,z4 17 50 16 1 1,n 18 34 0,m 19 52 18 3],some (V 20 53 19 41 7 1)),([n 21 35 1,m 22 54 21 4],some (V 23 55 22 46 12 1)),([n 24 36 2,m 25 56 24 5],some (V 26 57 25 51 17 1)),([],none)],[(0,34),(1,35),(2,36),(3,37),(4,38),(5,39),(6,40),(7,41),(8,42),(9,43),(10,44),(11,45),(12,46),(13,47),(14,48),(15,49),(16,50),(17,51),(18,52),(19,53),(21,54),(22,55),(24,56),(25,57)],[]⟩) (Qq (.cn ⟨[([g 0 4,g 1 0,n 2 59 1,m 3 60 2 5,k 4 61 3,qK 5 62 4,z3 6 63 5 3 0,t 7 58 0,t 8 64 6],none)],[(0,58),(1,59),(2,60),(3,61),(4,62),(5,63),(6,64),(7,2),(8,3)],[]⟩) .ret)))))),[.tmp 2,.tmp 3]⟩
structure BC(L:List Cm)(a:AB)(c:aj)(ib it il:Nat):Prop where
 hB:∃rest,L[ib]?=some (aD a.B (ag (.ptr a.L 0::.ptr a.M 0::.ptr a.Po 0::.ptr a.To 0::rest) 95))
 hT:L[it]?=some (aD a.To (ag [.ptr a.M 0,.ptr a.L 0] 258))
 hl:L[il]?=some (Mm a.L c a.cv a.hv a.wv)
 b:LB c
 cu:∀x∈c.aI,kB x
structure Er(c:aj)(ws:List Int):Prop where
 len:(ws.length:Int)=(aA c).wo
 nn:∀(i:Nat) (x:Int),ws[i]?=some x->0<=x
theorem Er.set{c:aj}{ws:List Int}(w:Er c ws)(i:Nat){x:Int}(hx:0<=x):Er c (ws.set i x):=by
 refine⟨by rw[List.length_set];exact w.len,fun j y hy=>?_⟩;rw[List.getElem?_set]at hy;split at hy
 ·split at hy
  ·rw[←Option.some.inj hy];exact hx
  ·cases hy
 ·exact w.nn j y hy
section
variable {L:List Cm} {a:AB} {c:aj} {ib it il:Nat}
theorem BC.cons(m:BC L a c ib it il){d:Cm}:BC (d::L) a c (ib+1) (it+1) (il+1):=m.casesOn fun a b c d e=>⟨a,b,c,d,e⟩
theorem BC.bv{h:H}{n mm:Nat}{lv:AV}{ws:List Int}(m:BC L a c ib it il)(s:Sp h L)(hc:L[n]?=some (cB a.M a.W lv ws mm))(w:Er c ws):BV h a c ws:=by
 obtain⟨⟨r,hB⟩,hT,hl,b,cu⟩:=m;obtain⟨l,CR,q⟩:=s.ok _ _ hc;exact⟨⟨r,s.row hB⟩,s.row hT,⟨lv,q.mem⟩,s.ok _ _ hl,⟨s.uG hB,s.uG hT,q.lM,q.lW⟩,b,w.len,w.nn,cu⟩
end
def G7(To Fa Fv Fp j:Nat):AO:=.row (aa 0 [.ptr To 0,.int .i64 0,.int .i64 0,.sl Fa (if j=3 then 2 else j) (3-j) 1 (some (3-j)),.sl Fv (if j=3 then 2 else j) (3-j) 1 (some (3-j)),.sl Fp (if j=3 then 2 else j) (3-j) 1 (some (3-j))] T.e) 6 293
def TV(t:Int):AO:=.row (aa 0 [.int .i64 t,.int .i64 (t+1),.int .i64 (t+4)] T.e) 3 3
def TW(y z:Int):AO:=.row (aa 0 [.int .u64 y,.int .u64 z,.int .u64 1] T.e) 3 50
def Mu:AO:=.row (aa 0 [.int .u8 9,.int .u8 10,.int .u8 11] T.e) 3 5
theorem w80(P:Program)[PF P]{call:ab}(JE:Ji call)(Jy:NY call)(TY:FC call 151 [.int .u64 1] (.int .i64 0)){h:H}{L:List Cm}(s:Sp h L){a:AB}{c:aj}{ws:List Int}(m:BV h a c ws){i:Nat}{x t:Int}(hx:(aH c)[i]?=some x)(ht:(nO c)[i]?=some t){y z:Int}:
 WF P call c80 [.ptr a.To 0,.int .i64 0,.int .i64 ((i:Int)+1),.agg [.int .u64 y,.int .u64 z],.int .u64 1] h fun v h'=>∃X Fp Fv Fa C3,v=.aE [.ptr X 0,.int .i64 0]/\h.next<=h'.next/\Sp h' (aD X (G7 a.To Fa Fv Fp 0)::aD Fp Mu::aD Fv (TW y z)::aD Fa (TV t)::aD C3 (ag [.int .u64 y,.int .u64 z] 83)::L):=by
 have gT:=m.gT;have lT:=m.lt.2.1;obtain⟨t',JG,t0,t1,x1,x6,i60⟩:=m.b.tw hx;obtain rfl:t'=t:=Option.some.inj (JG.symm.trans ht);obtain⟨n1,n2,n3,n4,n5,n6,n7,n8,n9,rH,rI⟩:=m.b.dq;have hv:=m.b.val;have d1:¬a.To=h.next:=by omega
 have k:=JE ⟨h.next+1,h.t.set h.next (.row (aa 0 [.int .u64 y,.int .u64 z] T.e) 2 83)⟩ 0;rw[decide_eq_true (by decide)]at k;have m1:=m.step (ae.new h (.row (aa 0 [.int .u64 y,.int .u64 z] T.e) 2 83));have s1:=s.new (.row (aa 0 [.int .u64 y,.int .u64 z] T.e) 2 83);simp only[go_sem,seval,gT,d1,k];refine af (Jy _ a.L c a.cv a.hv a.wv i x t' 0 m1.lay m.b hx ht (by decide)) fun v1 h1 p1=>?_
 obtain⟨rfl,bC⟩:=p1;have k2:=TY h1;have s2:=s1.step bC;have g3:=s2.row (n:=0) rfl;have nx:h.next+1<=h1.next:=bC.next;have e0:t'+((0:Nat):Int)=t':=by omega
 have e00:t'+0=t':=by omega
 have f1:fw .i64 (t'+1)=t'+1:=aS (by omega) (by omega);have f2:fw .i64 (t'+4)=t'+4:=aS (by omega) (by omega);have d2:¬h.next=h1.next:=by omega
 have d3:¬h.next=h1.next+1:=by omega
 have d4:¬h.next=h1.next+2:=by omega
 have d5:¬h.next=h1.next+3:=by omega
 have pF:h.next<=h1.next+4:=by omega
 simp only[go_sem,seval,k2,e0,e00,f1,f2,g3,d2,d3,d4,d5,pF];exact⟨h1.next+3,h1.next+2,h1.next+1,h1.next,h.next,rfl,(((s2.new (TV t')).new (TW y z)).new Mu).new (G7 a.To h1.next (h1.next+1) (h1.next+2) 0)⟩
theorem ajI(P:Program)[PF P]{call:ab}{h:H}{X To Fa Fv Fp j:Nat}(hj:j<3)(g:h.t.get X=some (G7 To Fa Fv Fp j))(gp:h.t.get Fp=some Mu):WF P call aam [.ptr X 0] h fun v h'=>v=.int .u8 (9+j)/\h'=h:=by
 simp only[G7,Mu]at g gp;have hq:j=0\/j=1\/j=2:=by omega
 rcases hq with rfl|rfl|rfl<;>
 ·simp only[Nat.reduceMul,Nat.reduceSub,Nat.reduceEqDiff,↓reduceIte]at g;simp only[go_sem,seval,g,gp]
def TZ(call:ab):Prop:=∀h (X To Fa Fv Fp j:Nat),j<3->h.t.get X=some (G7 To Fa Fv Fp j)->h.t.get Fp=some Mu->call 152 [.ptr X 0] h=some (.int .u8 (9+j),h)
theorem w82(P:Program)[PF P]{call:ab}(T0:TZ call)(k87:Xq call){h:H}{L:List Cm}(s:Sp h L){M Ly To W:Nat}{n q it X Fa Fv Fp mm p1 p2 p3:Nat}{lv:AV}{ws:List Int}(hT:L[it]?=some (aD To (ag [.ptr M 0,.ptr Ly 0] 258)))(hc:L[n]?=some (cB M W lv ws mm))(hm:mm<=999000){y z t:Int}{j:Nat}(hj:j<3)(hX:L[q]?=some (aD X (G7 To Fa Fv Fp j)))(h1:L[p1]?=some (aD Fp Mu))(h2:L[p2]?=some (aD Fv (TW y z)))(h3:L[p3]?=some (aD Fa (TV t)))(qn:q≠n){ad:Nat}(oZ:t+(wW j:Int)=(ad:Int)){o:Int}(ho:ws[ad]?=some o):
 WF P call c82 [.ptr X 0] h fun v h'=>v=.aE [.int .u8 (9+j),.bool (decide (j=2))]/\∃dU,h.next<=h'.next/\Sp h' ((L.set n (cB M W dU (ws.set ad (wV y z j)) (mm+1))).set q (aD X (G7 To Fa Fv Fp (j+1)))):=by
 have gX:=s.row hX;have gP:=s.row h1;have gV:=s.row h2;have gA:=s.row h3;have gT:=s.row hT;have k1:=T0 h X To Fa Fv Fp j hj gX gP;obtain⟨H2,dU,e2,pF,s2⟩:=k87.sp (z:=wV y z j) s hc (by omega) (by decide:(0:Int)<=0) (by decide) ho;have kE:=s2.row (eX hX qn);have s3:=s2.put (eX hX qn) (G7 To Fa Fv Fp (j+1));simp only[G7,Mu,TW,TV]at gX kE gP gV gA;have hq:j=0\/j=1\/j=2:=by omega
 rcases hq with rfl|rfl|rfl
 ·simp only[Nat.reduceMul,Nat.reduceSub,Nat.reduceEqDiff,↓reduceIte]at gX kE;have yn:call 87 [.ptr M 0,.int .i64 0,.int .i64 t,.int .u64 y] h=some (.int .i64 0,H2):=by rw[show t=(ad:Int) by rw[←oZ];unfold wW;simp];exact e2
  simp only[go_sem,seval,k1,gX,gT,gV,gA,yn,kE,pF,Option.isSome,Bool.or_true,cond_true,Nat.reduceSub];exact⟨dU,s3⟩
 ·simp only[Nat.reduceMul,Nat.reduceSub,Nat.reduceEqDiff,↓reduceIte]at gX kE;have yn:call 87 [.ptr M 0,.int .i64 0,.int .i64 (t+1),.int .u64 z] h=some (.int .i64 0,H2):=by rw[show t+1=(ad:Int) by rw[←oZ];unfold wW;simp];exact e2
  simp only[go_sem,seval,k1,gX,gT,gV,gA,yn,kE,pF,Option.isSome,Bool.or_true,cond_true,Nat.reduceSub];exact⟨dU,s3⟩
 ·simp only[Nat.reduceMul,Nat.reduceSub,Nat.reduceEqDiff,↓reduceIte]at gX kE;have yn:call 87 [.ptr M 0,.int .i64 0,.int .i64 (t+4),.int .u64 1] h=some (.int .i64 0,H2):=by rw[show t+4=(ad:Int) by rw[←oZ];unfold wW;simp];exact e2
  simp only[go_sem,seval,k1,gX,gT,gV,gA,yn,kE,pF,Option.isSome,Bool.or_true,cond_true,Nat.reduceSub];exact⟨dU,s3⟩
end
end Go.Proofs.YtgkjlklfjbljeaaGreat.CQ
