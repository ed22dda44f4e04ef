/-
  What functions of the program compute. Conditions: those of each theorem.
-/
import Derived.Test.YtgkjlklfjbljeaaGreatCwG
set_option linter.all false
namespace Go.Proofs.YtgkjlklfjbljeaaGreat.CQ
open Go.Proofs.YtgkjlklfjbljeaaGreat.Eo
noncomputable section
@[go_sem]def abg:CF:=⟨2,(Sq [b 4 0] (Qq (Sq [a 5 0,y 6 239 5] (Kq 6 [b 4 1] .skip)) (Qq (Sq [a 7 1,D 8 3 7 0,a 9 8,r 10 9 1,qk 11 9 3 10 64,u 12 9 11] (Kq 12 [b 4 2] .skip)) (Rq [b 4 0])))),[.tmp 4]⟩
@[go_sem]def abh:CF:=⟨3,(Sq [p 6,b 7 0] (Qq (Sq [a 9 0,a 10 1,M 11 286 9 10,a 8 11] (Sq [a 12 8,A 13 41 12 0] (Kq 13 [a 14 8,p 6,a 7 14] .skip))) (Qq (Sq [a 15 2,D 16 3 15 0,a 17 16,r 18 17 2,r 19 17 0,qf 20 17 19,J 21 17 1 20,E 22 17 21,qu 23 17 22,qG 24 17 3 18 23,u 25 17 24] (Kq 25 [p 6,b 7 3] .skip)) (Rq [a 26 0,j 27 26,d 28 1 27,i 29 28,a 30 2,G 31 2 29 30,a 6 31,b 7 0])))),[.tmp 6,.tmp 7]⟩
@[go_sem]def abi:CF:=⟨2,(Sq [b 3 0] (Rq [i 4 1,a 5 0,qs 6 3 2 5,qg 7 3 4 6,a 3 7])),[.tmp 3]⟩
@[go_sem]def abj:CF:=⟨3,(Sq [a 6 0,j 7 6,d 8 1 7,i 9 8,a 10 2,G 11 2 9 10,d 12 0 11,i 13 12,zX 14 50 13 1,G 15 2 9 10,d 16 0 15,s 1 16 14] (.cn ⟨[([g 0 0,n 1 17 0,m 2 18 1 0,k 3 19 2,g 4 1,g 5 0,n 6 22 5,m 7 23 6 2,k 8 24 7,g 9 2,g 11 0,n 12 28 11,m 13 29 12 1,k 14 30 13,g 15 2,Y 16 31 14 32 15 2,m 17 33 16 0,k 18 34 17],some (z2 10 25 8 26 9)),([],some (qw 19 20 3 21 4 27 10 35 18 13)),([],none)],[(0,17),(1,18),(2,19),(3,20),(4,21),(5,22),(6,23),(7,24),(8,25),(9,26),(10,27),(11,28),(12,29),(13,30),(14,31),(15,32),(16,33),(17,34),(18,35),(19,36)],[(⟨3,[(19,(some 2))],none,.r (.ld none (.t 19))⟩,[1]),(⟨14,[(30,(some 13))],none,.r (.ld none (.t 30))⟩,[1]),(⟨18,[(34,(some 17))],none,.r (.ld none (.t 34))⟩,[1])]⟩)),[]⟩
@[go_sem]def abk:CF:=⟨4,(Sq [p 8,b 9 0] (Sq [a 13 0,a 14 1,a 15 2,Q 16 285 13 14 15,a 12 16,o 17 12 0,o 18 12 1,a 10 17,a 11 18] (Qq (Sq [a 19 11,A 20 41 19 0] (Kq 20 [a 21 11,p 8,a 9 21] .skip)) (Qq (Sq [a 22 3,D 23 3 22 0,a 24 23,r 25 24 3,qk 26 24 3 25 64,u 27 24 26] (Kq 27 [p 8,b 9 2] .skip)) (Qq (Sq [a 28 10,j 29 28,d 30 1 29,i 31 30,a 32 31,r 33 32 10,qf 34 32 33,J 35 32 0 34,E 36 32 35,⟨some 37,some (32,false),.p (.bin .rem 50 false true (.t 36) (.c (.int .u64 2)))⟩,jl 38 32 50 37 1,u 39 32 38] (Kq 39 [p 8,b 9 8] .skip)) (Sq [a 40 10,j 41 40,d 42 1 41,zk 1 42] (Rq [a 43 0,a 44 1,a 45 2,a 46 3,⟨some 47,none,.p (.build [.aJ,aN,aN,aN,aN] [(0,1,.t 43),(1,1,.t 44),(2,1,.t 45),(3,1,.t 46)])⟩,z 48 432 47,a 8 48,b 9 0]))))))),[.tmp 8,.tmp 9]⟩
@[go_sem]def abl:CF:=⟨3,(Sq [v 6 0,b 7 0] (Sq [a 10 0,a 11 1,a 12 2,Q 13 285 10 11 12,a 9 13,o 14 9 0,o 15 9 1,a 8 14,a 7 15] (Qq (Sq [a 16 7,A 17 41 16 0] (Kq 17 [a 18 7,v 6 0,a 7 18] .skip)) (Qq (Sq [a 19 8,j 20 19,d 21 0 20,i 22 21,qE 23 50 22 2,qV 24 50 23 0] (Kq 24 [v 6 0,b 7 8] .skip)) (Sq [a 25 0,a 26 1,a 27 2,Q 28 284 25 26 27] (Rq [v 6 13,b 7 0])))))),[.tmp 6,.tmp 7]⟩
def rP:CC:=(Sq [qc 14 3 13 12] (Qq (Cq 14 .skip (.exit 0)) (Qq (.block 1 (Sq [a 15 13,G 16 2 11 13,S 17 2 16,⟨some 5,none,.n (.new 430 [.int .u64 0,.bool false])⟩,a 4 15,s 2 5 17] (Sq [d 18 0 5,i 19 18,qE 20 50 19 2,qV 21 50 20 1] (Cq 21 (Oq [a 22 3,a 23 4,qM 24 3 1 1 0 0 1 23,qo 25 3 1 8 22 24,a 3 25]) .skip)))) (Oq [C 26 3 13 1,a 13 26]))))
@[go_sem]def abm:CF:=⟨1,(Sq [U 2] (Qq (Sq [a 6 0,y 7 239 6] (Kq 7 [U 2] .skip)) (Sq [U 3] (Qq (Sq [a 8 0,j 9 8,d 10 1 9,i 11 10,N 12 11,b 13 0] (.block 0 (.loop rP))) (Rq [a 27 3,a 2 27]))))),[.tmp 2]⟩
@[go_sem]def abn:CF:=⟨1,(Sq [v 2 0] (Qq (.cn ⟨[([g 0 0,n 1 3 0,m 2 4 1 0,k 3 5 2,n 4 6 3,m 5 7 4 0,k 6 8 5,g 7 0,n 8 10 7,m 9 11 8 1,k 10 12 9,g 11 0,n 12 14 11,m 13 15 12 0,k 14 16 13,n 15 17 14,m 16 18 15 2,k 17 19 16,g 18 0,n 19 21 18,m 20 22 19 2,k 21 23 20,g 24 0,n 25 27 24,m 26 28 25 3,k 27 29 26,zn 28 30 27],some (z2 22 20 17 24 21)),([qR 23 25 22 3 1],some (qw 29 9 6 13 10 26 23 31 28 13)),([],none)],[(0,3),(1,4),(2,5),(3,6),(4,7),(5,8),(6,9),(7,10),(8,11),(9,12),(10,13),(11,14),(12,15),(13,16),(14,17),(15,18),(16,19),(17,20),(18,21),(19,22),(20,23),(21,24),(22,25),(23,26),(24,27),(25,28),(26,29),(27,30),(28,31),(29,32)],[(⟨3,[(5,(some 2))],none,.r (.ld none (.t 5))⟩,[1]),(⟨6,[(8,(some 5))],none,.r (.ld none (.t 8))⟩,[1]),(⟨10,[(12,(some 9))],none,.r (.ld none (.t 12))⟩,[1]),(⟨27,[(29,(some 26))],none,.r (.ld none (.t 29))⟩,[1])]⟩) (Rq [v 2 14]))),[.tmp 2]⟩
@[go_sem]def abo:CF:=⟨1,(Sq [v 2 0] (Qq (.cn ⟨[([g 0 0,n 1 3 0,m 2 4 1 0,k 3 5 2,g 4 0,n 5 7 4,m 6 8 5 1,k 7 9 6,g 8 0,n 9 11 8,m 10 12 9 2,k 11 13 10],some (qm 12 6 3 10 7 14 11 284)),([],none)],[(0,3),(1,4),(2,5),(3,6),(4,7),(5,8),(6,9),(7,10),(8,11),(9,12),(10,13),(11,14),(12,15)],[]⟩) (Qq (.cn ⟨[([g 0 0,n 1 16 0,m 2 17 1 0,k 3 18 2,n 4 19 3,m 5 20 4 1,k 6 21 5,g 7 0,n 8 23 7,m 9 24 8 2,k 10 25 9,Y 11 22 6 26 10 2,m 12 27 11 1],some (zC 13 28 12 1)),([],none)],[(0,16),(1,17),(2,18),(3,19),(4,20),(5,21),(6,22),(7,23),(8,24),(9,25),(10,26),(11,27),(12,28)],[]⟩) (Rq [v 2 13])))),[.tmp 2]⟩
@[go_sem]def abp:CF:=⟨0,(Sq [⟨some 0,none,.n (.new 463 [.dQ,.dQ])⟩] (Rq [⟨some 1,none,.p (.build [.dQ,.dQ] [(0,1,.c (.fn (.func 329) [] [])),(1,1,.c (.fn (.func 330) [] []))])⟩,s 2 0 1])),[(.cell 0 (some 2))]⟩
@[go_sem]def UR:CF:=⟨1,(Sq [v 2 0,w 3] (Sq [jQ 5 328,⟨some 4,none,.n (.new 463 [.dQ,.dQ])⟩,s 2 4 5] (Qq (Sq [a 6 0,y 7 425 6,a 8 7,r 9 8 0,qf 10 8 9,J 11 8 4 10,E 12 8 11,zj 13 8 3 12 2,u 14 8 13] (Kq 14 [v 2 0,w 3] .skip)) (Sq [a 15 0,j 16 15,d 17 4 16,i 18 17,qA 19 2 1 4 18,i 20 19,a 21 0,zY 22 20 21,a 2 22] (Sq [a 23 0,j 24 23,d 25 4 24,i 26 25,C 27 3 26 1,j 28 23,d 29 4 28,s 1 29 27] (Qq (.cn ⟨[([g 0 2,g 1 0,n 2 31 1,m 3 32 2 4,k 4 33 3,z3 5 34 4 3 2,t 6 30 0,t 7 35 5],none)],[(0,30),(1,31),(2,32),(3,33),(4,34),(5,35),(6,2),(7,3)],[]⟩) .ret)))))),[.tmp 2,.tmp 3]⟩
@[go_sem]def abq:CF:=⟨1,(Sq [v 2 0] (Sq [⟨some 4,none,.p (.build [.int .u8 0,.int .u8 0,.int .u8 0] [(0,1,.c (.int .u8 14)),(1,1,.c (.int .u8 13)),(2,1,.c (.int .u8 0))])⟩,⟨some 3,none,.n (.new 461 [.int .u8 0,.int .u8 0,.int .u8 0])⟩,s 3 3 4] (Qq (Sq [a 5 0,y 6 425 5] (Kq 6 [v 2 0] .skip)) (Rq [a 7 0,j 8 7,d 9 4 8,i 10 9,qA 11 3 1 3 10,i 12 11,a 2 12])))),[.tmp 2]⟩
def Hf:Nat->List AV
 |0=>[]
 |n+1=>.int .u64 0::.bool false::Hf n
theorem Be:∀n,(Hf n).length=n*2
 |0=>rfl
 |n+1=>by unfold Hf;rw[List.length_cons,List.length_cons,Be n];omega
theorem Bf:∀(n s:Nat),s<n->(Hf n)[s*2]?=some (.int .u64 0)/\(Hf n)[s*2+1]?=some (.bool false)
 |0,s,h=>by omega
 |n+1,0,_=>⟨rfl,rfl⟩
 |n+1,s+1,h=>by
  have:=Bf n s (by omega);rw[Nat.add_mul];exact this
def yQ(k:QQ)(x:Int)(b:Bool):List AV:=.int .u64 x::.bool b::Hf (bN k.c-1)
def lp(k:QQ)(N F:Nat):Cm:=aD k.G (ag [.ptr k.a.M 0,.sl N 0 (bN k.c) 2 (some (bN k.c)),.fn (.func 178) [] [.ptr F 0]] 317)
def mq(k:QQ)(N:Nat)(x:Int)(b:Bool):Cm:=aD N (.row (aa 0 (yQ k x b) T.e) (bN k.c*2) 430)
def mM(k:QQ)(F:Nat):Cm:=aD F (ag [.int .i64 (bN k.c:Int)] 3)
def xX(k:QQ)(X:Nat)(v d:Int):Cm:=aD X (ag [.ptr k.G 0,.int .i64 0,.int .i64 0,.int .i64 v,.int .i64 d] 432)
section
variable {call:ab} {h:H} {k:QQ} {ws:List Int} {m:Nat} {vm:AO} {E:Cm} {R:List Cm} {N F X:Nat} {x v:Int} {b:Bool}
theorem vq(s:1<=bN k.c):(yQ k x b).length=bN k.c*2:=by unfold yQ;rw[List.length_cons,List.length_cons,Be];omega
theorem ak9(P:Program)[PF P]{G:Nat}:WF P call abg [.ptr G 0,.int .i64 0] h fun v h'=>v=.int .i64 0/\h'=h:=by
 simp only[go_sem,seval]
theorem ala(P:Program)[PF P](US:rN call 286)(q:QS h k ws m vm E (lp k N F::R)):WF P call abh [.ptr k.G 0,.int .i64 0,.int .i64 0] h fun v h'=>v=.aE [.ptr N 0,.int .i64 0]/\h'=h:=by
 have gG:=(q.at (j:=0) rfl).1;have k1:=US h k.G;obtain⟨_,s1,s2,_⟩:=q.ar.aw.b.sl;have e1:(0:Int)<(bN k.c:Int):=by omega
 simp only[go_sem,seval,k1,gG,e1]
def OS(call:ab):Prop:=∀h k ws m vm E R N F,QS h k ws m vm E (lp k N F::R)->call 285 [.ptr k.G 0,.int .i64 0,.int .i64 0] h=some (.aE [.ptr N 0,.int .i64 0],h)
theorem alb(P:Program){n:Nat}(gF:h.t.get F=some (ag [.int .i64 (n:Int)] 3))(hn:n<=64):WF P call abi [.int .i64 0,.ptr F 0] h fun v h'=>v=.int .i64 (n:Int)/\h'=h:=by
 have f0:fw .i64 0=0:=rfl;have f2:fw .i64 (n:Int)=(n:Int):=aS (by omega) (by omega);simp only[go_sem,seval,gF,Int.mul_zero,Int.add_zero,f0,f2]
def OT(call:ab):Prop:=∀h (F n:Nat),h.t.get F=some (ag [.int .i64 (n:Int)] 3)->n<=64->call 178 [.int .i64 0,.ptr F 0] h=some (.int .i64 (n:Int),h)
theorem alc(P:Program)[PF P](JX:OT call)(uH:D6 call)(q:QS h k ws m vm E (lp k N F::mq k N x b::mM k F::R))(hm:m<=800000)(x0:0<=x)(x1:x<=1000):
 WF P call abj [.ptr k.G 0,.int .i64 0,.int .i64 0] h fun v h'=>v=.aE []/\h.next<=h'.next/\QS h' k (ws.set (bN k.c) (x+1)) (m+1) vm E (lp k N F::mq k N (x+1) b::mM k F::R):=by
 have gG:=(q.at (j:=0) rfl).1;have gN:=(q.at (j:=1) rfl).1;obtain⟨_,s1,s2,s3⟩:=q.ar.aw.b.sl;obtain⟨_,_,_,p4,_,p6,_⟩:=q.ar.aw.b.pl;have hl:=q.ar.len;have bn:=q.ar.aw.b.dq;have e1:(0:Int)<(bN k.c:Int):=by omega
 have f1:fw .u64 (x+1)=x+1:=uE (by omega) (by omega);obtain⟨y,hy⟩:∃y,ws[bN k.c]?=some y:=⟨_,List.getElem?_eq_getElem (by omega)⟩;have q1:=q.put (j:=1) rfl (.row (aa 0 (yQ k (x+1) b) T.e) (bN k.c*2) 430);have g1:=(q1.at (j:=0) rfl).1;have g2:=(q1.at (j:=1) rfl).1;have k1:=JX _ F (bN k.c) (q1.at (j:=2) rfl).1 s2;obtain⟨h3,e3,n3,q3⟩:=q1.store uH (by omega) (i:=bN k.c) (z:=x+1) hy (by omega);have XH:h.next<=h3.next:=n3;have hi:(yQ k x b)[0]?=some (.int .u64 x):=rfl;have vf:(yQ k (x+1) b)[0]?=some (.int .u64 (x+1)):=rfl;have ln:=vq (k:=k) (x:=x) (b:=b) s1;have UM:0<bN k.c:=by omega
 have ln2:0<bN k.c*2:=by omega
 have ln3:1<=bN k.c*2:=by omega
 have es:(yQ k x b).set 0 (.int .u64 (x+1))=yQ k (x+1) b:=rfl;have GN:¬k.G=N:=AN gG gN (by decide);simp only[go_sem,seval,GN,gG,e1,gN,hi,ln,UM,ln2,ln3,s1,f1,es,g1,g2,vf,k1,e3,XH,n3];exact q3
def OU(call:ab):Prop:=∀h k ws m vm E R N F (x:Int) b,QS h k ws m vm E (lp k N F::mq k N x b::mM k F::R)->m<=800000->0<=x->x<=1000->aG call 284 [.ptr k.G 0,.int .i64 0,.int .i64 0] h fun v h'=>v=.aE []/\h.next<=h'.next/\QS h' k (ws.set (bN k.c) (x+1)) (m+1) vm E (lp k N F::mq k N (x+1) b::mM k F::R)
theorem ald(P:Program)[PF P](JY:OS call){j:Nat}(q:QS h k ws m vm E (lp k N F::mq k N (2*(j:Int)) false::mM k F::R))(v0:0<=v)(v1:v<64):
 WF P call abk [.ptr k.G 0,.int .i64 0,.int .i64 0,.int .i64 v] h fun r h'=>h.next<=h'.next/\∃X,r=.aE [.ptr X 0,.int .i64 0]/\QS h' k ws m vm E (lp k N F::mq k N (2*(j:Int)) true::mM k F::xX k X v 0::R):=by
 obtain⟨gN,lN⟩:=q.at (j:=1) rfl;obtain⟨_,s1,s2,s3⟩:=q.ar.aw.b.sl;have k1:=JY h k ws m vm E _ N F q;have e2:¬v<0:=by omega
 have hi:(yQ k (2*(j:Int)) false)[0]?=some (.int .u64 (2*(j:Int))):=rfl;have vf:(yQ k (2*(j:Int)) false)[1]?=some (.bool false):=rfl;have ln:=vq (k:=k) (x:=2*(j:Int)) (b:=false) s1;have ln2:1<bN k.c*2:=by omega
 have ln3:2<=bN k.c*2:=by omega
 have te:=rO j;have es:(yQ k (2*(j:Int)) false).set 1 (.bool true)=yQ k (2*(j:Int)) true:=rfl;have q1:=((q.put (j:=1) rfl (.row (aa 0 (yQ k (2*(j:Int)) true) T.e) (bN k.c*2) 430)).box (ag [.ptr k.G 0,.int .i64 0,.int .i64 0,.int .i64 v,.int .i64 0] 432)).perm (.trans (.swap _ _ _) (.cons _ (.trans (.swap _ _ _) (.cons _ (.swap _ _ _)))));simp only[go_sem,seval,k1,e2,v1,gN,hi,vf,te,ln,ln2,ln3,es];exact⟨_,rfl,q1⟩
theorem ale(P:Program)[PF P](JX:OT call)(uH:D6 call)(q:QS h k ws m vm E (lp k N F::mq k N x b::mM k F::xX k X v 0::R))(hm:m<=800000)(v0:0<=v)(v1:v<64)(hE:k.c.az=2):
 WF P call abn [.ptr X 0] h fun r h'=>r=.int .u8 14/\h.next<=h'.next/\QS h' k (ws.set (bN k.c+1) v) (m+1) vm E (lp k N F::mq k N x b::mM k F::xX k X v 0::R):=by
 have gG:=(q.at (j:=0) rfl).1;have gX:=(q.at (j:=3) rfl).1;obtain⟨_,s1,s2,s3⟩:=q.ar.aw.b.sl;obtain⟨_,_,_,p4,_,p6,_⟩:=q.ar.aw.b.pl;have hl:=q.ar.len;obtain⟨y,hy⟩:∃y,ws[bN k.c+1]?=some y:=⟨_,List.getElem?_eq_getElem (by
  have:bD k.c=2*k.c.aq:=by unfold bD;rw[if_neg (by omega),if_pos hE]
  omega)⟩
 have k1:=JX _ F (bN k.c) (q.at (j:=2) rfl).1 s2;have f1:fw .i64 ((bN k.c:Int)+1)=((bN k.c+1:Nat):Int):=by rw[aS (by omega) (by omega)];omega
 have f2:fw .u64 v=v:=uE (by omega) (by omega);obtain⟨h3,e3,n3,q3⟩:=q.store uH (by omega) (i:=bN k.c+1) (z:=v) hy (by omega);simp only[go_sem,seval,gX,gG,k1,f1,f2,e3,n3];exact q3
def UT(call:ab):Prop:=∀h k ws m vm E R N F X (x v:Int) b,QS h k ws m vm E (lp k N F::mq k N x b::mM k F::xX k X v 0::R)->m<=800000->0<=v->v<64->k.c.az=2->aG call 329 [.ptr X 0] h fun r h'=>r=.int .u8 14/\h.next<=h'.next/\QS h' k (ws.set (bN k.c+1) v) (m+1) vm E (lp k N F::mq k N x b::mM k F::xX k X v 0::R)
theorem alf(P:Program)[PF P](JZ:OU call){j:Nat}(hj:j<=400)(q:QS h k ws m vm E (lp k N F::mq k N (2*(j:Int)) true::mM k F::xX k X v 1::R))(hm:m<=800000):
 WF P call abo [.ptr X 0] h fun r h'=>r=.int .u8 13/\h.next<=h'.next/\∃z,QS h' k (ws.set (bN k.c) z) (m+1) vm E (lp k N F::mq k N (2*(j:Int)+1) false::mM k F::xX k X v 1::R):=by
 have gX:=(q.at (j:=3) rfl).1;obtain⟨_,s1,s2,s3⟩:=q.ar.aw.b.sl;simp only[go_sem,seval,gX];refine af (JZ h k ws m vm E _ N F _ _ q hm (by omega) (by omega)) fun v1 h1 p1=>?_
 obtain⟨rfl,n1,q1⟩:=p1;have fI:=(q1.at (j:=3) rfl).1;have gG1:=(q1.at (j:=0) rfl).1;have gN1:=(q1.at (j:=1) rfl).1;have q2:=q1.put (j:=1) rfl (.row (aa 0 (yQ k (2*(j:Int)+1) false) T.e) (bN k.c*2) 430);have e1:(0:Int)<(bN k.c:Int):=by omega
 have ln:=vq (k:=k) (x:=2*(j:Int)+1) (b:=true) s1;have ln2:1<bN k.c*2:=by omega
 have ln3:2<=bN k.c*2:=by omega
 have es:(yQ k (2*(j:Int)+1) true).set 1 (.bool false)=yQ k (2*(j:Int)+1) false:=rfl;simp only[go_sem,seval,fI,gG1,e1,gN1,ln,ln2,ln3,s1,es,n1];exact⟨_,q2⟩
def UU(call:ab):Prop:=∀h k ws m vm E R N F X (v:Int) (j:Nat),j<=400->QS h k ws m vm E (lp k N F::mq k N (2*(j:Int)) true::mM k F::xX k X v 1::R)->m<=800000->aG call 330 [.ptr X 0] h fun r h'=>r=.int .u8 13/\h.next<=h'.next/\∃z,QS h' k (ws.set (bN k.c) z) (m+1) vm E (lp k N F::mq k N (2*(j:Int)+1) false::mM k F::xX k X v 1::R)
theorem alg(P:Program):WF P call abp [] h fun r h'=>r=.agg [.fn (.func 329) [] [],.fn (.func 330) [] []]/\ae h h':=by
 simp only[go_sem,seval];exact ae.new h _
def OV(call:ab):Prop:=∀h,aG call 328 [] h fun r h'=>r=.agg [.fn (.func 329) [] [],.fn (.func 330) [] []]/\ae h h'
theorem abu(P:Program)[PF P](J0:OV call)(UW:UT call)(q:QS h k ws m vm E (lp k N F::mq k N x b::mM k F::xX k X v 0::R))(hm:m<=800000)(v0:0<=v)(v1:v<64)(hE:k.c.az=2):
 WF P call UR [.ptr X 0] h fun r h'=>r=.aE [.int .u8 14,.bool false]/\h.next<=h'.next/\QS h' k (ws.set (bN k.c+1) v) (m+1) vm E (lp k N F::mq k N x b::mM k F::xX k X v 1::R):=by
 simp only[go_sem,seval];refine af (J0 h) fun v2 h2 p2=>?_
 obtain⟨rfl,cF⟩:=p2;have q2:=(q.step cF).box (ag [.fn (.func 329) [] [],.fn (.func 330) [] []] 463);have n2:=cF.next;obtain⟨kE,lX2⟩:=q2.at (j:=4) rfl;have dX:¬X=h2.next:=by have:=((q.step cF).at (j:=3) rfl).2;omega
 have UX:=((q.step cF).at (j:=3) rfl).1;simp only[go_sem,seval,dX,UX];refine af (UW _ k ws m vm E R N F X x v b q2.drop hm v0 v1 hE) fun v3 h3 p3=>?_
 obtain⟨rfl,n3,q3⟩:=p3;have XH:h2.next+1<=h3.next:=n3;have D2:=(q3.at (j:=3) rfl).1;have q4:=q3.put (j:=3) rfl (ag [.ptr k.G 0,.int .i64 0,.int .i64 0,.int .i64 v,.int .i64 1] 432);have f1:fw .i64 1=1:=rfl;simp only[go_sem,seval,D2,f1];exact⟨by omega,q4⟩
theorem abv(P:Program)[PF P](J0:OV call)(UY:UU call){j:Nat}(hj:j<=400)(q:QS h k ws m vm E (lp k N F::mq k N (2*(j:Int)) true::mM k F::xX k X v 1::R))(hm:m<=800000):
 WF P call UR [.ptr X 0] h fun r h'=>r=.aE [.int .u8 13,.bool true]/\h.next<=h'.next/\∃z,QS h' k (ws.set (bN k.c) z) (m+1) vm E (lp k N F::mq k N (2*(j:Int)+1) false::mM k F::xX k X v 2::R):=by
 simp only[go_sem,seval];refine af (J0 h) fun v2 h2 p2=>?_
 obtain⟨rfl,cF⟩:=p2;have q2:=(q.step cF).box (ag [.fn (.func 329) [] [],.fn (.func 330) [] []] 463);have n2:=cF.next;have dX:¬X=h2.next:=by have:=((q.step cF).at (j:=3) rfl).2;omega
 have UX:=((q.step cF).at (j:=3) rfl).1;simp only[go_sem,seval,dX,UX];refine af (UY _ k ws m vm E R N F X v j hj q2.drop hm) fun v3 h3 p3=>?_
 obtain⟨rfl,n3,z,q3⟩:=p3;have XH:h2.next+1<=h3.next:=n3;have D2:=(q3.at (j:=3) rfl).1;have q4:=q3.put (j:=3) rfl (ag [.ptr k.G 0,.int .i64 0,.int .i64 0,.int .i64 v,.int .i64 2] 432);have f1:fw .i64 2=2:=rfl;simp only[go_sem,seval,D2,f1];exact⟨by omega,z,q4⟩
theorem alh(P:Program)[PF P]{d:Nat}(hd:d<3)(l:X<h.next)(g:h.t.get X=some (ag [.ptr k.G 0,.int .i64 0,.int .i64 0,.int .i64 v,.int .i64 (d:Int)] 432)):WF P call abq [.ptr X 0] h fun r h'=>r=.int .u8 (if d=0 then 14 else if d=1 then 13 else 0)/\ae h h':=by
 have dX:¬X=h.next:=by omega
 have hq:d=0\/d=1\/d=2:=by omega
 rcases hq with rfl|rfl|rfl
 ·have g':h.t.get X=some (ag [.ptr k.G 0,.int .i64 0,.int .i64 0,.int .i64 v,.int .i64 0] 432):=g;simp only[go_sem,seval,dX,g'];exact ae.new h _
 ·have g':h.t.get X=some (ag [.ptr k.G 0,.int .i64 0,.int .i64 0,.int .i64 v,.int .i64 1] 432):=g;simp only[go_sem,seval,dX,g'];exact ae.new h _
 ·have g':h.t.get X=some (ag [.ptr k.G 0,.int .i64 0,.int .i64 0,.int .i64 v,.int .i64 2] 432):=g;simp only[go_sem,seval,dX,g'];exact ae.new h _
theorem ali(P:Program)[PF P](JY:OS call)(JZ:OU call){j:Nat}(hj:j<=400)(q:QS h k ws m vm E (lp k N F::mq k N (2*(j:Int)+1) false::mM k F::R))(hm:m<=800000):
 WF P call abl [.ptr k.G 0,.int .i64 0,.int .i64 0] h fun r h'=>r=.aE [.int .u8 13,.int .i64 0]/\h.next<=h'.next/\∃z,QS h' k (ws.set (bN k.c) z) (m+1) vm E (lp k N F::mq k N (2*((j+1:Nat):Int)) false::mM k F::R):=by
 obtain⟨_,s1,s2,s3⟩:=q.ar.aw.b.sl;have k1:=JY h k ws m vm E _ N F q;have gN:=(q.at (j:=1) rfl).1;have hi:(yQ k (2*(j:Int)+1) false)[0]?=some (.int .u64 (2*(j:Int)+1)):=rfl;have to:=FO j;simp only[go_sem,seval,k1,gN,hi,to];refine af (JZ h k ws m vm E _ N F _ _ q hm (by omega) (by omega)) fun v1 h1 p1=>?_
 obtain⟨rfl,n1,q1⟩:=p1;rw[show 2*(j:Int)+1+1=2*((j+1:Nat):Int) by omega]at q1;simp only[go_sem,seval];exact⟨n1,_,q1⟩
theorem abw{L:List AV}{p:Nat}{a b:AV}(h1:L[p]?=some a)(h2:L[p+1]?=some b):(L.drop p).take 2=[a,b]:=by
 obtain⟨l1,e1⟩:=List.getElem?_eq_some_iff.1 h1;obtain⟨l2,e2⟩:=List.getElem?_eq_some_iff.1 h2;rw[List.drop_eq_getElem_cons l1,List.drop_eq_getElem_cons l2,e1,e2];rfl
def UZ(h0:H)(k:QQ)(N:Nat)(n:Nat)(tm:T AV)(h:H):Prop:=ae h0 h/\tm.get 3=some .ax/\tm.get 11=some (.sl N 0 (bN k.c) 2 (some (bN k.c)))/\tm.get 12=some (.int .i64 (bN k.c:Int))/\∃i:Nat,i+n=bN k.c/\tm.get 13=some (.int .i64 (i:Int))
theorem OW(P:Program)[PF P]{h0:H}{j:Nat}(q:QS h0 k ws m vm E (lp k N F::mq k N (2*(j:Int)) false::R))(n:Nat)(tm:T AV)(h:H)(hI:UZ h0 k N n tm h):
 WC P call rP (bM 0 (fun tm h=>∃n',n'<n/\UZ h0 k N n' tm h) (fun tm h=>ae h0 h/\tm.get 3=some .ax) (fun _ _=>False)) tm h:=by
 obtain⟨st,t3,t11,t12,i,fH,t13⟩:=hI;obtain⟨gN0,lN⟩:=q.at (j:=1) rfl;obtain⟨_,s1,s2,s3⟩:=q.ar.aw.b.sl;cases n with
 |zero=>
  have e1:¬(i:Int)<(bN k.c:Int):=by omega
  simp only[go_sem,seval,rP,t12,t13,e1];exact⟨st,by simp[go_sem,t3]⟩
 |succ n=>
  have e1:(i:Int)<(bN k.c:Int):=by omega
  have f1:fw .i64 ((i:Int)+1)=(i:Int)+1:=aS (by omega) (by omega);have e3:((i+1:Nat):Int)=(i:Int)+1:=rfl;have gN:=(st.old N lN).trans gN0;have ln:=vq (k:=k) (x:=2*(j:Int)) (b:=false) s1;have nN:¬N=h.next:=by have:=st.next;omega
  obtain⟨y,hy,SK,hy2⟩:∃y:Int,(yQ k (2*(j:Int)) false)[i*2]?=some (.int .u64 y)/\(yQ k (2*(j:Int)) false)[i*2+1]?=some (.bool false)/\Int.tmod y 2=0:=by
   cases i with
   |zero=>exact⟨_,rfl,rfl,rO j⟩
   |succ i=>
    obtain⟨a1,a2⟩:=Bf (bN k.c-1) i (by omega);exact⟨0,by rw[Nat.add_mul];exact a1,by rw[Nat.add_mul];exact a2,rfl⟩
  have i2:i*2+2<=bN k.c*2:=by omega
  have tk:=abw hy SK;have oo:[AV.int .u64 y,AV.bool false].all aY=true:=rfl;simp only[go_sem,seval,rP,t11,t12,t13,e1,Nat.zero_add,gN,nN,ln,i2,tk,oo,hy2,f1];exact⟨n,Nat.lt_succ_self n,st.trans (ae.new h _),by simp[go_sem,t3],by simp[go_sem,t11],by simp[go_sem,t12],i+1,by omega,by simp[go_sem,e3]⟩
theorem alj(P:Program)[PF P]{j:Nat}(q:QS h k ws m vm E (lp k N F::mq k N (2*(j:Int)) false::R)):WF P call abm [.ptr k.G 0] h fun r h'=>r=.ax/\ae h h':=by
 have gG:=(q.at (j:=0) rfl).1;simp only[go_sem,seval,gG];refine aT (UZ h k N) _ _ (fun n tm h' hI=>OW P q n tm h' hI) (fun dC h2 hR=>?_) (fun _ _ hh=>hh.elim) (bN k.c) _ _
  ⟨ae.refl h,by simp[go_sem],by simp[go_sem],by simp[go_sem],0,by omega,by simp[go_sem]⟩
 obtain⟨st,t3⟩:=hR;simp only[go_sem,seval,t3];exact st
end
end
end Go.Proofs.YtgkjlklfjbljeaaGreat.CQ
namespace Go.Proofs.YtgkjlklfjbljeaaGreat.CQ
open Go.Proofs.YtgkjlklfjbljeaaGreat.Eo
noncomputable section
@[go_sem]def abx:CF:=⟨2,(Sq [b 4 0] (Qq (Sq [a 5 0,y 6 246 5] (Kq 6 [b 4 1] .skip)) (Qq (Sq [a 7 1,D 8 3 7 0,a 9 8,r 10 9 1,qk 11 9 3 10 64,u 12 9 11] (Kq 12 [b 4 2] .skip)) (Rq [b 4 0])))),[.tmp 4]⟩
@[go_sem]def aby:CF:=⟨3,(Sq [b 6 0] (Qq (Sq [a 8 0,a 9 1,M 10 297 8 9,a 7 10] (Sq [a 11 7,A 12 41 11 0] (Kq 12 [a 13 7,a 6 13] .skip))) (Qq (Sq [a 14 2,D 15 3 14 0,a 16 15,r 17 16 2,qk 18 16 3 17 64,u 19 16 18] (Kq 19 [b 6 3] .skip)) (Rq [b 6 0])))),[.tmp 6]⟩
@[go_sem]def abz:CF:=⟨1,(Sq [b 2 0] (Qq (Sq [a 3 0,D 4 3 3 1,a 5 4,r 6 5 0,qb 7 5 3 6 16,u 8 5 7] (Kq 8 [b 2 2] .skip)) (Rq [b 2 0]))),[.tmp 2]⟩
@[go_sem]def abA:CF:=⟨2,(Sq [b 4 0,b 5 0] (Qq (Sq [a 7 1,q 8 298 7,a 6 8] (Sq [a 9 6,A 10 41 9 0] (Kq 10 [a 11 6,b 4 0,a 5 11] .skip))) (Qq (Sq [a 12 0,D 13 3 12 0,a 14 13,r 15 14 0,qk 16 14 3 15 64,u 17 14 16] (Kq 17 [b 4 0,b 5 3] .skip)) (Rq [a 18 0,a 19 1,zy 20 3 18 19,a 4 20,b 5 0])))),[.tmp 4,.tmp 5]⟩
def FQ:CC:=(Sq [D 8 3 7 4] (Qq (Cq 8 .skip (.exit 0)) (Qq (.block 1 (Sq [a 9 7,a 6 9] (Oq [a 10 6,a 11 0,j 12 11,d 13 1 12,i 14 13,a 15 1,qs 16 3 4 15,qg 17 3 14 16,a 18 6,qg 19 3 17 18,qA 20 4 1 5 10,s 1 20 19]))) (Oq [C 21 3 7 1,a 7 21]))))
@[go_sem]def abB:CF:=⟨2,(Sq [zK 4 311 0 0 0 0] (Sq [zK 5 311 0 0 0 0] (Qq (Sq [b 7 0] (.block 0 (.loop FQ))) (Rq [S 22 4 5,s 4 4 22])))),[(.cell 4 (some 4))]⟩
@[go_sem]def abC:CF:=⟨4,(Sq [p 8,b 9 0] (Qq (Sq [a 16 0,a 17 1,a 18 2,Q 19 293 16 17 18,a 10 19] (Sq [a 20 10,A 21 41 20 0] (Kq 21 [a 22 10,p 8,a 9 22] .skip))) (Qq (Sq [a 23 3,D 24 3 23 0,a 25 24,r 26 25 3,qk 27 25 3 26 64,u 28 25 27] (Kq 28 [p 8,b 9 2] .skip)) (Qq (Sq [a 30 0,j 31 30,d 32 3 31,i 33 32,a 34 2,jc 35 0 33 34,a 29 35,o 36 29 0,o 37 29 1,a 11 36,a 12 37] (Sq [a 38 12] (Kq 38 [p 8,b 9 8] .skip))) (Sq [a 40 3,a 41 0,j 42 41,d 43 2 42,i 44 43,M 45 294 40 44,a 39 45,o 46 39 0,o 47 39 1,a 13 46,a 14 47] (Sq [⟨some 48,none,.p (.build [.int .i64 0,.bool false] [(0,1,.c (.int .i64 (-1)))])⟩,z 49 442 48,a 15 49] (Sq [a 50 0,j 51 50,d 52 3 51,i 53 52,a 54 2,a 55 15,z6 0 53 54 55] (Qq (.cn ⟨[([g 0 0,n 1 56 0,m 2 57 1 0,k 3 58 2,g 4 1,g 5 0,g 6 13,g 8 15],some (qq 7 61 5 62 6 295)),([⟨9,[(59,some 3),(60,some 4),(63,some 7),(64,some 8)],none,.p (.build [.aJ,aN,aN,aN,aN,aN,.aJ] [(0,1,.t 59),(1,1,.t 60),(2,4,.t 63),(6,1,.t 64)])⟩,qY 10 65 9 445,t 11 66 10,qS 12 0],none)],[(0,56),(1,57),(2,58),(3,59),(4,60),(5,61),(6,62),(7,63),(8,64),(9,65),(10,66),(11,8),(12,9)],[(⟨3,[(58,(some 2))],none,.r (.ld none (.t 58))⟩,[1])]⟩) .ret)))))))),[.tmp 8,.tmp 9]⟩
@[go_sem]def abD:CF:=⟨1,(Sq [v 2 0] (Qq (.block 0 (Sq [a 4 0,y 5 438 4,a 6 5,r 7 6 0,qf 8 6 7,J 9 6 6 8,E 10 6 9,qf 11 6 10,J 12 6 1 11,E 13 6 12,u 14 6 13,a 3 14] (Kq 3 [v 2 0] (Sq [a 16 0,j 17 16,d 18 6 17,i 19 18,j 20 19,d 21 0 20,i 22 21,D 23 3 22 0,a 15 23] (Kq 15 [v 2 15] .skip))))) (Rq [v 2 16]))),[.tmp 2]⟩
@[go_sem]def U0:CF:=⟨1,(Sq [v 2 0,w 3] (Qq (Sq [a 6 0,q 7 338 6,a 2 7] (Sq [a 8 2] (.block 0 (Sq [L 10 5 8 15,a 9 10] (Cq 9 (Qq (.cn ⟨[([g 0 0,n 1 12 0,m 2 13 1 0,k 3 14 2,g 4 0,n 5 16 4,m 6 17 5 1,k 7 18 6,g 8 0,n 9 20 8,m 10 21 9 2,⟨11,[(22,some 10)],none,.p (.tP 4 1 (.t 22) (.c (.int .i64 0)))⟩,k 12 23 11],some (qm 13 15 3 19 7 24 12 169)),([t 14 25 13,B 15 11 14 0,B 16 11 14 1,t 17 26 15,t 18 27 16],none)],[(0,12),(1,13),(2,14),(3,15),(4,16),(5,17),(6,18),(7,19),(8,20),(9,21),(10,22),(11,23),(12,24),(13,25),(14,11),(15,26),(16,27),(17,4),(18,5)],[]⟩) (.cn ⟨[([g 0 0,n 1 28 0,m 2 29 1 6,k 3 30 2,g 4 0,g 5 4,⟨6,[(33,some 5)],none,.p (.bin .rem 50 false true (.t 33) (.c (.int .u64 2)))⟩,⟨7,[(34,some 6)],none,.p (.bin .add 50 true false (.c (.int .u64 1)) (.t 34))⟩,n 8 32 4,m 9 36 8 2,⟨10,[(37,some 9),(35,some 7)],none,.p (.tP 4 1 (.t 37) (.t 35))⟩,k 11 38 10,n 12 31 3,m 13 40 12 0],some (V 14 41 13 39 11 1)),([],none)],[(0,28),(1,29),(2,30),(3,31),(4,32),(5,33),(6,34),(7,35),(8,36),(9,37),(10,38),(11,39),(12,40),(13,41)],[]⟩)) (Sq [L 43 5 8 16,a 42 43] (Cq 42 (Qq (.cn ⟨[([g 0 0,n 1 44 0,m 2 45 1 0,k 3 46 2,g 4 0,n 5 48 4,m 6 49 5 1,k 7 50 6,g 8 0,n 9 52 8,m 10 53 9 6,k 11 54 10,n 12 55 11,m 13 56 12 0,k 14 57 13],some (jb 15 47 3 51 7 58 14 296 1)),([],none)],[(0,44),(1,45),(2,46),(3,47),(4,48),(5,49),(6,50),(7,51),(8,52),(9,53),(10,54),(11,55),(12,56),(13,57),(14,58),(15,59)],[]⟩) (Oq [a 60 0,j 61 60,d 62 6 61,i 63 62,j 64 63,d 65 1 64,zk 1 65])) .skip))))))) (Rq [a 66 2,a 67 2,L 68 5 67 16,a 2 66,a 3 68]))),[.tmp 2,.tmp 3]⟩
@[go_sem]def abE:CF:=⟨3,(Sq [v 6 0,b 7 0] (Qq (Sq [a 11 0,a 12 1,a 13 2,Q 14 293 11 12 13,a 8 14] (Sq [a 15 8,A 16 41 15 0] (Kq 16 [a 17 8,v 6 0,a 7 17] .skip))) (Sq [a 19 0,j 20 19,d 21 3 20,i 22 21,a 23 2,jc 24 0 22 23,a 18 24,o 25 18 0,o 26 18 1,a 9 25,a 10 26] (Qq (Sq [a 27 10,qa 28 27,a 29 28,r 30 29 9,qf 31 29 30,J 32 29 1 31,E 33 29 32,qz 34 29 33,u 35 29 34] (Kq 35 [v 6 0,b 7 8] .skip)) (Qq (.cn ⟨[([g 0 0,n 1 36 0,m 2 37 1 0,k 3 38 2,g 4 1,g 5 9,n 6 41 5,m 7 42 6 0,k 8 43 7],some (jb 9 39 3 40 4 44 8 296 18446744073709551615)),([],none)],[(0,36),(1,37),(2,38),(3,39),(4,40),(5,41),(6,42),(7,43),(8,44),(9,45)],[]⟩) (Sq [a 46 0,j 47 46,d 48 3 47,i 49 48,a 50 2,⟨none,none,.m (.del 0 (.t 49) (.t 50))⟩] (Rq [v 6 16,b 7 0]))))))),[.tmp 6,.tmp 7]⟩
def rQ:CC:=(Sq [D 10 3 9 64] (Qq (Cq 10 .skip (.exit 0)) (Qq (.block 1 (Sq [a 11 9,a 4 11] (Sq [a 13 0,j 14 13,d 15 3 14,i 16 15,a 17 4,jc 18 0 16 17,a 12 18,o 19 12 0,o 20 12 1,a 5 19,a 6 20] (Sq [a 21 6,a 22 21,K 23 22 5,zd 24 22 23,qi 25 22 1 24,qh 26 22 25,O 27 22 26] (Cq 27 (Oq [a 28 3,a 29 4,qM 30 3 1 1 0 0 1 29,qo 31 3 1 8 28 30,a 3 31]) .skip))))) (Oq [C 32 3 9 1,a 9 32]))))
@[go_sem]def abF:CF:=⟨1,(Sq [U 2] (Qq (Sq [a 7 0,y 8 246 7] (Kq 8 [U 2] .skip)) (Sq [U 3] (Qq (Sq [b 9 0] (.block 0 (.loop rQ))) (Rq [a 33 3,a 2 33]))))),[.tmp 2]⟩
theorem U1(z:Int):0<=fw .u64 z:=by
 rw[tW]
 show 0<=z.emod _
 exact Int.emod_nonneg _ (by decide)
def U2(c:aj):Nat:=c.buckets.toNat
theorem LB.bk{c:aj}(b:LB c)(h:c.az=3):c.buckets=(U2 c:Int)/\1<=U2 c/\U2 c<=16/\bN c+4*U2 c=cD c:=by
 have p:=b.sl;obtain⟨hT,Ib,mL,IG,IH,iD,oU,hd,Eh,MZ,II⟩:=b.lay;have e:bD c=4*c.buckets:=by unfold bD;rw[if_neg (by omega),if_neg (by omega)]
 have:=iD h;unfold U2;refine⟨?_,?_,?_,?_⟩<;>omega
def s9(k:QQ)(S:Nat):Cm:=aD k.G (ag [.ptr k.a.M 0,.int .i64 (bN k.c:Int),.int .i64 (U2 k.c:Int),.map S] 320)
def ta(S:Nat)(es:List (AV×AV×Nat))(n:Nat):Cm:=aD S (.map es n)
def Bg(Y:Nat)(c:Int)(b:Bool):Cm:=aD Y (ag [.int .i64 c,.bool b] 442)
def U3(a:Nat):List AV:=[.int .i64 (a:Int),.int .i64 ((a:Int)+1),.int .i64 ((a:Int)+2),.int .i64 ((a:Int)+3)]
def FT(k:QQ)(X a Y:Nat):Cm:=aD X (ag [.ptr k.a.M 0,.int .i64 0,.int .i64 (a:Int),.int .i64 ((a:Int)+1),.int .i64 ((a:Int)+2),.int .i64 ((a:Int)+3),.ptr Y 0] 445)
section
variable {call:ab} {h:H} {k:QQ} {ws:List Int} {m:Nat} {vm:AO} {E:Cm} {R:List Cm} {S X Y:Nat} {v c:Int} {b:Bool}
theorem QS.add(Ey:Jp call)(q:QS h k ws m vm E R)(hm:m<=900000){i:Nat}{x d:Int}(hx:ws[i]?=some x):∃h' z,call 296 [.ptr k.a.M 0,.int .i64 0,.int .i64 (i:Int),.int .u64 d] h=some (.aE [.int .u64 z,.int .i64 0],h')/\h.next<=h'.next/\QS h' k (ws.set i z) (m+1) vm E R:=by
 obtain⟨o,w,lv,ev,m1,m2,h1,h2,s⟩:=q;obtain⟨l,hl,q⟩:=s.ok 0 _ rfl;obtain⟨v,h',e,rfl,p⟩:=Ey h k.a.M k.a.W lv ws l 0 i x d q (by omega) (by decide) (by decide) hx;obtain⟨dU,nx,s'⟩:=s.NM (n:=0) rfl hl p;exact⟨h',_,e,nx,o,w.set i (U1 _),dU,ev,_,m2,Nat.succ_le_succ h1,by omega,s'⟩
theorem alk(P:Program)[PF P]{G:Nat}:WF P call abx [.ptr G 0,.int .i64 0] h fun v h'=>v=.int .i64 0/\h'=h:=by
 simp only[go_sem,seval]
theorem alm(P:Program)[PF P](U4:rN call 297){G:Nat}:WF P call aby [.ptr G 0,.int .i64 0,.int .i64 0] h fun v h'=>v=.int .i64 0/\h'=h:=by
 have k1:=U4 h G;simp only[go_sem,seval,k1]
def OX(call:ab):Prop:=∀h G,call 293 [.ptr G 0,.int .i64 0,.int .i64 0] h=some (.int .i64 0,h)
theorem aln(P:Program){n:Int}(h1:1<=n)(h2:n<=16):WF P call abz [.int .i64 n] h fun v h'=>v=.int .i64 0/\h'=h:=by
 have e1:¬n<1:=by omega
 have e2:¬16<n:=by omega
 simp only[go_sem,seval,e1,e2]
def U5(call:ab):Prop:=∀h (n:Int),1<=n->n<=16->call 298 [.int .i64 n] h=some (.int .i64 0,h)
theorem alo(P:Program)(U6:U5 call){n:Int}(h1:1<=n)(h2:n<=16)(v0:0<=v)(v1:v<64):WF P call abA [.int .i64 v,.int .i64 n] h fun r h'=>r=.aE [.int .i64 (Int.tmod v n),.int .i64 0]/\h'=h:=by
 have k1:=U6 h n h1 h2;have z:¬n=0:=by omega
 have e2:¬v<0:=by omega
 have a1:0<=Int.tmod v n:=Int.tmod_nonneg _ v0;have a2:Int.tmod v n<n:=Int.tmod_lt_of_pos v (by omega);have f0:fw .i64 (Int.tmod v n)=Int.tmod v n:=aS (by omega) (by omega);simp only[go_sem,seval,k1,z,e2,v1,f0]
def U7(call:ab):Prop:=∀h (v n:Int),1<=n->n<=16->0<=v->v<64->call 294 [.int .i64 v,.int .i64 n] h=some (.aE [.int .i64 (Int.tmod v n),.int .i64 0],h)
theorem alp(P:Program)[PF P]{G bs:Nat}{x y z:AV}(gG:h.t.get G=some (ag [x,.int .i64 (bs:Int),y,z] 320))(lG:G<h.next)(hb:bs<=60000){i a:Nat}(hi:i<=16)(ha:a=bs+4*i):WF P call abB [.ptr G 0,.int .i64 (i:Int)] h fun v h'=>v=.agg (U3 a)/\ae h h':=by
 have n1:¬G=h.next:=by omega
 have n2:¬G=h.next+1:=by omega
 have f0:fw .i64 0=0:=rfl;have f1:fw .i64 1=1:=rfl;have f2:fw .i64 2=2:=rfl;have f3:fw .i64 3=3:=rfl;have f4:fw .i64 4=4:=rfl;have fi:fw .i64 (4*(i:Int))=4*(i:Int):=aS (by omega) (by omega);have fj:fw .i64 ((bs:Int)+4*(i:Int))=(a:Int):=by rw[aS (by omega) (by omega)];omega
 have fb:fw .i64 (a:Int)=(a:Int):=aS (by omega) (by omega);have fb1:fw .i64 ((a:Int)+1)=(a:Int)+1:=aS (by omega) (by omega);have fb2:fw .i64 ((a:Int)+2)=(a:Int)+2:=aS (by omega) (by omega);have fb3:fw .i64 ((a:Int)+3)=(a:Int)+3:=aS (by omega) (by omega);simp only[go_sem,seval];refine kq 5 ?_
 simp only[go_sem,seval,FQ,gG,n1,n2,f0,f1,f2,f3,f4,fi,fj,fb,fb1,fb2,fb3,Int.add_zero];refine⟨rfl,by show h.next<=h.next+2;omega,fun b hb=>?_⟩;have e1:¬b=h.next:=by omega
 have e2:¬b=h.next+1:=by omega
 simp only[go_sem,seval,e1,e2]
def U8(call:ab):Prop:=∀h G (bs:Nat) x y z (i a:Nat),h.t.get G=some (ag [x,.int .i64 (bs:Int),y,z] 320)->G<h.next->bs<=60000->i<=16->a=bs+4*i->aG call 295 [.ptr G 0,.int .i64 (i:Int)] h fun v h'=>v=.agg (U3 a)/\ae h h'
def Ci(c:aj)(v:Int):Nat:=bN c+4*(Int.tmod v c.buckets).toNat
theorem LB.ba{c:aj}(b:LB c)(hE:c.az=3){v:Int}(v0:0<=v):∃i:Nat,Int.tmod v c.buckets=(i:Int)/\i<U2 c/\Ci c v=bN c+4*i/\Ci c v+4<=cD c:=by
 obtain⟨e,b1,b2,b3⟩:=b.bk hE;have a1:0<=Int.tmod v c.buckets:=Int.tmod_nonneg _ v0;have a2:Int.tmod v c.buckets<c.buckets:=Int.tmod_lt_of_pos v (by omega);refine⟨(Int.tmod v c.buckets).toNat,by omega,by omega,rfl,?_⟩;unfold Ci;omega
theorem alq(P:Program)[PF P](J1:OX call)(U9:U7 call)(Va:U8 call){j:Nat}(q:QS h k ws m vm E (s9 k S::ta S [] j::R))(v0:0<=v)(v1:v<64)(hE:k.c.az=3):
 WF P call abC [.ptr k.G 0,.int .i64 0,.int .i64 0,.int .i64 v] h fun r h'=>h.next<=h'.next/\∃X Y,r=.aE [.ptr X 0,.int .i64 0]/\QS h' k ws m vm E (s9 k S::ta S [(.int .i64 0,.ptr Y 0,j)] (j+1)::FT k X (Ci k.c v) Y::Bg Y (-1) false::R):=by
 obtain⟨gG,lG⟩:=q.at (j:=0) rfl;obtain⟨gS,lS⟩:=q.at (j:=1) rfl;obtain⟨e,b1,b2,b3⟩:=q.ar.aw.b.bk hE;obtain⟨_,s1,s2,s3⟩:=q.ar.aw.b.sl;obtain⟨i,hi,vf,ha,_⟩:=q.ar.aw.b.ba hE v0;have k1:=J1 h k.G;have k2:=U9 h v k.c.buckets (by omega) (by omega) v0 v1;rw[hi,e]at k2;have e2:¬v<0:=by omega
 have kA:iA 0 (.int .i64 0)=true:=rfl;have f0:dL 0 (.int .i64 0) [] 0=some none:=rfl;have dS:¬S=h.next:=by omega
 have dG:¬k.G=h.next:=by omega
 have dGS:¬k.G=S:=fun e=>by rw[e,gS]at gG;cases gG
 have q1:=(((q.box (ag [.int .i64 (-1),.bool false] 442)).put (j:=2) rfl (.map [(.int .i64 0,.ptr h.next 0,j)] (j+1))).perm (.trans (.swap _ _ _) (.cons _ (.swap _ _ _))):QS _ k ws m vm E (s9 k S::ta S [(.int .i64 0,.ptr h.next 0,j)] (j+1)::Bg h.next (-1) false::R));simp only[go_sem,seval,k1,e2,v1,gG,gS,kA,f0,Go.Proofs.YtgkjlklfjbljeaaGreat.Eo.tS,G4,k2,dS,dG,dGS,List.nil_append];refine af (Va _ k.G (bN k.c) _ _ _ i _ (q1.at (j:=0) rfl).1 (q1.at (j:=0) rfl).2 (by omega) (by omega) ha) fun v2 h2 p2=>?_
 obtain⟨rfl,cF⟩:=p2;have q2:=q1.step cF;have XI:=(q2.at (j:=0) rfl).1;have n2:h.next+1<=h2.next:=cF.next;have q3:=(q2.box (ag [.ptr k.a.M 0,.int .i64 0,.int .i64 (Ci k.c v:Int),.int .i64 ((Ci k.c v:Int)+1),.int .i64 ((Ci k.c v:Int)+2),.int .i64 ((Ci k.c v:Int)+3),.ptr h.next 0] 445)).perm (.trans (.swap _ _ _) (.cons _ (.swap _ _ _)));have dG2:¬k.G=h2.next:=by omega
 simp only[go_sem,seval,U3,XI,dG2,n2];exact⟨by omega,_,_,rfl,q3⟩
theorem alr(P:Program)[PF P]{a:Nat}(gX:h.t.get X=some (ag [.ptr k.a.M 0,.int .i64 0,.int .i64 (a:Int),.int .i64 ((a:Int)+1),.int .i64 ((a:Int)+2),.int .i64 ((a:Int)+3),.ptr Y 0] 445))(gY:h.t.get Y=some (ag [.int .i64 c,.bool b] 442)):WF P call abD [.ptr X 0] h fun r h'=>r=.int .u8 (if b then 0 else if c<0 then 15 else 16)/\h'=h:=by
 cases b with
 |true=>simp only[go_sem,seval,gX,gY]
 |false=>
  by_cases hc:c<0
  ·simp only[go_sem,seval,gX,gY,hc]
  ·simp only[go_sem,seval,gX,gY,hc]
def J2(call:ab):Prop:=∀h (k:QQ) X Y (a:Nat) (c:Int) (b:Bool),h.t.get X=some (ag [.ptr k.a.M 0,.int .i64 0,.int .i64 (a:Int),.int .i64 ((a:Int)+1),.int .i64 ((a:Int)+2),.int .i64 ((a:Int)+3),.ptr Y 0] 445)->h.t.get Y=some (ag [.int .i64 c,.bool b] 442)->call 338 [.ptr X 0] h=some (.int .u8 (if b then 0 else if c<0 then 15 else 16),h)
theorem abG(P:Program)[PF P](J3:J2 call)(lu:sW call){a:Nat}(ha:a+4<=cD k.c){es:List (AV×AV×Nat)}{n:Nat}(q:QS h k ws m vm E (s9 k S::ta S es n::FT k X a Y::Bg Y (-1) false::R))(hm:m<=800000):
 WF P call U0 [.ptr X 0] h fun r h'=>r=.aE [.int .u8 15,.bool false]/\h.next<=h'.next/\∃w:Nat,(w=a+1\/w=a+2)/\QS h' k ws (m+1) vm E (s9 k S::ta S es n::FT k X a Y::Bg Y (w:Int) false::R):=by
 obtain⟨gX,lX⟩:=q.at (j:=2) rfl;obtain⟨gY,lY⟩:=q.at (j:=3) rfl;have k1:=J3 h k X Y a (-1) false gX gY;simp only[Bool.false_eq_true,if_false,Int.reduceNeg,Int.reduceLT,if_true]at k1;obtain⟨_,_,_,p4,_,p6,_⟩:=q.ar.aw.b.pl;have hl:=q.ar.len;obtain⟨x,hx⟩:∃x,ws[a]?=some x:=⟨_,List.getElem?_eq_getElem (by omega)⟩;have x0:=q.ar.nn a x hx;obtain⟨h2,e2,n2,q2⟩:=q.load lu (by omega) hx;obtain⟨kE,lX2⟩:=q2.at (j:=2) rfl;obtain⟨gY2,lY2⟩:=q2.at (j:=3) rfl;have r0:0<=Int.tmod x 2:=Int.tmod_nonneg _ x0;have r1:Int.tmod x 2<2:=Int.tmod_lt_of_pos x (by omega);have hr:Int.tmod x 2=0\/Int.tmod x 2=1:=by omega
 have f1:fw .u64 1=1:=rfl;have f2:fw .u64 2=2:=rfl;rcases hr with hr|hr
 ·have q3:=q2.put (j:=3) rfl (ag [.int .i64 ((a+1:Nat):Int),.bool false] 442);simp only[go_sem,seval,k1,gX,e2,n2,kE,gY2,hr,f1,f2];exact⟨a+1,.inl rfl,q3⟩
 ·have q3:=q2.put (j:=3) rfl (ag [.int .i64 ((a+2:Nat):Int),.bool false] 442);simp only[go_sem,seval,k1,gX,e2,n2,kE,gY2,hr,f1,f2];exact⟨a+2,.inr rfl,q3⟩
theorem abH(P:Program)[PF P](J3:J2 call)(Ey:Jp call){a w:Nat}(ha:a+4<=cD k.c)(hw:w=a+1\/w=a+2){es:List (AV×AV×Nat)}{n:Nat}(q:QS h k ws m vm E (s9 k S::ta S es n::FT k X a Y::Bg Y (w:Int) false::R))(hm:m<=800000):
 WF P call U0 [.ptr X 0] h fun r h'=>r=.aE [.int .u8 16,.bool true]/\h.next<=h'.next/\∃z,QS h' k (ws.set w z) (m+1) vm E (s9 k S::ta S es n::FT k X a Y::Bg Y (w:Int) true::R):=by
 obtain⟨gX,lX⟩:=q.at (j:=2) rfl;obtain⟨gY,lY⟩:=q.at (j:=3) rfl;have k1:=J3 h k X Y a (w:Int) false gX gY;rw[if_neg (by decide),if_neg (by omega)]at k1;obtain⟨_,_,_,p4,_,p6,_⟩:=q.ar.aw.b.pl;have hl:=q.ar.len;obtain⟨x,hx⟩:∃x,ws[w]?=some x:=⟨_,List.getElem?_eq_getElem (by omega)⟩;obtain⟨h2,z,e2,n2,q2⟩:=q.add Ey (by omega) (d:=1) hx;obtain⟨kE,lX2⟩:=q2.at (j:=2) rfl;obtain⟨gY2,lY2⟩:=q2.at (j:=3) rfl;have q3:=q2.put (j:=3) rfl (ag [.int .i64 (w:Int),.bool true] 442);simp only[go_sem,seval,k1,gX,gY,e2,n2,kE,gY2];exact⟨z,q3⟩
theorem als(P:Program)[PF P](J1:OX call)(Ey:Jp call){w j:Nat}{c0:Cm}(hw:w<cD k.c)(q:QS h k ws m vm E (s9 k S::ta S [(.int .i64 0,.ptr Y 0,j)] (j+1)::c0::Bg Y (w:Int) true::R))(hm:m<=800000):
 WF P call abE [.ptr k.G 0,.int .i64 0,.int .i64 0] h fun r h'=>r=.aE [.int .u8 16,.int .i64 0]/\h.next<=h'.next/\∃z,QS h' k (ws.set w z) (m+1) vm E (s9 k S::ta S [] (j+1)::c0::Bg Y (w:Int) true::R):=by
 obtain⟨gG,lG⟩:=q.at (j:=0) rfl;obtain⟨gS,lS⟩:=q.at (j:=1) rfl;obtain⟨gY,lY⟩:=q.at (j:=3) rfl;have k1:=J1 h k.G;have kA:iA 0 (.int .i64 0)=true:=rfl;have f0:dL 0 (.int .i64 0) [(.int .i64 0,.ptr Y 0,j)] 0=some (some (0,.ptr Y 0)):=rfl;obtain⟨_,_,_,p4,_,p6,_⟩:=q.ar.aw.b.pl;have hl:=q.ar.len;obtain⟨x,hx⟩:∃x,ws[w]?=some x:=⟨_,List.getElem?_eq_getElem (by omega)⟩;obtain⟨h2,z,e2,n2,q2⟩:=q.add Ey (by omega) (d:=18446744073709551615) hx;obtain⟨XI,lG2⟩:=q2.at (j:=0) rfl;obtain⟨gS2,lS2⟩:=q2.at (j:=1) rfl;have q3:=q2.put (j:=1) rfl (.map [] (j+1));simp only[go_sem,seval,k1,gG,gS,kA,f0,Go.Proofs.YtgkjlklfjbljeaaGreat.Eo.tS,G4,gY,e2,n2,XI,gS2,List.eraseIdx];exact⟨z,q3⟩
def Vb(h0:H)(k:QQ)(n:Nat)(tm:T AV)(h:H):Prop:=h=h0/\tm.get 0=some (.ptr k.G 0)/\tm.get 3=some .ax/\∃i:Nat,i+n=64/\tm.get 9=some (.int .i64 (i:Int))
theorem OY(P:Program)[PF P]{h0:H}{j:Nat}(q:QS h0 k ws m vm E (s9 k S::ta S [] j::R))(n:Nat)(tm:T AV)(h:H)(hI:Vb h0 k n tm h):
 WC P call rQ (bM 0 (fun tm h=>∃n',n'<n/\Vb h0 k n' tm h) (fun tm h=>h=h0/\tm.get 3=some .ax) (fun _ _=>False)) tm h:=by
 obtain⟨rfl,t0,t3,i,fH,t9⟩:=hI;obtain⟨gG,lG⟩:=q.at (j:=0) rfl;obtain⟨gS,lS⟩:=q.at (j:=1) rfl;cases n with
 |zero=>
  have e1:¬(i:Int)<64:=by omega
  simp only[go_sem,seval,rQ,t9,e1];simp only[go_sem,seval,t3]
 |succ n=>
  have e1:(i:Int)<64:=by omega
  have f1:fw .i64 ((i:Int)+1)=(i:Int)+1:=aS (by omega) (by omega);have e3:((i+1:Nat):Int)=(i:Int)+1:=rfl;have kA:iA 0 (.int .i64 (i:Int))=true:=rfl;have f0:dL 0 (.int .i64 (i:Int)) [] 0=some none:=rfl;simp only[go_sem,seval,rQ,t0,t9,e1,gG,gS,kA,f0,Go.Proofs.YtgkjlklfjbljeaaGreat.Eo.tS,f1];exact⟨n,Nat.lt_succ_self n,rfl,by simp[go_sem,t0],by simp[go_sem,t3],i+1,by omega,by simp[go_sem,e3]⟩
theorem alv(P:Program)[PF P]{j:Nat}(q:QS h k ws m vm E (s9 k S::ta S [] j::R)):WF P call abF [.ptr k.G 0] h fun r h'=>r=.ax/\h'=h:=by
 simp only[go_sem,seval];refine aT (Vb h k) _ _ (fun n tm h' hI=>OY P q n tm h' hI) (fun dC h2 hR=>?_) (fun _ _ hh=>hh.elim) 64 _ _
  ⟨rfl,by simp[go_sem],by simp[go_sem],0,by omega,by simp[go_sem]⟩
 obtain⟨rfl,t3⟩:=hR;simp only[go_sem,seval,t3]
end
end
end Go.Proofs.YtgkjlklfjbljeaaGreat.CQ
namespace Go.Proofs.YtgkjlklfjbljeaaGreat.CQ
open Go.Proofs.YtgkjlklfjbljeaaGreat.Eo
noncomputable section
@[go_sem]def abI:CF:=⟨4,(Sq [z 4 238 0,qF 8,b 9 0] (Rq [d 10 0 4,i 11 10,a 12 1,a 13 2,a 14 3,zE 15 11 12 13 14,o 16 15 0,o 17 15 1,M 18 280 16 17,o 19 18 0,o 20 18 1,a 8 19,a 9 20])),[.tmp 8,.tmp 9]⟩
@[go_sem]def abJ:CF:=⟨2,(Sq [qF 4,b 5 0] (Qq (Sq [a 6 1,A 7 41 6 0] (Kq 7 [a 8 1,qF 4,a 5 8] .skip)) (Rq [a 9 0,qC 10 417 9,a 4 10,b 5 0]))),[.tmp 4,.tmp 5]⟩
@[go_sem]def abK:CF:=⟨4,(Sq [z 4 245 0,qF 8,b 9 0] (Rq [d 10 0 4,i 11 10,a 12 1,a 13 2,a 14 3,zE 15 11 12 13 14,o 16 15 0,o 17 15 1,M 18 289 16 17,o 19 18 0,o 20 18 1,a 8 19,a 9 20])),[.tmp 8,.tmp 9]⟩
@[go_sem]def abL:CF:=⟨2,(Sq [qF 4,b 5 0] (Qq (Sq [a 6 1,A 7 41 6 0] (Kq 7 [a 8 1,qF 4,a 5 8] .skip)) (Rq [a 9 0,qC 10 425 9,a 4 10,b 5 0]))),[.tmp 4,.tmp 5]⟩
@[go_sem]def abM:CF:=⟨4,(Sq [z 4 252 0,qF 8,b 9 0] (Rq [d 10 0 4,i 11 10,a 12 1,a 13 2,a 14 3,zE 15 11 12 13 14,o 16 15 0,o 17 15 1,M 18 303 16 17,o 19 18 0,o 20 18 1,a 8 19,a 9 20])),[.tmp 8,.tmp 9]⟩
@[go_sem]def abN:CF:=⟨2,(Sq [qF 4,b 5 0] (Qq (Sq [a 6 1,A 7 41 6 0] (Kq 7 [a 8 1,qF 4,a 5 8] .skip)) (Rq [a 9 0,qC 10 438 9,a 4 10,b 5 0]))),[.tmp 4,.tmp 5]⟩
@[go_sem]def abO:CF:=⟨3,(Sq [b 6 0] (Qq (.block 0 (Sq [a 8 0,y 9 98 8,a 7 9] (Kq 7 [b 6 1] (Sq [a 11 1,D 12 3 11 0,a 13 12,r 14 13 1,qk 15 13 3 14 64,u 16 13 15,a 10 16] (Kq 10 [b 6 2] (Sq [a 18 2,D 19 3 18 0,a 20 19,r 21 20 2,r 22 20 0,qf 23 20 22,J 24 20 2 23,E 25 20 24,qG 26 20 3 21 25,u 27 20 26,a 17 27] (Kq 17 [b 6 3] .skip))))))) (Rq [b 6 0]))),[.tmp 6]⟩
@[go_sem]def abP:CF:=⟨4,(Sq [p 8,b 9 0] (Qq (Sq [a 13 0,a 14 1,a 15 2,Q 16 200 13 14 15,a 10 16] (Sq [a 17 10,A 18 41 17 0] (Kq 18 [a 19 10,p 8,a 9 19] .skip))) (Sq [a 21 0,j 22 21,d 23 0 22,i 24 23,a 25 1,a 26 2,a 27 3,zE 28 24 25 26 27,a 20 28,o 29 20 0,o 30 20 1,a 11 29,a 12 30] (Qq (Sq [a 31 12,A 32 41 31 0] (Kq 32 [a 33 12,p 8,a 9 33] .skip)) (Rq [a 34 11,zv 35 0 1 34,z 36 337 35,a 8 36,b 9 0]))))),[.tmp 8,.tmp 9]⟩
@[go_sem]def abQ:CF:=⟨1,(Sq [v 2 0,w 3] (Qq (Sq [a 4 0,y 5 304 4] (Kq 5 [v 2 0,w 3] .skip)) (Rq [a 6 0,j 7 6,d 8 0 7,i 9 8,⟨some 10,none,.ci (.t 9) "Step" []⟩,o 11 10 0,o 12 10 1,a 2 11,a 3 12]))),[.tmp 2,.tmp 3]⟩
@[go_sem]def abR:CF:=⟨1,(Sq [v 2 0] (Qq (Sq [a 3 0,y 4 304 3] (Kq 4 [v 2 0] .skip)) (Rq [a 5 0,j 6 5,d 7 0 6,i 8 7,⟨some 9,none,.ci (.t 8) "Next" []⟩,a 2 9]))),[.tmp 2]⟩
@[go_sem]def abS:CF:=⟨3,(Sq [v 6 0,b 7 0] (Qq (Sq [a 9 0,a 10 1,a 11 2,Q 12 200 9 10 11,a 8 12] (Sq [a 13 8,A 14 41 13 0] (Kq 14 [a 15 8,v 6 0,a 7 15] .skip))) (Rq [a 16 0,j 17 16,d 18 0 17,i 19 18,a 20 1,a 21 2,⟨some 22,none,.ci (.t 19) "Exit" [.t 20,.t 21]⟩,o 23 22 0,o 24 22 1,a 6 23,a 7 24]))),[.tmp 6,.tmp 7]⟩
@[go_sem]def c46:CF:=⟨1,(Sq [U 2] (Qq (Sq [a 3 0,y 4 98 3] (Kq 4 [U 2] .skip)) (Rq [a 5 0,j 6 5,d 7 0 6,i 8 7,⟨some 9,none,.ci (.t 8) "Open" []⟩,a 2 9]))),[.tmp 2]⟩
theorem Sp.sub{h:H}{l l':List Cm}(s:Sp h l)(p:List.Sublist l' l):Sp h l':=
 Sp.of (fun c hc=>by
  obtain⟨n,hn⟩:=List.getElem?_of_mem (p.subset hc);exact s.ok n c hn) (s.pw.sublist p)
theorem QS.sub{h:H}{k:QQ}{ws:List Int}{m:Nat}{vm:AO}{E:Cm}{R R':List Cm}(q:QS h k ws m vm E R)(p:List.Sublist R' R):QS h k ws m vm E R':=by
 obtain⟨o,w,lv,ev,m1,m2,h1,h2,s⟩:=q;refine⟨o,w,lv,ev,m1,m2,h1,h2,s.sub ?_⟩;rw[hY (R:=R),hY (R:=R')];exact(List.Sublist.refl _).append p
inductive EN where
 |full (N B:Nat)
 |each (N F:Nat)
 |gate (S:Nat)
def EN.tag:EN->Int
 | .full .. =>1
 | .each .. =>2
 | .gate .. =>3
def EN.ht:EN->TypeId
 | .full .. =>238
 | .each .. =>245
 | .gate .. =>252
def EN.rt:EN->TypeId
 | .full .. =>232
 | .each .. =>239
 | .gate .. =>246
def EN.ot:EN->TypeId
 | .full .. =>417
 | .each .. =>425
 | .gate .. =>438
def EN.he:EN->FuncId
 | .full .. =>278
 | .each .. =>287
 | .gate .. =>301
def EN.st:EN->FuncId
 | .full .. =>322
 | .each .. =>327
 | .gate .. =>339
def EN.nx:EN->FuncId
 | .full .. =>321
 | .each .. =>326
 | .gate .. =>338
def EN.ex:EN->FuncId
 | .full .. =>271
 | .each .. =>282
 | .gate .. =>291
def EN.op:EN->FuncId
 | .full .. =>272
 | .each .. =>283
 | .gate .. =>292
def EN.last:EN->Nat
 | .full .. =>2
 |_=>3
def EN.pc:EN->Nat->Int
 | .full ..,1=>13
 | .full ..,_=>0
 | .each ..,1=>14
 | .each ..,2=>13
 | .each ..,_=>0
 | .gate ..,1=>15
 | .gate ..,2=>16
 | .gate ..,_=>0
def EN.xp:EN->Int
 | .gate .. =>16
 |_=>13
def EN.rows(k:QQ)(v:Int)(q X Y w:Nat):EN->Nat->List Cm
 | .full N B,0=>[oI k N B,pI k N (2*(q:Int)),Bc k B false]
 | .full N B,1=>[oI k N B,pI k N (2*(q:Int)),Bc k B true,Hd k X (.fn (.func 276) [.ptr X 0] [])]
 | .full N B,_=>[oI k N B,pI k N (2*(q:Int)+1),Bc k B false,Hd k X .dQ]
 | .each N F,0=>[lp k N F,mq k N (2*(q:Int)) false,mM k F]
 | .each N F,1=>[lp k N F,mq k N (2*(q:Int)) true,mM k F,xX k X v 0]
 | .each N F,2=>[lp k N F,mq k N (2*(q:Int)) true,mM k F,xX k X v 1]
 | .each N F,_=>[lp k N F,mq k N (2*(q:Int)+1) false,mM k F,xX k X v 2]
 | .gate S,0=>[s9 k S,ta S [] q]
 | .gate S,1=>[s9 k S,ta S [(.int .i64 0,.ptr Y 0,q)] (q+1),FT k X (Ci k.c v) Y,Bg Y (-1) false]
 | .gate S,2=>[s9 k S,ta S [(.int .i64 0,.ptr Y 0,q)] (q+1),FT k X (Ci k.c v) Y,Bg Y (w:Int) false]
 | .gate S,_=>[s9 k S,ta S [(.int .i64 0,.ptr Y 0,q)] (q+1),FT k X (Ci k.c v) Y,Bg Y (w:Int) true]
structure EN.ok(e:EN)(k:QQ):Prop where
 en:k.c.az=e.tag
 ht:k.ht=e.ht
 rt:k.rt=e.rt
def EQ(h:H)(k:QQ)(ws:List Int)(m:Nat)(vm:AO)(e:EN)(d q:Nat)(v:Int)(X:Nat)(R:List Cm):Prop:=∃Y w,(2<=d->w=Ci k.c v+1\/w=Ci k.c v+2)/\QS h k ws m vm (pk (e.rows k v q X Y w d)) R
def EW(c:aj)(ws cz:List Int):Prop:=cz.length=ws.length/\∀i,(i<bN c\/cD c<=i)->cz[i]?=ws[i]?
theorem EW.refl(c:aj)(ws:List Int):EW c ws ws:=⟨rfl,fun _ _=>rfl⟩
theorem EW.set{c:aj}{ws:List Int}{i:Nat}{z:Int}(h1:bN c<=i)(h2:i<cD c):EW c ws (ws.set i z):=⟨List.length_set ..,fun j hj=>by rw[List.getElem?_set_ne (by omega)]⟩
theorem EW.trans{c:aj}{a b d:List Int}(x:EW c a b)(y:EW c b d):EW c a d:=⟨y.1.trans x.1,fun i hi=>(y.2 i hi).trans (x.2 i hi)⟩
section
variable {call:ab} {h h':H} {k:QQ} {ws:List Int} {m m':Nat} {vm:AO} {e:EN} {d q X:Nat} {v:Int} {R R':List Cm}
theorem EQ.step(x:EQ h k ws m vm e d q v X R)(s:ae h h'):EQ h' k ws m vm e d q v X R:=by
 obtain⟨Y,w,hw,x⟩:=x;exact⟨Y,w,hw,x.step s⟩
theorem EQ.le(x:EQ h k ws m vm e d q v X R)(hm:m<=m'):EQ h k ws m' vm e d q v X R:=by
 obtain⟨Y,w,hw,x⟩:=x;exact⟨Y,w,hw,x.le hm⟩
theorem EQ.box(x:EQ h k ws m vm e d q v X R)(a:AO):EQ ⟨h.next+1,h.t.set h.next a⟩ k ws m vm e d q v X (aD h.next a::R):=by
 obtain⟨Y,w,hw,x⟩:=x;exact⟨Y,w,hw,x.box a⟩
theorem EQ.sub(x:EQ h k ws m vm e d q v X R)(p:List.Sublist R' R):EQ h k ws m vm e d q v X R':=by
 obtain⟨Y,w,hw,x⟩:=x;exact⟨Y,w,hw,x.sub p⟩
theorem EQ.perm(x:EQ h k ws m vm e d q v X R)(p:R.Perm R'):EQ h k ws m vm e d q v X R':=by
 obtain⟨Y,w,hw,x⟩:=x;exact⟨Y,w,hw,x.perm p⟩
theorem EQ.at{b j:Nat}{o:AO}(x:EQ h k ws m vm e d q v X R)(hj:R[j]?=some (aD b o)):h.t.get b=some o/\b<h.next:=by
 obtain⟨Y,w,hw,x⟩:=x;exact x.at hj
theorem EQ.put{b j:Nat}{o:AO}(x:EQ h k ws m vm e d q v X R)(hj:R[j]?=some (aD b o))(o':AO):EQ ⟨h.next,h.t.set b o'⟩ k ws m vm e d q v X (R.set j (aD b o')):=by
 obtain⟨Y,w,hw,x⟩:=x;exact⟨Y,w,hw,x.put hj o'⟩
theorem EQ.qs(x:EQ h k ws m vm e d q v X R):∃E,QS h k ws m vm E R:=by
 obtain⟨Y,w,hw,x⟩:=x;exact⟨_,x⟩
theorem EQ.ar(x:EQ h k ws m vm e d q v X R):AR h k.a k.c ws:=by
 obtain⟨E,x⟩:=x.qs;exact x.ar
def Vc(call:ab):Prop:=∀h k ws m vm E R N B (j:Nat) (v:Int),QS h k ws m vm E (oI k N B::pI k N (2*(j:Int))::Bc k B false::R)->0<=v->v<64->aG call 270 [.ptr k.G 0,.int .i64 0,.int .i64 0,.int .i64 v] h fun r h'=>h.next<=h'.next/\∃X,r=.aE [.ptr X 0,.int .i64 0]/\QS h' k ws m vm E (oI k N B::pI k N (2*(j:Int))::Bc k B true::Hd k X (.fn (.func 276) [.ptr X 0] [])::R)
def Vd(call:ab):Prop:=∀h k ws m vm E R N F (j:Nat) (v:Int),QS h k ws m vm E (lp k N F::mq k N (2*(j:Int)) false::mM k F::R)->0<=v->v<64->aG call 281 [.ptr k.G 0,.int .i64 0,.int .i64 0,.int .i64 v] h fun r h'=>h.next<=h'.next/\∃X,r=.aE [.ptr X 0,.int .i64 0]/\QS h' k ws m vm E (lp k N F::mq k N (2*(j:Int)) true::mM k F::xX k X v 0::R)
def Ve(call:ab):Prop:=∀h k ws m vm E R S (j:Nat) (v:Int),QS h k ws m vm E (s9 k S::ta S [] j::R)->0<=v->v<64->k.c.az=3->aG call 290 [.ptr k.G 0,.int .i64 0,.int .i64 0,.int .i64 v] h fun r h'=>h.next<=h'.next/\∃X Y,r=.aE [.ptr X 0,.int .i64 0]/\QS h' k ws m vm E (s9 k S::ta S [(.int .i64 0,.ptr Y 0,j)] (j+1)::FT k X (Ci k.c v) Y::Bg Y (-1) false::R)
def rR(call:ab)(f:FuncId)(ty:TypeId):Prop:=∀h X,call f [.ptr X 0,.int .i64 0] h=some (.aE [.dR ty (.ptr X 0),.int .i64 0],h)
theorem alw(P:Program):WF P call abJ [.ptr X 0,.int .i64 0] h fun v h'=>v=.aE [.dR 417 (.ptr X 0),.int .i64 0]/\h'=h:=by
 simp only[go_sem,seval]
theorem alx(P:Program):WF P call abL [.ptr X 0,.int .i64 0] h fun v h'=>v=.aE [.dR 425 (.ptr X 0),.int .i64 0]/\h'=h:=by
 simp only[go_sem,seval]
theorem aly(P:Program):WF P call abN [.ptr X 0,.int .i64 0] h fun v h'=>v=.aE [.dR 438 (.ptr X 0),.int .i64 0]/\h'=h:=by
 simp only[go_sem,seval]
def FHe(call:ab):Prop:=∀h k ws m vm (e:EN) q (v:Int) X R,e.ok k->EQ h k ws m vm e 0 q v X R->0<=v->v<64->aG call e.he [.agg [.dR e.rt (.ptr k.G 0)],.int .i64 0,.int .i64 0,.int .i64 v] h fun r h'=>h.next<=h'.next/\∃X,r=.aE [.dR e.ot (.ptr X 0),.int .i64 0]/\EQ h' k ws m vm e 1 q v X R
theorem alz(P:Program)[pf:PF P](Vf:Vc call)(Vg:rR call 280 417){N B:Nat}(x:EQ h k ws m vm (.full N B) 0 q v X R)(v0:0<=v)(v1:v<64):
 WF P call abI [.agg [.dR 232 (.ptr k.G 0)],.int .i64 0,.int .i64 0,.int .i64 v] h fun r h'=>h.next<=h'.next/\∃X,r=.aE [.dR 417 (.ptr X 0),.int .i64 0]/\EQ h' k ws m vm (.full N B) 1 q v X R:=by
 obtain⟨Y,w,hw,x⟩:=x;have q1:QS _ k ws m vm (pk []) (oI k N B::pI k N (2*(q:Int))::Bc k B false::aD h.next (ag [.dR 232 (.ptr k.G 0)] 238)::R):=(x.box (ag [.dR 232 (.ptr k.G 0)] 238)).ic;simp only[go_sem,seval,pf.rwA];refine af (Vf _ k ws m vm _ _ N B q v q1 v0 v1) fun v1 h1 p1=>?_
 obtain⟨n1,X,rfl,q2⟩:=p1;have k1:=Vg h1 X;have n1':h.next+1<=h1.next:=n1;simp only[go_sem,seval,k1];refine⟨by omega,X,rfl,0,0,fun h=>by omega,QS.pk ?_⟩;exact q2.sub (.cons_cons _ (.cons_cons _ (.cons_cons _ (.cons_cons _ (.cons _ (.refl _))))))
theorem alA(P:Program)[pf:PF P](Vh:Vd call)(Vi:rR call 289 425){N F:Nat}(x:EQ h k ws m vm (.each N F) 0 q v X R)(v0:0<=v)(v1:v<64):
 WF P call abK [.agg [.dR 239 (.ptr k.G 0)],.int .i64 0,.int .i64 0,.int .i64 v] h fun r h'=>h.next<=h'.next/\∃X,r=.aE [.dR 425 (.ptr X 0),.int .i64 0]/\EQ h' k ws m vm (.each N F) 1 q v X R:=by
 obtain⟨Y,w,hw,x⟩:=x;have q1:QS _ k ws m vm (pk []) (lp k N F::mq k N (2*(q:Int)) false::mM k F::aD h.next (ag [.dR 239 (.ptr k.G 0)] 245)::R):=(x.box (ag [.dR 239 (.ptr k.G 0)] 245)).ic;simp only[go_sem,seval,pf.rwB];refine af (Vh _ k ws m vm _ _ N F q v q1 v0 v1) fun v1 h1 p1=>?_
 obtain⟨n1,X,rfl,q2⟩:=p1;have k1:=Vi h1 X;have n1':h.next+1<=h1.next:=n1;simp only[go_sem,seval,k1];refine⟨by omega,X,rfl,0,0,fun h=>by omega,QS.pk ?_⟩;exact q2.sub (.cons_cons _ (.cons_cons _ (.cons_cons _ (.cons_cons _ (.cons _ (.refl _))))))
theorem alC(P:Program)[pf:PF P](Vj:Ve call)(Vk:rR call 303 438){S:Nat}(hE:k.c.az=3)(x:EQ h k ws m vm (.gate S) 0 q v X R)(v0:0<=v)(v1:v<64):
 WF P call abM [.agg [.dR 246 (.ptr k.G 0)],.int .i64 0,.int .i64 0,.int .i64 v] h fun r h'=>h.next<=h'.next/\∃X,r=.aE [.dR 438 (.ptr X 0),.int .i64 0]/\EQ h' k ws m vm (.gate S) 1 q v X R:=by
 obtain⟨Y,w,hw,x⟩:=x;have q1:QS _ k ws m vm (pk []) (s9 k S::ta S [] q::aD h.next (ag [.dR 246 (.ptr k.G 0)] 252)::R):=(x.box (ag [.dR 246 (.ptr k.G 0)] 252)).ic;simp only[go_sem,seval,pf.rwC];refine af (Vj _ k ws m vm _ _ S q v q1 v0 v1 hE) fun v1 h1 p1=>?_
 obtain⟨n1,X,Y,rfl,q2⟩:=p1;have k1:=Vk h1 X;have n1':h.next+1<=h1.next:=n1;simp only[go_sem,seval,k1];refine⟨by omega,X,rfl,Y,0,fun h=>by omega,QS.pk ?_⟩;exact q2.sub (.cons_cons _ (.cons_cons _ (.cons_cons _ (.cons_cons _ (.cons _ (.refl _))))))
def Vl(call:ab):Prop:=∀h k ws m vm E R N B X (j:Nat),j<=400->QS h k ws m vm E (oI k N B::pI k N (2*(j:Int))::Bc k B true::Hd k X (.fn (.func 276) [.ptr X 0] [])::R)->m<=800000->aG call 322 [.ptr X 0] h fun r h'=>r=.aE [.int .u8 13,.bool true]/\h.next<=h'.next/\∃z,QS h' k (ws.set (bN k.c) z) (m+1) vm E (oI k N B::pI k N (2*(j:Int)+1)::Bc k B false::Hd k X .dQ::R)
def J4(call:ab):Prop:=∀h k ws m vm E R N F X (x v:Int) b,QS h k ws m vm E (lp k N F::mq k N x b::mM k F::xX k X v 0::R)->m<=800000->0<=v->v<64->k.c.az=2->aG call 327 [.ptr X 0] h fun r h'=>r=.aE [.int .u8 14,.bool false]/\h.next<=h'.next/\QS h' k (ws.set (bN k.c+1) v) (m+1) vm E (lp k N F::mq k N x b::mM k F::xX k X v 1::R)
def J5(call:ab):Prop:=∀h k ws m vm E R N F X (v:Int) (j:Nat),j<=400->QS h k ws m vm E (lp k N F::mq k N (2*(j:Int)) true::mM k F::xX k X v 1::R)->m<=800000->aG call 327 [.ptr X 0] h fun r h'=>r=.aE [.int .u8 13,.bool true]/\h.next<=h'.next/\∃z,QS h' k (ws.set (bN k.c) z) (m+1) vm E (lp k N F::mq k N (2*(j:Int)+1) false::mM k F::xX k X v 2::R)
def J6(call:ab):Prop:=∀h k ws m vm E R S X Y (a:Nat) es n,a+4<=cD k.c->QS h k ws m vm E (s9 k S::ta S es n::FT k X a Y::Bg Y (-1) false::R)->m<=800000->aG call 339 [.ptr X 0] h fun r h'=>r=.aE [.int .u8 15,.bool false]/\h.next<=h'.next/\∃w:Nat,(w=a+1\/w=a+2)/\QS h' k ws (m+1) vm E (s9 k S::ta S es n::FT k X a Y::Bg Y (w:Int) false::R)
def J7(call:ab):Prop:=∀h k ws m vm E R S X Y (a w:Nat) es n,a+4<=cD k.c->(w=a+1\/w=a+2)->QS h k ws m vm E (s9 k S::ta S es n::FT k X a Y::Bg Y (w:Int) false::R)->m<=800000->aG call 339 [.ptr X 0] h fun r h'=>r=.aE [.int .u8 16,.bool true]/\h.next<=h'.next/\∃z,QS h' k (ws.set w z) (m+1) vm E (s9 k S::ta S es n::FT k X a Y::Bg Y (w:Int) true::R)
def FSt(call:ab):Prop:=∀h k ws m vm (e:EN) d q (v:Int) X R,e.ok k->1<=d->d<e.last->q<=400->0<=v->v<64->EQ h k ws m vm e d q v X R->m<=800000->aG call e.st [.ptr X 0] h fun r h'=>r=.aE [.int .u8 (e.pc d),.bool (decide (d+1=e.last))]/\h.next<=h'.next/\∃cz,EW k.c ws cz/\EQ h' k cz (m+1) vm e (d+1) q v X R
theorem Vm(a:Vl call)(b:J4 call)(b2:J5 call)(c:J6 call)(c2:J7 call):FSt call:=by
 intro h k ws m vm e d q v X R ok d1 dl q1 v0 v1 x hm;obtain⟨Y,w,hw,x⟩:=x;obtain⟨_,s1,s2,s3⟩:=x.ar.aw.b.sl;obtain⟨eo1,eo2⟩:=tR x.ar.aw.b.lay;cases e with
 |full N B=>
  obtain rfl:d=1:=by have:d<2:=dl;omega
  obtain⟨r,h1,e1,rfl,n1,z,y⟩:=a h k ws m vm _ R N B X q q1 x.ic hm;exact⟨_,h1,e1,rfl,n1,_,EW.set (Nat.le_refl _) (by omega),Y,Ci k.c v+1,fun _=>.inl rfl,QS.pk y⟩
 |each N F=>
  have hE:k.c.az=2:=ok.en;have en:bD k.c=2*k.c.aq:=by unfold bD;rw[if_neg (by omega),if_pos hE]
  have hd:d=1\/d=2:=by have:d<3:=dl;omega
  rcases hd with rfl|rfl
  ·obtain⟨r,h1,e1,rfl,n1,y⟩:=b h k ws m vm _ R N F X _ v _ x.ic hm v0 v1 hE;exact⟨_,h1,e1,rfl,n1,_,EW.set (by omega) (by omega),Y,Ci k.c v+1,fun _=>.inl rfl,QS.pk y⟩
  ·obtain⟨r,h1,e1,rfl,n1,z,y⟩:=b2 h k ws m vm _ R N F X v q q1 x.ic hm;exact⟨_,h1,e1,rfl,n1,_,EW.set (Nat.le_refl _) (by omega),Y,Ci k.c v+1,fun _=>.inl rfl,QS.pk y⟩
 |gate S=>
  have hE:k.c.az=3:=ok.en;obtain⟨i,hi,vf,ha,Se⟩:=x.ar.aw.b.ba hE v0;have hd:d=1\/d=2:=by have:d<3:=dl;omega
  rcases hd with rfl|rfl
  ·obtain⟨r,h1,e1,rfl,n1,w',iY,y⟩:=c h k ws m vm _ R S X Y _ _ _ Se x.ic hm;exact⟨_,h1,e1,rfl,n1,_,EW.refl _ _,Y,w',fun _=>iY,QS.pk y⟩
  ·have Oy:=hw (Nat.le_refl _);obtain⟨r,h1,e1,rfl,n1,z,y⟩:=c2 h k ws m vm _ R S X Y _ _ _ _ Se Oy x.ic hm;exact⟨_,h1,e1,rfl,n1,_,EW.set (by omega) (by omega),Y,w,fun _=>Oy,QS.pk y⟩
def FNx(call:ab):Prop:=∀h k ws m vm (e:EN) d q (v:Int) X R,1<=d->d<=e.last->EQ h k ws m vm e d q v X R->aG call e.nx [.ptr X 0] h fun r h'=>r=.int .u8 (e.pc d)/\ae h h'
def abT(call:ab):Prop:=∀h X a b c,(h.t.get X=some (ag [a,b,c,.fn (.func 276) [.ptr X 0] []] 419)->call 321 [.ptr X 0] h=some (.int .u8 13,h))/\(h.t.get X=some (ag [a,b,c,.dQ] 419)->call 321 [.ptr X 0] h=some (.int .u8 0,h))
def Vn(call:ab):Prop:=∀h (k:QQ) X (v:Int) (d:Nat),d<3->X<h.next->h.t.get X=some (ag [.ptr k.G 0,.int .i64 0,.int .i64 0,.int .i64 v,.int .i64 (d:Int)] 432)->aG call 326 [.ptr X 0] h fun r h'=>r=.int .u8 (if d=0 then 14 else if d=1 then 13 else 0)/\ae h h'
theorem Vo(a:abT call)(b:Vn call)(c:J2 call):FNx call:=by
 intro h k ws m vm e d q v X R d1 dl x;obtain⟨Y,w,hw,x⟩:=x;cases e with
 |full N B=>
  have hd:d=1\/d=2:=by have:d<=2:=dl;omega
  rcases hd with rfl|rfl
  ·exact⟨_,h,(a h X _ _ _).1 (x.ic.at (j:=3) rfl).1,rfl,ae.refl h⟩
  ·exact⟨_,h,(a h X _ _ _).2 (x.ic.at (j:=3) rfl).1,rfl,ae.refl h⟩
 |each N F=>
  have hd:d=1\/d=2\/d=3:=by have:d<=3:=dl;omega
  rcases hd with rfl|rfl|rfl
  ·obtain⟨g,l⟩:=x.ic.at (j:=3) rfl;exact b h k X v 0 (by decide) l g
  ·obtain⟨g,l⟩:=x.ic.at (j:=3) rfl;exact b h k X v 1 (by decide) l g
  ·obtain⟨g,l⟩:=x.ic.at (j:=3) rfl;exact b h k X v 2 (by decide) l g
 |gate S=>
  have hd:d=1\/d=2\/d=3:=by have:d<=3:=dl;omega
  rcases hd with rfl|rfl|rfl
  ·exact⟨_,h,c h k X Y _ _ _ (x.ic.at (j:=2) rfl).1 (x.ic.at (j:=3) rfl).1,rfl,ae.refl h⟩
  ·refine⟨_,h,c h k X Y _ _ _ (x.ic.at (j:=2) rfl).1 (x.ic.at (j:=3) rfl).1,?_,ae.refl h⟩;rw[if_neg (by decide),if_neg (by omega)];rfl
  ·exact⟨_,h,c h k X Y _ _ _ (x.ic.at (j:=2) rfl).1 (x.ic.at (j:=3) rfl).1,rfl,ae.refl h⟩
def Vp(call:ab):Prop:=∀h k ws m vm E R N B (j:Nat),j<=400->QS h k ws m vm E (oI k N B::pI k N (2*(j:Int)+1)::R)->m<=800000->aG call 271 [.ptr k.G 0,.int .i64 0,.int .i64 0] h fun r h'=>r=.aE [.int .u8 13,.int .i64 0]/\h.next<=h'.next/\∃z,QS h' k (ws.set (bN k.c) z) (m+1) vm E (oI k N B::pI k N (2*((j+1:Nat):Int))::R)
def Vq(call:ab):Prop:=∀h k ws m vm E R N F (j:Nat),j<=400->QS h k ws m vm E (lp k N F::mq k N (2*(j:Int)+1) false::mM k F::R)->m<=800000->aG call 282 [.ptr k.G 0,.int .i64 0,.int .i64 0] h fun r h'=>r=.aE [.int .u8 13,.int .i64 0]/\h.next<=h'.next/\∃z,QS h' k (ws.set (bN k.c) z) (m+1) vm E (lp k N F::mq k N (2*((j+1:Nat):Int)) false::mM k F::R)
def Vr(call:ab):Prop:=∀h k ws m vm E R S Y (w j:Nat) c0,w<cD k.c->QS h k ws m vm E (s9 k S::ta S [(.int .i64 0,.ptr Y 0,j)] (j+1)::c0::Bg Y (w:Int) true::R)->m<=800000->aG call 291 [.ptr k.G 0,.int .i64 0,.int .i64 0] h fun r h'=>r=.aE [.int .u8 16,.int .i64 0]/\h.next<=h'.next/\∃z,QS h' k (ws.set w z) (m+1) vm E (s9 k S::ta S [] (j+1)::c0::Bg Y (w:Int) true::R)
def FEx(call:ab):Prop:=∀h k ws m vm (e:EN) q (v:Int) X R,e.ok k->q<=400->0<=v->EQ h k ws m vm e e.last q v X R->m<=800000->aG call e.ex [.ptr k.G 0,.int .i64 0,.int .i64 0] h fun r h'=>r=.aE [.int .u8 e.xp,.int .i64 0]/\h.next<=h'.next/\∃cz,EW k.c ws cz/\∀v' X',EQ h' k cz (m+1) vm e 0 (q+1) v' X' R
theorem Vt(a:Vp call)(b:Vq call)(c:Vr call):FEx call:=by
 intro h k ws m vm e q v X R ok q1 v0 x hm;obtain⟨Y,w,hw,x⟩:=x;obtain⟨_,s1,s2,s3⟩:=x.ar.aw.b.sl;obtain⟨eo1,eo2⟩:=tR x.ar.aw.b.lay;cases e with
 |full N B=>
  have x1:QS h k ws m vm (pk []) (oI k N B::pI k N (2*(q:Int)+1)::Bc k B false::Hd k X .dQ::R):=x.ic;obtain⟨r,h1,e1,rfl,n1,z,y⟩:=a h k ws m vm _ _ N B q q1 x1 hm;exact⟨_,h1,e1,rfl,n1,_,EW.set (Nat.le_refl _) (by omega),fun v' X'=>⟨0,0,fun h=>by omega,QS.pk (y.sub (.cons_cons _ (.cons_cons _ (.cons_cons _ (.cons _ (.refl _))))))⟩⟩
 |each N F=>
  have x1:QS h k ws m vm (pk []) (lp k N F::mq k N (2*(q:Int)+1) false::mM k F::xX k X v 2::R):=x.ic;obtain⟨r,h1,e1,rfl,n1,z,y⟩:=b h k ws m vm _ _ N F q q1 x1 hm;exact⟨_,h1,e1,rfl,n1,_,EW.set (Nat.le_refl _) (by omega),fun v' X'=>⟨0,0,fun h=>by omega,QS.pk (y.sub (.cons_cons _ (.cons_cons _ (.cons_cons _ (.cons _ (.refl _))))))⟩⟩
 |gate S=>
  have hE:k.c.az=3:=ok.en;obtain⟨i,hi,vf,ha,Se⟩:=x.ar.aw.b.ba hE v0;have Oy:=hw (show 2<=3 by decide);have x1:QS h k ws m vm (pk []) (s9 k S::ta S [(.int .i64 0,.ptr Y 0,q)] (q+1)::FT k X (Ci k.c v) Y::Bg Y (w:Int) true::R):=x.ic;obtain⟨r,h1,e1,rfl,n1,z,y⟩:=c h k ws m vm _ _ S Y w q _ (by omega) x1 hm;exact⟨_,h1,e1,rfl,n1,_,EW.set (by omega) (by omega),fun v' X'=>⟨0,0,fun h=>by omega,QS.pk (y.sub (.cons_cons _ (.cons_cons _ (.cons _ (.cons _ (.refl _))))))⟩⟩
def FOp(call:ab):Prop:=∀h k ws m vm (e:EN) q (v:Int) X R,EQ h k ws m vm e 0 q v X R->aG call e.op [.ptr k.G 0] h fun r h'=>r=.ax/\ae h h'
def Vu(call:ab):Prop:=∀h k ws m vm E R N B (j:Nat),QS h k ws m vm E (oI k N B::pI k N (2*(j:Int))::R)->call 272 [.ptr k.G 0] h=some (.ax,h)
def Vv(call:ab):Prop:=∀h k ws m vm E R N F (j:Nat),QS h k ws m vm E (lp k N F::mq k N (2*(j:Int)) false::R)->aG call 283 [.ptr k.G 0] h fun r h'=>r=.ax/\ae h h'
def Vw(call:ab):Prop:=∀h k ws m vm E R S (j:Nat),QS h k ws m vm E (s9 k S::ta S [] j::R)->call 292 [.ptr k.G 0] h=some (.ax,h)
theorem Vx(a:Vu call)(b:Vv call)(c:Vw call):FOp call:=by
 intro h k ws m vm e q v X R x;obtain⟨Y,w,hw,x⟩:=x;cases e with
 |full N B=>exact⟨_,h,a h k ws m vm _ (Bc k B false::R) N B q x.ic,rfl,ae.refl h⟩
 |each N F=>exact b h k ws m vm _ (mM k F::R) N F q x.ic
 |gate S=>exact⟨_,h,c h k ws m vm _ R S q x.ic,rfl,ae.refl h⟩
theorem OZ(P:Program)[pf:PF P](g:Nat->Option AO)(e:EN)(G:Nat):cH P g 8 e.ht (.agg [.dR e.rt (.ptr G 0)]) "Enter"=some (e.he,.agg [.dR e.rt (.ptr G 0)]):=by
 cases e
 ·exact pf.enA g G
 ·exact pf.enB g G
 ·exact pf.enC g G
theorem O0(P:Program)[pf:PF P](g:Nat->Option AO)(e:EN)(G:Nat):cH P g 8 e.ht (.agg [.dR e.rt (.ptr G 0)]) "Exit"=some (e.ex,.ptr G 0):=by
 cases e
 ·exact pf.exA g G
 ·exact pf.exB g G
 ·exact pf.exC g G
theorem O1(P:Program)[pf:PF P](g:Nat->Option AO)(e:EN)(G:Nat):cH P g 8 e.ht (.agg [.dR e.rt (.ptr G 0)]) "Open"=some (e.op,.ptr G 0):=by
 cases e
 ·exact pf.opA g G
 ·exact pf.opB g G
 ·exact pf.opC g G
theorem O3(P:Program)[pf:PF P](g:Nat->Option AO)(e:EN)(X:Nat):cH P g 8 e.ot (.ptr X 0) "Step"=some (e.st,.ptr X 0):=by
 cases e
 ·exact pf.stA g X
 ·exact pf.stB g X
 ·exact pf.stC g X
theorem O4(P:Program)[pf:PF P](g:Nat->Option AO)(e:EN)(X:Nat):cH P g 8 e.ot (.ptr X 0) "Next"=some (e.nx,.ptr X 0):=by
 cases e
 ·exact pf.nxA g X
 ·exact pf.nxB g X
 ·exact pf.nxC g X
theorem EQ.gR(ok:e.ok k)(x:EQ h k ws m vm e d q v X R):h.t.get k.R=some (ag [.dR e.ht (.agg [.dR e.rt (.ptr k.G 0)]),.int .u8 k.c.az,.int .i64 (bN k.c:Int)] 206):=by
 obtain⟨E,x⟩:=x.qs;have g:=x.gR.1;unfold oH at g;rw[ok.ht,ok.rt,x.ar.aw.b.sl.1]at g;exact g
theorem alH(P:Program)[PF P]{G n:Nat}{a b:AV}(g:h.t.get G=some (ag [a,b,.int .i64 (n:Int)] 206))(n1:1<=n):WF P call abO [.ptr G 0,.int .i64 0,.int .i64 0] h fun r h'=>r=.int .i64 0/\h'=h:=by
 have e1:(0:Int)<(n:Int):=by omega
 simp only[go_sem,seval,g,e1]
def O5(call:ab):Prop:=∀h G (n:Nat) a b,h.t.get G=some (ag [a,b,.int .i64 (n:Int)] 206)->1<=n->call 200 [.ptr G 0,.int .i64 0,.int .i64 0] h=some (.int .i64 0,h)
def quR(e:EN)(Q X:Nat):Cm:=aD Q (ag [.dR e.ot (.ptr X 0)] 337)
theorem alJ(P:Program)[PF P](J8:O5 call)(kHe:FHe call)(ok:e.ok k)(x:EQ h k ws m vm e 0 q v X R)(v0:0<=v)(v1:v<64):
 WF P call abP [.ptr k.R 0,.int .i64 0,.int .i64 0,.int .i64 v] h fun r h'=>h.next<=h'.next/\∃X Q,r=.aE [.ptr Q 0,.int .i64 0]/\EQ h' k ws m vm e 1 q v X (quR e Q X::R):=by
 have gR:=x.gR ok;obtain⟨_,s1,s2,s3⟩:=x.ar.aw.b.sl;have k1:=J8 h k.R (bN k.c) _ _ gR s1;have me:=fun g=>OZ P g e
 have nk:¬1099511627776<=e.he:=by cases e<;>(simp only[EN.he];decide)
 simp only[go_sem,seval,k1,gR,me,nk];refine af (kHe h k ws m vm e q v X R ok x v0 v1) fun v2 h2 p2=>?_
 obtain⟨n2,X2,rfl,x2⟩:=p2;simp only[go_sem,seval];exact⟨by omega,X2,_,rfl,x2.box _⟩
def Vy(call:ab):Prop:=∀h k ws m vm (e:EN) q (v:Int) X R,e.ok k->EQ h k ws m vm e 0 q v X R->0<=v->v<64->aG call 173 [.ptr k.R 0,.int .i64 0,.int .i64 0,.int .i64 v] h fun r h'=>h.next<=h'.next/\∃X Q,r=.aE [.ptr Q 0,.int .i64 0]/\EQ h' k ws m vm e 1 q v X (quR e Q X::R)
theorem alK(P:Program)[PF P](kSt:FSt call)(ok:e.ok k)(d1:1<=d)(dl:d<e.last)(q1:q<=400)(v0:0<=v)(v1:v<64){Q:Nat}(x:EQ h k ws m vm e d q v X R)(gQ:h.t.get Q=some (ag [.dR e.ot (.ptr X 0)] 337))(hm:m<=800000):
 WF P call abQ [.ptr Q 0] h fun r h'=>r=.aE [.int .u8 (e.pc d),.bool (decide (d+1=e.last))]/\h.next<=h'.next/\∃cz,EW k.c ws cz/\EQ h' k cz (m+1) vm e (d+1) q v X R:=by
 have me:=fun g=>O3 P g e
 have nk:¬1099511627776<=e.st:=by cases e<;>(simp only[EN.st];decide)
 simp only[go_sem,seval,gQ,me,nk];refine af (kSt h k ws m vm e d q v X R ok d1 dl q1 v0 v1 x hm) fun v2 h2 p2=>?_
 obtain⟨rfl,p2⟩:=p2;simp only[go_sem,seval];exact p2
def Vz(call:ab):Prop:=∀h k ws m vm (e:EN) d q (v:Int) X R Q,e.ok k->1<=d->d<e.last->q<=400->0<=v->v<64->EQ h k ws m vm e d q v X R->h.t.get Q=some (ag [.dR e.ot (.ptr X 0)] 337)->m<=800000->aG call 166 [.ptr Q 0] h fun r h'=>r=.aE [.int .u8 (e.pc d),.bool (decide (d+1=e.last))]/\h.next<=h'.next/\∃cz,EW k.c ws cz/\EQ h' k cz (m+1) vm e (d+1) q v X R
theorem alL(P:Program)[PF P](kNx:FNx call)(d1:1<=d)(dl:d<=e.last){Q:Nat}(x:EQ h k ws m vm e d q v X R)(gQ:h.t.get Q=some (ag [.dR e.ot (.ptr X 0)] 337)):WF P call abR [.ptr Q 0] h fun r h'=>r=.int .u8 (e.pc d)/\ae h h':=by
 have me:=fun g=>O4 P g e
 have nk:¬1099511627776<=e.nx:=by cases e<;>(simp only[EN.nx];decide)
 simp only[go_sem,seval,gQ,me,nk];refine af (kNx h k ws m vm e d q v X R d1 dl x) fun v2 h2 p2=>?_
 obtain⟨rfl,p2⟩:=p2;simp only[go_sem,seval];exact p2
def VA(call:ab):Prop:=∀h k ws m vm (e:EN) d q (v:Int) X R Q,1<=d->d<=e.last->EQ h k ws m vm e d q v X R->h.t.get Q=some (ag [.dR e.ot (.ptr X 0)] 337)->aG call 168 [.ptr Q 0] h fun r h'=>r=.int .u8 (e.pc d)/\ae h h'
theorem alM(P:Program)[PF P](J8:O5 call)(kEx:FEx call)(ok:e.ok k)(q1:q<=400)(v0:0<=v)(x:EQ h k ws m vm e e.last q v X R)(hm:m<=800000):
 WF P call abS [.ptr k.R 0,.int .i64 0,.int .i64 0] h fun r h'=>r=.aE [.int .u8 e.xp,.int .i64 0]/\h.next<=h'.next/\∃cz,EW k.c ws cz/\∀v' X',EQ h' k cz (m+1) vm e 0 (q+1) v' X' R:=by
 have gR:=x.gR ok;obtain⟨_,s1,s2,s3⟩:=x.ar.aw.b.sl;have k1:=J8 h k.R (bN k.c) _ _ gR s1;have me:=fun g=>O0 P g e
 have nk:¬1099511627776<=e.ex:=by cases e<;>(simp only[EN.ex];decide)
 simp only[go_sem,seval,k1,gR,me,nk];refine af (kEx h k ws m vm e q v X R ok q1 v0 x hm) fun v2 h2 p2=>?_
 obtain⟨rfl,p2⟩:=p2;simp only[go_sem,seval];exact p2
def VB(call:ab):Prop:=∀h k ws m vm (e:EN) q (v:Int) X R,e.ok k->q<=400->0<=v->EQ h k ws m vm e e.last q v X R->m<=800000->aG call 171 [.ptr k.R 0,.int .i64 0,.int .i64 0] h fun r h'=>r=.aE [.int .u8 e.xp,.int .i64 0]/\h.next<=h'.next/\∃cz,EW k.c ws cz/\∀v' X',EQ h' k cz (m+1) vm e 0 (q+1) v' X' R
theorem w46(P:Program)[PF P](kOp:FOp call)(ok:e.ok k)(x:EQ h k ws m vm e 0 q v X R):WF P call c46 [.ptr k.R 0] h fun r h'=>r=.ax/\ae h h':=by
 have gR:=x.gR ok;have me:=fun g=>O1 P g e
 have nk:¬1099511627776<=e.op:=by cases e<;>(simp only[EN.op];decide)
 simp only[go_sem,seval,gR,me,nk];refine af (kOp h k ws m vm e q v X R x) fun v2 h2 p2=>?_
 obtain⟨rfl,p2⟩:=p2;simp only[go_sem,seval];exact p2
def F46(call:ab):Prop:=∀h k ws m vm (e:EN) q (v:Int) X R,e.ok k->EQ h k ws m vm e 0 q v X R->aG call 46 [.ptr k.R 0] h fun r h'=>r=.ax/\ae h h'
end
end
end Go.Proofs.YtgkjlklfjbljeaaGreat.CQ
namespace Go.Proofs.YtgkjlklfjbljeaaGreat.CQ
open Go.Proofs.YtgkjlklfjbljeaaGreat.Eo
noncomputable section
@[go_sem]def abU:CF:=⟨4,(Sq [p 8,b 9 0] (Qq (Sq [a 12 0,y 13 30 12] (Kq 13 [p 8,b 9 1] .skip)) (Sq [a 15 0,j 16 15,d 17 0 16,d 18 4 17,i 19 18,a 20 1,a 21 2,a 22 3,z7 23 173 19 20 21 22,a 14 23,o 24 14 0,o 25 14 1,a 10 24,a 11 25] (Qq (Sq [a 26 11,A 27 41 26 0] (Kq 27 [a 28 11,p 8,a 9 28] .skip)) (Sq [a 29 0,j 30 29,d 31 7 30,i 32 31,a 33 2,a 34 3,z6 0 32 33 34] (Rq [a 35 10,a 36 0,a 37 1,a 38 3,⟨some 39,none,.p (.build [.aJ,.aJ,.int .i64 0,.int .i64 0] [(0,1,.t 35),(1,1,.t 36),(2,1,.t 37),(3,1,.t 38)])⟩,z 40 306 39,a 8 40,b 9 0])))))),[.tmp 8,.tmp 9]⟩
@[go_sem]def abV:CF:=⟨1,(Sq [v 2 0,w 3] (Qq (Sq [a 4 0,y 5 133 4] (Kq 5 [v 2 0,w 3] .skip)) (Qq (Sq [a 7 0,j 8 7,d 9 0 8,i 10 9,q 11 166 10,a 6 11,o 12 6 0,o 13 6 1,a 2 12,a 3 13] (Sq [a 14 3] (Cq 14 (.cn ⟨[([g 0 0,n 1 15 0,m 2 16 1 1,k 3 17 2,g 4 0,n 5 19 4,m 6 20 5 2,k 7 21 6,g 8 0,n 9 23 8,m 10 24 9 3,k 11 25 10,zn 12 26 11],some ⟨13,[(18,some 3),(22,some 7),(27,some 12)],none,.cv (.c (.fn (.func 167) [] [])) [.t 18,.t 22,.c (.int .u8 1),.t 27]⟩),([],none)],[(0,15),(1,16),(2,17),(3,18),(4,19),(5,20),(6,21),(7,22),(8,23),(9,24),(10,25),(11,26),(12,27),(13,28)],[]⟩) .skip))) (Rq [a 29 2,a 30 3,a 2 29,a 3 30])))),[.tmp 2,.tmp 3]⟩
@[go_sem]def abW:CF:=⟨1,(Sq [v 2 0] (Qq (Sq [a 3 0,y 4 133 3] (Kq 4 [v 2 0] .skip)) (Rq [a 5 0,j 6 5,d 7 0 6,i 8 7,q 9 168 8,a 2 9]))),[.tmp 2]⟩
@[go_sem]def abX:CF:=⟨3,(Sq [v 6 0,b 7 0] (Qq (Sq [a 8 0,y 9 30 8] (Kq 9 [v 6 0,b 7 1] .skip)) (Qq (Sq [a 11 0,j 12 11,d 13 0 12,d 14 4 13,i 15 14,a 16 1,a 17 2,Q 18 171 15 16 17,a 10 18,o 19 10 0,o 20 10 1,a 6 19,a 7 20] (Sq [a 21 7,qe 22 41 21 0] (Cq 22 (Oq [a 23 0,a 24 1,a 25 0,j 26 25,d 27 7 26,i 28 27,a 29 2,⟨some 30,none,.l ⟨0,.t 28,.t 29,.int .i64 0,false⟩⟩,qQ 31 30,⟨some 32,none,.cv (.c (.fn (.func 167) [] [])) [.t 23,.t 24,.c (.int .u8 2),.t 31]⟩]) .skip))) (Rq [a 33 6,a 34 7,a 6 33,a 7 34])))),[.tmp 6,.tmp 7]⟩
def Hg(call:ab):Prop:=∀h B cs ev l (t k v:Int),h.t.get B=some (ag cs 104)->B<h.next->cs.length=9->cs[5]?=some .ax->cs[6]?=some ev->Own 4 339 h ev l.length (tS l)->own ev≠some B->l.length<=1000000->aG call 167 [.ptr B 0,.int .i64 t,.int .u8 k,.int .u64 v] h fun v' h'=>v'=.aE []/\∃Cd,h'.t.get B=some (ag (cs.set 6 Cd) 104)/\Own 4 339 h' Cd (l.length+1) (tS (l++[⟨0,t,k,v⟩]))/\own Cd≠some B/\(∀b,own Cd=some b->h.next<=b)/\Tch (fun b=>b=B\/own ev=some b) h h'
section
variable {call:ab} {h h':H} {k:QQ} {ws:List Int} {m m':Nat} {vm:AO} {E:Cm} {e:EN} {d q X:Nat} {v:Int} {R R':List Cm}
theorem QS.note(yr:Hg call)(x:QS h k ws m vm E R)(hm:m<=900000)(t kd va:Int):∃h',call 167 [.ptr k.a.A 0,.int .i64 t,.int .u8 kd,.int .u64 va] h=some (.aE [],h')/\h.next<=h'.next/\QS h' k ws (m+1) vm E R:=by
 obtain⟨o,w,lv,ev,m1,m2,h1,h2,s⟩:=x;have gA:=s.row (n:=1) rfl;have lA:=s.uG (n:=1) rfl;obtain⟨l,hl,oe⟩:=s.ok 4 _ rfl;have nA:own ev≠some k.a.A:=fun e=>s.ne (i:=4) (j:=1) (x:=Io ev m2) rfl rfl (by decide) (b:=k.a.A) e rfl
 obtain⟨r,h',e,rfl,Cd,g',oe',nA',Zj,tc⟩:=yr h k.a.A (dx k ev) ev l t kd va gA lA rfl rfl rfl oe nA (by omega);have p1:(qL k lv ws m1 ev m2 vm E R).Perm (aD k.a.A (ag (dx k ev) 104)::Io ev m2::cA k.a.M k.a.W lv ws m1::aD k.a.To (ag [.ptr k.a.M 0,.ptr k.a.L 0] 123)::fz k.hL::aD k.R (ag (oH k) 206)::aD k.V vm::E::R):=by
  unfold qL;refine .trans (.swap _ _ _) (.cons _ ?_);refine .trans (.cons _ (.cons _ (.swap _ _ _))) (.trans (.cons _ (.swap _ _ _)) (.swap _ _ _))
 have p2:(aD k.a.A (ag (dx k Cd) 104)::Io Cd (m2+1)::cA k.a.M k.a.W lv ws m1::aD k.a.To (ag [.ptr k.a.M 0,.ptr k.a.L 0] 123)::fz k.hL::aD k.R (ag (oH k) 206)::aD k.V vm::E::R).Perm (qL k lv ws m1 Cd (m2+1) vm E R):=by
  unfold qL;refine List.Perm.symm ?_
  refine .trans (.swap _ _ _) (.cons _ ?_);refine .trans (.cons _ (.cons _ (.swap _ _ _))) (.trans (.cons _ (.swap _ _ _)) (.swap _ _ _))
 have s1:Sp h (CQ.pk [aD k.a.A (ag (dx k ev) 104),Io ev m2]::(cA k.a.M k.a.W lv ws m1::aD k.a.To (ag [.ptr k.a.M 0,.ptr k.a.L 0] 123)::fz k.hL::aD k.R (ag (oH k) 206)::aD k.V vm::E::R)):=Sp.pk.2 (s.perm p1);have lA':k.a.A<h'.next:=Nat.lt_of_lt_of_le lA tc.next;have I':Sp h' [aD k.a.A (ag (dx k Cd) 104),Io Cd (m2+1)]:=by
  refine Sp.of (fun c hc=>?_) ?_
  ·rcases List.mem_cons.1 hc with rfl|hc
   ·exact⟨g',lA'⟩
   ·obtain rfl:=List.mem_singleton.1 hc;exact⟨l++[⟨0,t,kd,va⟩],by rw[List.length_append];exact Nat.succ_le_succ hl,by rw[List.length_append];exact oe'⟩
  ·refine List.pairwise_cons.2 ⟨fun c hc b fb gb=>?_,List.pairwise_singleton _ _⟩;obtain rfl:=List.mem_singleton.1 hc;have e1:b=k.a.A:=fb;exact nA' (e1▸gb)
 have s2:=s1.lq (n:=0) rfl tc.next (fun b lb hb=>tc.old b lb fun hh=>hb (by
  rcases hh with rfl|hh
  ·exact⟨_,List.mem_cons_self ..,rfl⟩
  ·exact⟨_,List.mem_cons_of_mem _ (List.mem_singleton.2 rfl),hh⟩)) (c':=CQ.pk [aD k.a.A (ag (dx k Cd) 104),Io Cd (m2+1)]) I' (fun b ⟨c,hc,fb⟩=>by
  rcases List.mem_cons.1 hc with rfl|hc
  ·exact .inl ⟨_,List.mem_cons_self ..,fb⟩
  ·obtain rfl:=List.mem_singleton.1 hc;exact .inr (Zj b fb))
 exact⟨h',e,tc.next,o,w,lv,Cd,m1,m2+1,by omega,by omega,(Sp.pk.1 s2).perm p2⟩
theorem EQ.note(yr:Hg call)(x:EQ h k ws m vm e d q v X R)(hm:m<=900000)(t kd va:Int):∃h',call 167 [.ptr k.a.A 0,.int .i64 t,.int .u8 kd,.int .u64 va] h=some (.aE [],h')/\h.next<=h'.next/\EQ h' k ws (m+1) vm e d q v X R:=by
 obtain⟨Y,w,hw,x⟩:=x;obtain⟨h',e1,n1,y⟩:=x.note yr hm t kd va;exact⟨h',e1,n1,Y,w,hw,y⟩
theorem EQ.alO(x:EQ h k ws m vm e d q v X R)(vm':AO):EQ ⟨h.next,h.t.set k.V vm'⟩ k ws m vm' e d q v X R:=by
 obtain⟨Y,w,hw,o,w1,lv,ev,m1,m2,h1,h2,s⟩:=x;exact⟨Y,w,hw,o,w1,lv,ev,m1,m2,h1,h2,s.put (n:=6) rfl vm'⟩
theorem EQ.gA(x:EQ h k ws m vm e d q v X R):∃ev,h.t.get k.a.A=some (ag (dx k ev) 104):=by
 obtain⟨E,x⟩:=x.qs;exact x.gA
theorem EQ.gV(x:EQ h k ws m vm e d q v X R):h.t.get k.V=some vm/\k.V<h.next:=by
 obtain⟨E,x⟩:=x.qs;exact x.gV
def rS(v:Int):AO:=.map [(.int .i64 0,.int .i64 v,0)] 1
def VM(vm:AO):Prop:=vm=.map [] 0\/∃v,vm=rS v
def MA(k:QQ)(e:EN)(v:Int)(Z Q X:Nat)(R:List Cm):List Cm:=aD Z (ag [.ptr Q 0,.ptr k.a.A 0,.int .i64 0,.int .i64 v] 306)::quR e Q X::R
theorem alQ(P:Program)[PF P](VC:Vy call)(ok:e.ok k)(hv:VM vm)(x:EQ h k ws m vm e 0 q v X R)(v0:0<=v)(v1:v<64):
 WF P call abU [.ptr k.a.A 0,.int .i64 0,.int .i64 0,.int .i64 v] h fun r h'=>h.next<=h'.next/\∃X Q Z,r=.aE [.ptr Z 0,.int .i64 0]/\EQ h' k ws m (rS v) e 1 q v X (MA k e v Z Q X R):=by
 obtain⟨ev,gA⟩:=x.gA;simp only[dx]at gA;simp only[go_sem,seval,gA];refine af (VC h k ws m vm e q v X R ok x v0 v1) fun v2 h2 p2=>?_
 obtain⟨n2,X2,Q,rfl,x2⟩:=p2;obtain⟨ev2,Ik⟩:=x2.gA;obtain⟨O6,lV2⟩:=x2.gV;have x3:=(x2.alO (rS v)).box (ag [.ptr Q 0,.ptr k.a.A 0,.int .i64 0,.int .i64 v] 306);have kA:iA 0 (.int .i64 0)=true:=rfl;simp only[dx]at Ik;rcases hv with rfl|⟨u,rfl⟩
 ·have f0:dL 0 (.int .i64 0) [] 0=some none:=rfl;simp only[go_sem,seval,Ik,O6,kA,f0,G4,List.nil_append];exact⟨by omega,X2,Q,h2.next,rfl,x3⟩
 ·have f0:dL 0 (.int .i64 0) [(.int .i64 0,.int .i64 u,0)] 0=some (some (0,.int .i64 u)):=rfl;simp only[rS]at O6;simp only[go_sem,seval,Ik,O6,kA,f0,G4];exact⟨by omega,X2,Q,h2.next,rfl,x3⟩
def J9(call:ab):Prop:=∀h k ws m vm (e:EN) q (v:Int) X R,e.ok k->VM vm->EQ h k ws m vm e 0 q v X R->0<=v->v<64->aG call 115 [.ptr k.a.A 0,.int .i64 0,.int .i64 0,.int .i64 v] h fun r h'=>h.next<=h'.next/\∃X Q Z,r=.aE [.ptr Z 0,.int .i64 0]/\EQ h' k ws m (rS v) e 1 q v X (MA k e v Z Q X R)
theorem alR(P:Program)[PF P](VD:Vz call)(yr:Hg call)(ok:e.ok k)(d1:1<=d)(dl:d<e.last)(q1:q<=400)(v0:0<=v)(v1:v<64){Z Q:Nat}(x:EQ h k ws m vm e d q v X (MA k e v Z Q X R))(hm:m<=700000):
 WF P call abV [.ptr Z 0] h fun r h'=>r=.aE [.int .u8 (e.pc d),.bool (decide (d+1=e.last))]/\h.next<=h'.next/\∃cz,EW k.c ws cz/\EQ h' k cz (m+2) vm e (d+1) q v X (MA k e v Z Q X R):=by
 have gZ:=(x.at (j:=0) rfl).1;have gQ:=(x.at (j:=1) rfl).1;simp only[go_sem,seval,gZ];refine af (VD h k ws m vm e d q v X _ Q ok d1 dl q1 v0 v1 x gQ (by omega)) fun v2 h2 p2=>?_
 obtain⟨rfl,n2,cz,ew,x2⟩:=p2;have gZ2:=(x2.at (j:=0) rfl).1;have f1:fw .u64 v=v:=uE (by omega) (by omega)
 by_cases c:d+1=e.last
 ·obtain⟨h3,e3,n3,x3⟩:=x2.note yr (by omega) 0 1 v;simp only[go_sem,seval,c,gZ2,f1,e3,n3];exact⟨by omega,cz,ew,c▸x3⟩
 ·simp only[go_sem,seval,c];exact⟨n2,cz,ew,x2.le (by omega)⟩
def O7(call:ab):Prop:=∀h k ws m vm (e:EN) d q (v:Int) X R Z Q,e.ok k->1<=d->d<e.last->q<=400->0<=v->v<64->EQ h k ws m vm e d q v X (MA k e v Z Q X R)->m<=700000->aG call 110 [.ptr Z 0] h fun r h'=>r=.aE [.int .u8 (e.pc d),.bool (decide (d+1=e.last))]/\h.next<=h'.next/\∃cz,EW k.c ws cz/\EQ h' k cz (m+2) vm e (d+1) q v X (MA k e v Z Q X R)
theorem alS(P:Program)[PF P](VE:VA call)(d1:1<=d)(dl:d<=e.last){Z Q:Nat}(x:EQ h k ws m vm e d q v X (MA k e v Z Q X R)):WF P call abW [.ptr Z 0] h fun r h'=>r=.int .u8 (e.pc d)/\ae h h':=by
 have gZ:=(x.at (j:=0) rfl).1;have gQ:=(x.at (j:=1) rfl).1;simp only[go_sem,seval,gZ];refine af (VE h k ws m vm e d q v X _ Q d1 dl x gQ) fun v2 h2 p2=>?_
 obtain⟨rfl,p2⟩:=p2;simp only[go_sem,seval];exact p2
def Hh(call:ab):Prop:=∀h k ws m vm (e:EN) d q (v:Int) X R Z Q,1<=d->d<=e.last->EQ h k ws m vm e d q v X (MA k e v Z Q X R)->aG call 111 [.ptr Z 0] h fun r h'=>r=.int .u8 (e.pc d)/\ae h h'
theorem alT(P:Program)[PF P](VF:VB call)(yr:Hg call)(ok:e.ok k)(q1:q<=400)(v0:0<=v)(v1:v<64)(x:EQ h k ws m (rS v) e e.last q v X R)(hm:m<=700000):
 WF P call abX [.ptr k.a.A 0,.int .i64 0,.int .i64 0] h fun r h'=>(∃y,r=.aE [.int .u8 y,.int .i64 0])/\h.next<=h'.next/\∃cz,EW k.c ws cz/\∀v' X',EQ h' k cz (m+2) (rS v) e 0 (q+1) v' X' R:=by
 obtain⟨ev,gA⟩:=x.gA;simp only[dx]at gA;simp only[go_sem,seval,gA];refine af (VF h k ws m _ e q v X R ok q1 v0 x (by omega)) fun v2 h2 p2=>?_
 obtain⟨rfl,n2,cz,ew,x2⟩:=p2;obtain⟨ev2,Ik⟩:=(x2 v X).gA;obtain⟨O6,lV2⟩:=(x2 v X).gV;have kA:iA 0 (.int .i64 0)=true:=rfl;have f0:dL 0 (.int .i64 0) [(.int .i64 0,.int .i64 v,0)] 0=some (some (0,.int .i64 v)):=rfl;have f1:fw .u64 v=v:=uE (by omega) (by omega);obtain⟨h3,e3,n3,_⟩:=(x2 v X).note yr (by omega) 0 2 v;have x3:∀v' X',EQ h3 k cz (m+2) (rS v) e 0 (q+1) v' X' R:=fun v' X'=>by
  obtain⟨h3',e3',XH,y⟩:=(x2 v' X').note yr (by omega) 0 2 v;rw[e3]at e3';simp only[Option.some.injEq,Prod.mk.injEq,true_and]at e3';rw[e3'];exact y
 simp only[dx]at Ik;simp only[rS]at O6;simp only[go_sem,seval,Ik,O6,kA,f0,Go.Proofs.YtgkjlklfjbljeaaGreat.Eo.tS,f1,e3];exact⟨⟨_,rfl⟩,by omega,cz,ew,x3⟩
def O8(call:ab):Prop:=∀h k ws m (e:EN) q (v:Int) X R,e.ok k->q<=400->0<=v->v<64->EQ h k ws m (rS v) e e.last q v X R->m<=700000->aG call 113 [.ptr k.a.A 0,.int .i64 0,.int .i64 0] h fun r h'=>(∃y,r=.aE [.int .u8 y,.int .i64 0])/\h.next<=h'.next/\∃cz,EW k.c ws cz/\∀v' X',EQ h' k cz (m+2) (rS v) e 0 (q+1) v' X' R
end
end
end Go.Proofs.YtgkjlklfjbljeaaGreat.CQ
namespace Go.Proofs.YtgkjlklfjbljeaaGreat.CQ
open Go.Proofs.YtgkjlklfjbljeaaGreat.Eo
noncomputable section
def vr:CC:=(Sq [qc 57 3 56 55] (Qq (Cq 57 .skip (.exit 0)) (Qq (.block 1 (Sq [a 58 56,a 11 58] (Oq [a 59 8,a 60 8,j 61 60,d 62 3 61,i 63 62,a 64 11,qM 65 3 1 1 0 0 1 64,qo 66 3 1 8 63 65,j 67 59,d 68 3 67,s 1 68 66]))) (Oq [C 69 3 56 1,a 56 69]))))
@[go_sem]def c19:CF:=⟨3,(Sq [p 6,b 7 0] (Qq (Sq [a 12 0,y 13 30 12] (Kq 13 [p 6,b 7 1] .skip)) (Qq (Sq [a 14 1,D 15 3 14 0,a 16 15,r 17 16 1,qk 18 16 3 17 64,u 19 16 18] (Kq 19 [p 6,b 7 2] .skip)) (Qq (Sq [a 20 2,D 21 3 20 0,a 22 21,r 23 22 2,r 24 22 0,qH 25 22 16 24,jS 26 22 3 1 25,qG 27 22 3 23 26,u 28 22 27] (Kq 28 [p 6,b 7 3] .skip)) (Qq (Sq [a 29 0,q 30 43 29,a 31 2,G 32 1 30 31,i 33 32,a 34 1,qZ 35 3 33 34,a 36 35,r 37 36 0,qH 38 36 45 37,qH 39 36 46 38,r 40 36 2,zo 41 36 44 39 40,u 42 36 41] (Kq 42 [p 6,b 7 8] .skip)) (Sq [a 43 0,a 44 1,a 45 2,⟨some 46,none,.p (.build [.aJ,aN,aN,.ax,aN,.aJ,.aJ,aN,aN,aN,aN,ya,aN,bO,cY,cY,aN] [(0,1,.t 43),(1,1,.t 44),(2,1,.t 45)])⟩,z 47 135 46,a 8 47] (Sq [a 49 0,q 50 16 49,qT 51 24 4 50,q 52 47 51,a 48 52,o 53 48 0,o 54 48 1,a 9 53,a 10 54] (Qq (Sq [a 55 9,b 56 0] (.block 0 (.loop vr))) (Sq [a 71 8,a 72 0,a 73 1,⟨some 74,none,.p (.build [.int .u64 0,.int .u64 0] [(1,1,.c (.int .u64 18446744073709551615))])⟩,a 75 0,q 76 16 75,qT 77 3 14 76,z7 78 48 72 73 74 77,a 70 78,o 79 70 0,o 80 70 1,j 81 71,d 82 5 81,s 1 82 79] (Sq [a 83 8,a 84 8,j 85 84,d 86 5 85,i 87 86,q 88 49 87,j 89 83,d 90 11 89,s 1 90 88] (Rq [a 91 8,a 6 91,b 7 0]))))))))))),[.tmp 6,.tmp 7]⟩
@[go_sem]def c50:CF:=⟨1,(Sq [v 2 0] (Qq (Sq [a 3 0,y 4 62 3] (Kq 4 [v 2 0] .skip)) (Rq [a 5 0,j 6 5,d 7 11 6,i 8 7,a 2 8]))),[.tmp 2]⟩
@[go_sem]def c52:CF:=⟨1,(Sq [zD 2 66 0 0 0 0] (Qq (Sq [a 3 0,y 4 62 3] (Kq 4 [jU 5 0 0 0 0 0 1 1,s 5 2 5] .skip)) (Qq (Sq [a 6 0,j 7 6,d 8 11 7,i 9 8,zl 10 5 9 0] (Kq 10 [jU 11 0 0 0 0 0 1 8,s 5 2 11] .skip)) (Rq [a 12 0,j 13 12,d 14 12 13,S 15 5 14,s 5 2 15])))),[(.cell 2 (some 5))]⟩
class PG(P:Program):Prop extends PF P where
 QV:kF P 24=some (some 3)
 abY:kF P 5=some none
theorem VG(P:Program)[p:PG P](l:List AV)(i:Nat):iH P 24 l i=cond (Nat.ble (i+3) l.length) (some (.agg ((l.drop i).take 3))) none:=by unfold iH;rw[p.QV]
theorem QW(P:Program)[p:PG P](l:List AV)(i:Nat):iH P 5 l i=l[i]?:=by unfold iH;rw[p.abY]
def Ez(v:AV)(n:Nat)(cs:List AV):Cm:=⟨fun h=>Own 1 3 h v n cs,fun b=>own v=some b,fun hn k q=>q.aF hn fun b hb=>k b (q.lt hb) hb,fun q b hb=>q.lt hb⟩
section
variable {call:ab} {h h':H} {k:QQ} {ws:List Int} {m m':Nat} {vm:AO} {E c c':Cm} {e:EN} {d q X:Nat} {v:Int} {R R':List Cm}
theorem QS.lq{j:Nat}(x:QS h k ws m vm E R)(hj:R[j]?=some c)(hn:h.next<=h'.next)(old:∀b,b<h.next->¬c.F b->h'.t.get b=h.t.get b)(I':c'.I h')(F':∀b,c'.F b->c.F b\/h.next<=b):QS h' k ws m vm E (R.set j c'):=by
 obtain⟨o,w,lv,ev,m1,m2,h1,h2,s⟩:=x;exact⟨o,w,lv,ev,m1,m2,h1,h2,s.lq (n:=j+8) hj hn old I' F'⟩
theorem QS.ins(x:QS h k ws m vm E R)(I:c.I h)(F:∀b,¬c.F b):QS h k ws m vm E (c::R):=by
 obtain⟨o,w,lv,ev,m1,m2,h1,h2,s⟩:=x;refine⟨o,w,lv,ev,m1,m2,h1,h2,(s.cons (c:=c) (ae.refl h) I fun b hb=>absurd hb (F b)).perm ?_⟩;rw[hY (R:=R),hY (R:=c::R)];exact List.perm_middle.symm
theorem QS.get{j:Nat}(x:QS h k ws m vm E R)(hj:R[j]?=some c):c.I h:=by
 obtain⟨o,w,lv,ev,m1,m2,h1,h2,s⟩:=x;exact s.ok (j+8) c hj
theorem QS.nf{i j b:Nat}(x:QS h k ws m vm E R)(hi:R[i]?=some c)(hj:R[j]?=some c')(Xs:i≠j)(fb:c.F b):¬c'.F b:=by
 obtain⟨o,w,lv,ev,m1,m2,h1,h2,s⟩:=x;exact s.ne (i:=i+8) (j:=j+8) hi hj (by omega) fb
def ct(A:Nat)(lf:AV)(st:Int)(lk en:AV)(nd tw dc n nx cnt:Int):AO:=ag [.ptr A 0,.int .i64 0,.int .i64 0,lf,.int .i64 st,lk,en,.int .i64 nd,.int .i64 tw,.int .i64 dc,.int .i64 n,.int .u8 nx,.int .i64 0,.bool false,.int .u64 0,.int .u64 0,.int .i64 cnt] 135
def Bh(n:Nat):List AV:=(List.range n).map fun i:Nat=>AV.int .i64 (i:Int)
theorem Ka(n:Nat):Bh n++[.int .i64 (n:Int)]=Bh (n+1):=by unfold Bh;rw[List.range_succ,List.map_append];rfl
theorem O9{n i:Nat}(h:i<n):(Bh n)[i]?=some (.int .i64 (i:Int)):=by unfold Bh;rw[List.getElem?_map,List.getElem?_range h];rfl
def dy(c:aj):Nat:=(ir c).toNat
theorem LB.va{c:aj}(b:LB c):ir c=(dy c:Int)/\1<=dy c/\dy c<=64:=by
 have:=b.val;unfold dy;omega
def lfV(v:AV)(i:Nat):Prop:=(i=0/\v=.ax)\/∃B,v=.sl B 0 i 1 none
def VH(k:QQ)(ws:List Int)(m:Nat)(vm:AO)(E:Cm)(R:List Cm)(h0 C:Nat)(n:Nat)(tm:T AV)(h:H):Prop:=
 tm.get 0=some (.ptr k.a.A 0)/\tm.get 1=some (.int .i64 0)/\tm.get 8=some (.ptr C 0)/\tm.get 55=some (.int .i64 (dy k.c:Int))/\h0<=h.next/\∃(i:Nat) (v:AV),lfV v i/\i+n=dy k.c/\tm.get 56=some (.int .i64 (i:Int))/\QS h k ws m vm E (aD C (ct k.a.A v 0 .aJ .aJ 0 0 0 0 0 0)::Ez v i (Bh i)::R)
theorem Pa(P:Program)[PF P]{C h0:Nat}(b:LB k.c)(n:Nat)(tm:T AV)(h:H)(hI:VH k ws m vm E R h0 C n tm h):
 WC P call vr (bM 0 (fun tm h=>∃n',n'<n/\VH k ws m vm E R h0 C n' tm h) (fun tm h=>tm.get 0=some (.ptr k.a.A 0)/\tm.get 1=some (.int .i64 0)/\tm.get 8=some (.ptr C 0)/\h0<=h.next/\∃v,lfV v (dy k.c)/\QS h k ws m vm E (aD C (ct k.a.A v 0 .aJ .aJ 0 0 0 0 0 0)::Ez v (dy k.c) (Bh (dy k.c))::R)) (fun _ _=>False)) tm h:=by
 obtain⟨t0,t1,t8,t55,xV,i,v,lf,fH,t56,x⟩:=hI;obtain⟨_,b1,b2⟩:=b.va;cases n with
 |zero=>
  have e1:¬(i:Int)<(dy k.c:Int):=by omega
  obtain rfl:i=dy k.c:=by omega
  simp only[go_sem,seval,vr,t55,t56,e1];exact⟨by simp[go_sem,t0],by simp[go_sem,t1],by simp[go_sem,t8],xV,v,lf,x⟩
 |succ n=>
  have e1:(i:Int)<(dy k.c:Int):=by omega
  have f1:fw .i64 ((i:Int)+1)=(i:Int)+1:=aS (by omega) (by omega);have e3:((i+1:Nat):Int)=(i:Int)+1:=rfl;obtain⟨gC,lC⟩:=x.at (j:=0) rfl;simp only[ct]at gC;have x1:=(x.box (ag [.int .i64 (i:Int)] 3)).drop;have ov:Own 1 3 _ v i (Bh i):=x1.get (j:=1) rfl;have QG:=ov.one;have nC:¬C=h.next:=by omega
  have vC:own v≠some C:=fun e=>x.nf (i:=1) (j:=0) rfl rfl (by decide) (b:=C) e rfl
  simp only[go_sem,seval,vr,t8,t55,t56,e1,gC,nC];refine Un ov rfl (by omega) fun X nX oX kX=>?_
  replace nX:X.next=h.next+2:=nX;have oX':Own 1 3 X (.sl (h.next+1) 0 (i+1) 1 none) (i+1) (Bh (i+1)):=by rw[←Ka];exact oX
  have x2:=x1.lq (c':=Ez (.sl (h.next+1) 0 (i+1) 1 none) (i+1) (Bh (i+1))) (h':=X) (j:=1) rfl (by show h.next+1<=X.next;omega) (fun b lb hb=>kX b lb hb) oX' (fun b hb=>.inr (by
   have:h.next+1=b:=Option.some.inj hb
   show h.next+1<=b
   omega))
  have td:=(x2.at (j:=0) rfl).1;have x3:=x2.put (j:=0) rfl (ct k.a.A (.sl (h.next+1) 0 (i+1) 1 none) 0 .aJ .aJ 0 0 0 0 0 0);simp only[ct]at td;simp only[go_sem,seval,t8,t56,td,f1];exact⟨n,Nat.lt_succ_self n,by simp[go_sem,t0],by simp[go_sem,t1],by simp[go_sem,t8],by simp[go_sem,t55],by show h0<=X.next;omega,i+1,_,.inr ⟨_,rfl⟩,by omega,by simp[go_sem,e3],x3⟩
def F48(call:ab):Prop:=∀h k ws m vm E R,QS h k ws m vm E R->aG call 48 [.ptr k.a.A 0,.int .i64 0,.agg [.int .u64 0,.int .u64 18446744073709551615],.int .i64 k.c.tries] h fun v h'=>h.next<=h'.next/\∃X Bx Mp,v=.aE [.ptr X 0,.int .i64 0]/\QS h' k ws m vm E (sZ k X Bx Mp 0 R)
def rj(k:QQ)(C Lb:Nat)(a:AO)(R:List Cm):List Cm:=aD C a::aD Lb (ag (Bh (dy k.c)) 3)::R
theorem alW(P:Program)[PG P](Eb:QP call)(k43:F43 call)(k45:FB call 45 4)(k46:F46 call)(k44:F44 call)(k47:F47 call)(k48:F48 call)(k49:F49 call)(ok:e.ok k)(x:EQ h k ws m vm e 0 q v X R)(h1:ws[0]?=some 1):
 WF P call c19 [.ptr k.a.A 0,.int .i64 0,.int .i64 0] h fun r h'=>h.next<=h'.next/\∃C Lb Lx Bx Mp,r=.aE [.ptr C 0,.int .i64 0]/\EQ h' k ws m vm e 0 q v X (rj k C Lb (ct k.a.A (.sl Lb 0 (dy k.c) 1 none) 0 (.ptr Lx 0) .aJ 0 0 0 0 2 0) (sZ k Lx Bx Mp 0 R)):=by
 have b:=x.ar.aw.b;obtain⟨hs,s1,s2,s3⟩:=b.sl;obtain⟨hv,b1,b2⟩:=b.va;have hn:bN k.c<=ws.length:=by have:=x.ar.len;have:=b.pl;have:=tR b.lay;have:=b.dq;omega
 simp only[go_sem,seval];refine af (Eb h k.a k.c x.ar.aw) fun v1 g1 p1=>?_
 obtain⟨⟨XJ,rfl,sO,rd1,lo1⟩,bC⟩:=p1;have x1:=x.step bC;have c1:(0:Int)<(bN k.c:Int):=by omega
 simp only[go_sem,seval,au,bo,hs,c1];refine af (k43 g1 k.a k.c ws (bN k.c) x1.ar hs) fun v2 g2 p2=>?_
 obtain⟨cF,O,cs,rfl,lO,gO,uD⟩:=p2;have x2:=x1.step cF;have Cv:=uD 0 1 (by omega) h1;have ho:wB 1=0:=rfl;rw[ho]at Cv;obtain⟨ev2,Ik⟩:=x2.gA;have k2:=k45 g2 k.a.A _ (.ptr k.R 0) Ik (by simp[dx]) rfl;simp only[go_sem,seval,c1,Nat.zero_add,Nat.mul_one,gO,Cv,k2];refine af (k46 g2 k ws m vm e q v X R ok x2) fun v3 g3 p3=>?_
 obtain⟨rfl,fW⟩:=p3;have x3:=x2.step fW;have k3:=k44 g3 .ax 0 [] .nil (by simp);simp only[List.not_mem_nil,decide_false]at k3;obtain⟨Y,w,hw,y3⟩:=x3;have y4:=y3.box (ct k.a.A .ax 0 .aJ .aJ 0 0 0 0 0 0);simp only[go_sem,seval,k3];refine af (Eb _ k.a k.c y4.ar.aw) fun v5 g5 p5=>?_
 obtain⟨⟨cv5,rfl,ov5,rd5,lo5⟩,CM⟩:=p5;have y5:=y4.step CM;obtain⟨hT,Ib,mL,IG,IH,iD,oU,hd,_⟩:=b.lay;simp only[go_sem,seval,au,VG,List.length_cons,List.length_nil,List.drop,List.take];refine af (k47 g5 k.c.kind k.c.n cv5 k.c.aI hd rd5 (fun a ha=>(lo5 a ha).2)) fun v6 g6 p6=>?_
 obtain⟨rfl,AJ⟩:=p6;have y6:=y5.step AJ;have n1:=bC.next;have n2:=cF.next;have n3:=fW.next;have n5:g3.next+1<=g5.next:=CM.next;have n6:=AJ.next;rw[show db k.c.kind k.c.n k.c.aI=(dy k.c:Int)from hv];simp only[go_sem,seval];have y6':QS g6 k ws m vm (pk (e.rows k v q X Y w 0)) (aD g3.next (ct k.a.A .ax 0 .aJ .aJ 0 0 0 0 0 0)::Ez .ax 0 (Bh 0)::R):=(y6.ins (c:=Ez .ax 0 (Bh 0)) .nil (fun b hb=>by cases hb)).perm (.swap _ _ _);refine aT (VH k ws m vm _ R h.next g3.next) _ _ (fun n tm h' hI=>Pa P b n tm h' hI) (fun dC h2 hR=>?_) (fun _ _ hh=>hh.elim) (dy k.c) _ _
  ⟨by simp[go_sem],by simp[go_sem],by simp[go_sem],by simp[go_sem],by omega,0,.ax,.inl ⟨rfl,rfl⟩,by omega,by simp[go_sem],y6'⟩
 obtain⟨t0,t1,t8,nn2,lv,lf,z2⟩:=hR;have ow:Own 1 3 h2 lv (dy k.c) (Bh (dy k.c)):=z2.get (j:=1) rfl;obtain⟨Lb,rfl⟩:∃Lb,lv=.sl Lb 0 (dy k.c) 1 none:=by
  rcases lf with⟨e0,_⟩|lf
  ·omega
  ·exact lf
 obtain⟨gL,lL⟩:h2.t.get Lb=some (ag (Bh (dy k.c)) 3)/\Lb<h2.next:=by
  cases ow with
  |sl a len cs cap hc h0 hl ha hg=>exact⟨hg,ha⟩
 have z3:=z2.lq (j:=1) (c':=aD Lb (ag (Bh (dy k.c)) 3)) rfl (Nat.le_refl _) (fun b _ _=>rfl) ⟨gL,lL⟩ (fun b hb=>.inl (by
  have:b=Lb:=hb;rw[this];rfl))
 simp only[go_sem,seval,t0,t1,t8];refine af (Eb h2 k.a k.c z3.ar.aw) fun v8 g8 p8=>?_
 obtain⟨⟨cv8,rfl,ov8,rd8,lo8⟩,Ej⟩:=p8;have z8:=z3.step Ej;have n8:=Ej.next;simp only[go_sem,seval,au,bo];refine af (k48 g8 k ws m vm _ _ z8) fun v9 g9 p9=>?_
 obtain⟨n9,Lx,Bx,Mp,rfl,z9⟩:=p9;have z9':=z9.perm (R':=aD g3.next (ct k.a.A (.sl Lb 0 (dy k.c) 1 none) 0 .aJ .aJ 0 0 0 0 0 0)::aD Lb (ag (Bh (dy k.c)) 3)::sZ k Lx Bx Mp 0 R) (by
  show(_::_::_::_::R).Perm (_::_::_::_::R)
  exact .trans (.cons _ (.swap _ _ _)) (.trans (.swap _ _ _) (.cons _ (.trans (.cons _ (.swap _ _ _)) (.swap _ _ _)))))
 have Y1:=(z9'.at (j:=0) rfl).1;have z10:=z9'.put (j:=0) rfl (ct k.a.A (.sl Lb 0 (dy k.c) 1 none) 0 (.ptr Lx 0) .aJ 0 0 0 0 0 0);have ab1:=(z10.at (j:=0) rfl).1;have al2:=(z10.at (j:=2) rfl).1;have Ea:=k49 _ k.a.A Bx Mp Lx _ _ _ _ al2;rw[show fR (bf k.c) 0=2 from rfl]at Ea;have z11:=z9'.put (j:=0) rfl (ct k.a.A (.sl Lb 0 (dy k.c) 1 none) 0 (.ptr Lx 0) .aJ 0 0 0 0 2 0);simp only[ct]at Y1 ab1;simp only[ct,ag,List.length_cons,List.length_nil,Nat.reduceAdd]at Ea;simp only[go_sem,seval,Y1,t8,ab1,Ea];exact⟨by omega,_,Lb,Lx,Bx,Mp,rfl,Y,w,hw,z11⟩
def Pc(call:ab):Prop:=∀h k ws m vm (e:EN) q (v:Int) X R,e.ok k->EQ h k ws m vm e 0 q v X R->ws[0]?=some 1->aG call 19 [.ptr k.a.A 0,.int .i64 0,.int .i64 0] h fun r h'=>h.next<=h'.next/\∃C Lb Lx Bx Mp,r=.aE [.ptr C 0,.int .i64 0]/\EQ h' k ws m vm e 0 q v X (rj k C Lb (ct k.a.A (.sl Lb 0 (dy k.c) 1 none) 0 (.ptr Lx 0) .aJ 0 0 0 0 2 0) (sZ k Lx Bx Mp 0 R))
theorem w50(P:Program)[PG P]{A C:Nat}{lf lk en:AV}{st nd tw dc n nx cnt:Int}(g:h.t.get C=some (ct A lf st lk en nd tw dc n nx cnt)):WF P call c50 [.ptr C 0] h fun r h'=>r=.int .u8 nx/\h'=h:=by
 simp only[ct]at g;simp only[go_sem,seval,g]
def F50(call:ab):Prop:=∀h A C lf lk en (st nd tw dc n nx cnt:Int),h.t.get C=some (ct A lf st lk en nd tw dc n nx cnt)->call 50 [.ptr C 0] h=some (.int .u8 nx,h)
theorem w52(P:Program)[PG P]{A C:Nat}{lf lk en:AV}{st nd tw dc n cnt:Int}(g:h.t.get C=some (ct A lf st lk en nd tw dc n 0 cnt))(l:C<h.next):WF P call c52 [.ptr C 0] h fun r h'=>r=.agg [.int .i64 0,.bool false,.int .u64 0,.int .u64 0,.int .i64 cnt]/\ae h h':=by
 simp only[ct]at g;have nC:¬C=h.next:=by omega
 simp only[go_sem,seval,g,nC];exact ae.new h _
def F52(call:ab):Prop:=∀h A C lf lk en (st nd tw dc n cnt:Int),h.t.get C=some (ct A lf st lk en nd tw dc n 0 cnt)->C<h.next->aG call 52 [.ptr C 0] h fun r h'=>r=.agg [.int .i64 0,.bool false,.int .u64 0,.int .u64 0,.int .i64 cnt]/\ae h h'
end
end
end Go.Proofs.YtgkjlklfjbljeaaGreat.CQ
namespace Go.Proofs.YtgkjlklfjbljeaaGreat.CQ
open Go.Proofs.YtgkjlklfjbljeaaGreat.Eo
noncomputable section
@[go_sem]def ab2:CF:=⟨1,(Sq [v 2 0] (Qq (Sq [a 3 0,j 4 3,d 5 0 4,i 6 5,q 7 45 6,q 8 199 7,L 9 5 8 3] (Kq 9 [v 2 16] .skip)) (Rq [v 2 13]))),[.tmp 2]⟩
@[go_sem]def Pd:CF:=⟨1,(Sq [v 2 0] (Qq (Sq [a 11 0,j 12 11,d 13 11 12,i 14 13,L 15 5 14 23] (Cq 15 (Qq (.cn ⟨[([g 0 0,n 1 17 0,m 2 18 1 0,k 3 19 2,g 5 0,n 6 22 5,m 7 23 6 8,k 8 24 7],some (Z 4 20 3 9)),([],some (zA 9 21 4 25 8 10 4)),([t 10 26 9,B 11 16 10 0,B 12 16 10 1,t 13 27 11,t 14 28 12],none)],[(0,17),(1,18),(2,19),(3,20),(4,21),(5,22),(6,23),(7,24),(8,25),(9,26),(10,16),(11,27),(12,28),(13,3),(14,4)],[(⟨8,[(24,(some 7))],none,.r (.ld none (.t 24))⟩,[1])]⟩) (Qq (Qq (.cn ⟨[([g 0 0,n 1 30 0,m 2 31 1 0,k 3 32 2,g 5 0,n 6 35 5,m 7 36 6 1,k 8 37 7,g 9 3],some (Z 4 33 3 12)),([],some (qm 10 34 4 38 8 39 9 169)),([t 11 40 10,B 12 29 11 0,B 13 29 11 1,t 14 41 12,t 15 42 13],none)],[(0,30),(1,31),(2,32),(3,33),(4,34),(5,35),(6,36),(7,37),(8,38),(9,39),(10,40),(11,29),(12,41),(13,42),(14,5),(15,6)],[(⟨8,[(37,(some 7))],none,.r (.ld none (.t 37))⟩,[1])]⟩) (Sq [a 43 5,qV 44 50 43 1] (Cq 44 (Oq [a 45 0,j 46 45,d 47 10 46,i 48 47,C 49 3 48 1,j 50 45,d 51 10 50,s 1 51 49]) .skip))) (Sq [a 52 0,a 53 0,j 54 53,d 55 8 54,i 56 55,j 57 52,d 58 7 57,s 1 58 56] (Rq [v 2 21])))) .skip)) (Qq (.cn ⟨[([g 0 0,n 1 60 0,m 2 61 1 0,k 3 62 2,g 5 0,n 6 65 5,m 7 66 6 7,k 8 67 7],some (Z 4 63 3 9)),([],some (zA 9 64 4 68 8 40 0)),([t 10 69 9,B 11 59 10 0,B 12 59 10 1,t 13 70 11,t 14 71 12],none)],[(0,60),(1,61),(2,62),(3,63),(4,64),(5,65),(6,66),(7,67),(8,68),(9,69),(10,59),(11,70),(12,71),(13,7),(14,8)],[(⟨8,[(67,(some 7))],none,.r (.ld none (.t 67))⟩,[1])]⟩) (Qq (.cn ⟨[([g 0 0,n 1 73 0,m 2 74 1 0,k 3 75 2,g 5 0,n 6 78 5,m 7 79 6 1,k 8 80 7,g 9 7],some (Z 4 76 3 12)),([],some (qm 10 77 4 81 8 82 9 169)),([t 11 83 10,B 12 72 11 0,B 13 72 11 1,t 14 84 12,t 15 85 13],none)],[(0,73),(1,74),(2,75),(3,76),(4,77),(5,78),(6,79),(7,80),(8,81),(9,82),(10,83),(11,72),(12,84),(13,85),(14,9),(15,10)],[(⟨8,[(80,(some 7))],none,.r (.ld none (.t 80))⟩,[1])]⟩) (Qq (Sq [a 86 9,qV 87 50 86 0,a 88 87,r 89 88 9,r 90 88 0,qf 91 88 90,J 92 88 0 91,E 93 88 92,qH 94 88 9 93,qH 95 88 124 94,⟨some 96,some (88,false),.p (.conv .u64 (.t 95))⟩,q9 97 88 50 89 96,u 98 88 97] (Cq 98 (Sq [a 99 0,j 100 99,d 101 4 100,qp 1 101 3] (Rq [a 102 0,q 103 170 102,a 2 103])) .skip)) (Sq [a 104 0,a 105 9,qD 106 105,j 107 104,d 108 8 107,s 1 108 106] (Rq [v 2 23]))))))),[.tmp 2]⟩
def rT:CC:=(Qq (Sq [a 142 0,j 143 142,d 144 3 143,i 145 144,N 146 145,qW 147 3 146 0] (Cq 147 .skip (.exit 1))) (.block 2 (Sq [a 148 0,j 149 148,d 150 3 149,i 151 150,z1 152 1 151 0,i 153 152,a 5 153] (Sq [a 154 0,a 155 0,j 156 155,d 157 3 156,i 158 157,jH 159 1 158 1,j 160 154,d 161 3 160,s 1 161 159] (Qq (Qq (.cn ⟨[([g 0 0,g 1 0,n 2 164 1,m 3 165 2 0,k 4 166 3,g 5 0,n 6 168 5,m 7 169 6 1,k 8 170 7,g 9 0,n 10 172 9,m 11 173 10 2,k 12 174 11,g 13 5],some (qw 14 167 4 171 8 175 12 176 13 115)),([t 15 177 14,B 16 162 15 0,B 17 162 15 1,n 18 163 0,m 19 180 18 6],some (V 20 181 19 178 16 1)),([t 21 179 17],none)],[(0,163),(1,164),(2,165),(3,166),(4,167),(5,168),(6,169),(7,170),(8,171),(9,172),(10,173),(11,174),(12,175),(13,176),(14,177),(15,162),(16,178),(17,179),(18,180),(19,181),(21,6)],[]⟩) (Sq [a 182 6,A 183 41 182 0] (Cq 183 (.exit 1) .skip))) (Sq [a 184 0,a 185 5,q2 186 3 (-1) 185,j 187 184,d 188 7 187,s 1 188 186] (Sq [a 189 0,a 190 0,a 191 0,j 192 191,d 193 6 192,i 194 193,q 195 111 194,j 196 189,d 197 4 196,qp 1 197 1,j 198 190,d 199 11 198,s 1 199 195] (Rq [a 200 2,a 2 200,w 3,w 4]))))))))
@[go_sem]def Kb:CF:=⟨1,(Sq [v 2 0,w 3,w 4] (.scope (Sq [b 5 0] (Sq [b 6 0] (Qq (Sq [a 11 0,y 12 62 11,a 13 12,r 14 13 0,qf 15 13 14,J 16 13 11 15,E 17 13 16,zm 18 13 5 17 0,u 19 13 18] (Kq 19 [v 2 0,w 3,w 4] .skip)) (Sq [a 20 0,j 21 20,d 22 11 21,i 23 22,a 2 23] (Qq (Sq [a 24 0,j 25 24,d 26 4 25,i 27 26] (.block 0 (Sq [qe 29 3 27 0,a 28 29] (Cq 28 (Qq (Sq [a 31 0,j 32 31,d 33 5 32,i 34 33,q 35 108 34,a 30 35,o 36 30 0,o 37 30 1,a 7 36,a 8 37] (Sq [a 38 8,qa 39 38] (Cq 39 (Sq [a 40 0,a 41 0,j 42 41,d 43 5 42,i 44 43,q 45 49 44,j 46 40,d 47 11 46,s 1 47 45] (Rq [a 48 2,a 2 48,w 3,w 4])) .skip))) (Sq [a 50 0,a 51 0,j 52 51,d 53 5 52,i 54 53,q 55 109 54,a 49 55,o 56 49 0,o 57 49 1,o 58 49 2,j 59 50,d 60 9 59,s 1 60 56,a 6 58] (Sq [a 61 6,A 62 41 61 0] (Cq 62 (Sq [a 63 0,a 64 6,⟨some 65,none,.p (.build [aN,bO,cY,cY,aN] [(0,1,.t 64)])⟩,j 66 63,d 67 12 66,s 5 67 65] (.goto 0)) .skip)))) (Sq [qe 69 3 27 1,a 68 69] (Cq 68 (Qq (Sq [a 71 0,j 72 71,d 73 6 72,i 74 73,q 75 110 74,a 70 75,o 76 70 0,o 77 70 1,a 9 76,a 10 77] (Sq [a 78 10,qa 79 78] (Cq 79 (Sq [a 80 0,a 81 0,j 82 81,d 83 6 82,i 84 83,q 85 111 84,j 86 80,d 87 11 86,s 1 87 85] (Rq [a 88 2,a 2 88,w 3,w 4])) .skip))) (Sq [a 89 0,a 90 0,j 91 89,d 92 4 91,qp 1 92 2,j 93 90,d 94 11 93,qj 1 94 21] (Rq [a 95 2,a 2 95,w 3,w 4]))) (Sq [qe 97 3 27 2,a 96 97] (Cq 96 (Sq [a 98 0,a 99 0,q 100 112 99,j 101 98,d 102 11 101,s 1 102 100] (Rq [a 103 2,a 2 103,w 3,w 4])) (Sq [qe 105 3 27 3,a 104 105] (Cq 104 (.cn ⟨[([g 0 0,n 1 106 0,m 2 107 1 0,k 3 108 2,g 4 0,n 5 110 4,m 6 111 5 1,k 7 112 6,g 8 0,n 9 114 8,m 10 115 9 2,k 11 116 10],some (qm 12 109 3 113 7 117 11 113)),([],none)],[(0,106),(1,107),(2,108),(3,109),(4,110),(5,111),(6,112),(7,113),(8,114),(9,115),(10,116),(11,117),(12,118)],[]⟩) (Sq [qe 120 3 27 4,a 119 120] (Cq 119 (Qq (.cn ⟨[([g 0 0,n 1 121 0,m 2 122 1 0,k 3 123 2,g 4 0,n 5 125 4,m 6 126 5 1,k 7 127 6,g 8 0,n 9 129 8,m 10 130 9 9,k 11 131 10],some (qm 12 124 3 128 7 132 11 114)),([],none)],[(0,121),(1,122),(2,123),(3,124),(4,125),(5,126),(6,127),(7,128),(8,129),(9,130),(10,131),(11,132),(12,133)],[]⟩) (Sq [a 134 0,a 135 0,j 136 135,d 137 10 136,i 138 137,j 139 134,d 140 12 139,d 141 4 140,s 1 141 138] (.goto 0))) .skip)))))))))))) (Qq .skip (Qq (.block 1 (.loop rT)) (Sq [a 201 0,a 202 0,j 203 201,d 204 4 203,qp 1 204 4,j 205 202,d 206 11 205,qj 1 206 43] (Qq (Rq [a 207 2,a 2 207,w 3,w 4]) (Qq .skip (Sq [a 208 0,j 209 208,d 210 11 209,qj 1 210 0] (Rq [a 211 2,a 2 211,qn 3,qn 4])))))))))))) 0 (Qq .skip (Sq [a 208 0,j 209 208,d 210 11 209,qj 1 210 0] (Rq [a 211 2,a 2 211,qn 3,qn 4]))))),[.tmp 2,.tmp 3,.tmp 4]⟩
section
variable {call:ab} {h h':H} {k:QQ} {ws:List Int} {m m':Nat} {vm:AO} {E:Cm} {e:EN} {d q X C:Nat} {v:Int} {R R':List Cm} {lf lk en:AV} {st nd tw dc n nx:Int}
theorem al3(P:Program)[PG P](k45:FB call 45 4)(VI:Ul call)(ok:e.ok k)(x:EQ h k ws m vm e d q v X (aD C (ct k.a.A lf st lk en nd tw dc n nx 0)::R)):WF P call ab2 [.ptr C 0] h fun r h'=>r=.int .u8 e.xp/\h'=h:=by
 have gC:=(x.at (j:=0) rfl).1;simp only[ct]at gC;obtain⟨ev,gA⟩:=x.gA;have k1:=k45 h k.a.A _ (.ptr k.R 0) gA (by simp[dx]) rfl;have k2:=VI h k.R _ _ _ (x.gR ok);have en:=ok.en;cases e with
 |full N B=>
  have VJ:k.c.az=1:=en;simp only[go_sem,seval,gC,k1,k2,VJ];rfl
 |each N F=>
  have VJ:k.c.az=2:=en;simp only[go_sem,seval,gC,k1,k2,VJ];rfl
 |gate S=>
  have VJ:k.c.az=3:=en;simp only[go_sem,seval,gC,k1,k2,VJ];rfl
def VK(call:ab):Prop:=∀h k ws m vm (e:EN) d q (v:Int) X C R lf st lk en (nd tw dc n nx:Int),e.ok k->EQ h k ws m vm e d q v X (aD C (ct k.a.A lf st lk en nd tw dc n nx 0)::R)->call 170 [.ptr C 0] h=some (.int .u8 e.xp,h)
theorem EQ.load(lu:sW call)(x:EQ h k ws m vm e d q v X R)(hm:m<=900000){i:Nat}{y:Int}(hx:ws[i]?=some y):∃h',call 169 [.ptr k.a.M 0,.int .i64 0,.int .i64 (i:Int)] h=some (.aE [.int .u64 y,.int .i64 0],h')/\h.next<=h'.next/\EQ h' k ws (m+1) vm e d q v X R:=by
 obtain⟨Y,w,hw,x⟩:=x;obtain⟨h',e1,n1,y⟩:=x.load lu hm hx;exact⟨h',e1,n1,Y,w,hw,y⟩
theorem ab3(P:Program)[PG P](k9:FB call 9 0)(mW:FB call 12 1)(JF:S2 call)(lu:sW call)(x:EQ h k ws m vm e d q v X (aD C (ct k.a.A lf 2 lk en nd tw dc n 23 0)::R))(hm:m<=800000){i:Nat}(Cy:tw=(i:Int)+1){y z s:Int}(hz:(aH k.c)[i]?=some z)(hy:(nO k.c)[i]?=some y){ad:Nat}(oZ:y+4=(ad:Int))(hs:ws[ad]?=some s)(n0:0<=n)(n1:n<=10000):
 WF P call Pd [.ptr C 0] h fun r h'=>r=.int .u8 21/\h.next<=h'.next/\EQ h' k ws (m+1) vm e d q v X (aD C (ct k.a.A lf 2 lk en tw tw dc (n+if s=1 then 1 else 0) 23 0)::R):=by
 have gC:=(x.at (j:=0) rfl).1;obtain⟨ev,gA⟩:=x.gA;have k1:=k9 h k.a.A _ (.ptr k.a.L 0) gA (by simp[dx]) rfl;have QX:=mW h k.a.A _ (.ptr k.a.M 0) gA (by simp[dx]) rfl;have k2:=JF h k.a.L k.c i z y 4 x.ar.aw.lay x.ar.aw.b hz hy (by decide);have Ch:call 10 [.ptr k.a.L 0,.int .i64 ((i:Int)+1),.int .i64 4] h=some (.aE [.int .i64 (y+4),.int .i64 0],h):=k2;rw[oZ]at Ch;obtain⟨h3,e3,n3,x3⟩:=x.load lu (by omega) hs;have Cj:=(x3.at (j:=0) rfl).1;simp only[ct,Cy]at gC Cj
 by_cases c:s=1
 ·have f1:fw .i64 (n+1)=n+1:=aS (by omega) (by omega);have x4:=x3.put (j:=0) rfl (ct k.a.A lf 2 lk en tw tw dc (n+1) 23 0);rw[if_pos c];rw[Cy]at x4;simp only[go_sem,seval,gC,k1,QX,Ch,e3,n3,c,Cj,f1,Cy];exact x4
 ·have x4:=x3.put (j:=0) rfl (ct k.a.A lf 2 lk en tw tw dc (n+0) 23 0);rw[if_neg c];rw[Cy,Int.add_zero]at x4;simp only[go_sem,seval,gC,k1,QX,Ch,e3,n3,c,Cj,Cy,Int.add_zero];exact x4
theorem ab4(P:Program)[PG P](k9:FB call 9 0)(mW:FB call 12 1)(OA:Xv call)(Pe:IW call)(lu:sW call)(VL:VK call)(ok:e.ok k)(x:EQ h k ws m vm e d q v X (aD C (ct k.a.A lf 2 lk en nd tw dc n 21 0)::R))(hm:m<=800000)(hn:Nd k.c nd 0)(hs:ws[dJ k.c nd 0]?=some 0):
 WF P call Pd [.ptr C 0] h fun r h'=>r=.int .u8 e.xp/\h.next<=h'.next/\EQ h' k ws (m+1) vm e d q v X (aD C (ct k.a.A lf 3 lk en nd tw dc n 21 0)::R):=by
 have gC:=(x.at (j:=0) rfl).1;obtain⟨ev,gA⟩:=x.gA;have k1:=k9 h k.a.A _ (.ptr k.a.L 0) gA (by simp[dx]) rfl;have QX:=mW h k.a.A _ (.ptr k.a.M 0) gA (by simp[dx]) rfl;have k2:=OA h k.a.L k.c nd 0 x.ar.aw.lay x.ar.aw.b hn;obtain⟨_,b2,_⟩:=hn.at x.ar.aw.b;have oZ:kD k.c nd 0=(dJ k.c nd 0:Int):=by unfold dJ;omega
 rw[oZ]at k2;obtain⟨h3,e3,n3,x3⟩:=x.load lu (by omega) hs;have Cj:=(x3.at (j:=0) rfl).1;have x4:=x3.put (j:=0) rfl (ct k.a.A lf 3 lk en nd tw dc n 21 0);have k5:=VL _ k ws (m+1) vm e d q v X C R lf 3 lk en nd tw dc n 21 ok x4;simp only[ct,ag,List.length_cons,List.length_nil,Nat.reduceAdd]at k5;simp only[ct]at gC Cj;simp only[go_sem,seval,gC,k1,QX,k2,e3,n3,Cj,k5];exact x4
theorem ab5(P:Program)[PG P](k9:FB call 9 0)(mW:FB call 12 1)(OA:Xv call)(Pe:IW call)(lu:sW call)(x:EQ h k ws m vm e d q v X (aD C (ct k.a.A lf 2 lk en nd tw dc n 21 0)::R))(hm:m<=800000)(hn:Nd k.c nd 0){t:Nat}(hs:ws[dJ k.c nd 0]?=some (t:Int))(t1:1<=t)(t2:t<=(aH k.c).length):
 WF P call Pd [.ptr C 0] h fun r h'=>r=.int .u8 23/\h.next<=h'.next/\EQ h' k ws (m+1) vm e d q v X (aD C (ct k.a.A lf 2 lk en nd (t:Int) dc n 21 0)::R):=by
 have gC:=(x.at (j:=0) rfl).1;obtain⟨ev,gA⟩:=x.gA;have k1:=k9 h k.a.A _ (.ptr k.a.L 0) gA (by simp[dx]) rfl;have QX:=mW h k.a.A _ (.ptr k.a.M 0) gA (by simp[dx]) rfl;have k2:=OA h k.a.L k.c nd 0 x.ar.aw.lay x.ar.aw.b hn;obtain⟨_,b2,_⟩:=hn.at x.ar.aw.b;have D7:=x.ar.aw.b.Ce;have oZ:kD k.c nd 0=(dJ k.c nd 0:Int):=by unfold dJ;omega
 rw[oZ]at k2;obtain⟨h3,e3,n3,x3⟩:=x.load lu (by omega) hs;have Cj:=(x3.at (j:=0) rfl).1;obtain⟨ev3,gA3⟩:=x3.gA;have k3:=k9 h3 k.a.A _ (.ptr k.a.L 0) gA3 (by simp[dx]) rfl;have k4:=Pe h3 k.a.L k.c _ _ x3.ar.aw.lay;have z:¬(t:Int)=0:=by omega
 have f1:fw .u64 ((aH k.c).length:Int)=((aH k.c).length:Int):=uE (by omega) (by omega);have f2:fw .i64 (t:Int)=(t:Int):=aS (by omega) (by omega);have e4:¬((aH k.c).length:Int)<(t:Int):=by omega
 have x4:=x3.put (j:=0) rfl (ct k.a.A lf 2 lk en nd (t:Int) dc n 21 0);simp only[ct]at gC Cj;simp only[go_sem,seval,gC,k1,QX,k2,e3,n3,Cj,z,k3,k4,f1,f2,e4];exact x4
def Kc(call:ab):Prop:=∀h k ws m vm (e:EN) d q (v:Int) X C R lf lk en (nd tw dc n:Int) (i:Nat) (y z s:Int) (ad:Nat),EQ h k ws m vm e d q v X (aD C (ct k.a.A lf 2 lk en nd tw dc n 23 0)::R)->m<=800000->tw=(i:Int)+1->(aH k.c)[i]?=some z->(nO k.c)[i]?=some y->y+4=(ad:Int)->ws[ad]?=some s->0<=n->n<=10000->aG call 112 [.ptr C 0] h fun r h'=>r=.int .u8 21/\h.next<=h'.next/\EQ h' k ws (m+1) vm e d q v X (aD C (ct k.a.A lf 2 lk en tw tw dc (n+if s=1 then 1 else 0) 23 0)::R)
def Kd(call:ab):Prop:=∀h k ws m vm (e:EN) d q (v:Int) X C R lf lk en (nd tw dc n:Int),e.ok k->EQ h k ws m vm e d q v X (aD C (ct k.a.A lf 2 lk en nd tw dc n 21 0)::R)->m<=800000->Nd k.c nd 0->ws[dJ k.c nd 0]?=some 0->aG call 112 [.ptr C 0] h fun r h'=>r=.int .u8 e.xp/\h.next<=h'.next/\EQ h' k ws (m+1) vm e d q v X (aD C (ct k.a.A lf 3 lk en nd tw dc n 21 0)::R)
def Ke(call:ab):Prop:=∀h k ws m vm (e:EN) d q (v:Int) X C R lf lk en (nd tw dc n:Int) (t:Nat),EQ h k ws m vm e d q v X (aD C (ct k.a.A lf 2 lk en nd tw dc n 21 0)::R)->m<=800000->Nd k.c nd 0->ws[dJ k.c nd 0]?=some (t:Int)->1<=t->t<=(aH k.c).length->aG call 112 [.ptr C 0] h fun r h'=>r=.int .u8 23/\h.next<=h'.next/\EQ h' k ws (m+1) vm e d q v X (aD C (ct k.a.A lf 2 lk en nd (t:Int) dc n 21 0)::R)
theorem EN.l2(e:EN):2<=e.last:=by cases e<;>(simp only[EN.last];decide)
theorem EQ.any(x:EQ h k ws m vm e 0 q v X R)(v':Int)(X':Nat):EQ h k ws m vm e 0 q v' X' R:=by
 obtain⟨Y,w,hw,x⟩:=x;exact⟨Y,w,fun h=>by omega,by cases e<;>exact x⟩
def rk(k:QQ)(Lb i:Nat):AV:=.sl Lb i (dy k.c-i) 1 none
theorem FU(P:Program)[PG P](EA:J9 call)(Bi:Hh call)(ok:e.ok k)(hv:VM vm){Q:aZ}{tm:T AV}{Lb i:Nat}{pc cnt:Int}(hi:i<dy k.c)(t0:tm.get 0=some (.ptr C 0))(t2:tm.get 2=some (.int .u8 pc))(x:EQ h k ws m vm e 0 q v X (rj k C Lb (ct k.a.A (rk k Lb i) st lk en nd tw dc n nx 0) R))
 (hQ:∀aC h',aC.get 2=some (.int .u8 pc)->aC.get 3=some (.bool false)->aC.get 4=some (.bool false)->h.next<=h'.next->(∃X Qr Z,EQ h' k ws m (rS (i:Int)) e 1 q (i:Int) X (MA k e (i:Int) Z Qr X (rj k C Lb (ct k.a.A (rk k Lb (i+1)) 1 lk (.ptr Z 0) (-1-(i:Int)) tw dc n (e.pc 1) 0) R)))->Q .ret aC h'):
 WC P call (.loop rT) (oE 1 Q) tm h:=by
 obtain⟨gC,lC⟩:=x.at (j:=0) rfl;obtain⟨gL,lL⟩:=x.at (j:=1) rfl;obtain⟨_,b1,b2⟩:=x.ar.aw.b.va;simp only[ct,rk]at gC;have hg:=O9 hi;have hl:0<dy k.c-i:=by omega
 have EB:(0:Int)<((dy k.c-i:Nat):Int):=by omega
 have GR:(1:Int)<=((dy k.c-i:Nat):Int):=by omega
 have es2:dy k.c-i-1=dy k.c-(i+1):=by omega
 have x1:=x.put (j:=0) rfl (ct k.a.A (rk k Lb (i+1)) st lk en nd tw dc n nx 0);have gC1:=(x1.at (j:=0) rfl).1;simp only[ct,rk]at gC1;refine kq 1 ?_
 simp only[go_sem,seval,rT,t0,t2,gC,hl,EB,GR,es2,gL,Nat.add_zero,hg,Nat.mul_one];refine af (EA _ k ws m vm e q (i:Int) X _ ok hv (EQ.any x1 (i:Int) X) (by omega) (by omega)) fun v2 h2 p2=>?_
 obtain⟨n2,X2,Qr,Z,rfl,x2⟩:=p2;have n2':h.next<=h2.next:=n2;have td:=(x2.at (j:=2) rfl).1;simp only[ct,rk]at td;have x3:=x2.put (j:=2) rfl (ct k.a.A (rk k Lb (i+1)) st lk (.ptr Z 0) nd tw dc n nx 0);have x4:=x2.put (j:=2) rfl (ct k.a.A (rk k Lb (i+1)) st lk (.ptr Z 0) (-1-(i:Int)) tw dc n nx 0);have f1:fw .i64 (-1-(i:Int))=-1-(i:Int):=aS (by omega) (by omega);simp only[go_sem,seval,td,t0,f1,n2'];refine af (Bi _ k ws m _ e 1 q (i:Int) X2 _ Z Qr (Nat.le_refl _) (by have:=e.l2;omega) x4) fun v5 h5 p5=>?_
 obtain⟨rfl,CM⟩:=p5;have n5:h2.next<=h5.next:=CM.next;have gC5:=((x4.step CM).at (j:=2) rfl).1;have x6:=(x4.step CM).put (j:=2) rfl (ct k.a.A (rk k Lb (i+1)) 1 lk (.ptr Z 0) (-1-(i:Int)) tw dc n (e.pc 1) 0);simp only[ct,rk]at gC5;simp only[go_sem,seval,gC5,t2];exact hQ _ _ (by simp[go_sem]) (by simp[go_sem]) (by simp[go_sem]) (by show h.next<=h5.next;omega) ⟨X2,Qr,Z,x6⟩
theorem Pf(P:Program){Q:aZ}{tm:T AV}{Lb:Nat}{pc:Int}(t0:tm.get 0=some (.ptr C 0))(t2:tm.get 2=some (.int .u8 pc))(gC:h.t.get C=some (ct k.a.A (rk k Lb (dy k.c)) st lk en nd tw dc n nx 0))
 (hQ:∀aC,aC.get 0=some (.ptr C 0)->aC.get 2=some (.int .u8 pc)->Q .normal aC h):
 WC P call (.loop rT) (oE 1 Q) tm h:=by
 simp only[ct,rk,Nat.sub_self]at gC;refine kq 1 ?_
 simp only[go_sem,seval,rT,t0,t2,gC];exact hQ _ (by simp[go_sem,t0]) (by simp[go_sem,t2])
theorem al4(P:Program)[PG P](Kf:OK call)(k49:F49 call){Lb Lx Bx Mp j:Nat}(hj:j<bf k.c+4)(x:EQ h k (iZ (cD k.c) (bf k.c) ws j) m vm e d q v X (rj k C Lb (ct k.a.A lf 0 (.ptr Lx 0) en nd tw dc n (fR (bf k.c) j) 0) (sZ k Lx Bx Mp j R)))(hm:m<=800000)(h0:ws[cD k.c]?=some 0)(hz:∀e,e<bf k.c->ws[cD k.c+1+3*e]?=some 0):
 WF P call Kb [.ptr C 0] h fun r h'=>r=.aE [.int .u8 (fR (bf k.c) j),.bool false,.bool false]/\h.next<=h'.next/\EQ h' k (iZ (cD k.c) (bf k.c) ws (j+1)) (m+1) vm e d q v X (rj k C Lb (ct k.a.A lf 0 (.ptr Lx 0) en nd tw dc n (fR (bf k.c) (j+1)) 0) (sZ k Lx Bx Mp (j+1) R)):=by
 obtain⟨gC,lC⟩:=x.at (j:=0) rfl;simp only[ct]at gC;have p0:fR (bf k.c) j≠0:=by
  unfold fR
  repeat' split
  all_goals first|omega|decide
 have x':=x;obtain⟨Y,w,hw,y⟩:=x';have y1:QS h k (iZ (cD k.c) (bf k.c) ws j) m vm (pk (e.rows k v q X Y w d)) (sZ k Lx Bx Mp j (aD C (ct k.a.A lf 0 (.ptr Lx 0) en nd tw dc n (fR (bf k.c) j) 0)::aD Lb (ag (Bh (dy k.c)) 3)::R)):=y.perm (by
  unfold rj sZ;exact .trans (.cons _ (.swap _ _ _)) (.trans (.swap _ _ _) (.cons _ (.trans (.cons _ (.swap _ _ _)) (.swap _ _ _)))))
 simp only[go_sem,seval,gC,p0];refine af (Kf h k ws m vm _ _ Lx Bx Mp j (by omega) y1 hm h0 hz) fun v2 h2 p2=>?_
 obtain⟨rfl,n2,y2⟩:=p2;have dj:¬j=bf k.c+4:=by omega
 have y3:QS h2 k (iZ (cD k.c) (bf k.c) ws (j+1)) (m+1) vm (pk (e.rows k v q X Y w d)) (rj k C Lb (ct k.a.A lf 0 (.ptr Lx 0) en nd tw dc n (fR (bf k.c) j) 0) (sZ k Lx Bx Mp (j+1) R)):=y2.perm (by
  unfold rj sZ;exact .trans (.cons _ (.swap _ _ _)) (.trans (.swap _ _ _) (.cons _ (.trans (.cons _ (.swap _ _ _)) (.swap _ _ _)))))
 have Cj:=(y3.at (j:=0) rfl).1;have D2:=(y3.at (j:=2) rfl).1;have k3:=k49 h2 k.a.A Bx Mp Lx _ _ _ _ D2;have y4:=y3.put (j:=0) rfl (ct k.a.A lf 0 (.ptr Lx 0) en nd tw dc n (fR (bf k.c) (j+1)) 0);simp only[ct]at Cj;simp only[go_sem,seval,dj,Cj,k3];exact⟨n2,Y,w,hw,y4⟩
end
end
end Go.Proofs.YtgkjlklfjbljeaaGreat.CQ
