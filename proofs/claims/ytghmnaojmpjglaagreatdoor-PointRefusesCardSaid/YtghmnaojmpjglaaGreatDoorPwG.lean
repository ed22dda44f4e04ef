/-
  What functions of the program compute, one by one. Conditions: those of each theorem.
-/
import Derived.Test.YtghmnaojmpjglaaGreatDoorPwF
set_option linter.all false
namespace Go.Proofs.YtghmnaojmpjglaaGreatDoor.PR
open Go.Proofs.YtghmnaojmpjglaaGreatDoor.Eo
noncomputable section
@[go_sem]def c370:CF:=⟨1,(Sq [v 2 0] (Qq (Sq [a 3 0,u 4 89 3] (Kq 4 [v 2 0] .skip)) (Rq [a 5 0,m 6 5,d 7 0 6,i 8 7,⟨some 9,none,.ci (.t 8) "Next" []⟩,a 2 9]))),[.tmp 2]⟩
@[go_sem]def c369:CF:=⟨1,(Sq [v 2 0] (Qq (Sq [a 3 0,u 4 53 3] (Kq 4 [v 2 0] .skip)) (Rq [a 5 0,m 6 5,d 7 0 6,i 8 7,q 9 370 8,a 2 9]))),[.tmp 2]⟩
def NxA(h:H)(X:Nat):EK->Prop
 | .full _ _ _=>∃a b c f x y,h.t.get X=some (rowL [a,b,c,.fn f x y] 578)
 | .each _ _ _=>∃a b c d,h.t.get X=some (rowL [a,b,c,d,.int .i64 0] 595)
 | .gate _ _ _ _=>∃a b c d e f Y,h.t.get X=some (rowL [a,b,c,d,e,f,.ptr Y 0] 612)∧h.t.get Y=some (rowL [.int .i64 (-1),.bool false] 609)∧Y<h.next
def EntG(ek:EK)(h:H)(X:Nat)(h':H):Prop:=h.next<=X∧X<h'.next∧NxA h' X ek∧Tch (engM ek) h h'
theorem NxA.step{h h':H}{X:Nat}{ek:EK}(m:NxA h X ek)(lX:X<h.next)(s:StepN h h'):NxA h' X ek:=by
 cases ek with
 |full G N B=>obtain⟨a,b,c,f,x,y,g⟩:=m;exact⟨a,b,c,f,x,y,(s.old X lX).trans g⟩
 |each G N F=>obtain⟨a,b,c,d,g⟩:=m;exact⟨a,b,c,d,(s.old X lX).trans g⟩
 |gate G S nb Sx=>obtain⟨a,b,c,d,e,f,Y,g,gY,lY⟩:=m;exact⟨a,b,c,d,e,f,Y,(s.old X lX).trans g,(s.old Y lY).trans gY,Nat.lt_of_lt_of_le lY s.next⟩
section
variable {h:H} {M n bs nb G N B F S:Nat} {nu:List Int} {t u:Int} {s:Nat} (t0:0<=t) (t1:t<64) (u0:0<=u) (u1:u<64) (hx:nu[s]?=some 0)
theorem w424g(P:Program)[PT P]{call:CallE}(h429:F429 call)(h430:F430 call)(t0:0<=t)(t1:t<64)(u0:0<=u)(u1:u<64)(hx:nu[s]?=some 0)(m:FullE h M n bs G N B nu (List.replicate n false)):
 WF P call c424 [.ptr G 0,.int .i64 t,.int .i64 (s:Int),.int .i64 u] h fun v h'=>∃X,v=.tup [.ptr X 0,.int .i64 0]∧EntG (.full G N B) h X h':=by
 have gG:=m.gG
 have gB:=m.gB
 have hs:s<n:=by rw[←m.ln];exact(List.getElem?_eq_some_iff.1 hx).1
 have k1:=h429 h M n bs G N B nu _ t s m t0 t1 hs
 have k2:=h430 h M n bs G N B nu _ s 0 m hx (.inl rfl)
 have e2:(s:Int)<(n:Int):=by omega
 have hs2:s+1<=n:=hs
 have hb1:((List.replicate n false).map AV.bool)[s]?=some (.bool false):=by rw[List.getElem?_map,List.getElem?_replicate,if_pos hs];rfl
 have hbl:((List.replicate n false).map AV.bool).length=n:=by rw[List.length_map,List.length_replicate]
 have v1:¬u<0:=by omega
 simp only[go_sem,seval,k1,gG,e2,Nat.mul_one,gB,hb1,k2,hbl,hs,hs2,v1,u1]
 refine⟨_,rfl,Nat.le_refl _,Nat.lt_succ_self _,⟨_,_,_,_,_,_,by simp only[go_sem,seval];rfl⟩,Nat.le_succ _,fun b hb hn=>?_⟩
 have n4:¬b=h.next:=by omega
 have n5:¬b=B:=fun e=>hn (.inr e)
 simp only[go_sem,seval,n4,n5]
theorem w440g(P:Program)[PT P]{call:CallE}(h445:F445 call)(t0:0<=t)(t1:t<64)(u0:0<=u)(u1:u<64)(hx:nu[s]?=some 0)(m:EachE h M n bs G N F (eZ nu)):
 WF P call c440 [.ptr G 0,.int .i64 t,.int .i64 (s:Int),.int .i64 u] h fun v h'=>∃X,v=.tup [.ptr X 0,.int .i64 0]∧EntG (.each G N F) h X h':=by
 have gN:=m.gN
 have hx0:=eZ_get hx
 have hs:s<n:=by rw[←m.ln];exact(List.getElem?_eq_some_iff.1 hx0).1
 have k1:=h445 h M n bs G N F _ t s m t0 t1 hs
 have hcl:(eachC (eZ nu)).length=n*2:=by rw[eachC_len,m.ln]
 have hs1:s*2+1<(eachC (eZ nu)).length:=by omega
 have hs2:s*2+1+1<=n*2:=by omega
 have hs3:s*2+1<n*2:=by omega
 obtain⟨g0,g1⟩:=eachC_get _ s 0 false hx0
 have m0:Int.tmod 0 2=0:=rfl
 have v1:¬u<0:=by omega
 simp only[go_sem,seval,k1,gN,g0,g1,hcl,hs1,hs2,hs3,m0,v1,u1]
 refine⟨_,rfl,Nat.le_refl _,Nat.lt_succ_self _,⟨_,_,_,_,by simp only[go_sem,seval];rfl⟩,Nat.le_succ _,fun b hb hn=>?_⟩
 have n4:¬b=h.next:=by omega
 have n5:¬b=N:=fun e=>hn e
 simp only[go_sem,seval,n4,n5]
theorem w456g(P:Program){call:CallE}(h462:∀h (n:Int),1<=n->n<=16->call 462 [.int .i64 n] h=some (.int .i64 0,h))(u0:0<=u)(u1:u<64){n:Int}(h1:1<=n)(h2:n<=16):WF P call c456 [.int .i64 u,.int .i64 n] h fun v h'=>v=.tup [.int .i64 (Int.tmod u n),.int .i64 0]∧h'=h:=by
 have k:=h462 h n h1 h2
 have z:¬n=0:=by omega
 have v1:¬u<0:=by omega
 have a1:0<=Int.tmod u n:=Int.tmod_nonneg _ u0
 have a2:Int.tmod u n<n:=Int.tmod_lt_of_pos u (by omega)
 have f0:fw .i64 (Int.tmod u n)=Int.tmod u n:=fwI (by omega) (by omega)
 simp only[go_sem,seval,k,z,f0,v1,u1]
def F456g(call:CallE):Prop:=∀h (u n:Int),0<=u->u<64->1<=n->n<=16->call 456 [.int .i64 u,.int .i64 n] h=some (.tup [.int .i64 (Int.tmod u n),.int .i64 0],h)
theorem w457g(P:Program)[PT P]{call:CallE}{a b c:AV}{q:Int}(gG:h.t.get G=some (rowL [a,.int .i64 (bs:Int),b,c] 433))(lG:G<h.next)(hb:bs<=60000)(q0:0<=q)(q1:q<=64):WF P call c457 [.ptr G 0,.int .i64 q] h fun v h'=>(∃x y z w,v=.agg [.int .i64 x,.int .i64 y,.int .i64 z,.int .i64 w])∧StepN h h':=by
 have n1:¬G=h.next:=by omega
 have n2:¬G=h.next+1:=by omega
 simp only[go_sem,seval]
 refine unroll 5 ?_
 simp only[go_sem,seval,c457_l7,gG,n1,n2,fl1,fl2,fl3,fl4]
 refine⟨⟨_,_,_,_,rfl⟩,by show h.next<=h.next+2;omega,fun b hb=>?_⟩
 have e1:¬b=h.next:=by omega
 have e2:¬b=h.next+1:=by omega
 simp only[go_sem,seval,e1,e2]
def F457g(call:CallE):Prop:=∀h G (bs:Nat) a b c (q:Int),h.t.get G=some (rowL [a,.int .i64 (bs:Int),b,c] 433)->G<h.next->bs<=60000->0<=q->q<=64->Does call 457 [.ptr G 0,.int .i64 q] h fun v h'=>(∃x y z w,v=.agg [.int .i64 x,.int .i64 y,.int .i64 z,.int .i64 w])∧StepN h h'
theorem w451g(P:Program)[PT P]{call:CallE}(h455:F455 call)(h456:F456g call)(h457:F457g call)(t0:0<=t)(t1:t<64)(u0:0<=u)(u1:u<64)(hx:nu[s]?=some 0)(hs:s<64)(hb:bs<=60000){Sx:Nat->Prop}{es:List (AV×AV×Nat)}(m:GateE Sx h M bs nb G S es nu):
 WF P call c451 [.ptr G 0,.int .i64 t,.int .i64 (s:Int),.int .i64 u] h fun v h'=>∃X,v=.tup [.ptr X 0,.int .i64 0]∧EntG (.gate G S nb Sx) h X h':=by
 have gG:=m.gG
 obtain⟨clk,gS⟩:=m.gS
 have lG:=m.lG
 have lS:=m.lS
 have nb1:=m.nb1
 have nb2:=m.nb2
 have k1:=h455 h G t s t0 t1 (by omega) (by omega)
 have kA:keyA 0 (.int .i64 (s:Int))=true:=rfl
 have GS:¬G=S:=fun e=>by rw[e,gS]at gG;cases gG
 have hf:=(m.f s hs).2 (by rw[hx];simp)
 have k2:=h456 h u nb u0 u1 (by omega) (by omega)
 have a1:0<=Int.tmod u nb:=Int.tmod_nonneg _ u0
 have a2:Int.tmod u nb<nb:=Int.tmod_lt_of_pos u (by omega)
 have S1:¬S=h.next:=by omega
 have G1:¬G=h.next:=by omega
 have v1:¬u<0:=by omega
 simp only[go_sem,seval,k1,gG,gS,kA,hf,k2,S1,G1,evM,Go.Proofs.YtghmnaojmpjglaaGreatDoor.Eo.evL,GS,v1,u1]
 refine opt_by (h457 _ G bs (.ptr M 0) (.int .i64 (nb:Int)) (.map S) _ ?_ ?_ hb a1 (by omega)) fun v1 h1 p1=>?_
 ·simp only[go_sem,seval,G1,GS]
  exact gG
 ·show G<h.next+1
  omega
 obtain⟨⟨x,y,z,w,rfl⟩,st1⟩:=p1
 have nx1:h.next+1<=h1.next:=st1.next
 have gY1:=st1.old h.next (by show h.next<h.next+1;omega)
 have gG1:=st1.old G (by show G<h.next+1;omega)
 have S2:¬h.next=S:=by omega
 simp only[go_sem,seval,S2]at gY1
 simp only[go_sem,seval,G1,GS]at gG1
 rw[gG]at gG1
 have G2:¬G=h1.next:=by omega
 have Y3:¬h.next=h1.next:=by omega
 simp only[go_sem,seval,gG1,nx1,G2]
 refine⟨_,rfl,by omega,Nat.lt_succ_self _,⟨_,_,_,_,_,_,h.next,by simp only[go_sem,seval];rfl,by simp only[go_sem,seval,Y3];exact gY1,by show h.next<h1.next+1;omega⟩,by show h.next<=h1.next+1;omega,fun b hb hn=>?_⟩
 have b1:¬b=h1.next:=by omega
 have b2:¬b=h.next:=by omega
 have b3:¬b=S:=fun e=>hn e
 have q:=st1.old b (by show b<h.next+1;omega)
 simp only[go_sem,seval,b2,b3]at q
 simp only[go_sem,seval,b1,q]
end
def F424g(call:CallE):Prop:=∀h M n bs G N B nu (t u:Int) (s:Nat),0<=t->t<64->0<=u->u<64->nu[s]?=some 0->FullE h M n bs G N B nu (List.replicate n false)->Does call 424 [.ptr G 0,.int .i64 t,.int .i64 (s:Int),.int .i64 u] h fun v h'=>∃X,v=.tup [.ptr X 0,.int .i64 0]∧EntG (.full G N B) h X h'
def F440g(call:CallE):Prop:=∀h M n bs G N F nu (t u:Int) (s:Nat),0<=t->t<64->0<=u->u<64->nu[s]?=some 0->EachE h M n bs G N F (eZ nu)->Does call 440 [.ptr G 0,.int .i64 t,.int .i64 (s:Int),.int .i64 u] h fun v h'=>∃X,v=.tup [.ptr X 0,.int .i64 0]∧EntG (.each G N F) h X h'
def F451g(call:CallE):Prop:=∀(Sx:Nat->Prop) h M bs nb G S es nu (t u:Int) (s:Nat),0<=t->t<64->0<=u->u<64->nu[s]?=some 0->s<64->bs<=60000->GateE Sx h M bs nb G S es nu->Does call 451 [.ptr G 0,.int .i64 t,.int .i64 (s:Int),.int .i64 u] h fun v h'=>∃X,v=.tup [.ptr X 0,.int .i64 0]∧EntG (.gate G S nb Sx) h X h'
theorem rawEg{call:CallE}(fa:F424g call)(fb:F440g call)(fc:F451g call){h:H}{M n bs:Nat}{ek:EK}{nu:List Int}{t u:Int}{s:Nat}(m:EngA h M n bs nu ek)(hn:n<=64)(hb:bs<=5000)(t0:0<=t)(t1:t<64)(u0:0<=u)(u1:u<64)(hx:nu[s]?=some 0):
 Does call ek.en [.ptr ek.G 0,.int .i64 t,.int .i64 (s:Int),.int .i64 u] h fun v h'=>∃X,v=.tup [.ptr X 0,.int .i64 0]∧EntG ek h X h':=by
 cases ek with
 |full G N B=>exact fa h M n bs G N B nu t u s t0 t1 u0 u1 hx m
 |each G N F=>exact fb h M n bs G N F nu t u s t0 t1 u0 u1 hx m
 |gate G S nb Sx=>
  have:=(List.getElem?_eq_some_iff.1 hx).1
  have ln:=m.1
  obtain⟨es,m'⟩:=m.2
  exact fc Sx h M bs nb G S es nu t u s t0 t1 u0 u1 hx (by omega) (by omega) m'
theorem EntG.of{ek:EK}{h h1 h':H}{X:Nat}(st:StepN h h1)(p:EntG ek h1 X h'):EntG ek h X h':=
 ⟨Nat.le_trans st.next p.1,p.2.1,p.2.2.1,Nat.le_trans st.next p.2.2.2.next,fun b lb hb=>(p.2.2.2.old b (Nat.lt_of_lt_of_le lb st.next) hb).trans (st.old b lb)⟩
theorem w436g(P:Program)[pt:PT P]{call:CallE}(hh:FHold call 438 576){h:H}{G N B:Nat}{t u:Int}{s:Nat}(hr:∀h1,StepN h h1->Does call 424 [.ptr G 0,.int .i64 t,.int .i64 (s:Int),.int .i64 u] h1 fun v h'=>∃X,v=.tup [.ptr X 0,.int .i64 0]∧EntG (.full G N B) h1 X h'):
 WF P call c436 [.agg [.ifc 327 (.ptr G 0)],.int .i64 t,.int .i64 (s:Int),.int .i64 u] h fun v h'=>∃X,v=.tup [.ifc 576 (.ptr X 0),.int .i64 0]∧EntG (.full G N B) h X h':=by
 have st0:=StepN.new h (.row (putList 0 [.ifc 327 (.ptr G 0)] T.e) 1 333)
 simp only[go_sem,seval,pt.rwA]
 refine opt_by (hr _ st0) fun v1 h1 p1=>?_
 obtain⟨X,rfl,p⟩:=p1
 have k:=(hh h1).1 X
 simp only[go_sem,seval,k]
 exact⟨X,rfl,p.of st0⟩
theorem w447g(P:Program)[pt:PT P]{call:CallE}(hh:FHold call 449 588){h:H}{G N F:Nat}{t u:Int}{s:Nat}(hr:∀h1,StepN h h1->Does call 440 [.ptr G 0,.int .i64 t,.int .i64 (s:Int),.int .i64 u] h1 fun v h'=>∃X,v=.tup [.ptr X 0,.int .i64 0]∧EntG (.each G N F) h1 X h'):
 WF P call c447 [.agg [.ifc 334 (.ptr G 0)],.int .i64 t,.int .i64 (s:Int),.int .i64 u] h fun v h'=>∃X,v=.tup [.ifc 588 (.ptr X 0),.int .i64 0]∧EntG (.each G N F) h X h':=by
 have st0:=StepN.new h (.row (putList 0 [.ifc 334 (.ptr G 0)] T.e) 1 340)
 simp only[go_sem,seval,pt.rwB]
 refine opt_by (hr _ st0) fun v1 h1 p1=>?_
 obtain⟨X,rfl,p⟩:=p1
 have k:=(hh h1).1 X
 simp only[go_sem,seval,k]
 exact⟨X,rfl,p.of st0⟩
theorem w481g(P:Program)[pt:PT P]{call:CallE}(hh:FHold call 483 605){h:H}{G S nb:Nat}{Sx:Nat->Prop}{t u:Int}{s:Nat}(hr:∀h1,StepN h h1->Does call 451 [.ptr G 0,.int .i64 t,.int .i64 (s:Int),.int .i64 u] h1 fun v h'=>∃X,v=.tup [.ptr X 0,.int .i64 0]∧EntG (.gate G S nb Sx) h1 X h'):
 WF P call c481 [.agg [.ifc 341 (.ptr G 0)],.int .i64 t,.int .i64 (s:Int),.int .i64 u] h fun v h'=>∃X,v=.tup [.ifc 605 (.ptr X 0),.int .i64 0]∧EntG (.gate G S nb Sx) h X h':=by
 have st0:=StepN.new h (.row (putList 0 [.ifc 341 (.ptr G 0)] T.e) 1 347)
 simp only[go_sem,seval,pt.rwC]
 refine opt_by (hr _ st0) fun v1 h1 p1=>?_
 obtain⟨X,rfl,p⟩:=p1
 have k:=(hh h1).1 X
 simp only[go_sem,seval,k]
 exact⟨X,rfl,p.of st0⟩
def FHeg(call:CallE):Prop:=∀h M n bs ek nu (t u:Int) (s:Nat),EngA h M n bs nu ek->n<=64->bs<=5000->0<=t->t<64->0<=u->u<64->nu[s]?=some 0->Does call ek.he [.agg [.ifc ek.rt (.ptr ek.G 0)],.int .i64 t,.int .i64 (s:Int),.int .i64 u] h fun v h'=>∃X,v=.tup [.ifc ek.ot (.ptr X 0),.int .i64 0]∧EntG ek h X h'
theorem w27g(P:Program)[PT P]{call:CallE}(h96:F96 call)(hHe:FHeg call){h:H}{M R n bs:Nat}{ek:EK}{b:AV}{nu:List Int}{t u:Int}{s:Nat}(gR:h.t.get R=some (rowL [.ifc ek.ht (.agg [.ifc ek.rt (.ptr ek.G 0)]),b,.int .i64 (n:Int)] 206))(m:EngA h M n bs nu ek)(hn:n<=64)(hb:bs<=5000)(t0:0<=t)(t1:t<64)(u0:0<=u)(u1:u<64)(hs:s<n)(hx:nu[s]?=some 0):
 WF P call c27 [.ptr R 0,.int .i64 t,.int .i64 (s:Int),.int .i64 u] h fun v h'=>∃X Q,v=.tup [.ptr Q 0,.int .i64 0]∧EntG ek h X h'∧h.next<=Q∧Q<h'.next∧h'.t.get Q=some (rowL [.ifc ek.ot (.ptr X 0)] 209):=by
 have k1:=h96 h R n _ _ t s gR t0 t1 hs
 have me:=fun g=>meth_en P g ek
 have nk:¬1099511627776<=ek.he:=by cases ek<;>(simp only[EK.he];decide)
 simp only[go_sem,seval,k1,gR,me,nk]
 refine opt_by (hHe h M n bs ek nu t u s m hn hb t0 t1 u0 u1 hx) fun v1 h1 p1=>?_
 obtain⟨X,rfl,p⟩:=p1
 simp only[go_sem,seval]
 have st1:=StepN.new h1 (.row (putList 0 [.ifc ek.ot (.ptr X 0)] T.e) 1 209)
 obtain⟨a1,a2,a3,a4⟩:=p
 exact⟨X,h1.next,rfl,⟨a1,Nat.lt_succ_of_lt a2,a3.step a2 st1,Nat.le_trans a4.next st1.next,fun b lb hb=>(st1.old b (Nat.lt_of_lt_of_le lb a4.next)).trans (a4.old b lb hb)⟩,a4.next,Nat.lt_succ_self _,by simp only[go_sem,seval];rfl⟩
def F27g(call:CallE):Prop:=∀h M R (n bs:Nat) ek b nu (t u:Int) (s:Nat),h.t.get R=some (rowL [.ifc ek.ht (.agg [.ifc ek.rt (.ptr ek.G 0)]),b,.int .i64 (n:Int)] 206)->EngA h M n bs nu ek->n<=64->bs<=5000->0<=t->t<64->0<=u->u<64->s<n->nu[s]?=some 0->Does call 27 [.ptr R 0,.int .i64 t,.int .i64 (s:Int),.int .i64 u] h fun v h'=>∃X Q,v=.tup [.ptr Q 0,.int .i64 0]∧EntG ek h X h'∧h.next<=Q∧Q<h'.next∧h'.t.get Q=some (rowL [.ifc ek.ot (.ptr X 0)] 209)
end
end Go.Proofs.YtghmnaojmpjglaaGreatDoor.PR
namespace Go.Proofs.YtghmnaojmpjglaaGreatDoor.PR
open Go.Proofs.YtghmnaojmpjglaaGreatDoor.Eo
noncomputable section
variable(P:Program)[PT P]{call:CallE}
theorem w558g{h:H}{X:Nat}{a b c d:AV}(gX:h.t.get X=some (rowL [a,b,c,d,.int .i64 0] 595))(lX:X<h.next):WF P call c558 [.ptr X 0] h fun v h'=>v=.int .u8 14∧StepN h h':=by
 have n1:¬X=h.next:=by omega
 simp only[go_sem,seval,gX,n1]
 exact⟨by show h.next<=h.next+1;omega,fun b hb=>by
  have e1:¬b=h.next:=by omega
  simp only[go_sem,seval,e1]⟩
def EK.nx:EK->FuncId
 | .full _ _ _=>554
 | .each _ _ _=>558
 | .gate _ _ _ _=>570
def F554(call:CallE):Prop:=∀h X a b c f x y,h.t.get X=some (rowL [a,b,c,.fn f x y] 578)->call 554 [.ptr X 0] h=some (.int .u8 13,h)
def F558(call:CallE):Prop:=∀h X a b c d,h.t.get X=some (rowL [a,b,c,d,.int .i64 0] 595)->X<h.next->Does call 558 [.ptr X 0] h fun v h'=>v=.int .u8 14∧StepN h h'
theorem nextEK{call:CallE}(fa:F554 call)(fb:F558 call)(fc:F570 call){h:H}{X:Nat}{ek:EK}(m:NxA h X ek)(lX:X<h.next):Does call ek.nx [.ptr X 0] h fun v h'=>v=.int .u8 (pcK ek.tag 0)∧StepN h h':=by
 cases ek with
 |full G N B=>
  obtain⟨a,b,c,f,x,y,g⟩:=m
  exact⟨_,_,fa h X a b c f x y g,rfl,StepN.refl _⟩
 |each G N F=>
  obtain⟨a,b,c,d,g⟩:=m
  exact fb h X a b c d g lX
 |gate G S nb Sx=>
  obtain⟨a,b,c,d,e,f,Y,g,gY,lY⟩:=m
  exact⟨_,_,fc h X Y a b c d e f (-1) false g gY,rfl,StepN.refl _⟩
def FNx(call:CallE):Prop:=∀h X ek,NxA h X ek->X<h.next->Does call ek.nx [.ptr X 0] h fun v h'=>v=.int .u8 (pcK ek.tag 0)∧StepN h h'
theorem meth_nx(P:Program)[pt:PT P](g:Nat->Option AO)(ek:EK)(X:Nat):methA P g 8 ek.ot (.ptr X 0) "Next"=some (ek.nx,.ptr X 0):=by
 cases ek with
 |full G N B=>exact pt.nxA g X
 |each G N F=>exact pt.nxB g X
 |gate G S nb Sx=>exact pt.nxC g X
theorem w370(hN:FNx call){h:H}{X Q:Nat}{ek:EK}(gQ:h.t.get Q=some (rowL [.ifc ek.ot (.ptr X 0)] 209))(m:NxA h X ek)(lX:X<h.next):WF P call c370 [.ptr Q 0] h fun v h'=>v=.int .u8 (pcK ek.tag 0)∧StepN h h':=by
 have me:=fun g=>meth_nx P g ek X
 have nk:¬1099511627776<=ek.nx:=by cases ek<;>(simp only[EK.nx];decide)
 simp only[go_sem,seval,gQ,me,nk]
 refine opt_by (hN h X ek m lX) fun v1 h1 p1=>?_
 obtain⟨rfl,st⟩:=p1
 simp only[go_sem,seval]
 exact st
def F370(call:CallE):Prop:=∀h X Q ek,h.t.get Q=some (rowL [.ifc (EK.ot ek) (.ptr X 0)] 209)->NxA h X ek->X<h.next->Does call 370 [.ptr Q 0] h fun v h'=>v=.int .u8 (pcK ek.tag 0)∧StepN h h'
theorem w369(h370:F370 call){h:H}{X Q Z:Nat}{ek:EK}{a b c:AV}(gZ:h.t.get Z=some (rowL [.ptr Q 0,a,b,c] 103))(gQ:h.t.get Q=some (rowL [.ifc ek.ot (.ptr X 0)] 209))(m:NxA h X ek)(lX:X<h.next):WF P call c369 [.ptr Z 0] h fun v h'=>v=.int .u8 (pcK ek.tag 0)∧StepN h h':=by
 simp only[go_sem,seval,gZ]
 refine opt_by (h370 h X Q ek gQ m lX) fun v1 h1 p1=>?_
 obtain⟨rfl,st⟩:=p1
 simp only[go_sem,seval]
 exact st
def NxZ(h:H)(Z:Nat)(ek:EK):Prop:=∃X Q a b c,h.t.get Z=some (rowL [.ptr Q 0,a,b,c] 103)∧h.t.get Q=some (rowL [.ifc ek.ot (.ptr X 0)] 209)∧NxA h X ek∧X<h.next∧Q<h.next∧Z<h.next
theorem NxZ.step{h h':H}{Z:Nat}{ek:EK}(m:NxZ h Z ek)(s:StepN h h'):NxZ h' Z ek:=by
 obtain⟨X,Q,a,b,c,gZ,gQ,nx,lX,lQ,lZ⟩:=m
 exact⟨X,Q,a,b,c,(s.old Z lZ).trans gZ,(s.old Q lQ).trans gQ,nx.step lX s,Nat.lt_of_lt_of_le lX s.next,Nat.lt_of_lt_of_le lQ s.next,Nat.lt_of_lt_of_le lZ s.next⟩
def F369(call:CallE):Prop:=∀h Z ek,NxZ h Z ek->Does call 369 [.ptr Z 0] h fun v h'=>v=.int .u8 (pcK ek.tag 0)∧StepN h h'
theorem w8g(h27:F27g call){h:H}{a:AdA}{n bs:Nat}{ek:EK}{nu:List Int}{t u:Int}{s:Nat}{lv ev:AV}{ws:List Int}{l:List AccT}{es:List EvT}(sa:SA h a ek n lv ev ws l es)(m:EngA h a.M n bs nu ek)(vs:VS a ek)(hn:n<=64)(hb:bs<=5000)(t0:0<=t)(t1:t<64)(u0:0<=u)(u1:u<64)(hs:s<n)(hx:nu[s]?=some 0):
 WF P call c8 [.ptr a.A 0,.int .i64 t,.int .i64 (s:Int),.int .i64 u] h fun v h'=>∃Z,v=.tup [.ptr Z 0,.int .i64 0]∧h.next<=Z∧NxZ h' Z ek∧SA h' a ek n lv ev ws l es∧Tch (fun b=>engM ek b∨b=a.V) h h':=by
 have gA:=sa.gA
 simp only[go_sem,seval,gA]
 refine opt_by (h27 h a.M a.R n bs ek a.kd nu t u s sa.gR m hn hb t0 t1 u0 u1 hs hx) fun v1 h1 p1=>?_
 obtain⟨X,Q,rfl,⟨oX,lX,nx,st⟩,oQ,lQ,gQ⟩:=p1
 obtain⟨mv,clk,gV,iV⟩:=sa.gV
 have offk:∀b,saF a lv ev b->¬engM ek b:=fun b hb hm=>by
  obtain⟨o1,o2⟩:=m.offM hm
  rcases hb with(rfl|rfl|q)|rfl|q|rfl|rfl
  ·have:=o1 _ _ _ sa.mm.g;revert this;decide
  ·have:=o1 _ _ _ sa.mm.w;revert this;decide
  ·obtain⟨c,k,g⟩:=own_row sa.mm.l q
   have:=o1 _ _ _ g;revert this;decide
  ·have:=o1 _ _ _ sa.gA;revert this;decide
  ·obtain⟨c,k,g⟩:=own_row sa.oe q
   have:=o1 _ _ _ g;revert this;decide
  ·obtain⟨G,S,nb,Sx,rfl,q⟩:=o2 _ _ gV
   exact vs (.inr (.inl q))
  ·have:=o1 _ _ _ sa.gR;revert this;decide
 have sa1:=sa.keep st.next fun b lb hb=>st.old b lb (offk b hb)
 have gA1:=sa1.gA
 have gV1:=(st.old a.V sa.lV (offk _ (.inr (.inr (.inr (.inl rfl)))))).trans gV
 obtain⟨r,hr⟩:=findA_ok (k:=(s:Int)) (i:=0) iV
 have kA:keyA 0 (.int .i64 (s:Int))=true:=rfl
 have AV':¬a.A=a.V:=fun q=>by
  have g:=sa.gA
  rw[q,gV]at g
  cases g
 have nV:∀b,memS a.M a.W lv b∨b=a.A∨own ev=some b∨b=a.R->¬b=a.V:=fun b hb q=>by
  rw[q]at hb
  rcases hb with(hb|hb|hb)|hb|hb|hb
  ·have g:=sa.mm.g;rw[←hb,gV]at g;cases g
  ·have g:=sa.mm.w;rw[←hb,gV]at g;cases g
  ·obtain⟨c,k,g⟩:=own_row sa.mm.l hb
   rw[gV]at g;cases g
  ·exact AV' hb.symm
  ·obtain⟨c,k,g⟩:=own_row sa.oe hb
   rw[gV]at g;cases g
  ·have g:=sa.gR;rw[←hb,gV]at g;cases g
 have sN:=st.next
 have lV:=sa.lV
 have fin:∀m' k',(∀q∈m',∃i:Int,q.1=AV.int .i64 i)->∃Z,AV.tup [.ptr h1.next 0,.int .i64 0]=.tup [.ptr Z 0,.int .i64 0]∧h.next<=Z∧NxZ ⟨h1.next+1,(h1.t.set a.V (.map m' k')).set h1.next (.row (putList 0 [.ptr Q 0,.ptr a.A 0,.int .i64 t,.int .i64 u] T.e) 4 103)⟩ Z ek∧SA ⟨h1.next+1,(h1.t.set a.V (.map m' k')).set h1.next (.row (putList 0 [.ptr Q 0,.ptr a.A 0,.int .i64 t,.int .i64 u] T.e) 4 103)⟩ a ek n lv ev ws l es∧Tch (fun b=>engM ek b∨b=a.V) h ⟨h1.next+1,(h1.t.set a.V (.map m' k')).set h1.next (.row (putList 0 [.ptr Q 0,.ptr a.A 0,.int .i64 t,.int .i64 u] T.e) 4 103)⟩:=fun m' k' im=>by
  have kp:∀b,b<h1.next->¬b=a.V->((h1.t.set a.V (.map m' k')).set h1.next (.row (putList 0 [.ptr Q 0,.ptr a.A 0,.int .i64 t,.int .i64 u] T.e) 4 103)).get b=h1.t.get b:=fun b lb hb=>by
   have q:¬b=h1.next:=by omega
   simp only[go_sem,seval,q,hb]
  have V1:¬a.V=h1.next:=by omega
  have nk:∀b,h.next<=b->b<h1.next->((h1.t.set a.V (.map m' k')).set h1.next (.row (putList 0 [.ptr Q 0,.ptr a.A 0,.int .i64 t,.int .i64 u] T.e) 4 103)).get b=h1.t.get b:=fun b o lb=>kp b lb (by omega)
  have nx1:NxA ⟨h1.next+1,(h1.t.set a.V (.map m' k')).set h1.next (.row (putList 0 [.ptr Q 0,.ptr a.A 0,.int .i64 t,.int .i64 u] T.e) 4 103)⟩ X ek:=by
   have gX:=nk X oX lX
   cases ek with
   |full G N B=>obtain⟨a,b,c,f,x,y,g⟩:=nx;exact⟨a,b,c,f,x,y,gX.trans g⟩
   |each G N F=>obtain⟨a,b,c,d,g⟩:=nx;exact⟨a,b,c,d,gX.trans g⟩
   |gate G S nb Sx=>
    obtain⟨a1,b,c,d,e,f,Y,g,gY,lY⟩:=nx
    refine⟨a1,b,c,d,e,f,Y,gX.trans g,(kp Y lY fun q=>?_).trans gY,Nat.lt_succ_of_lt lY⟩
    rw[q,gV1]at gY
    cases gY
  refine⟨h1.next,rfl,sN,⟨X,Q,_,_,_,by simp only[go_sem,seval];rfl,(nk Q oQ lQ).trans gQ,nx1,Nat.lt_succ_of_lt lX,Nat.lt_succ_of_lt lQ,Nat.lt_succ_self _⟩,⟨sa1.mm.keep (Nat.le_succ _) fun b lb hb=>kp b lb (nV b (.inl hb)),(kp _ sa1.lA AV').trans gA1,sa1.oe.keep (Nat.le_succ _) fun b hb=>kp b (sa1.oe.lt hb) (nV b (.inr (.inr (.inl hb)))),⟨m',k',by simp[go_sem,V1],im⟩,(kp _ sa1.lR (nV _ (.inr (.inr (.inr rfl))))).trans sa1.gR,Nat.lt_succ_of_lt sa1.lA,Nat.lt_succ_of_lt sa1.lV,Nat.lt_succ_of_lt sa1.lR⟩,Nat.le_succ_of_le sN,fun b lb hb=>?_⟩
  exact(kp b (by omega) fun q=>hb (.inr q)).trans (st.old b lb fun q=>hb (.inl q))
 cases r with
 |none=>
  simp only[go_sem,seval,gA1,gV1,kA,hr,evM,AV']
  exact fin _ _ fun q hq=>by
   rcases List.mem_append.1 hq with hq|hq
   ·exact iV q hq
   ·rw[List.mem_singleton.1 hq]
    exact⟨_,rfl⟩
 |some r=>
  obtain⟨i,r⟩:=r
  simp only[go_sem,seval,gA1,gV1,kA,hr,evM,AV']
  exact fin _ _ fun q hq=>by
   rcases mem_mod hq with hq|⟨z,rfl⟩
   ·exact iV q hq
   ·exact⟨_,rfl⟩
def F8g(call:CallE):Prop:=∀h a (n bs:Nat) ek nu (t u:Int) (s:Nat) lv ev ws l es,SA h a ek n lv ev ws l es->EngA h a.M n bs nu ek->VS a ek->n<=64->bs<=5000->0<=t->t<64->0<=u->u<64->s<n->nu[s]?=some 0->Does call 8 [.ptr a.A 0,.int .i64 t,.int .i64 (s:Int),.int .i64 u] h fun v h'=>∃Z,v=.tup [.ptr Z 0,.int .i64 0]∧h.next<=Z∧NxZ h' Z ek∧SA h' a ek n lv ev ws l es∧Tch (fun b=>engM ek b∨b=a.V) h h'
end
end Go.Proofs.YtghmnaojmpjglaaGreatDoor.PR
namespace Go.Proofs.YtghmnaojmpjglaaGreatDoor.PR
open Go.Proofs.YtghmnaojmpjglaaGreatDoor.Eo
noncomputable section
def NxB(h:H)(X:Nat):RK->Prop
 | .full _ _=>∃a b c,h.t.get X=some (rowL [a,b,c,.bool false] 367)
 | .each _ _=>∃a b c d,h.t.get X=some (rowL [a,b,c,d,.int .u8 14] 370)
 | .gate _ _=>∃a b c,h.t.get X=some (rowL [a,b,c,.int .u8 15] 377)
theorem NxB.step{h h':H}{X:Nat}{rk:RK}(m:NxB h X rk)(k:h'.t.get X=h.t.get X):NxB h' X rk:=by
 cases rk with
 |full G N=>obtain⟨a,b,c,g⟩:=m;exact⟨a,b,c,k.trans g⟩
 |each G N=>obtain⟨a,b,c,d,g⟩:=m;exact⟨a,b,c,d,k.trans g⟩
 |gate G nb=>obtain⟨a,b,c,g⟩:=m;exact⟨a,b,c,k.trans g⟩
def EntB(rk:RK)(h:H)(X:Nat)(h':H):Prop:=h.next<=X∧X<h'.next∧NxB h' X rk∧Tch (rkM rk) h h'
theorem nextRK{call:CallE}(fa:F176 call)(fb:F177 call)(fc:F178 call){h:H}{X:Nat}{rk:RK}(m:NxB h X rk):call rk.nx [.ptr X 0] h=some (.int .u8 (pcK rk.tag 0),h):=by
 cases rk with
 |full G N=>obtain⟨a,b,c,g⟩:=m;exact fa h X a b c false g
 |each G N=>obtain⟨a,b,c,d,g⟩:=m;exact fb h X a b c d 14 g
 |gate G nb=>obtain⟨a,b,c,g⟩:=m;exact fc h X a b c 15 g
theorem w175g(P:Program){call:CallE}(h34:F34 call){h:H}{t s u n:Int}{b:Bool}(t0:0<=t)(t1:t<64)(u0:0<=u)(u1:u<64)(s0:0<=s)(s1:s<n):WF P call c175 [.int .i64 t,.int .i64 s,.int .i64 u,.int .i64 n,.bool b] h fun v h'=>v=.int .i64 (if b then 8 else 0)∧h'=h:=by
 have k:=h34 h t
 have e:0<=t∧t<64:=⟨t0,t1⟩
 have e1:¬s<0:=by omega
 have v1:¬u<0:=by omega
 cases b with
 |true=>simp only[go_sem,seval,k,e,e1,s1,v1,u1]
 |false=>simp only[go_sem,seval,k,e,e1,s1,v1,u1]
def F175g(call:CallE):Prop:=∀h (t s u n:Int) (b:Bool),0<=t->t<64->0<=u->u<64->0<=s->s<n->call 175 [.int .i64 t,.int .i64 s,.int .i64 u,.int .i64 n,.bool b] h=some (.int .i64 (if b then 8 else 0),h)
section
variable {h:H} {M n bs nb G N:Nat} {nu:List Int} {t u:Int} {s:Nat}
theorem w97g(P:Program)[PT P]{call:CallE}(h175:F175g call)(t0:0<=t)(t1:t<64)(u0:0<=u)(u1:u<64)(hx:nu[s]?=some 0)(m:TriE h M n bs G N 362 (tZ nu)):
 WF P call c97 [.ptr G 0,.int .i64 t,.int .i64 (s:Int),.int .i64 u] h fun v h'=>∃X,v=.tup [.ptr X 0,.int .i64 0]∧EntB (.full G N) h X h':=by
 have gG:=m.gG
 have gN:=m.gN
 have hx0:=tZ_get hx
 have hs:s<n:=by rw[←m.ln];exact(List.getElem?_eq_some_iff.1 hx0).1
 have hcl:(triC (tZ nu)).length=n*3:=by rw[triC_len,m.ln]
 have hs1:s*3+1<(triC (tZ nu)).length:=by omega
 have hs2:s*3+1+1<=n*3:=by omega
 have hs3:s*3+1<n*3:=by omega
 obtain⟨g0,g1,g2⟩:=triC_get _ s 0 _ _ hx0
 have e0:(0:Int)<=(s:Int):=by omega
 have e3:¬(s:Int)<0:=by omega
 have e1:(s:Int)<(n:Int):=by omega
 have k0:call 175 [.int .i64 t,.int .i64 (s:Int),.int .i64 u,.int .i64 (n:Int),.bool false] h=some (.int .i64 0,h):=h175 h t s u n false t0 t1 u0 u1 e0 e1
 have GN:¬G=N:=rowL_ne gG gN (by decide)
 simp only[go_sem,seval,gG,e3,e1,gN,g1,hcl,hs1,hs2,hs3,k0]
 refine⟨_,rfl,Nat.le_refl _,Nat.lt_succ_self _,⟨_,_,_,by simp only[go_sem,seval];rfl⟩,Nat.le_succ _,fun b hb hn=>?_⟩
 have n4:¬b=h.next:=by omega
 have n5:¬b=N:=fun e=>hn e
 simp only[go_sem,seval,n4,n5]
theorem w98g(P:Program)[PT P]{call:CallE}(h175:F175g call)(t0:0<=t)(t1:t<64)(u0:0<=u)(u1:u<64)(hx:nu[s]?=some 0)(m:TriE h M n bs G N 368 (tZ nu)):
 WF P call c98 [.ptr G 0,.int .i64 t,.int .i64 (s:Int),.int .i64 u] h fun v h'=>∃X,v=.tup [.ptr X 0,.int .i64 0]∧EntB (.each G N) h X h':=by
 have gG:=m.gG
 have gN:=m.gN
 have hx0:=tZ_get hx
 have hs:s<n:=by rw[←m.ln];exact(List.getElem?_eq_some_iff.1 hx0).1
 have hcl:(triC (tZ nu)).length=n*3:=by rw[triC_len,m.ln]
 have hs1:s*3+1<(triC (tZ nu)).length:=by omega
 have hs2:s*3+1+1<=n*3:=by omega
 have hs3:s*3+1<n*3:=by omega
 obtain⟨g0,g1,g2⟩:=triC_get _ s 0 _ _ hx0
 have e0:(0:Int)<=(s:Int):=by omega
 have e3:¬(s:Int)<0:=by omega
 have e1:(s:Int)<(n:Int):=by omega
 have k0:call 175 [.int .i64 t,.int .i64 (s:Int),.int .i64 u,.int .i64 (n:Int),.bool false] h=some (.int .i64 0,h):=h175 h t s u n false t0 t1 u0 u1 e0 e1
 have GN:¬G=N:=rowL_ne gG gN (by decide)
 simp only[go_sem,seval,gG,e3,e1,gN,g1,hcl,hs1,hs2,hs3,k0]
 refine⟨_,rfl,Nat.le_refl _,Nat.lt_succ_self _,⟨_,_,_,_,by simp only[go_sem,seval];rfl⟩,Nat.le_succ _,fun b hb hn=>?_⟩
 have n4:¬b=h.next:=by omega
 have n5:¬b=N:=fun e=>hn e
 simp only[go_sem,seval,n4,n5]
theorem w99g(P:Program)[PT P]{call:CallE}(h175:F175g call)(t0:0<=t)(t1:t<64)(u0:0<=u)(u1:u<64)(hx:nu[s]?=some 0)(hs:s<64)(m:GatR h M bs nb G (gZ nu)):
 WF P call c99 [.ptr G 0,.int .i64 t,.int .i64 (s:Int),.int .i64 u] h fun v h'=>∃X,v=.tup [.ptr X 0,.int .i64 0]∧EntB (.gate G nb) h X h':=by
 have gG:=m.gG
 have hx0:=gZ_get hx hs
 have hcl:(gC M bs nb (gZ nu)).length=259:=gC_len m.ln
 obtain⟨c0,c1,c2⟩:=gC_0 M bs nb (gZ nu)
 obtain⟨d0,d1,d2⟩:=gC_0 M bs nb ((gZ nu).set s (true,false))
 obtain⟨g0,g1,g2,g3⟩:=gC_get (M:=M) (bs:=bs) (nb:=nb) hx0
 have hst:=(gC_set (M:=M) (bs:=bs) (nb:=nb) hx0).1
 have hcl1:(gC M bs nb ((gZ nu).set s (true,false))).length=259:=gC_len (by rw[List.length_set];exact m.ln)
 have b1:3+s*4<259:=by omega
 have b2:3+(s*4+1)<=259:=by omega
 have b3:3+(s*4+2)<259:=by omega
 have b4:3+(s*4+2+1)<=259:=by omega
 have e0:(0:Int)<=(s:Int):=by omega
 have e3:¬(s:Int)<0:=by omega
 have e1:(s:Int)<64:=by omega
 have k0:call 175 [.int .i64 t,.int .i64 (s:Int),.int .i64 u,.int .i64 64,.bool false] h=some (.int .i64 0,h):=h175 h t s u 64 false t0 t1 u0 u1 e0 e1
 have nb1:=m.nb1
 have z:¬(nb:Int)=0:=by omega
 have dz:decide ((0:Int)=1)=false:=rfl
 rw[dz]at hst
 simp only[go_sem,seval,gG,e3,e1,g0,hcl,hst,k0,z,c0,c1,c2,d0,d1,d2,b1,b2,b3,b4,hcl1]
 refine⟨_,rfl,Nat.le_refl _,Nat.lt_succ_self _,⟨_,_,_,by simp only[go_sem,seval];rfl⟩,Nat.le_succ _,fun b hb hn=>?_⟩
 have n4:¬b=h.next:=by omega
 have n5:¬b=G:=fun e=>hn e
 simp only[go_sem,seval,n4,n5]
end
end
end Go.Proofs.YtghmnaojmpjglaaGreatDoor.PR
namespace Go.Proofs.YtghmnaojmpjglaaGreatDoor.PR
open Go.Proofs.YtghmnaojmpjglaaGreatDoor.Eo
noncomputable section
variable(P:Program)[PT P]{call:CallE}
def F97g(call:CallE):Prop:=∀h M n bs G N nu (t u:Int) (s:Nat),0<=t->t<64->0<=u->u<64->nu[s]?=some 0->TriE h M n bs G N 362 (tZ nu)->Does call 97 [.ptr G 0,.int .i64 t,.int .i64 (s:Int),.int .i64 u] h fun v h'=>∃X,v=.tup [.ptr X 0,.int .i64 0]∧EntB (.full G N) h X h'
def F98g(call:CallE):Prop:=∀h M n bs G N nu (t u:Int) (s:Nat),0<=t->t<64->0<=u->u<64->nu[s]?=some 0->TriE h M n bs G N 368 (tZ nu)->Does call 98 [.ptr G 0,.int .i64 t,.int .i64 (s:Int),.int .i64 u] h fun v h'=>∃X,v=.tup [.ptr X 0,.int .i64 0]∧EntB (.each G N) h X h'
def F99g(call:CallE):Prop:=∀h M bs nb G nu (t u:Int) (s:Nat),0<=t->t<64->0<=u->u<64->nu[s]?=some 0->s<64->GatR h M bs nb G (gZ nu)->Does call 99 [.ptr G 0,.int .i64 t,.int .i64 (s:Int),.int .i64 u] h fun v h'=>∃X,v=.tup [.ptr X 0,.int .i64 0]∧EntB (.gate G nb) h X h'
theorem rawEBg{call:CallE}(fa:F97g call)(fb:F98g call)(fc:F99g call){h:H}{M n bs:Nat}{rk:RK}{nu:List Int}{t u:Int}{s:Nat}(m:EngB h M n bs nu rk)(hn:n<=64)(t0:0<=t)(t1:t<64)(u0:0<=u)(u1:u<64)(hx:nu[s]?=some 0):
 Does call rk.en [.ptr rk.G 0,.int .i64 t,.int .i64 (s:Int),.int .i64 u] h fun v h'=>∃X,v=.tup [.ptr X 0,.int .i64 0]∧EntB rk h X h':=by
 cases rk with
 |full G N=>exact fa h M n bs G N nu t u s t0 t1 u0 u1 hx m
 |each G N=>exact fb h M n bs G N nu t u s t0 t1 u0 u1 hx m
 |gate G nb=>
  have:=(List.getElem?_eq_some_iff.1 hx).1
  have ln:=m.1
  exact fc h M bs nb G nu t u s t0 t1 u0 u1 hx (by omega) m.2
def FRwg(call:CallE):Prop:=∀h M n bs rk nu (t u:Int) (s:Nat),EngB h M n bs nu rk->n<=64->0<=t->t<64->0<=u->u<64->nu[s]?=some 0->Does call rk.en [.ptr rk.G 0,.int .i64 t,.int .i64 (s:Int),.int .i64 u] h fun v h'=>∃X,v=.tup [.ptr X 0,.int .i64 0]∧EntB rk h X h'
theorem w28g(h34:F34 call)(hRw:FRwg call){h:H}{M R n bs:Nat}{rk:RK}{nu:List Int}{t u:Int}{s:Nat}(gR:h.t.get R=some (rk.row n))(lR:R<h.next)(m:EngB h M n bs nu rk)(hn:n<=64)(t0:0<=t)(t1:t<64)(u0:0<=u)(u1:u<64)(hs:s<n)(hx:nu[s]?=some 0):
 WF P call c28 [.ptr R 0,.int .i64 t,.int .i64 (s:Int),.int .i64 u] h fun v h'=>∃X Q,v=.tup [.ptr Q 0,.int .i64 0]∧EntB rk h X h'∧h.next<=Q∧Q<h'.next∧h'.t.get Q=some (rk.run X):=by
 have k1:=h34 h t
 have e:0<=t∧t<64:=⟨t0,t1⟩
 have e1:¬(s:Int)<0:=by omega
 have e2:¬(n:Int)<=(s:Int):=by omega
 have e3:(s:Int)<(n:Int):=by omega
 have R1:¬R=h.next:=by omega
 have st0:=StepN.new h (.row (putList 0 [.nilp,.nilp,.nilp,.nilp,.nilp,.nilp] T.e) 6 222)
 have hr:=hRw _ M n bs rk nu t u s (m.step st0) hn t0 t1 u0 u1 hx
 have fin:∀(h1:H) (o:AO) X,EntB rk ⟨h.next+1,h.t.set h.next (.row (putList 0 [.nilp,.nilp,.nilp,.nilp,.nilp,.nilp] T.e) 6 222)⟩ X h1->o=rk.run X->∃X' Q,AV.tup [.ptr h.next 0,.int .i64 0]=.tup [.ptr Q 0,.int .i64 0]∧EntB rk h X' ⟨h1.next,h1.t.set h.next o⟩∧h.next<=Q∧Q<h1.next∧(if Q=h.next then some o else h1.t.get Q)=some (rk.run X'):=fun h1 o X p ho=>by
  obtain⟨oX,lX,nx,st⟩:=p
  have n1:h.next+1<=h1.next:=st.next
  have o1:h.next+1<=X:=oX
  have q1:¬X=h.next:=by omega
  refine⟨X,h.next,rfl,⟨by omega,lX,nx.step (by simp[go_sem,q1]),by show h.next<=h1.next;omega,fun b lb hb=>?_⟩,Nat.le_refl _,by omega,by rw[if_pos rfl,ho]⟩
  have q:¬b=h.next:=by omega
  simp only[go_sem,seval,q]
  exact(st.old b (by show b<h.next+1;omega) hb).trans (st0.old b lb)
 have gq:∀h1:H,Tch (rkM rk) ⟨h.next+1,h.t.set h.next (.row (putList 0 [.nilp,.nilp,.nilp,.nilp,.nilp,.nilp] T.e) 6 222)⟩ h1->h1.t.get h.next=some (.row (putList 0 [.nilp,.nilp,.nilp,.nilp,.nilp,.nilp] T.e) 6 222):=fun h1 st=>by
  rw[st.old h.next (Nat.lt_succ_self _) fun q=>by have:=(m.ty q).2;omega]
  simp only[go_sem,seval]
 cases rk with
 |full G N=>
  unfold RK.row at gR
  simp only[go_sem,seval,k1,e,e1,e2,e3,gR,R1]
  refine opt_by hr fun v1 h1 p1=>?_
  obtain⟨X,rfl,p⟩:=p1
  have gQ:=gq h1 p.2.2.2
  simp only[go_sem,seval,gQ]
  exact fin h1 _ X p rfl
 |each G N=>
  unfold RK.row at gR
  simp only[go_sem,seval,k1,e,e1,e2,e3,gR,R1]
  refine opt_by hr fun v1 h1 p1=>?_
  obtain⟨X,rfl,p⟩:=p1
  have gQ:=gq h1 p.2.2.2
  simp only[go_sem,seval,gQ]
  exact fin h1 _ X p rfl
 |gate G nb=>
  unfold RK.row at gR
  simp only[go_sem,seval,k1,e,e1,e2,e3,gR,R1]
  refine opt_by hr fun v1 h1 p1=>?_
  obtain⟨X,rfl,p⟩:=p1
  have gQ:=gq h1 p.2.2.2
  simp only[go_sem,seval,gQ]
  exact fin h1 _ X p rfl
def F28g(call:CallE):Prop:=∀h M R (n bs:Nat) rk nu (t u:Int) (s:Nat),h.t.get R=some (rk.row n)->R<h.next->EngB h M n bs nu rk->n<=64->0<=t->t<64->0<=u->u<64->s<n->nu[s]?=some 0->Does call 28 [.ptr R 0,.int .i64 t,.int .i64 (s:Int),.int .i64 u] h fun v h'=>∃X Q,v=.tup [.ptr Q 0,.int .i64 0]∧EntB rk h X h'∧h.next<=Q∧Q<h'.next∧h'.t.get Q=some (RK.run rk X)
def NxY(h:H)(Z:Nat)(rk:RK):Prop:=∃X Q a b c e f,h.t.get Z=some (rowL [a,.ptr Q 0,b,c,e,f] 108)∧h.t.get Q=some (rk.run X)∧NxB h X rk∧X<h.next∧Q<h.next∧Z<h.next
theorem NxY.step{h h':H}{Z:Nat}{rk:RK}(m:NxY h Z rk)(s:StepN h h'):NxY h' Z rk:=by
 obtain⟨X,Q,a,b,c,e,f,gZ,gQ,nx,lX,lQ,lZ⟩:=m
 exact⟨X,Q,a,b,c,e,f,(s.old Z lZ).trans gZ,(s.old Q lQ).trans gQ,nx.step (s.old X lX),Nat.lt_of_lt_of_le lX s.next,Nat.lt_of_lt_of_le lQ s.next,Nat.lt_of_lt_of_le lZ s.next⟩
theorem nextY{call:CallE}(h31:F31 call){h:H}{Z:Nat}{rk:RK}(m:NxY h Z rk):call 31 [.ptr Z 0] h=some (.int .u8 (pcK rk.tag 0),h):=by
 obtain⟨X,Q,a,b,c,e,f,gZ,gQ,nx,lX,lQ,lZ⟩:=m
 exact h31 h X Q Z rk _ a b c e f gZ gQ (pcK_in rk 0) (fun _ f1 f2 f3=>nextRK f1 f2 f3 nx)
theorem w9g(h28:F28g call){h:H}{a:AdB}{n bs:Nat}{rk:RK}{nu:List Int}{t u:Int}{s:Nat}{lv ev:AV}{ws:List Int}{l:List AccT}{es:List EvT}(sb:SB h a rk n lv ev ws l es)(m:EngB h a.M n bs nu rk)(hn:n<=64)(t0:0<=t)(t1:t<64)(u0:0<=u)(u1:u<64)(hs:s<n)(hx:nu[s]?=some 0):
 WF P call c9 [.ptr a.B 0,.int .i64 t,.int .i64 (s:Int),.int .i64 u] h fun v h'=>∃Z,v=.tup [.ptr Z 0,.int .i64 0]∧h.next<=Z∧NxY h' Z rk∧SB h' a rk n lv ev ws l es∧Tch (fun b=>rkM rk b∨b=a.V) h h':=by
 have gB:=sb.gB
 simp only[go_sem,seval,gB]
 refine opt_by (h28 h a.M a.R n bs rk nu t u s sb.gR sb.lR m hn t0 t1 u0 u1 hs hx) fun v1 h1 p1=>?_
 obtain⟨X,Q,rfl,⟨oX,lX,nx,st⟩,oQ,lQ,gQ⟩:=p1
 have offk:∀b,sbF a lv ev b->¬rkM rk b:=fun b hb hm=>by
  obtain⟨⟨c,k,ty,g,o1⟩,_⟩:=m.ty hm
  obtain⟨c',k',ty',g',o2⟩:=sb.ty hb
  obtain rfl:=ty_ne g g'
  rcases o1 with rfl|rfl<;>revert o2<;>decide
 have sb1:=sb.keep st.next fun b lb hb=>st.old b lb (offk b hb)
 have gB1:=sb1.gB
 obtain⟨cs,gV1,hcs⟩:=sb1.gV
 have e2:(s:Int)<(n:Int):=by omega
 have hs2:s+1<=n:=hs
 have BV:¬a.B=a.V:=rowL_ne gB1 gV1 (by decide)
 have V1:¬a.V=h1.next:=by have:=sb1.lV;omega
 have Q1:¬Q=h1.next:=by omega
 simp only[go_sem,seval,gB1,e2,Nat.mul_one,gV1,hcs,hs,hs2,BV]
 obtain⟨sb2,nV,kV,stV⟩:=sb1.setV (cs.set s (.int .i64 u)) (by rw[List.length_set];exact hcs)
 have lV:=sb.lV
 have sN:=st.next
 have stN:=StepN.new (⟨h1.next,h1.t.set a.V (.row (putList 0 (cs.set s (.int .i64 u)) T.e) n 3)⟩:H) (.row (putList 0 [.ptr a.B 0,.ptr Q 0,.int .i64 t,.int .i64 u,.int .u64 0,.bool false] T.e) 6 108)
 exact⟨h1.next,rfl,sN,⟨X,Q,_,_,_,_,_,by simp only[go_sem,seval];rfl,(stN.old Q lQ).trans ((kV Q (by omega)).trans gQ),nx.step ((stN.old X lX).trans (kV X (by omega))),Nat.lt_succ_of_lt lX,Nat.lt_succ_of_lt lQ,Nat.lt_succ_self _⟩,sb2.step stN,Nat.le_succ_of_le sN,fun b lb hb=>(stN.old b (by show b<h1.next;omega)).trans ((kV b fun q=>hb (.inr q)).trans (st.old b lb fun q=>hb (.inl q)))⟩
def F9g(call:CallE):Prop:=∀h a (n bs:Nat) rk nu (t u:Int) (s:Nat) lv ev ws l es,SB h a rk n lv ev ws l es->EngB h a.M n bs nu rk->n<=64->0<=t->t<64->0<=u->u<64->s<n->nu[s]?=some 0->Does call 9 [.ptr a.B 0,.int .i64 t,.int .i64 (s:Int),.int .i64 u] h fun v h'=>∃Z,v=.tup [.ptr Z 0,.int .i64 0]∧h.next<=Z∧NxY h' Z rk∧SB h' a rk n lv ev ws l es∧Tch (fun b=>rkM rk b∨b=a.V) h h'
@[go_sem]def c35:CF:=⟨1,(Sq [q5 2 27 0 0 0 0 0 0 0 0 0 0 0 0 0 0 0] (Qq (Sq [a 3 0,u 4 30 3] (Kq 4 [z1 5 0 0 0 0 0 0 0 0 0 0 0 0 0 0 0,t 16 2 5] .skip)) (Rq [a 6 0,m 7 6,d 8 0 7,d 9 0 8,i 10 9,q 11 108 10,t 16 2 11]))),[(.cell 2 (some 16))]⟩
@[go_sem]def c150:CF:=⟨1,(Sq [p 2] (Qq (Sq [a 3 0,u 4 30 3] (Kq 4 [p 2] .skip)) (Rq [a 5 0,m 6 5,d 7 0 6,d 8 0 7,i 9 8,a 2 9]))),[.tmp 2]⟩
@[go_sem]def c38:CF:=⟨1,(Sq [p 2] (Qq (Sq [a 3 0,u 4 30 3] (Kq 4 [p 2] .skip)) (Rq [a 5 0,m 6 5,d 7 0 6,d 8 4 7,i 9 8,a 2 9]))),[.tmp 2]⟩
@[go_sem]def c110:CF:=⟨2,(Sq [b 4 0] (Rq [a 5 0,q 6 150 5,q 7 83 6,zJ 8 3 0 7,a 9 1,qf 10 3 8 9,a 4 10])),[.tmp 4]⟩
def c36_l12:CC:=(Sq [qb 16 3 15 14] (Qq (Cq 16 .skip (.exit 0)) (Qq (.block 1 (Sq [a 17 15,a 4 17] (Sq [a 18 3,a 19 4,E 20 1 18 19,z4 1 20 (-1)] (Sq [a 22 0,q 23 24 22,a 24 0,a 25 4,Z 26 110 24 25,Z 27 109 23 26,a 21 27,o 28 21 0,o 29 21 1,a 5 28,a 6 29] (Sq [a 30 5,zq 31 51 30 1,a 32 31,B 33 32 5,⟨some 34,some (32,true),.p (.bin .leq 51 false true (.t 33) (.c (.int .u64 64)))⟩,O 35 32 34] (Cq 35 (Oq [a 36 3,a 37 4,a 38 5,zr 39 38,qo 40 3 39 1,E 41 1 36 37,t 1 41 40]) .skip)))))) (Oq [C 42 3 15 1,a 15 42]))))
@[go_sem]def c36:CF:=⟨1,(Sq [D 2] (Qq (Sq [a 7 0,u 8 30 7] (Kq 8 [D 2] .skip)) (Sq [a 9 0,q 10 35 9,zJ 11 3 1 10,⟨some 12,none,.n (.mksl 3 1 8 [.int .i64 0] (.t 11) (.t 11))⟩,a 3 12] (Qq (Sq [a 13 3,A 14 13,b 15 0] (.block 0 (.loop c36_l12))) (Rq [a 43 3,a 2 43]))))),[.tmp 2]⟩
def c111_l7:CC:=(Sq [qb 9 3 8 7] (Qq (Cq 9 .skip (.exit 0)) (Qq (.block 1 (Sq [a 10 8,a 5 10] (Sq [a 11 1,a 12 0,a 13 5,E 14 1 12 13,i 15 14,zd 16 3 11 15] (Kq 16 [a 17 5,a 4 17] .skip)))) (Oq [C 18 3 8 1,a 8 18]))))
@[go_sem]def c111:CF:=⟨2,(Sq [b 4 0] (Qq (Sq [a 6 0,A 7 6,b 8 0] (.block 0 (.loop c111_l7))) (Rq [b 4 (-1)]))),[.tmp 4]⟩
@[go_sem]def c37:CF:=⟨2,(Sq [G 4] (Rq [a 5 0,a 6 1,Z 7 111 5 6,qC 8 3 7 0,a 4 8])),[.tmp 4]⟩
@[go_sem]def c39:CF:=⟨1,(Sq [D 2] (Qq (Sq [a 3 0,u 4 94 3] (Kq 4 [D 2] .skip)) (Rq [a 5 0,m 6 5,d 7 0 6,i 8 7,⟨some 9,none,.ci (.t 8) "Open" []⟩,a 2 9]))),[.tmp 2]⟩
def c40_l15:CC:=(Sq [qb 31 3 30 29] (Qq (Cq 31 .skip (.exit 1)) (Qq (.block 2 (Sq [E 32 1 28 30,i 33 32,a 9 33] (Sq [a 34 9,a 35 1,zf 36 51 34 35] (Cq 36 (Oq [a 37 7,C 38 3 37 1,a 7 38]) .skip)))) (Oq [C 39 3 30 1,a 30 39]))))
@[go_sem]def c40:CF:=⟨2,(Sq [w 2 24 0,b 4 0,b 5 0] (Qq (Sq [V 10 3 2,q 11 112 10,a 6 11] (Sq [a 12 6,z 13 54 12 0] (Kq 13 [a 14 6,b 4 0,a 5 14] .skip))) (Qq (Sq [d 15 0 2,i 16 15] (.block 0 (Sq [J 18 5 16 2,a 17 18] (Kq 17 [a 19 1,d 20 1 2,i 21 20,qX 22 21,zb 23 51 19 22,zr 24 23,a 4 24,b 5 0] (Sq [J 26 5 16 3,a 25 26] (Cq 25 (Sq [b 7 0] (Qq (Sq [d 27 2 2,i 28 27,A 29 28,b 30 0] (.block 1 (.loop c40_l15))) (Rq [a 40 7,a 4 40,b 5 0]))) .skip)))))) (Rq [b 4 0,b 5 0])))),[.tmp 4,.tmp 5]⟩
structure BH(h:H)(A:Nat)(c:CfgT)(M R:Nat):Prop where
 ex:∃L Po To ev V G,h.t.get A=some (rowL [.ptr L 0,.ptr M 0,.ptr Po 0,.ptr To 0,.ptr R 0,.nils,ev,.map V,.map G] 100)∧LayH h L c (plOf c) (hsL c)
 lt:A<h.next
theorem BH.step{h h':H}{A:Nat}{c:CfgT}{M R:Nat}(m:BH h A c M R)(s:StepN h h'):BH h' A c M R:=by
 obtain⟨L,Po,To,ev,V,G,g,hL⟩:=m.ex
 exact⟨⟨L,Po,To,ev,V,G,(s.old A m.lt).trans g,hL.step s⟩,Nat.lt_of_lt_of_le m.lt s.next⟩
def CfgV(c:CfgT)(v:AV)(h h':H):Prop:=(∃cv,v=.agg (cfgC c cv)∧RdL none 1 h' cv (uL c.cuts)∧∀a,own cv=some a->h.next<=a∧a<h'.next)∧StepN h h'
theorem w108r(h59:F154 call){h:H}{L:Nat}{c:CfgT}{p:PlT}{hs:List Int}(hL:LayH h L c p hs)(hl:c.cuts.length<=1000):WF P call c108 [.ptr L 0] h fun v h'=>CfgV c v h h':=by
 obtain⟨cv,gv,hv,tv,val,g,r1,r2,r3,r4,o1,o2⟩:=hL.ex
 have hlt:=hL.lt
 have ov:=r1.one
 have x1:¬L=h.next:=by omega
 have m1:¬h.next+1=h.next:=by omega
 have m2:¬h.next=h.next+1:=by omega
 simp only[go_sem,seval,g,cfgC,plC,x1,m1,m2,ov]
 have st0:∀x y,StepN h ⟨h.next+2,((h.t.set h.next x).set (h.next+1) y)⟩:=fun x y=>⟨Nat.le_add_right _ _,fun b hb=>by
  have e1:¬b=h.next:=by omega
  have e2:¬b=h.next+1:=by omega
  simp only[go_sem,seval,e1,e2]⟩
 refine opt_by (h59 _ cv c.cuts (r1.keep fun b hb=>(st0 _ _).old b (r2 b hb)) (fun a ha=>by have:=r2 a ha;show a<h.next+2;omega) hl) fun v1 h1 p1=>?_
 have ov1:=p1.rd.one
 have g0:=p1.st.old h.next (by show h.next<h.next+2;omega)
 have g1:=p1.st.old (h.next+1) (by show h.next+1<h.next+2;omega)
 have nx:=p1.st.next
 simp only[go_sem,seval,m1,m2]at g0 g1 nx
 simp only[go_sem,seval,g0,g1,m1,m2,ov1]
 refine⟨⟨v1,rfl,p1.rd.keep fun b hb=>?_,fun a ha=>?_⟩,⟨by show h.next<=h1.next;omega,fun b hb=>?_⟩⟩
 ·have:=(p1.lo b hb).1
  have e0:h.next+2<=b:=this
  have e1:¬b=h.next:=by omega
  have e2:¬b=h.next+1:=by omega
  simp only[go_sem,seval,e1,e2]
 ·obtain⟨a1,a2⟩:=p1.lo a ha
  have a1':h.next+2<=a:=a1
  exact⟨by omega,a2⟩
 have e1:¬b=h.next:=by omega
 have e2:¬b=h.next+1:=by omega
 have g2:=p1.st.old b (by show b<h.next+2;omega)
 simp only[go_sem,seval,e1,e2]at g2
 simp only[go_sem,seval,e1,e2,g2]
def F108r(call:CallE):Prop:=∀h L c p hs,LayH h L c p hs->c.cuts.length<=1000->Does call 108 [.ptr L 0] h fun v h'=>CfgV c v h h'
theorem w35r(h84:F108r call){h:H}{A:Nat}{c:CfgT}{M R:Nat}(hb:BH h A c M R)(hl:c.cuts.length<=1000):WF P call c35 [.ptr A 0] h fun v h'=>CfgV c v h h':=by
 obtain⟨L,Po,To,ev,V,G,g,hL⟩:=hb.ex
 have lt:=hb.lt
 have x1:¬A=h.next:=by omega
 simp only[go_sem,seval,g,x1]
 have st0:=StepN.new h (.row (putList 0 [.int .i64 0,.int .i64 0,.int .u8 0,.int .i64 0,.int .u8 0,.int .i64 0,.nils,.int .i64 0,.int .i64 0,.int .i64 0,.int .i64 0,.int .i64 0,.int .i64 0,.int .i64 0,.int .i64 0,.int .i64 0] T.e) 16 27)
 refine opt_by (h84 _ L c _ _ (hL.step st0) hl) fun v1 h1 p1=>?_
 obtain⟨⟨cv,rfl,rd,lo⟩,st1⟩:=p1
 have ov:=rd.one
 have g1:=st1.old h.next (Nat.lt_succ_self _)
 simp only[go_sem,seval]at g1
 have nx:h.next<h1.next:=st1.next
 simp only[go_sem,seval,g1,cfgC,ov]
 refine⟨⟨cv,rfl,rd.keep fun b hb=>?_,fun a ha=>?_⟩,by show h.next<=h1.next;omega,fun b hb=>?_⟩
 ·have e0:h.next+1<=b:=(lo b hb).1
  have e1:¬b=h.next:=by omega
  simp only[go_sem,seval,e1]
 ·have e0:h.next+1<=a:=(lo a ha).1
  exact⟨by omega,(lo a ha).2⟩
 ·have e1:¬b=h.next:=by omega
  have:=st1.old b (by show b<h.next+1;omega)
  simp only[go_sem,seval,e1]at this
  simp only[go_sem,seval,e1,this]
def F35(call:CallE):Prop:=∀h A c M R,BH h A c M R->c.cuts.length<=1000->Does call 35 [.ptr A 0] h fun v h'=>CfgV c v h h'
theorem w150{h:H}{A:Nat}{c:CfgT}{M R:Nat}(hb:BH h A c M R):WF P call c150 [.ptr A 0] h fun v h'=>(∃L,v=.ptr L 0∧LayH h L c (plOf c) (hsL c))∧h'=h:=by
 obtain⟨L,Po,To,ev,V,G,g,hL⟩:=hb.ex
 simp only[go_sem,seval,g]
 exact⟨L,rfl,hL⟩
def F150(call:CallE):Prop:=∀h A c M R,BH h A c M R->Does call 150 [.ptr A 0] h fun v h'=>(∃L,v=.ptr L 0∧LayH h L c (plOf c) (hsL c))∧h'=h
theorem w38{h:H}{A:Nat}{c:CfgT}{M R:Nat}(hb:BH h A c M R):WF P call c38 [.ptr A 0] h fun v h'=>v=.ptr R 0∧h'=h:=by
 obtain⟨L,Po,To,ev,V,G,g,hL⟩:=hb.ex
 simp only[go_sem,seval,g]
def F38(call:CallE):Prop:=∀h A c M R,BH h A c M R->call 38 [.ptr A 0] h=some (.ptr R 0,h)
theorem w110(h150:F150 call)(h83:F83 call){h:H}{A:Nat}{c:CfgT}{M R:Nat}(hb:BH h A c M R){s:Int}(s0:0<=s)(s1:s<=1000):WF P call c110 [.ptr A 0,.int .i64 s] h fun v h'=>v=.int .i64 s∧StepN h h':=by
 simp only[go_sem,seval]
 refine opt_by (h150 h A c M R hb) fun v1 h1 p1=>?_
 obtain⟨⟨L,rfl,hL⟩,rfl⟩:=p1
 simp only[go_sem,seval]
 refine opt_by (h83 h1 L c _ _ hL) fun v2 h2 p2=>?_
 obtain⟨rfl,st⟩:=p2
 have f1:fw .i64 s=s:=fwI (by omega) (by omega)
 have ho:(plOf c).ow=0:=rfl
 simp only[go_sem,seval,plC,part3,ho,Int.zero_add,f1]
 exact st
def F110(call:CallE):Prop:=∀h A c M R (s:Int),BH h A c M R->0<=s->s<=1000->Does call 110 [.ptr A 0,.int .i64 s] h fun v h'=>v=.int .i64 s∧StepN h h'
theorem fpeek_at{call:CallE}(f:FPeek call){h:H}{M W:Nat}{ws:List Int}(m:MemH h M W ws){i:Nat}{x:Int}(hx:ws[i]?=some x):call 109 [.ptr M 0,.int .i64 (i:Int)] h=some (.tup [.int .u64 x,.bool true],h):=by
 obtain⟨hi1,hi2⟩:=List.getElem?_eq_some_iff.1 hx
 have:=f h M W ws (i:Int) m
 rw[dif_pos ⟨by omega,by omega⟩]at this
 simp only[Int.toNat_natCast,hi2]at this
 exact this
def ownV(w:Int):Int:=if 1<=w∧w<=64 then w-1 else-1
def I36(h0:H)(O A:Nat)(n:Nat)(ws:List Int)(k:Nat)(tm:T AV)(h:H):Prop:=
 tm.get 0=some (.ptr A 0)∧tm.get 3=some (.sl O 0 n 1 (some n))∧tm.get 14=some (.int .i64 (n:Int))∧StepN h0 h∧h0.next<=O∧O<h.next∧∃(i:Nat) (cs:List AV),i+k=n∧tm.get 15=some (.int .i64 (i:Int))∧h.t.get O=some (.row (putList 0 cs T.e) n 3)∧cs.length=n∧(∀j x,j<i->ws[j]?=some x->cs[j]?=some (.int .i64 (ownV x)))
def R36(h0:H)(O:Nat)(n:Nat)(ws:List Int)(tm:T AV)(h:H):Prop:=
 tm.get 3=some (.sl O 0 n 1 (some n))∧StepN h0 h∧O<h.next∧h0.next<=O∧∃cs:List AV,h.t.get O=some (.row (putList 0 cs T.e) n 3)∧(∀j x,j<n->ws[j]?=some x->cs[j]?=some (.int .i64 (ownV x)))
def F24b(call:CallE):Prop:=∀h A c M R,BH h A c M R->call 24 [.ptr A 0] h=some (.ptr M 0,h)
theorem step36(P:Program){call:CallE}(h24:F24b call)(h110:F110 call)(hpk:FPeek call){h0:H}{O A:Nat}{c:CfgT}{M W R:Nat}{ws:List Int}{n:Nat}(hn:n<=64)(hb:BH h0 A c M R)(m:MemH h0 M W ws)(hM:M<h0.next)(hW:W<h0.next)(hw:n<=ws.length)(k:Nat)(tm:T AV)(h:H)(hI:I36 h0 O A n ws k tm h):
 WC P call c36_l12 (loopQ 0 (fun tm h=>∃j,j<k∧I36 h0 O A n ws j tm h) (R36 h0 O n ws) (fun _ _=>False)) tm h:=by
 obtain⟨t0,t3,t14,st,hO,lO,i,cs,hik,t15,gO,hcl,hcs⟩:=hI
 cases k with
 |zero=>
  have e1:¬(i:Int)<(n:Int):=by omega
  obtain rfl:i=n:=by omega
  simp only[go_sem,seval,c36_l12,t14,t15,e1]
  exact⟨by simp[go_sem,t3],st,lO,hO,cs,gO,hcs⟩
 |succ k=>
  have e1:(i:Int)<(n:Int):=by omega
  have hi:i<n:=by omega
  have hi1:i+1<=n:=hi
  have f1:fw .i64 ((i:Int)+1)=(i:Int)+1:=fwI (by omega) (by omega)
  have e3:((i+1:Nat):Int)=(i:Int)+1:=rfl
  have nx:=st.next
  obtain⟨w,hw1⟩:∃x,ws[i]?=some x:=⟨_,List.getElem?_eq_getElem (by omega)⟩
  have sB:∀x,StepN h0 ⟨h.next,h.t.set O x⟩:=fun x=>⟨nx,fun b hb=>by
   have n1:¬b=O:=by omega
   simp only[go_sem,seval,n1]
   exact st.old b hb⟩
  simp only[go_sem,seval,c36_l12,t0,t3,t14,t15,e1,gO,hcl,hi,hi1,Nat.mul_one]
  refine opt_some (h24 _ A c M R (hb.step (sB _))) ?_
  simp only[go_sem,seval,t0]
  refine opt_by (h110 _ A c M R (i:Int) (hb.step (sB _)) (by omega) (by omega)) fun v1 h1 p1=>?_
  obtain⟨rfl,st1⟩:=p1
  have nx1:h.next<=h1.next:=st1.next
  have k1:=fpeek_at hpk (m.step hM hW ((sB _).trans st1)) hw1
  have gO1:=st1.old O lO
  simp only[go_sem,seval]at gO1
  have oldb:∀b,b<h.next->b≠O->h1.t.get b=h.t.get b:=fun b hb hn=>by
   have:=st1.old b hb
   simp only[go_sem,seval,hn]at this
   exact this
  have fin:∀(cs':List AV) (h2:H),h2.next=h1.next->(∀b,b<h.next->b≠O->h2.t.get b=h.t.get b)->h2.t.get O=some (.row (putList 0 cs' T.e) n 3)->cs'=cs.set i (.int .i64 (ownV w))->∀tm':T AV,tm'.get 0=some (.ptr A 0)->tm'.get 3=some (.sl O 0 n 1 (some n))->tm'.get 14=some (.int .i64 (n:Int))->tm'.get 15=some (.int .i64 ((i:Int)+1))->∃j',j'<k+1∧I36 h0 O A n ws j' tm' h2:=fun cs' h2 q1 q2 q3 q4 tm' a1 a2 a3 a4=>by
   subst q4
   refine⟨k,Nat.lt_succ_self k,a1,a2,a3,⟨by omega,fun b hb=>(q2 b (by omega) (by omega)).trans (st.old b hb)⟩,hO,by omega,i+1,_,by omega,a4,q3,by rw[List.length_set];exact hcl,fun j x hj hx=>?_⟩
   by_cases hji:j=i
   ·subst hji
    rw[hw1]at hx
    rw[←Option.some.inj hx,List.getElem?_set_self (by rw[hcl];exact hi)]
   ·rw[List.getElem?_set_ne (by omega)]
    exact hcs j x (by omega) hx
  by_cases z1:w<1
  ·have ov:ownV w=-1:=by unfold ownV;rw[if_neg (by omega)]
   simp only[go_sem,seval,k1,z1,f1,t0,t3,t14,t15]
   exact fin _ _ rfl oldb gO1 (by rw[ov]) _ (by simp[go_sem,t0]) (by simp[go_sem,t3]) (by simp[go_sem,t14]) (by simp[go_sem])
  ·by_cases z2:64<w
   ·have ov:ownV w=-1:=by unfold ownV;rw[if_neg (by omega)]
    simp only[go_sem,seval,k1,z1,z2,f1,t0,t3,t14,t15]
    exact fin _ _ rfl oldb gO1 (by rw[ov]) _ (by simp[go_sem,t0]) (by simp[go_sem,t3]) (by simp[go_sem,t14]) (by simp[go_sem])
   ·have ov:ownV w=w-1:=by unfold ownV;rw[if_pos ⟨by omega,by omega⟩]
    have f2:fw .i64 w=w:=fwI (by omega) (by omega)
    have f3:fw .i64 (w-1)=w-1:=fwI (by omega) (by omega)
    simp only[go_sem,seval,k1,gO1,z1,z2,f2,f3,f1,t0,t3,t14,t15,e1,hcl,hi1,hi,Nat.mul_one,List.length_set]
    refine fin ((cs.set i (.int .i64 (-1))).set i (.int .i64 (w-1))) ⟨h1.next,h1.t.set O (.row (putList 0 ((cs.set i (.int .i64 (-1))).set i (.int .i64 (w-1))) T.e) n 3)⟩ rfl (fun b hb hn=>?_) ?_ (by rw[List.set_set,ov]) _ ?_ ?_ ?_ ?_
    ·simp only[go_sem,seval,hn]
     exact oldb b hb hn
    ·simp only[go_sem,seval]
    ·simp only[go_sem,seval,t0]
    ·simp only[go_sem,seval,t3]
    ·simp only[go_sem,seval,t14]
    ·simp only[go_sem,seval]
def Post36(n:Nat)(ws:List Int)(h:H)(v:AV)(h':H):Prop:=StepN h h'∧∃O cs,v=.sl O 0 n 1 (some n)∧O<h'.next∧h'.t.get O=some (.row (putList 0 cs T.e) n 3)∧(∀j x,j<n->ws[j]?=some x->cs[j]?=some (.int .i64 (ownV x)))
theorem w36(h35:F35 call)(h24:F24b call)(h110:F110 call)(hpk:FPeek call){h:H}{A:Nat}{c:CfgT}{M W R:Nat}{ws:List Int}{n:Nat}(hs:c.slots=(n:Int))(hn:n<=64)(hb:BH h A c M R)(hl:c.cuts.length<=1000)(m:MemH h M W ws)(hM:M<h.next)(hW:W<h.next)(hw:n<=ws.length):
 WF P call c36 [.ptr A 0] h (Post36 n ws h):=by
 simp only[go_sem,seval]
 refine opt_by (h35 h A c M R hb hl) fun v1 h1 p1=>?_
 obtain⟨⟨cv,rfl,rd,lo⟩,st1⟩:=p1
 have ov:=rd.one
 have e1:8*n<=281474976710656:=by omega
 have e2:n<=281474976710656:=by omega
 have nx:=st1.next
 simp only[go_sem,seval,cfgC,part3,hs,evLenN,rep_one,Nat.mul_one,Nat.le_refl,e1,e2,decide_true,Bool.and_self,cond_true]
 refine loop_in (I36 h h1.next A n ws) _ _ (fun k tm h' hI=>step36 P h24 h110 hpk hn hb m hM hW hw k tm h' hI) (fun tm2 h2 hR=>?_) (fun _ _ hh=>hh.elim) n _ _
  ⟨by simp[go_sem],by simp[go_sem],by simp[go_sem],st1.trans (StepN.new h1 _),nx,Nat.lt_succ_self _,0,List.replicate n (.int .i64 0),by omega,by simp[go_sem],by simp[go_sem],List.length_replicate,fun j x hj=>by omega⟩
 obtain⟨t3,st2,lO,oO,cs,gO,hcs⟩:=hR
 simp only[go_sem,seval,t3]
 exact⟨st2,_,cs,rfl,lO,gO,hcs⟩
def I111(h0:H)(v:AV)(x:Int)(xs:List Int)(k:Nat)(tm:T AV)(h:H):Prop:=
 tm.get 0=some v∧tm.get 1=some (.int .i64 x)∧tm.get 7=some (.int .i64 (xs.length:Int))∧h=h0∧∃i:Nat,i+k=xs.length∧tm.get 8=some (.int .i64 (i:Int))∧∀j y,j<i->xs[j]?=some y->y≠x
def R111(h0:H)(x:Int)(xs:List Int)(tm:T AV)(h:H):Prop:=h=h0∧x∉xs
def S111(h0:H)(x:Int)(xs:List Int)(tm:T AV)(h:H):Prop:=h=h0∧x∈xs∧∃r:Int,tm.get 4=some (.int .i64 r)∧0<=r
theorem step111(P:Program){call:CallE}{h0:H}{v:AV}{x:Int}{xs:List Int}(hv:Own 1 3 h0 v xs.length (iL xs))(hl:xs.length<=1000)(k:Nat)(tm:T AV)(h:H)(hI:I111 h0 v x xs k tm h):
 WC P call c111_l7 (loopQ 0 (fun tm h=>∃j,j<k∧I111 h0 v x xs j tm h) (R111 h0 x xs) (S111 h0 x xs)) tm h:=by
 obtain⟨t0,t1,t7,rfl,i,hik,t8,hn⟩:=hI
 cases k with
 |zero=>
  have e1:¬(i:Int)<(xs.length:Int):=by omega
  simp only[go_sem,seval,c111_l7,t7,t8,e1]
  refine⟨rfl,fun hx=>?_⟩
  obtain⟨j,hj,e⟩:=List.getElem_of_mem hx
  exact hn j x (by omega) (by rw[List.getElem?_eq_getElem hj,e]) rfl
 |succ k=>
  have e1:(i:Int)<(xs.length:Int):=by omega
  have f1:fw .i64 ((i:Int)+1)=(i:Int)+1:=fwI (by omega) (by omega)
  have e3:((i+1:Nat):Int)=(i:Int)+1:=rfl
  have hi:i<xs.length:=by omega
  obtain⟨y,hy⟩:∃y,xs[i]?=some y:=⟨_,List.getElem?_eq_getElem hi⟩
  have hcell:(iL xs)[i]?=some (.int .i64 y):=by unfold iL;rw[List.getElem?_map,hy];rfl
  generalize hn':xs.length=n at*
  generalize hcs:iL xs=cs at*
  cases hv with
  |nil=>omega
  |sl a len cs cap hc0 hp hcl ha hg=>
   by_cases hxy:x=y
   ·simp only[go_sem,seval,c111_l7,t0,t1,t7,t8,e1,hg,Nat.mul_one,hcell,hxy]
    subst hxy
    exact⟨rfl,List.mem_of_getElem? hy,_,rfl,by omega⟩
   ·simp only[go_sem,seval,c111_l7,t0,t1,t7,t8,e1,hg,Nat.mul_one,hcell,hxy,f1]
    refine⟨k,Nat.lt_succ_self k,by simp[go_sem,t0],by simp[go_sem,t1],by simp[go_sem,t7,hn'],rfl,i+1,by omega,by simp[go_sem,e3],fun j z hj hz=>?_⟩
    by_cases e:j=i
    ·subst e
     rw[hy]at hz
     exact fun q=>hxy (q.symm.trans (Option.some.inj hz).symm)
    ·exact hn j z (by omega) hz
theorem w111(P:Program){call:CallE}{h:H}{v:AV}{x:Int}{xs:List Int}(hv:Own 1 3 h v xs.length (iL xs))(hl:xs.length<=1000):WF P call c111 [v,.int .i64 x] h fun v' h'=>(∃r:Int,v'=.int .i64 r∧(0<=r↔x∈xs))∧h'=h:=by
 have hla:=hv.lenA
 simp only[go_sem,seval,hla]
 refine loop_in (I111 h v x xs) _ _ (fun k tm h' hI=>step111 P hv hl k tm h' hI) (fun tm2 h2 hR=>?_) (fun tm2 h2 hS=>?_) xs.length _ _
  ⟨by simp[go_sem],by simp[go_sem],by simp[go_sem],rfl,0,by omega,by simp[go_sem],fun j y hj=>by omega⟩
 ·obtain⟨rfl,hx⟩:=hR
  simp only[go_sem,seval]
  exact⟨-1,rfl,by constructor;(intro q;omega);exact fun q=>absurd q hx⟩
 ·obtain⟨rfl,hx,r,t4,r0⟩:=hS
  simp only[go_sem,seval,t4]
  exact⟨r,rfl,fun _=>hx,fun _=>r0⟩
def F111(call:CallE):Prop:=∀h v (x:Int) xs,Own 1 3 h v xs.length (iL xs)->xs.length<=1000->Does call 111 [v,.int .i64 x] h fun v' h'=>(∃r:Int,v'=.int .i64 r∧(0<=r↔x∈xs))∧h'=h
theorem w37(P:Program){call:CallE}(h111:F111 call){h:H}{v:AV}{x:Int}{xs:List Int}(hv:Own 1 3 h v xs.length (iL xs))(hl:xs.length<=1000):WF P call c37 [v,.int .i64 x] h fun v' h'=>v'=.bool (decide (x∈xs))∧h'=h:=by
 simp only[go_sem,seval]
 refine opt_by (h111 h v x xs hv hl) fun v1 h1 p1=>?_
 obtain⟨⟨r,rfl,hr⟩,rfl⟩:=p1
 by_cases hx:x∈xs
 ·have r0:=hr.2 hx
  have r1:¬r<0:=by omega
  simp only[go_sem,seval,r1,hx]
 ·have r1:r<0:=Int.not_le.1 fun q=>hx (hr.1 q)
  simp only[go_sem,seval,r1,hx]
def F37(call:CallE):Prop:=∀h v (x:Int) xs,Own 1 3 h v xs.length (iL xs)->xs.length<=1000->call 37 [v,.int .i64 x] h=some (.bool (decide (x∈xs)),h)
def F426(call:CallE):Prop:=∀h M n bs G N B nu bg,FullE h M n bs G N B nu bg->n<=64->(∀(i:Nat) (x:Int),nu[i]?=some x->x=0∨x=1)->Does call 426 [.ptr G 0] h (PostO nu n h)
def F442(call:CallE):Prop:=∀h M n bs G N F nu,EachE h M n bs G N F (eZ nu)->n<=64->(∀(i:Nat) (x:Int),nu[i]?=some x->x=0∨x=1)->Does call 442 [.ptr G 0] h (PostO nu n h)
def F453(call:CallE):Prop:=∀(Sx:Nat->Prop) h M bs nb G S es nu,GateE Sx h M bs nb G S es nu->(∀(i:Nat) (x:Int),nu[i]?=some x->x=0∨x=1)->Does call 453 [.ptr G 0] h (PostO nu 64 h)
def OpL(nu:List Int)(n:Nat)(h:H)(v:AV)(h':H):Prop:=StepN h h'∧∃m,n<=m∧m<=64∧Own 1 3 h' v (opn nu m).length (iL (opn nu m))∧∀b,own v=some b->h.next<=b
theorem PostO.l{nu:List Int}{n m:Nat}{h h':H}{v:AV}(p:PostO nu m h v h')(h1:n<=m)(h2:m<=64):OpL nu n h v h':=⟨p.st,m,h1,h2,p.o,p.lo⟩
theorem w39(P:Program)[pt:PT P]{call:CallE}(fa:F426 call)(fb:F442 call)(fc:F453 call){h:H}{M R n bs:Nat}{ek:EK}{b:AV}{nu:List Int}(gR:h.t.get R=some (rowL [.ifc ek.ht (.agg [.ifc ek.rt (.ptr ek.G 0)]),b,.int .i64 (n:Int)] 206))(m:EngA h M n bs nu ek)(hn:n<=64)(nu01:∀(i:Nat) (x:Int),nu[i]?=some x->x=0∨x=1):
 WF P call c39 [.ptr R 0] h (OpL nu n h):=by
 cases ek with
 |full G N B=>
  have m':FullE h M n bs G N B nu (List.replicate n false):=m
  simp only[EK.ht,EK.rt,EK.G]at gR
  simp only[go_sem,seval,gR,pt.opA]
  refine opt_by (fa h M n bs G N B nu _ m' hn nu01) fun v1 h1 p1=>?_
  simp only[go_sem,seval]
  exact p1.l (Nat.le_refl _) hn
 |each G N F=>
  have m':EachE h M n bs G N F (eZ nu):=m
  simp only[EK.ht,EK.rt,EK.G]at gR
  simp only[go_sem,seval,gR,pt.opB]
  refine opt_by (fb h M n bs G N F nu m' hn nu01) fun v1 h1 p1=>?_
  simp only[go_sem,seval]
  exact p1.l (Nat.le_refl _) hn
 |gate G S nb Sx=>
  obtain⟨ln,es,m'⟩:=m
  simp only[EK.ht,EK.rt,EK.G]at gR
  simp only[go_sem,seval,gR,pt.opC]
  refine opt_by (fc Sx h M bs nb G S es nu m' nu01) fun v1 h1 p1=>?_
  simp only[go_sem,seval]
  exact p1.l hn (Nat.le_refl _)
def F39(call:CallE):Prop:=∀h M R (n bs:Nat) ek b nu,h.t.get R=some (rowL [.ifc (EK.ht ek) (.agg [.ifc ek.rt (.ptr ek.G 0)]),b,.int .i64 (n:Int)] 206)->EngA h M n bs nu ek->n<=64->(∀(i:Nat) (x:Int),nu[i]?=some x->x=0∨x=1)->Does call 39 [.ptr R 0] h (OpL nu n h)
def c48_l14:CC:=(Qq (Sq [a 26 8,d 27 2 2,i 28 27,A 29 28,qb 30 3 26 29] (Cq 30 .skip (.exit 1))) (Qq (.block 2 (Sq [d 33 2 2,i 34 33,a 35 8,E 36 1 34 35,i 37 36,a 38 1,zf 39 51 37 38] (Cq 39 (Oq [a 40 7,C 41 3 40 1,a 7 41]) .skip))) (Oq [a 31 8,C 32 3 31 1,a 8 32])))
@[go_sem]def c48:CF:=⟨2,(Sq [w 2 24 0,b 4 0,b 5 0] (Sq [V 9 3 2,q 10 130 9,a 6 10] (Qq (Sq [a 11 6,z 12 54 11 0] (Kq 12 [a 13 6,b 4 0,a 5 13] .skip)) (Qq (Sq [d 14 0 2,i 15 14] (.block 0 (Sq [J 17 5 15 2,a 16 17] (Kq 16 [a 18 1,d 19 1 2,i 20 19,qX 21 20,zb 22 51 18 21,zr 23 22,a 4 23,b 5 0] (Sq [J 25 5 15 3,a 24 25] (Cq 24 (Sq [b 7 0] (Qq (Sq [b 8 0] (.block 1 (.loop c48_l14))) (Rq [a 42 7,a 4 42,b 5 0]))) .skip)))))) (Rq [b 4 0,b 5 0]))))),[.tmp 4,.tmp 5]⟩
def F112(call:CallE):Prop:=∀h k n v (l:List Int),RdL none 1 h v (uL l)->(∀a,own v=some a->a<h.next)->∃v' h',call 112 [.agg [.int .u8 k,.int .i64 n,v]] h=some (v',h')∧SaysE (domB k n l) h v' h'
def PostOf(h:H)(v:AV)(h':H):Prop:=(∃x:Int,v=.tup [.int .i64 x,.int .i64 0]∧0<=x∧x<64)∧StepN h h'
theorem rd_get{h:H}{v:AV}{l:List Int}{i:Nat}{x:Int}(r:RdL none 1 h v (uL l))(hx:l[i]?=some x):∃a o cap,v=.sl a o l.length 1 cap∧ldA h.t.get none a (o+i)=some (.int .u64 x):=by
 rcases r with⟨_,e⟩|⟨a,o,cap,e,_,k⟩
 ·cases l with
  |nil=>simp at hx
  |cons y l=>simp[uL]at e
 ·have:=k i _ (uL_get hx)
  rw[Nat.mul_one]at this
  rw[uL_len]at e
  exact⟨a,o,cap,e,this⟩
def I40(h0:H)(v:AV)(y:Int)(l:List Int)(k:Nat)(tm:T AV)(h:H):Prop:=
 tm.get 1=some (.int .u64 y)∧tm.get 28=some v∧tm.get 29=some (.int .i64 (l.length:Int))∧h=h0∧∃(i:Nat) (c:Int),i+k=l.length∧tm.get 30=some (.int .i64 (i:Int))∧tm.get 7=some (.int .i64 c)∧0<=c∧c<=i
theorem step40(P:Program){call:CallE}{h0:H}{v:AV}{y:Int}{l:List Int}(hv:RdL none 1 h0 v (uL l))(hl:l.length<64)(k:Nat)(tm:T AV)(h:H)(hI:I40 h0 v y l k tm h):
 WC P call c40_l15 (loopQ 1 (fun tm h=>∃j,j<k∧I40 h0 v y l j tm h) (fun tm h=>h=h0∧∃c:Int,tm.get 7=some (.int .i64 c)∧0<=c∧c<64) (fun _ _=>False)) tm h:=by
 obtain⟨t1,t28,t29,rfl,i,c,hik,t30,t7,c0,c1⟩:=hI
 cases k with
 |zero=>
  have e1:¬(i:Int)<(l.length:Int):=by omega
  simp only[go_sem,seval,c40_l15,t29,t30,e1]
  exact⟨c,by simp[go_sem,t7],c0,by omega⟩
 |succ k=>
  have e1:(i:Int)<(l.length:Int):=by omega
  have f1:fw .i64 ((i:Int)+1)=(i:Int)+1:=fwI (by omega) (by omega)
  have f2:fw .i64 (c+1)=c+1:=fwI (by omega) (by omega)
  have e3:((i+1:Nat):Int)=(i:Int)+1:=rfl
  obtain⟨x,hx⟩:∃x,l[i]?=some x:=⟨_,List.getElem?_eq_getElem (by omega)⟩
  obtain⟨a,o,cap,rfl,g⟩:=rd_get hv hx
  rw[rLdA]at g
  by_cases hxy:y<x
  ·simp only[go_sem,seval,c40_l15,t1,t28,t29,t30,e1,Nat.mul_one,g,hxy,f1]
   exact⟨k,Nat.lt_succ_self k,by simp[go_sem,t1],by simp[go_sem,t28],by simp[go_sem,t29],rfl,i+1,c,by omega,by simp[go_sem,e3],by simp[go_sem,t7],c0,by omega⟩
  ·simp only[go_sem,seval,c40_l15,t1,t28,t29,t30,e1,Nat.mul_one,g,hxy,f1,t7,f2]
   exact⟨k,Nat.lt_succ_self k,by simp[go_sem,t1],by simp[go_sem,t28],by simp[go_sem,t29],rfl,i+1,c+1,by omega,by simp[go_sem,e3],by simp[go_sem],by omega,by omega⟩
theorem w40(P:Program){call:CallE}(hck:F112 call){h:H}{kd n y:Int}{v:AV}{l:List Int}(hd:domB kd n l)(hv:RdL none 1 h v (uL l))(hlv:∀a,own v=some a->a<h.next)(y0:0<=y):
 WF P call c40 [.agg [.int .u8 kd,.int .i64 n,v],.int .u64 y] h (PostOf h):=by
 have ov:=hv.one
 have st0:=StepN.new h (.row (putList 0 [.int .u8 kd,.int .i64 n,v] T.e) 3 24)
 simp only[go_sem,seval,ov]
 refine opt_by (hck _ kd n v l (hv.keep fun b hb=>st0.old b (hlv b hb)) (fun a ha=>Nat.lt_succ_of_lt (hlv a ha))) fun v1 h1 p1=>?_
 obtain⟨e,rfl,he,st1⟩:=p1
 obtain rfl:=he.2 hd
 have g1:=st1.old h.next (Nat.lt_succ_self _)
 simp only[go_sem,seval]at g1
 have st01:=st0.trans st1
 rcases hd with⟨rfl,rfl,rfl⟩|⟨rfl,hn,rfl⟩|⟨rfl,rfl,h1',h2',_⟩
 ·simp only[go_sem,seval,g1]
  exact⟨⟨0,rfl,by omega,by omega⟩,st01⟩
 ·have z:¬n=0:=by omega
  have f1:fw .u64 n=n:=fwU (by omega) (by omega)
  have a1:0<=Int.tmod y n:=Int.tmod_nonneg _ y0
  have a2:Int.tmod y n<n:=Int.tmod_lt_of_pos y (by omega)
  have f2:fw .i64 (Int.tmod y n)=Int.tmod y n:=fwI (by omega) (by omega)
  simp only[go_sem,seval,g1,f1,z,f2]
  exact⟨⟨_,rfl,a1,by omega⟩,st01⟩
 ·have hv1:=hv.keep fun b hb=>st01.old b (hlv b hb)
  have hla:=hv1.lenA
  rw[uL_len]at hla
  simp only[go_sem,seval,g1,hla]
  refine loop_in (I40 h1 v y l) _ _ (fun k tm h' hI=>step40 P hv1 h2' k tm h' hI) (fun tm2 h2 hR=>?_) (fun _ _ hh=>hh.elim) l.length _ _
   ⟨by simp[go_sem],by simp[go_sem],by simp[go_sem],rfl,0,0,by omega,by simp[go_sem],by simp[go_sem],by omega,by omega⟩
  obtain⟨rfl,c,t7,c0,c1⟩:=hR
  simp only[go_sem,seval,t7]
  exact⟨⟨c,rfl,c0,c1⟩,st01⟩
def F40(call:CallE):Prop:=∀h (kd n y:Int) v l,domB kd n l->RdL none 1 h v (uL l)->(∀a,own v=some a->a<h.next)->0<=y->Does call 40 [.agg [.int .u8 kd,.int .i64 n,v],.int .u64 y] h (PostOf h)
def I48(h0:H)(D:Nat)(kd n:AV)(v:AV)(y:Int)(l:List Int)(k:Nat)(tm:T AV)(h:H):Prop:=
 tm.get 1=some (.int .u64 y)∧tm.get 2=some (.ptr D 0)∧h=h0∧∃(i:Nat) (c:Int),i+k=l.length∧tm.get 8=some (.int .i64 (i:Int))∧tm.get 7=some (.int .i64 c)∧0<=c∧c<=i
theorem step48(P:Program){call:CallE}{h0:H}{D:Nat}{kd n v:AV}{y:Int}{l:List Int}(gD:h0.t.get D=some (.row (putList 0 [kd,n,v] T.e) 3 24))(hv:RdL none 1 h0 v (uL l))(hl:l.length<64)(k:Nat)(tm:T AV)(h:H)(hI:I48 h0 D kd n v y l k tm h):
 WC P call c48_l14 (loopQ 1 (fun tm h=>∃j,j<k∧I48 h0 D kd n v y l j tm h) (fun tm h=>h=h0∧∃c:Int,tm.get 7=some (.int .i64 c)∧0<=c∧c<64) (fun _ _=>False)) tm h:=by
 obtain⟨t1,t2,rfl,i,c,hik,t30,t7,c0,c1⟩:=hI
 have hla:=hv.lenA
 rw[uL_len]at hla
 cases k with
 |zero=>
  have e1:¬(i:Int)<(l.length:Int):=by omega
  simp only[go_sem,seval,c48_l14,t2,gD,hla,t30,e1]
  exact⟨c,by simp[go_sem,t7],c0,by omega⟩
 |succ k=>
  have e1:(i:Int)<(l.length:Int):=by omega
  have f1:fw .i64 ((i:Int)+1)=(i:Int)+1:=fwI (by omega) (by omega)
  have f2:fw .i64 (c+1)=c+1:=fwI (by omega) (by omega)
  have e3:((i+1:Nat):Int)=(i:Int)+1:=rfl
  obtain⟨x,hx⟩:∃x,l[i]?=some x:=⟨_,List.getElem?_eq_getElem (by omega)⟩
  obtain⟨a,o,cap,rfl,g⟩:=rd_get hv hx
  rw[rLdA]at g
  by_cases hxy:y<x
  ·simp only[go_sem,seval,c48_l14,t1,t2,gD,t30,e1,Nat.mul_one,g,hxy,f1]
   exact⟨k,Nat.lt_succ_self k,by simp[go_sem,t1],by simp[go_sem,t2],rfl,i+1,c,by omega,by simp[go_sem,e3],by simp[go_sem,t7],c0,by omega⟩
  ·simp only[go_sem,seval,c48_l14,t1,t2,gD,t30,e1,Nat.mul_one,g,hxy,f1,t7,f2]
   exact⟨k,Nat.lt_succ_self k,by simp[go_sem,t1],by simp[go_sem,t2],rfl,i+1,c+1,by omega,by simp[go_sem,e3],by simp[go_sem],by omega,by omega⟩
theorem w48(P:Program){call:CallE}(hck:F130 call){h:H}{kd n y:Int}{v:AV}{l:List Int}(hd:domB kd n l)(hv:RdL none 1 h v (uL l))(hlv:∀a,own v=some a->a<h.next)(hin:∀x∈l,inU x)(y0:0<=y):
 WF P call c48 [.agg [.int .u8 kd,.int .i64 n,v],.int .u64 y] h (PostOf h):=by
 have ov:=hv.one
 have st0:=StepN.new h (.row (putList 0 [.int .u8 kd,.int .i64 n,v] T.e) 3 24)
 simp only[go_sem,seval,ov]
 refine opt_by (hck _ kd n v l (hv.keep fun b hb=>st0.old b (hlv b hb)) (fun a ha=>Nat.lt_succ_of_lt (hlv a ha)) hin) fun v1 h1 p1=>?_
 obtain⟨e,rfl,he,st1⟩:=p1
 obtain rfl:=he.2 hd
 have g1:=st1.old h.next (Nat.lt_succ_self _)
 simp only[go_sem,seval]at g1
 have st01:=st0.trans st1
 rcases hd with⟨rfl,rfl,rfl⟩|⟨rfl,hn,rfl⟩|⟨rfl,rfl,h1',h2',_⟩
 ·simp only[go_sem,seval,g1]
  exact⟨⟨0,rfl,by omega,by omega⟩,st01⟩
 ·have z:¬n=0:=by omega
  have f1:fw .u64 n=n:=fwU (by omega) (by omega)
  have a1:0<=Int.tmod y n:=Int.tmod_nonneg _ y0
  have a2:Int.tmod y n<n:=Int.tmod_lt_of_pos y (by omega)
  have f2:fw .i64 (Int.tmod y n)=Int.tmod y n:=fwI (by omega) (by omega)
  simp only[go_sem,seval,g1,f1,z,f2]
  exact⟨⟨_,rfl,a1,by omega⟩,st01⟩
 ·have hv1:=hv.keep fun b hb=>st01.old b (hlv b hb)
  have hla:=hv1.lenA
  rw[uL_len]at hla
  simp only[go_sem,seval,g1,hla]
  refine loop_in (I48 h1 h.next (.int .u8 3) (.int .i64 0) v y l) _ _ (fun k tm h' hI=>step48 P g1 hv1 h2' k tm h' hI) (fun tm2 h2 hR=>?_) (fun _ _ hh=>hh.elim) l.length _ _
   ⟨by simp[go_sem],by simp[go_sem],rfl,0,0,by omega,by simp[go_sem],by simp[go_sem],by omega,by omega⟩
  obtain⟨rfl,c,t7,c0,c1⟩:=hR
  simp only[go_sem,seval,t7]
  exact⟨⟨c,rfl,c0,c1⟩,st01⟩
def F48(call:CallE):Prop:=∀h (kd n y:Int) v l,domB kd n l->RdL none 1 h v (uL l)->(∀a,own v=some a->a<h.next)->(∀x∈l,inU x)->0<=y->Does call 48 [.agg [.int .u8 kd,.int .i64 n,v],.int .u64 y] h (PostOf h)
@[go_sem]def c129:CF:=⟨1,(Sq [D 2] (Qq (Sq [a 3 0,u 4 46 3] (Kq 4 [D 2] .skip)) (Qq (Sq [a 5 0,m 6 5,d 7 0 6,i 8 7] (.block 0 (Sq [J 10 5 8 1,a 9 10] (Kq 9 [a 11 0,m 12 11,d 13 2 12,i 14 13,q 15 208 14,a 2 15] (Sq [J 17 5 8 2,a 16 17] (Kq 16 [a 18 0,m 19 18,d 20 3 19,i 21 20,q 22 209 21,a 2 22] .skip)))))) (Rq [a 23 0,m 24 23,d 25 4 24,i 26 25,q 27 210 26,a 2 27])))),[.tmp 2]⟩
@[go_sem]def c128:CF:=⟨3,(Sq [G 6] (Qq (.drw ⟨[([g 0 0,n 1 7 0,j 2 8 1 1,k 3 9 2,n 4 10 3,j 5 11 4 0,k 6 12 5,g 7 0,n 8 14 7,j 9 15 8 0,k 10 16 9,n 11 17 10,j 12 18 11 16,j 13 19 12 0,k 14 20 13,g 15 2,qz 16 21 14 22 15 3,Q 17 13 6 23 16 1,k 18 24 17,g 19 1,zc 20 26 19,⟨21,[(27,some 20)],none,.p (.bin .add 51 false true (.t 27) (.c (.int .u64 1)))⟩,jf 22 25 18 28 21 51,y 23 29 22],none)],[(0,7),(1,8),(2,9),(3,10),(4,11),(5,12),(6,13),(7,14),(8,15),(9,16),(10,17),(11,18),(12,19),(13,20),(14,21),(15,22),(16,23),(17,24),(18,25),(19,26),(20,27),(21,28),(22,29),(23,6)],[]⟩) .ret)),[.tmp 6]⟩
def c47_l13:CC:=(Qq (Sq [a 39 8,a 40 7,A 41 40,qb 42 3 39 41] (Cq 42 .skip (.exit 1))) (Qq (.block 2 (Sq [a 45 7,a 46 8,E 47 1 45 46,i 48 47,a 49 2,zd 50 3 48 49] (Kq 50 [b 6 8] .skip))) (Oq [a 43 8,C 44 3 43 1,a 8 44])))
@[go_sem]def c47:CF:=⟨3,(Sq [b 6 0] (Qq (.block 0 (Sq [a 10 1,q 11 34 10,qe 12 11,a 9 12] (Kq 9 [b 6 2] (Sq [a 14 2,K 15 3 14 0,a 16 15,s 17 16 2,s 18 16 0,qi 19 16 18,M 20 16 0 19,L 21 16 20,qi 22 16 21,M 23 16 0 22,M 24 16 1 23,L 25 16 24,qw 26 16 3 17 25,r 27 16 26,a 13 27] (Kq 13 [b 6 3] (Sq [a 29 0,a 30 1,a 31 2,qa 32 128 29 30 31,qe 33 32,a 28 33] (Kq 28 [b 6 8] .skip))))))) (Sq [a 34 0,m 35 34,d 36 4 35,i 37 36,q 38 129 37,a 7 38] (Qq (Sq [b 8 0] (.block 1 (.loop c47_l13))) (Rq [b 6 0]))))),[.tmp 6]⟩
def F208(call:CallE):Prop:=∀h M n bs G N nu,TriE h M n bs G N 362 (tZ nu)->n<=64->(∀(i:Nat) (x:Int),nu[i]?=some x->x=0∨x=1)->Does call 208 [.ptr G 0] h (PostO nu n h)
def F209(call:CallE):Prop:=∀h M n bs G N nu,TriE h M n bs G N 368 (tZ nu)->n<=64->(∀(i:Nat) (x:Int),nu[i]?=some x->x=0∨x=1)->Does call 209 [.ptr G 0] h (PostO nu n h)
def F210(call:CallE):Prop:=∀h M bs nb G nu,GatR h M bs nb G (gZ nu)->(∀(i:Nat) (x:Int),nu[i]?=some x->x=0∨x=1)->Does call 210 [.ptr G 0] h (PostO nu 64 h)
theorem w129(fa:F208 call)(fb:F209 call)(fc:F210 call){h:H}{M R n bs:Nat}{rk:RK}{nu:List Int}(gR:h.t.get R=some (rk.row n))(m:EngB h M n bs nu rk)(hn:n<=64)(nu01:∀(i:Nat) (x:Int),nu[i]?=some x->x=0∨x=1):
 WF P call c129 [.ptr R 0] h (OpL nu n h):=by
 cases rk with
 |full G N=>
  unfold RK.row at gR
  simp only[go_sem,seval,gR]
  refine opt_by (fa h M n bs G N nu m hn nu01) fun v1 h1 p1=>?_
  simp only[go_sem,seval]
  exact p1.l (Nat.le_refl _) hn
 |each G N=>
  unfold RK.row at gR
  simp only[go_sem,seval,gR]
  refine opt_by (fb h M n bs G N nu m hn nu01) fun v1 h1 p1=>?_
  simp only[go_sem,seval]
  exact p1.l (Nat.le_refl _) hn
 |gate G nb=>
  unfold RK.row at gR
  simp only[go_sem,seval,gR]
  refine opt_by (fc h M bs nb G nu m.2 nu01) fun v1 h1 p1=>?_
  simp only[go_sem,seval]
  exact p1.l hn (Nat.le_refl _)
def F129(call:CallE):Prop:=∀h M R (n bs:Nat) rk nu,h.t.get R=some (RK.row rk n)->EngB h M n bs nu rk->n<=64->(∀(i:Nat) (x:Int),nu[i]?=some x->x=0∨x=1)->Does call 129 [.ptr R 0] h (OpL nu n h)
structure BL(h:H)(a:AdB)(z:AdS)(rk:RK)(c:CfgT)(n:Nat)(lv ev:AV)(ws:List Int)(l:List AccT)(es:List EvT)(nu:List Int):Prop where
 sb:SB h a rk n lv ev ws l es
 gL:h.t.get a.L=some (rowL (cfgC c z.cv++(plC (plOf c)++[z.hv,z.wv])) 41)
 en:EngB h a.M n n nu rk
 sl:c.slots=(n:Int)
 nw:n<=ws.length
 n64:n<=64
 nu01:∀(i:Nat) (x:Int),nu[i]?=some x->x=0∨x=1
theorem w128{h:H}{a:AdB}{z:AdS}{rk:RK}{c:CfgT}{n:Nat}{lv ev:AV}{ws:List Int}{l:List AccT}{es:List EvT}{nu:List Int}(m:BL h a z rk c n lv ev ws l es nu){t:Int}(t0:0<=t)(t1:t<64){s:Nat}{x:Int}(hx:ws[s]?=some x)(hs:s<64):
 WF P call c128 [.ptr a.B 0,.int .i64 t,.int .i64 (s:Int)] h fun v h'=>v=.bool (decide (x=t+1))∧h'=h:=by
 have gB:=m.sb.gB
 have gL:=m.gL
 have gM:=m.sb.mm.g
 have gW:=m.sb.mm.w
 have e1:(s:Int)<(ws.length:Int):=by have:=(List.getElem?_eq_some_iff.1 hx).1;omega
 have f1:fw .u64 t=t:=fwU (by omega) (by omega)
 have f2:fw .u64 (t+1)=t+1:=fwU (by omega) (by omega)
 have f3:fw .i64 (s:Int)=(s:Int):=fwI (by omega) (by omega)
 have ho:(plOf c).ow=0:=rfl
 have ux:=uL_get hx
 simp only[go_sem,seval,gB,gL,gM,gW,cfgC,plC,ho,Int.zero_add,f1,f2,f3,e1,Nat.mul_one,ux]
def F128(call:CallE):Prop:=∀h a z rk c n lv ev ws l es nu (t:Int) (s:Nat) (x:Int),BL h a z rk c n lv ev ws l es nu->0<=t->t<64->ws[s]?=some x->s<64->call 128 [.ptr a.B 0,.int .i64 t,.int .i64 (s:Int)] h=some (.bool (decide (x=t+1)),h)
def freeE(n:Nat)(ws nu:List Int)(t s:Int):Int:=if¬(0<=t∧t<64)then 2 else if s<0∨(n:Int)<=s then 3 else if¬ws[s.toNat]?=some (t+1)then 8 else if nu[s.toNat]?=some 1 then 8 else 0
def I47(h0:H)(v:AV)(x:Int)(xs:List Int)(k:Nat)(tm:T AV)(h:H):Prop:=
 tm.get 2=some (.int .i64 x)∧tm.get 7=some v∧h=h0∧∃i:Nat,i+k=xs.length∧tm.get 8=some (.int .i64 (i:Int))∧∀j y,j<i->xs[j]?=some y->y≠x
def S47(h0:H)(x:Int)(xs:List Int)(tm:T AV)(h:H):Prop:=h=h0∧x∈xs∧tm.get 6=some (.int .i64 8)
theorem step47(P:Program){call:CallE}{h0:H}{v:AV}{x:Int}{xs:List Int}(hv:Own 1 3 h0 v xs.length (iL xs))(hl:xs.length<=1000)(k:Nat)(tm:T AV)(h:H)(hI:I47 h0 v x xs k tm h):
 WC P call c47_l13 (loopQ 1 (fun tm h=>∃j,j<k∧I47 h0 v x xs j tm h) (R111 h0 x xs) (S47 h0 x xs)) tm h:=by
 obtain⟨t2,t7,rfl,i,hik,t8,hn⟩:=hI
 have hla:=hv.lenA
 cases k with
 |zero=>
  have e1:¬(i:Int)<(xs.length:Int):=by omega
  simp only[go_sem,seval,c47_l13,t7,t8,hla,e1]
  refine⟨rfl,fun hx=>?_⟩
  obtain⟨j,hj,e⟩:=List.getElem_of_mem hx
  exact hn j x (by omega) (by rw[List.getElem?_eq_getElem hj,e]) rfl
 |succ k=>
  have e1:(i:Int)<(xs.length:Int):=by omega
  have f1:fw .i64 ((i:Int)+1)=(i:Int)+1:=fwI (by omega) (by omega)
  have e3:((i+1:Nat):Int)=(i:Int)+1:=rfl
  have hi:i<xs.length:=by omega
  obtain⟨y,hy⟩:∃y,xs[i]?=some y:=⟨_,List.getElem?_eq_getElem hi⟩
  have hcell:(iL xs)[i]?=some (.int .i64 y):=by unfold iL;rw[List.getElem?_map,hy];rfl
  generalize hn':xs.length=n at*
  generalize hcs:iL xs=cs at*
  cases hv with
  |nil=>omega
  |sl a len cs cap hc0 hp hcl ha hg=>
   by_cases hxy:y=x
   ·simp only[go_sem,seval,c47_l13,t2,t7,t8,e1,hg,Nat.mul_one,hcell,hxy]
    subst hxy
    exact⟨rfl,List.mem_of_getElem? hy,by simp[go_sem]⟩
   ·simp only[go_sem,seval,c47_l13,t2,t7,t8,e1,hg,Nat.mul_one,hcell,hxy,f1]
    refine⟨k,Nat.lt_succ_self k,by simp[go_sem,t2],by simp[go_sem,t7],rfl,i+1,by omega,by simp[go_sem,e3],fun j z hj hz=>?_⟩
    by_cases e:j=i
    ·subst e
     rw[hy]at hz
     exact fun q=>hxy ((Option.some.inj hz).trans q)
    ·exact hn j z (by omega) hz
theorem w47(h34:F34 call)(h128:F128 call)(h129:F129 call){h:H}{a:AdB}{z:AdS}{rk:RK}{c:CfgT}{n:Nat}{lv ev:AV}{ws:List Int}{l:List AccT}{es:List EvT}{nu:List Int}(m:BL h a z rk c n lv ev ws l es nu)(t s:Int):
 WF P call c47 [.ptr a.B 0,.int .i64 t,.int .i64 s] h fun v h'=>v=.int .i64 (freeE n ws nu t s)∧StepN h h':=by
 have k1:=h34 h t
 have gB:=m.sb.gB
 have gL:=m.gL
 have hsl:=m.sl
 unfold freeE
 by_cases et:0<=t∧t<64
 ·by_cases s0:s<0
  ·simp only[go_sem,seval,k1,et,s0]
   exact StepN.refl _
  ·by_cases s1:(n:Int)<=s
   ·have s2:¬s<(n:Int):=by omega
    simp only[go_sem,seval,k1,et,s0,gB,gL,cfgC,hsl,s1,s2]
    exact StepN.refl _
   ·obtain⟨s,rfl⟩:∃k:Nat,s=(k:Int):=⟨s.toNat,by omega⟩
    have hs:s<n:=by omega
    have s2:(s:Int)<(n:Int):=by omega
    obtain⟨x,hx⟩:∃x,ws[s]?=some x:=⟨_,List.getElem?_eq_getElem (by have:=m.nw;omega)⟩
    have k2:=h128 h a z rk c n lv ev ws l es nu t s x m et.1 et.2 hx (by have:=m.n64;omega)
    by_cases ex:x=t+1
    ·simp only[go_sem,seval,k1,et,s0,gB,gL,cfgC,hsl,s1,s2,k2,ex,hx,Int.toNat_natCast]
     refine opt_by (h129 h a.M a.R n n rk nu m.sb.gR m.en m.n64 m.nu01) fun v1 h1 p1=>?_
     obtain⟨st,q,q1,q2,o,lo⟩:=p1
     simp only[go_sem,seval]
     refine loop_in (I47 h1 v1 s (opn nu q)) _ _ (fun k tm h' hI=>step47 P o (by have:=opn_len nu q;omega) k tm h' hI) (fun tm2 h2 hR=>?_) (fun tm2 h2 hS=>?_) (opn nu q).length _ _
           ⟨by simp[go_sem],by simp[go_sem],rfl,0,by omega,by simp[go_sem],fun j y hj=>by omega⟩
     ·obtain⟨rfl,hx⟩:=hR
      have hx':¬nu[s]?=some 1:=fun q'=>hx ((opn_mem nu q s (by omega)).2 q')
      simp only[go_sem,seval,hx']
      exact st
     ·obtain⟨rfl,hx,t6⟩:=hS
      have hx':nu[s]?=some 1:=(opn_mem nu q s (by omega)).1 hx
      simp only[go_sem,seval,hx',t6]
      exact st
    ·simp only[go_sem,seval,k1,et,s0,gB,gL,cfgC,hsl,s1,s2,k2,ex,hx,Int.toNat_natCast,Option.some.injEq]
     exact StepN.refl _
 ·simp only[go_sem,seval,k1,et]
  exact StepN.refl _
def F47(call:CallE):Prop:=∀h a z rk c n lv ev ws l es nu (t s:Int),BL h a z rk c n lv ev ws l es nu->Does call 47 [.ptr a.B 0,.int .i64 t,.int .i64 s] h fun v h'=>v=.int .i64 (freeE n ws nu t s)∧StepN h h'
@[go_sem]def c118:CF:=⟨1,(Sq [w 1 133 0,b 2 0] (Qq (Sq [d 3 0 1,i 4 3,d 5 1 1,i 6 5,jt 7 51 4 6] (Kq 7 [b 2 13] .skip)) (Rq [b 2 0]))),[.tmp 2]⟩
@[go_sem]def c42:CF:=⟨4,(Sq [w 6 133 2,p 8,b 9 0] (Qq (Sq [a 11 0,u 12 30 11] (Kq 12 [p 8,b 9 1] .skip)) (Qq (Sq [a 13 1,K 14 3 13 0,a 15 14,s 16 15 1,qn 17 15 3 16 64,r 18 15 17,a 19 18,s 20 19 3,qI 21 19 3 20 0,r 22 19 21,a 23 22,s 24 23 3,qc 25 23 3 24 255,r 26 23 25] (Kq 26 [p 8,b 9 2] .skip)) (Qq (Sq [V 27 2 6,q 28 118 27,z 29 54 28 0] (Kq 29 [p 8,b 9 13] .skip)) (Sq [a 30 0,a 31 1,V 32 2 6,a 33 3,⟨some 34,none,.p (.build [.nilp,iz,uz,uz,iz,iz,iz,iz,uz,fz,.nilf,.nilm,bz,iz] [(0,1,.t 30),(1,1,.t 31),(2,2,.t 32),(4,1,.t 33),(12,1,.c (.int .u8 2))])⟩,w 35 248 34,a 10 35] (Sq [a 36 10,zI 37 119 6,m 38 36,d 39 10 38,t 1 39 37] (Sq [a 40 10,zj 41,qM 0 41 2 120,qM 0 41 37 121,qM 0 41 38 122,qM 0 41 39 123,qM 0 41 40 124,qM 0 41 41 125,qM 0 41 42 126,qM 0 41 3 127,a 42 41,m 43 40,d 44 11 43,t 1 44 42] (Rq [a 45 10,a 8 45,b 9 0])))))))),[.tmp 8,.tmp 9]⟩
@[go_sem]def c420:CF:=⟨1,(Sq [v 2 0] (Qq (Sq [a 3 0,u 4 129 3] (Kq 4 [v 2 0] .skip)) (Rq [a 5 0,m 6 5,d 7 12 6,i 8 7,a 2 8]))),[.tmp 2]⟩
@[go_sem]def c211:CF:=⟨1,(Sq [w 1 133 0,b 2 0] (Qq (Sq [d 3 0 1,i 4 3,d 5 1 1,i 6 5,jt 7 51 4 6] (Kq 7 [b 2 13] .skip)) (Rq [b 2 0]))),[.tmp 2]⟩
@[go_sem]def c131:CF:=⟨4,(Sq [w 6 133 2,p 8,b 9 0] (Qq (Sq [a 10 0,u 11 31 10] (Kq 11 [p 8,b 9 1] .skip)) (Qq (Sq [a 12 1,q 13 34 12,qe 14 13,a 15 14,s 16 15 3,qI 17 15 3 16 0,r 18 15 17,a 19 18,s 20 19 3,qc 21 19 3 20 255,r 22 19 21] (Kq 22 [p 8,b 9 2] .skip)) (Qq (Sq [V 23 2 6,q 24 211 23,z 25 54 24 0] (Kq 25 [p 8,b 9 13] .skip)) (Rq [a 26 0,a 27 1,V 28 2 6,a 29 3,⟨some 30,none,.p (.build [.nilp,iz,iz,uz,uz,bz,iz,iz,uz,fz,iz,iz] [(0,1,.t 26),(1,1,.t 27),(3,2,.t 28),(2,1,.t 29),(5,1,.c (.int .u8 2))])⟩,w 31 274 30,a 8 31,b 9 0]))))),[.tmp 8,.tmp 9]⟩
@[go_sem]def c50:CF:=⟨1,(Sq [v 2 0] (Qq (Sq [a 3 0,u 4 138 3] (Kq 4 [v 2 0] .skip)) (Rq [a 5 0,m 6 5,d 7 5 6,i 8 7,a 2 8]))),[.tmp 2]⟩
@[go_sem]def c12:CF:=⟨2,(Sq [p 4,b 5 0] (Qq (Sq [a 6 0,u 7 30 6] (Kq 7 [p 4,b 5 1] .skip)) (Qq (Sq [a 8 1,K 9 3 8 0,a 10 9,s 11 10 1,qn 12 10 3 11 64,r 13 10 12] (Kq 13 [p 4,b 5 2] .skip)) (Rq [a 14 0,a 15 1,ju 16 0 0 1 14 1 1 15,w 17 112 16,a 4 17,b 5 0])))),[.tmp 4,.tmp 5]⟩
@[go_sem]def c13:CF:=⟨2,(Sq [p 4,b 5 0] (Qq (Sq [a 6 0,u 7 31 6] (Kq 7 [p 4,b 5 1] .skip)) (Qq (Sq [a 8 1,q 9 34 8,qe 10 9] (Kq 10 [p 4,b 5 2] .skip)) (Rq [a 11 0,a 12 1,ju 13 0 0 1 11 1 1 12,w 14 115 13,a 4 14,b 5 0])))),[.tmp 4,.tmp 5]⟩
theorem w118(P:Program){call:CallE}{h:H}(lo hi:Int):WF P call c118 [.agg [.int .u64 lo,.int .u64 hi]] h fun v h'=>v=.int .i64 (if hi<lo then 13 else 0)∧StepN h h':=by
 by_cases e:hi<lo
 ·simp only[go_sem,seval,e]
  exact StepN.new h _
 ·simp only[go_sem,seval,e]
  exact StepN.new h _
def F118(call:CallE):Prop:=∀h (lo hi:Int),∃v h',call 118 [.agg [.int .u64 lo,.int .u64 hi]] h=some (v,h')∧(v=.int .i64 (if hi<lo then 13 else 0)∧StepN h h')
theorem w12{h:H}{B:Nat}{t:Int}(t0:0<=t)(t1:t<64):WF P call c12 [.ptr B 0,.int .i64 t] h fun v h'=>(∃Q,v=.tup [.ptr Q 0,.int .i64 0])∧StepN h h':=by
 have e1:¬t<0:=by omega
 simp only[go_sem,seval,e1,t1]
 exact⟨⟨_,rfl⟩,StepN.new h _⟩
theorem keyU8(a b:Int):keyEq 0 (.int .u8 a) (.int .u8 b)=some (decide (a=b)):=by
 unfold keyEq
 simp only[rIEq]
 rfl
def LockO(h:H)(L:Nat):Prop:=∃lc,h.t.get L=some (.row (putList 0 lc T.e) 14 248)∧lc[12]?=some (.int .u8 2)
theorem w42(h43:F118 call){h:H}{B:Nat}{t lo hi tr:Int}(t0:0<=t)(t1:t<64)(r0:0<=tr)(r1:tr<=255)(hv:¬hi<lo):
 WF P call c42 [.ptr B 0,.int .i64 t,.agg [.int .u64 lo,.int .u64 hi],.int .i64 tr] h fun v h'=>StepN h h'∧∃L,v=.tup [.ptr L 0,.int .i64 0]∧L<h'.next∧h.next<=L∧LockO h' L:=by
 have e1:¬t<0:=by omega
 have e2:¬tr<0:=by omega
 have e3:¬255<tr:=by omega
 simp only[go_sem,seval,e1,t1,e2,e3]
 refine opt_by (h43 _ lo hi) fun v1 h1 p1=>?_
 obtain⟨rfl,st⟩:=p1
 have g0:=st.old h.next (Nat.lt_succ_self _)
 simp only[go_sem,seval]at g0
 have nx:h.next+1<=h1.next:=st.next
 have n1:¬h.next=h1.next:=by omega
 have n2:¬h1.next=h1.next+1:=by omega
 have n3:¬h1.next+1=h1.next:=by omega
 simp only[go_sem,seval,hv,g0,n1,n2,n3,evM,keyA,findA,keyU8]
 refine⟨⟨by show h.next<=h1.next+2;omega,fun b hb=>?_⟩,h1.next,rfl,by show h1.next<h1.next+2;omega,by omega,_,by simp only[go_sem,seval];rfl,rfl⟩
 have q1:¬b=h1.next:=by omega
 have q2:¬b=h1.next+1:=by omega
 have q3:¬b=h.next:=by omega
 have:=st.old b (by show b<h.next+1;omega)
 simp only[go_sem,seval,q3]at this
 simp only[go_sem,seval,q1,q2,this]
def F42(call:CallE):Prop:=∀h B (t lo hi tr:Int),0<=t->t<64->0<=tr->tr<=255->¬hi<lo->∃v h',call 42 [.ptr B 0,.int .i64 t,.agg [.int .u64 lo,.int .u64 hi],.int .i64 tr] h=some (v,h')∧(StepN h h'∧∃L,v=.tup [.ptr L 0,.int .i64 0]∧L<h'.next∧h.next<=L∧LockO h' L)
theorem w420{h:H}{L:Nat}(hL:LockO h L):WF P call c420 [.ptr L 0] h fun v h'=>v=.int .u8 2∧h'=h:=by
 obtain⟨lc,gl,l12⟩:=hL
 simp only[go_sem,seval,gl,l12]
def F420(call:CallE):Prop:=∀h L,LockO h L->call 420 [.ptr L 0] h=some (.int .u8 2,h)
theorem LockO.step{h h':H}{L:Nat}(l:LockO h L)(g:h'.t.get L=h.t.get L):LockO h' L:=by
 obtain⟨lc,gl,l12⟩:=l
 exact⟨lc,g.trans gl,l12⟩
def F12(call:CallE):Prop:=∀h B (t:Int),0<=t->t<64->Does call 12 [.ptr B 0,.int .i64 t] h fun v h'=>(∃Q,v=.tup [.ptr Q 0,.int .i64 0])∧StepN h h'
theorem w211(P:Program){call:CallE}{h:H}(lo hi:Int)(hv:¬hi<lo):WF P call c211 [.agg [.int .u64 lo,.int .u64 hi]] h fun v h'=>v=.int .i64 0∧StepN h h':=by
 simp only[go_sem,seval,hv]
 exact StepN.new h _
def RLockO(h:H)(L:Nat):Prop:=∃lc n,h.t.get L=some (.row (putList 0 lc T.e) n 274)∧lc[5]?=some (.int .u8 2)
def F211(call:CallE):Prop:=∀h (lo hi:Int),¬hi<lo->∃v h',call 211 [.agg [.int .u64 lo,.int .u64 hi]] h=some (v,h')∧(v=.int .i64 0∧StepN h h')
theorem w131(h36:F34 call)(h189:F211 call){h:H}{B:Nat}{t lo hi tr:Int}(t0:0<=t)(t1:t<64)(r0:0<=tr)(r1:tr<=255)(hv:¬hi<lo):
 WF P call c131 [.ptr B 0,.int .i64 t,.agg [.int .u64 lo,.int .u64 hi],.int .i64 tr] h fun v h'=>StepN h h'∧∃L,v=.tup [.ptr L 0,.int .i64 0]∧L<h'.next∧h.next<=L∧RLockO h' L:=by
 have e1:0<=t∧t<64:=⟨t0,t1⟩
 have e2:¬tr<0:=by omega
 have e3:¬255<tr:=by omega
 have k36:=h36 ⟨h.next+1,h.t.set h.next (.row (putList 0 [.int .u64 lo,.int .u64 hi] T.e) 2 133)⟩ t
 simp only[go_sem,seval,k36,e1,e2,e3]
 refine opt_by (h189 _ lo hi hv) fun v1 h1 p1=>?_
 obtain⟨rfl,st⟩:=p1
 have g0:=st.old h.next (Nat.lt_succ_self _)
 simp only[go_sem,seval]at g0
 have nx:h.next+1<=h1.next:=st.next
 simp only[go_sem,seval,g0]
 refine⟨⟨by show h.next<=h1.next+1;omega,fun b hb=>?_⟩,h1.next,rfl,Nat.lt_succ_self _,by omega,_,_,by simp only[go_sem,seval];rfl,rfl⟩
 have q1:¬b=h1.next:=by omega
 have q3:¬b=h.next:=by omega
 have:=st.old b (by show b<h.next+1;omega)
 simp only[go_sem,seval,q3]at this
 simp only[go_sem,seval,q1,this]
theorem w50{h:H}{L:Nat}(hL:RLockO h L):WF P call c50 [.ptr L 0] h fun v h'=>v=.int .u8 2∧h'=h:=by
 obtain⟨lc,n,gl,l5⟩:=hL
 simp only[go_sem,seval,gl,l5]
def F131(call:CallE):Prop:=∀h B (t lo hi tr:Int),0<=t->t<64->0<=tr->tr<=255->¬hi<lo->Does call 131 [.ptr B 0,.int .i64 t,.agg [.int .u64 lo,.int .u64 hi],.int .i64 tr] h fun v h'=>StepN h h'∧∃L,v=.tup [.ptr L 0,.int .i64 0]∧L<h'.next∧h.next<=L∧RLockO h' L
def F50(call:CallE):Prop:=∀h L,RLockO h L->call 50 [.ptr L 0] h=some (.int .u8 2,h)
theorem w13(h34:F34 call){h:H}{B:Nat}{t:Int}(t0:0<=t)(t1:t<64):WF P call c13 [.ptr B 0,.int .i64 t] h fun v h'=>(∃Q,v=.tup [.ptr Q 0,.int .i64 0])∧StepN h h':=by
 have k:=h34 h t
 have e:0<=t∧t<64:=⟨t0,t1⟩
 simp only[go_sem,seval,k,e]
 exact⟨⟨_,rfl⟩,StepN.new h _⟩
def F13(call:CallE):Prop:=∀h B (t:Int),0<=t->t<64->Does call 13 [.ptr B 0,.int .i64 t] h fun v h'=>(∃Q,v=.tup [.ptr Q 0,.int .i64 0])∧StepN h h'
theorem RLockO.step{h h':H}{L:Nat}(l:RLockO h L)(g:h'.t.get L=h.t.get L):RLockO h' L:=by
 obtain⟨lc,n,gl,l5⟩:=l
 exact⟨lc,n,g.trans gl,l5⟩
@[go_sem]def c43:CF:=⟨4,(Qq (Sq [a 8 2,z 9 54 8 0] (Cq 9 (Sq [a 10 0,a 11 2,⟨some 12,none,.p (.build [iz,fz,uz,uz,iz] [(0,1,.t 11)])⟩,m 13 10,d 14 20 13,t 5 14 12] (Rq [a 15 0,m 16 15,d 17 19 16,qE 1 17])) .skip)) (Oq [a 18 0,a 19 0,a 20 1,a 21 3,m 22 18,d 23 12 22,t 1 23 20,m 24 19,d 25 13 24,t 1 25 21])),[]⟩
@[go_sem]def c41:CF:=⟨1,(Sq [w 1 72 0] (Qq (.drw ⟨[([qd 0 1,n 1 5 0,j 2 6 1 0,k 3 7 2,qd 4 1,n 5 9 4,j 6 10 5 1,k 7 11 6,qd 8 1,n 9 13 8,j 10 14 9 2,k 11 15 10,qd 12 1,n 13 17 12,j 14 18 13 11,k 15 19 14],some (qp 16 8 3 12 7 16 11 20 15 8)),([y 17 21 16,N 18 4 17 0,N 19 4 17 1,y 20 22 18,y 21 23 19],none)],[(0,5),(1,6),(2,7),(3,8),(4,9),(5,10),(6,11),(7,12),(8,13),(9,14),(10,15),(11,16),(12,17),(13,18),(14,19),(15,20),(16,21),(17,4),(18,22),(19,23),(20,2),(21,3)],[]⟩) (Oq [i 24 1,a 25 2,qt 26 53 25,a 27 3,zI 28 113 1,qv 29 43 24 26 27 28]))),[]⟩
@[go_sem]def c16:CF:=⟨1,(Sq [v 2 0] (Qq (Sq [a 3 0,u 4 72 3,a 5 4,s 6 5 0,qi 7 5 6,M 8 5 19 7,L 9 5 8,r 10 5 9] (Kq 10 [v 2 0] .skip)) (Rq [a 11 0,m 12 11,d 13 12 12,i 14 13,⟨some 15,none,.ci (.t 14) "Next" []⟩,a 2 15]))),[.tmp 2]⟩
class PQ(P:Program):Prop extends PT P where
 agg24:aggOf P 24=some (some 3)
theorem part24(P:Program)[p:PQ P](l:List AV)(i:Nat):partA P 24 l i=cond (Nat.ble (i+3) l.length) (some (.agg ((l.drop i).take 3))) none:=by unfold partA;rw[p.agg24]
structure AL(h:H)(a:AdA)(ek:EK)(c:CfgT)(n:Nat)(hL:H)(lv ev:AV)(ws:List Int)(l:List AccT)(es:List EvT)(nu:List Int):Prop where
 A:SideA h a ek c n hL lv ev ws l es nu
 lay:layB c
 nw:n<=ws.length
 n64:n<=64
 nu01:∀(i:Nat) (x:Int),nu[i]?=some x->x=0∨x=1
theorem AL.step{h h':H}{a:AdA}{ek:EK}{c:CfgT}{n:Nat}{hL:H}{lv ev:AV}{ws:List Int}{l:List AccT}{es:List EvT}{nu:List Int}(m:AL h a ek c n hL lv ev ws l es nu)(s:StepN h h'):AL h' a ek c n hL lv ev ws l es nu:=
 ⟨m.A.keep s.next fun b lb _=>s.old b lb,m.lay,m.nw,m.n64,m.nu01⟩
theorem AL.bh{h:H}{a:AdA}{ek:EK}{c:CfgT}{n:Nat}{hL:H}{lv ev:AV}{ws:List Int}{l:List AccT}{es:List EvT}{nu:List Int}(m:AL h a ek c n hL lv ev ws l es nu):BH h a.A c a.M a.R:=
 ⟨⟨_,_,_,_,_,_,m.A.sa.gA,m.A.st.lay.step m.A.st.fz⟩,m.A.sa.lA⟩
theorem AL.cl{h:H}{a:AdA}{ek:EK}{c:CfgT}{n:Nat}{hL:H}{lv ev:AV}{ws:List Int}{l:List AccT}{es:List EvT}{nu:List Int}(m:AL h a ek c n hL lv ev ws l es nu):c.cuts.length<=1000:=by
 obtain⟨_,_,_,_,_,_,_,d,_⟩:=m.lay
 rcases d with⟨_,_,e⟩|⟨_,_,e⟩|⟨_,_,_,e,_⟩
 ·rw[e];exact Nat.zero_le _
 ·rw[e];exact Nat.zero_le _
 ·omega
theorem set_off{h:H}{D:Nat}{c c':T AV}{k k':Nat}{Z:Nat}{ek:EK}(g:h.t.get D=some (.row c k 128))(m:NxZ h Z ek):NxZ ⟨h.next,h.t.set D (.row c' k' 128)⟩ Z ek:=by
 obtain⟨X,Q,x,y,z,gZ,gQ,nx,lX,lQ,lZ⟩:=m
 have q:∀{b:Nat} {c'' k'' e},h.t.get b=some (.row c'' k'' e)->e≠128->(h.t.set D (.row c' k' 128)).get b=h.t.get b:=fun{b c'' k'' e} g' hne=>by
  have:¬b=D:=rowL_ne g' g hne
  simp only[go_sem,seval,this]
 refine⟨X,Q,x,y,z,(q gZ (by decide)).trans gZ,(q gQ (by decide)).trans gQ,?_,lX,lQ,lZ⟩
 cases ek with
 |full G N B=>obtain⟨a,b,c,f,x,y,g⟩:=nx;exact⟨a,b,c,f,x,y,(q g (by decide)).trans g⟩
 |each G N F=>obtain⟨a,b,c,d,g⟩:=nx;exact⟨a,b,c,d,(q g (by decide)).trans g⟩
 |gate G S nb Sx=>obtain⟨a,b,c,d,e,f,Y,g,gY,lY⟩:=nx;exact⟨a,b,c,d,e,f,Y,(q g (by decide)).trans g,(q gY (by decide)).trans gY,lY⟩
theorem w43(P:Program){call:CallE}{h:H}{D:Nat}{cells:List AV}{p f:AV}(g:h.t.get D=some (.row (putList 0 cells T.e) 25 128))(hl:cells.length=25)(op:oneA p=true)(of:oneA f=true):
 WF P call c43 [.ptr D 0,p,.int .i64 0,f] h fun v h'=>v=.tup []∧h'=⟨h.next,h.t.set D (.row (putList 0 ((cells.set 12 p).set 13 f) T.e) 25 128)⟩:=by
 simp only[go_sem,seval,g,hl,op,of]
def F43(call:CallE):Prop:=∀h D cells p f,h.t.get D=some (.row (putList 0 cells T.e) 25 128)->cells.length=25->oneA p=true->oneA f=true->call 43 [.ptr D 0,p,.int .i64 0,f] h=some (.tup [],⟨h.next,h.t.set D (.row (putList 0 ((cells.set 12 p).set 13 f) T.e) 25 128)⟩)
def PtA(h:H)(D:Nat)(ek:EK)(get:Bool):Prop:=D<h.next∧∃cells:List AV,h.t.get D=some (.row (putList 0 cells T.e) 25 128)∧cells.length=25∧cells[19]?=some (.bool false)∧(if get then∃Z,cells[12]?=some (.ifc 53 (.ptr Z 0))∧NxZ h Z ek else∃L,cells[12]?=some (.ifc 129 (.ptr L 0))∧L<h.next∧LockO h L)
theorem w41(h8:F8g call)(h43:F43 call){h:H}{a:AdA}{n bs:Nat}{ek:EK}{nu:List Int}{t u:Int}{s:Nat}{lv ev:AV}{ws:List Int}{l:List AccT}{es:List EvT}(sa:SA h a ek n lv ev ws l es)(m:EngA h a.M n bs nu ek)(vs:VS a ek)(hn:n<=64)(hb:bs<=5000)(t0:0<=t)(t1:t<64)(u0:0<=u)(u1:u<64)(hs:s<n)(hx:nu[s]?=some 0)
 {D:Nat} {cells:List AV} (lD:D<h.next) (gD:h.t.get D=some (.row (putList 0 cells T.e) 25 128)) (hl:cells.length=25) (c0:cells[0]?=some (.ptr a.A 0)) (c1:cells[1]?=some (.int .i64 t)) (c2:cells[2]?=some (.int .i64 (s:Int))) (c11:cells[11]?=some (.int .i64 u)) (c19:cells[19]?=some (.bool false))
 (dS:∀b,saF a lv ev b->b≠D) (dE:∀b,engF ek b->b≠D) (lE:∀b,engF ek b->b<h.next):
 WF P call c41 [.ptr D 0] h fun v h'=>v=.tup []∧PtA h' D ek true∧SA h' a ek n lv ev ws l es∧Tch (fun b=>engM ek b∨b=a.V∨b=D) h h':=by
 have x1:¬D=h.next:=by omega
 have st0:=StepN.new h (.row (putList 0 [.ptr D 0] T.e) 1 72)
 have kE:∀b,engM ek b->b<h.next:=fun b hb=>lE b (engM_F hb)
 simp only[go_sem,seval,gD,hl,c0,c1,c2,c11,x1]
 refine opt_by (h8 _ a n bs ek nu t u s lv ev ws l es (sa.step st0) (m.step st0) vs hn hb t0 t1 u0 u1 hs hx) fun v1 h1 p1=>?_
 obtain⟨Z,rfl,oZ,nz,sa1,st1⟩:=p1
 have nx:h.next+1<=h1.next:=st1.next
 have gD1:h1.t.get D=some (.row (putList 0 cells T.e) 25 128):=by
  rw[st1.old D (by show D<h.next+1;omega) fun q=>q.elim (fun q=>dE D (engM_F q) rfl) fun q=>dS a.V (.inr (.inr (.inr (.inl rfl)))) q.symm,st0.old D lD]
  exact gD
 have gX1:h1.t.get h.next=some (.row (putList 0 [.ptr D 0] T.e) 1 72):=by
  rw[st1.old h.next (Nat.lt_succ_self _) fun q=>q.elim (fun q=>by have:=kE _ q;omega) fun q=>by have:=sa.lV;omega]
  simp only[go_sem,seval]
 simp only[go_sem,seval,gX1,nx]
 refine opt_some (h43 h1 D cells (.ifc 53 (.ptr Z 0)) (.fn (.func 113) [] [.ptr h.next 0]) gD1 hl rfl rfl) ?_
 simp only[go_sem,seval]
 refine⟨⟨by show D<h1.next;omega,(cells.set 12 (.ifc 53 (.ptr Z 0))).set 13 (.fn (.func 113) [] [.ptr h.next 0]),by simp[go_sem],by rw[List.length_set,List.length_set];exact hl,by rw[List.getElem?_set_ne (by decide),List.getElem?_set_ne (by decide)];exact c19,?_⟩,sa1.keep (Nat.le_refl _) fun b lb hb=>?_,by show h.next<=h1.next;omega,fun b lb hb=>?_⟩
 ·rw[if_pos rfl]
  exact⟨Z,by rw[List.getElem?_set_ne (by decide),List.getElem?_set_self (by rw[hl];decide)],set_off gD1 nz⟩
 ·have:=dS b hb
  simp only[go_sem,seval,this]
 ·have q:¬b=D:=fun q=>hb (.inr (.inr q))
  simp only[go_sem,seval,q]
  rw[st1.old b (by show b<h.next+1;omega) fun q=>hb (q.imp id .inl),st0.old b lb]
def F41(call:CallE):Prop:=∀h a n bs ek nu (t u:Int) (s:Nat) lv ev ws l es D cells,SA h a ek n lv ev ws l es->EngA h a.M n bs nu ek->VS a ek->n<=64->bs<=5000->0<=t->t<64->0<=u->u<64->s<n->nu[s]?=some 0->D<h.next->h.t.get D=some (.row (putList 0 cells T.e) 25 128)->cells.length=25->cells[0]?=some (.ptr a.A 0)->cells[1]?=some (.int .i64 t)->cells[2]?=some (.int .i64 (s:Int))->cells[11]?=some (.int .i64 u)->cells[19]?=some (.bool false)->(∀b,saF a lv ev b->b≠D)->(∀b,engF ek b->b≠D)->(∀b,engF ek b->b<h.next)->
 Does call 41 [.ptr D 0] h fun v h'=>v=.tup []∧PtA h' D ek true∧SA h' a ek n lv ev ws l es∧Tch (fun b=>engM ek b∨b=a.V∨b=D) h h'
def ptPc(tag:Nat)(get:Bool):Int:=if get then pcK tag 0 else 2
theorem w16(P:Program)[pt:PT P]{call:CallE}(h369:F369 call)(h420:F420 call){h:H}{D:Nat}{ek:EK}{get:Bool}(m:PtA h D ek get):WF P call c16 [.ptr D 0] h fun v h'=>v=.int .u8 (ptPc ek.tag get)∧StepN h h':=by
 obtain⟨lD,cells,gD,hl,c19,mm⟩:=m
 cases get with
 |true=>
  rw[if_pos rfl]at mm
  obtain⟨Z,c12,nz⟩:=mm
  simp only[go_sem,seval,gD,hl,c19,c12,pt.nextE]
  refine opt_by (h369 h Z ek nz) fun v1 h1 p1=>?_
  obtain⟨rfl,st⟩:=p1
  simp only[go_sem,seval]
  exact⟨rfl,st⟩
 |false=>
  rw[if_neg (by decide)]at mm
  obtain⟨L,c12,lL,nz⟩:=mm
  simp only[go_sem,seval,gD,hl,c19,c12,pt.nextM]
  refine opt_some (h420 h L nz) ?_
  simp only[go_sem,seval]
  exact⟨rfl,StepN.refl _⟩
def F16(call:CallE):Prop:=∀h D ek get,PtA h D ek get->Does call 16 [.ptr D 0] h fun v h'=>v=.int .u8 (ptPc ek.tag get)∧StepN h h'
@[go_sem]def c14:CF:=⟨5,(Sq [w 8 66 3,p 10,b 11 0] (Qq (Sq [a 17 0,u 18 30 17,a 19 18,s 20 19 4,qA 21 19 62 20,r 22 19 21] (Kq 22 [p 10,b 11 1] .skip)) (Qq (Sq [a 23 1,K 24 3 23 0,a 25 24,s 26 25 1,qn 27 25 3 26 64,r 28 25 27,a 29 28,M 30 29 0 8,L 31 29 30,zA 32 29 5 31 3,r 33 29 32,a 34 33,M 35 34 0 8,L 36 34 35,q3 37 34 5 36 7,r 38 34 37] (Kq 38 [p 10,b 11 2] .skip)) (Qq (Sq [a 39 2,K 40 3 39 0,a 41 40,s 42 41 2,s 43 41 0,q4 44 41 35 43,⟨some 45,some (41,false),.p (.fld 3 1 (.t 44))⟩,qw 46 41 3 42 45,r 47 41 46] (Kq 47 [p 10,b 11 3] .skip)) (Qq (Sq [a 48 0,q 49 36 48,a 50 2,E 51 1 49 50,i 52 51,a 53 1,qK 54 3 52 53,a 55 54,s 56 55 0,q4 57 55 38 56,q4 58 55 39 57,s 59 55 2,jk 60 55 37 58 59,r 61 55 60] (Kq 61 [p 10,b 11 8] .skip)) (Qq (.drw ⟨[([g 0 0,S 3 8 1,k 4 66 3],some (qg 1 63 0 35)),([zL 2 64 1 24 4],some (q1 5 65 2 67 4 40)),([y 6 68 5,N 7 62 6 0,N 8 62 6 1,y 9 69 7,y 10 70 8],none)],[(0,63),(1,64),(2,65),(3,66),(4,67),(5,68),(6,62),(7,69),(8,70),(9,12),(10,13)],[(⟨4,[(66,(some 3))],none,.r (.ld none (.t 66))⟩,[1])]⟩) (Sq [a 71 0,a 72 1,a 73 2,V 74 7 8,a 75 4,a 76 12,⟨some 77,none,.p (.build [.nilp,iz,iz,bz,uz,uz,uz,uz,uz,uz,.nilp,iz,.nili,.nilf,iz,iz,fz,fz,fz,fz,iz,fz,uz,uz,iz] [(0,1,.t 71),(1,1,.t 72),(2,1,.t 73),(3,7,.t 74),(10,1,.t 75),(11,1,.t 76)])⟩,w 78 128 77,⟨some 14,none,.n (.new 72 [.nilp])⟩,t 1 14 78] (Qq (Sq [d 79 0 8,i 80 79,J 81 5 80 3] (Cq 81 (Sq [i 82 14,q 83 41 82] (Rq [i 84 14,a 10 84,b 11 0])) .skip)) (Qq (.drw ⟨[([g 0 0,g 1 1,S 2 8 1,k 3 88 2,S 4 8 1,k 5 90 4,zP 6 89 3 91 5 0 0 0 1 1 1,g 7 0,⟨14,[],none,.n (.new 129 [.nilp])⟩],some (qg 8 93 7 35)),([zL 9 94 8 3 14],some (qp 10 86 0 87 1 92 6 95 9 42)),([y 11 96 10,N 12 85 11 0,N 13 85 11 1],some (R 15 15 14 97 12 1)),([y 16 98 13],none)],[(0,86),(1,87),(2,88),(3,89),(4,90),(5,91),(6,92),(7,93),(8,94),(9,95),(10,96),(11,85),(12,97),(13,98),(14,15),(16,16)],[(⟨3,[(88,(some 2))],none,.r (.ld none (.t 88))⟩,[0,1]),(⟨5,[(90,(some 4))],none,.r (.ld none (.t 90))⟩,[0,1])]⟩) (Sq [i 99 14,i 100 15,qt 101 129 100,z5 102 44 15 14,⟨some 103,none,.cv (.c (.fn (.func 43) [] [])) [.t 99,.t 101,.c (.int .i64 0),.t 102]⟩] (Rq [i 104 14,a 10 104,b 11 0]))))))))))),[.tmp 10,.tmp 11]⟩
def newE(n:Nat)(ws nu:List Int)(kd t s:Int):Int:=if kd<3∨7<kd then 2 else freeE n ws nu t s
def F36(call:CallE):Prop:=∀h A c M W R ws (n:Nat),c.slots=(n:Int)->n<=64->BH h A c M R->c.cuts.length<=1000->MemH h M W ws->M<h.next->W<h.next->n<=ws.length->Does call 36 [.ptr A 0] h (Post36 n ws h)
theorem EngA.len{h:H}{M n bs:Nat}{nu:List Int}{ek:EK}(m:EngA h M n bs nu ek):nu.length=n:=by
 cases ek with
 |full G N B=>
  have m':FullE h M n bs G N B nu (List.replicate n false):=m
  exact m'.ln
 |each G N F=>
  have m':EachE h M n bs G N F (eZ nu):=m
  have:=m'.ln
  unfold eZ at this
  rw[List.length_map]at this
  exact this
 |gate G S nb Sx=>exact m.1
def PostNA(a:AdA)(ek:EK)(n:Nat)(lv ev:AV)(ws:List Int)(l:List AccT)(es:List EvT)(nu:List Int)(kd t s:Int)(h:H)(v:AV)(h':H):Prop:=
 (newE n ws nu kd t s≠0∧v=.tup [.nilp,.int .i64 (newE n ws nu kd t s)]∧StepN h h')∨(newE n ws nu kd t s=0∧∃D,v=.tup [.ptr D 0,.int .i64 0]∧PtA h' D ek (decide (kd=3))∧SA h' a ek n lv ev ws l es∧Tch (fun b=>engM ek b∨b=a.V) h h')
theorem w14(P:Program)[pq:PQ P]{call:CallE}(h35:F35 call)(h36:F36 call)(h38:F38 call)(h39:F39 call)(h37:F37 call)(h40:F40 call)(h41:F41 call)(h42:F42 call)(h43:F43 call){h:H}{a:AdA}{ek:EK}{c:CfgT}{n:Nat}{hL:H}{lv ev:AV}{ws:List Int}{l:List AccT}{es:List EvT}{nu:List Int}(m:AL h a ek c n hL lv ev ws l es nu)(t s kd k o1 o2 o3 o4 o5:Int)(k0:0<=k)(Q:Nat):
 WF P call c14 [.ptr a.A 0,.int .i64 t,.int .i64 s,.agg [.int .u8 kd,.int .u64 k,.int .u64 o1,.int .u64 o2,.int .u64 o3,.int .u64 o4,.int .u64 o5],.ptr Q 0] h (PostNA a ek n lv ev ws l es nu kd t s h):=by
 have st0:=StepN.new h (.row (putList 0 [.int .u8 kd,.int .u64 k,.int .u64 o1,.int .u64 o2,.int .u64 o3,.int .u64 o4,.int .u64 o5] T.e) 7 66)
 have bh:=m.bh
 have cl:=m.cl
 have sl:=m.A.sl
 have n64:=m.n64
 have err:∀(e:Int) h',StepN h h'->newE n ws nu kd t s=e->e≠0->PostNA a ek n lv ev ws l es nu kd t s h (.tup [.nilp,.int .i64 e]) h':=fun e h' st he h0=>.inl ⟨by rw[he];exact h0,by rw[he],st⟩
 by_cases n0:t<0
 ·simp only[go_sem,seval,n0]
  exact err 2 _ st0 (by unfold newE freeE;split;rfl;rw[if_pos (by omega)]) (by decide)
 by_cases t1:t<64
 rotate_left
 ·simp only[go_sem,seval,n0,t1]
  exact err 2 _ st0 (by unfold newE freeE;split;rfl;rw[if_pos (by omega)]) (by decide)
 by_cases q0:kd<3
 ·simp only[go_sem,seval,n0,t1,q0]
  exact err 2 _ st0 (by unfold newE;rw[if_pos (.inl q0)]) (by decide)
 by_cases q1:7<kd
 ·simp only[go_sem,seval,n0,t1,q0,q1]
  exact err 2 _ st0 (by unfold newE;rw[if_pos (.inr q1)]) (by decide)
 have ne:newE n ws nu kd t s=freeE n ws nu t s:=by unfold newE;rw[if_neg (by omega)]
 have te:¬¬(0<=t∧t<64):=by omega
 by_cases s0:s<0
 ·simp only[go_sem,seval,n0,t1,q0,q1,s0]
  exact err 3 _ st0 (by rw[ne];unfold freeE;rw[if_neg te,if_pos (.inl s0)]) (by decide)
 simp only[go_sem,seval,n0,t1,q0,q1,s0]
 refine opt_by (h35 _ a.A c a.M a.R (bh.step st0) cl) fun v1 h1 p1=>?_
 obtain⟨⟨cv,rfl,rd,lo⟩,st1⟩:=p1
 have st01:=st0.trans st1
 by_cases s1:s<(n:Int)
 rotate_left
 ·simp only[go_sem,seval,cfgC,part3,sl,s1]
  exact err 3 _ st01 (by rw[ne];unfold freeE;rw[if_neg te,if_pos (by omega)]) (by decide)
 obtain⟨s,rfl⟩:∃k:Nat,s=(k:Int):=⟨s.toNat,by omega⟩
 have hs:s<n:=by omega
 obtain⟨x,hx⟩:∃x,ws[s]?=some x:=⟨_,List.getElem?_eq_getElem (by have:=m.nw;omega)⟩
 have fe:freeE n ws nu t (s:Int)=if¬some x=some (t+1)then 8 else if nu[s]?=some 1 then 8 else 0:=by
  unfold freeE
  rw[if_neg te,if_neg (by omega),Int.toNat_natCast,hx]
 simp only[go_sem,seval,cfgC,part3,sl,s1]
 have m1:=m.step st01
 refine opt_by (h36 h1 a.A c a.M a.W a.R ws n sl n64 m1.bh cl m1.A.sa.mm.mem m1.A.sa.mm.lM m1.A.sa.mm.lW m.nw) fun v2 h2 p2=>?_
 obtain⟨st2,O,cs,rfl,lO,gO,hcs⟩:=p2
 have st02:=st01.trans st2
 have hc:=hcs s x hs hx
 have m2:=m.step st02
 by_cases ex:x=t+1
 rotate_left
 ·have ow:¬ownV x=t:=by
   unfold ownV
   split<;>omega
  simp only[go_sem,seval,s1,gO,hc,ow,Nat.mul_one]
  exact err 8 _ st02 (by rw[ne,fe,if_pos (by simp[ex])]) (by decide)
 have ow:ownV x=t:=by
  unfold ownV
  rw[if_pos (by omega)]
  omega
 simp only[go_sem,seval,s1,gO,hc,ow,Nat.mul_one]
 refine opt_some (h38 h2 a.A c a.M a.R m2.bh) ?_
 simp only[go_sem,seval]
 refine opt_by (h39 h2 a.M a.R n n ek a.kd nu m2.A.sa.gR m2.A.en n64 m.nu01) fun v3 h3 p3=>?_
 obtain⟨st3,q,q2,q3,o,_⟩:=p3
 have st03:=st02.trans st3
 simp only[go_sem,seval]
 refine opt_some (h37 h3 v3 (s:Int) (opn nu q) o (by have:=opn_len nu q;omega)) ?_
 by_cases hin:(s:Int)∈opn nu q
 ·have h1:=(opn_mem nu q s (by omega)).1 hin
  simp only[go_sem,seval,hin]
  exact err 8 _ st03 (by rw[ne,fe,if_neg (by simp[ex]),if_pos h1]) (by decide)
 have nin:¬nu[s]?=some 1:=fun h1=>hin ((opn_mem nu q s (by omega)).2 h1)
 have hx0:nu[s]?=some 0:=by
  have hl:=m.A.en.len
  obtain⟨y,hy⟩:∃y,nu[s]?=some y:=⟨_,List.getElem?_eq_getElem (by omega)⟩
  rcases m.nu01 s y hy with rfl|rfl
  ·exact hy
  ·exact absurd hy nin
 have e0:newE n ws nu kd t (s:Int)=0:=by rw[ne,fe,if_neg (by simp[ex]),if_neg nin]
 have m3:=m.step st03
 have gX3:h3.t.get h.next=some (.row (putList 0 [.int .u8 kd,.int .u64 k,.int .u64 o1,.int .u64 o2,.int .u64 o3,.int .u64 o4,.int .u64 o5] T.e) 7 66):=by
  rw[((st1.trans st2).trans st3).old h.next (Nat.lt_succ_self _)]
  simp only[go_sem,seval]
 simp only[go_sem,seval,hin,gX3]
 refine opt_by (h35 h3 a.A c a.M a.R m3.bh cl) fun v4 h4 p4=>?_
 obtain⟨⟨cv4,rfl,rd4,lo4⟩,st4⟩:=p4
 have lX:h.next<h3.next:=Nat.lt_of_lt_of_le (Nat.lt_succ_self _) ((st1.trans st2).trans st3).next
 have gX4:=(st4.old h.next lX).trans gX3
 have ov4:=rd4.one
 have nx4:=st4.next
 simp only[go_sem,seval,part24,cfgC,gX4,ov4,nx4]
 obtain⟨_,_,⟨_,_⟩,_,_,_,_,hd,_,⟨tr0,tr1⟩,_⟩:=m.lay
 refine opt_by (h40 h4 c.kind c.n k cv4 c.cuts hd rd4 (fun b hb=>(lo4 b hb).2) k0) fun v5 h5 p5=>?_
 obtain⟨⟨u,rfl,u0,u1⟩,st5⟩:=p5
 have gX5:=(st5.old h.next (Nat.lt_of_lt_of_le lX st4.next)).trans gX4
 have st05:=(st03.trans st4).trans st5
 have lX5:h.next<h5.next:=Nat.lt_of_lt_of_le lX (st4.trans st5).next
 have x1:¬h.next=h5.next:=by omega
 have x2:¬h.next=h5.next+1:=by omega
 have x3:¬h5.next=h5.next+1:=by omega
 have x4:¬h5.next+1=h5.next:=by omega
 have nx5:=st5.next
 have st57:∀x y,StepN h5 ⟨h5.next+2,(h5.t.set h5.next x).set (h5.next+1) y⟩:=fun x y=>⟨Nat.le_add_right _ _,fun b hb=>by
  have e1:¬b=h5.next:=by omega
  have e2:¬b=h5.next+1:=by omega
  simp only[go_sem,seval,e1,e2]⟩
 have lh:h.next<h5.next:=lX5
 simp only[go_sem,seval,gX5,gX4,nx5,x1,x2,x3,x4]
 by_cases k3:kd=3
 ·subst k3
  simp only[go_sem,seval]
  refine opt_by (h41 _ a n n ek nu t u s lv ev ws l es h5.next _ ((m.step st05).step (st57 _ _)).A.sa ((m.step st05).step (st57 _ _)).A.en m.A.vs n64 (by omega) (by omega) t1 u0 u1 hs hx0 (by show h5.next<h5.next+2;omega) (by simp only[go_sem,seval,x3];rfl) rfl rfl rfl rfl rfl rfl (fun b hb q=>by have:=m.A.sa.lt hb;omega) (fun b hb q=>by have:=m.A.el b hb;omega) (fun b hb=>by have:=m.A.el b hb;show b<h5.next+2;omega)) fun v6 h6 p6=>?_
  obtain⟨rfl,pt,sa6,st6⟩:=p6
  have gP6:h6.t.get (h5.next+1)=some (.row (putList 0 [.ptr h5.next 0] T.e) 1 72):=by
   rw[st6.old (h5.next+1) (by show h5.next+1<h5.next+2;omega) fun q=>by
        rcases q with q|q|q
        ·have:=m.A.el _ (engM_F q);omega
        ·have:=m.A.sa.lV;omega
        ·omega]
   simp only[go_sem,seval]
  simp only[go_sem,seval,gP6]
  refine .inr ⟨e0,h5.next,rfl,pt,sa6,by have:=st6.next;have:=st05.next;show h.next<=h6.next;simp only at*;omega,fun b lb hb=>?_⟩
  rw[st6.old b (by show b<h5.next+2;omega) fun q=>by
   rcases q with q|q|q
   ·exact hb (.inl q)
   ·exact hb (.inr q)
   ·omega]
  exact(st05.trans (st57 _ _)).old b lb
 ·have y1:¬h.next=h5.next+2:=by omega
  have y2:¬h5.next=h5.next+2:=by omega
  have y3:¬h5.next+1=h5.next+2:=by omega
  have y4:¬h5.next+2=h5.next:=by omega
  have y5:¬h5.next+2=h5.next+1:=by omega
  have st58:∀x y z,StepN h5 ⟨h5.next+3,((h5.t.set h5.next x).set (h5.next+1) y).set (h5.next+2) z⟩:=fun x y z=>⟨Nat.le_add_right _ _,fun b hb=>by
   have e1:¬b=h5.next:=by omega
   have e2:¬b=h5.next+1:=by omega
   have e3:¬b=h5.next+2:=by omega
   simp only[go_sem,seval,e1,e2,e3]⟩
  simp only[go_sem,seval,k3,gX5,gX4,x1,x2,x3,x4,y1,y2,y3,y4,y5]
  refine opt_by (h35 _ a.A c a.M a.R ((m.step st05).step (st58 _ _ _)).bh cl) fun v6 h6 p6=>?_
  obtain⟨⟨cv6,rfl,rd6,lo6⟩,st6⟩:=p6
  have nx6:h5.next+3<=h6.next:=st6.next
  have gD6:=st6.old h5.next (by show h5.next<h5.next+3;omega)
  have gP6:=st6.old (h5.next+1) (by show h5.next+1<h5.next+3;omega)
  have gE6:=st6.old (h5.next+2) (by show h5.next+2<h5.next+3;omega)
  have gX6:=st6.old h.next (by show h.next<h5.next+3;omega)
  simp only[go_sem,seval,x1,x2,x3,x4,y1,y2,y3,y4,y5,gX5]at gD6 gP6 gE6 gX6
  simp only[go_sem,seval,cfgC,part3,nx6,gX6,gX5,x1,x2,x3,x4,y1,y2,y3,y4,y5]
  refine opt_by (h42 h6 a.A t k k c.tries (by omega) t1 (by omega) tr1 (by omega)) fun v7 h7 p7=>?_
  obtain⟨st7,L,rfl,lL,oL,lo7⟩:=p7
  have nx7:h6.next<=h7.next:=st7.next
  have gD7:=(st7.old h5.next (by omega)).trans gD6
  have gP7:=(st7.old (h5.next+1) (by omega)).trans gP6
  have gE7:=(st7.old (h5.next+2) (by omega)).trans gE6
  have gX7:=(st7.old h.next (by omega)).trans gX6
  simp only[go_sem,seval,gX6,gX5,gX7,gE7,gP7,nx7,nx6,x1,x2,x3,x4,y1,y2,y3,y4,y5]
  refine opt_some (h43 _ h5.next _ (.ifc 129 (.ptr L 0)) _ (by simp only[go_sem,seval,y2];exact gD7) rfl rfl rfl) ?_
  simp only[go_sem,seval,gP7,y3,x4]
  have k4:decide (kd=3)=false:=decide_eq_false k3
  have stA:StepN h5 h7:=((st58 _ _ _).trans st6).trans st7
  have L1:¬L=h5.next:=by omega
  have L2:¬L=h5.next+2:=by omega
  have fin:StepN h ⟨h7.next,(h7.t.set (h5.next+2) (.row (putList 0 [.ptr L 0] T.e) 1 129)).set h5.next (.row (putList 0 [.ptr a.A 0,.int .i64 t,.int .i64 (s:Int),.int .u8 kd,.int .u64 k,.int .u64 o1,.int .u64 o2,.int .u64 o3,.int .u64 o4,.int .u64 o5,.ptr Q 0,.int .i64 u,.ifc 129 (.ptr L 0),.fn (.func 44) [] [.ptr (h5.next+2) 0,.ptr (h5.next+1) 0],.int .i64 0,.int .i64 0,.bool false,.bool false,.bool false,.bool false,.int .i64 0,.bool false,.int .u64 0,.int .u64 0,.int .i64 0] T.e) 25 128)⟩:=⟨by have:=(st05.trans stA).next;exact this,fun b hb=>by
   have e1:¬b=h5.next:=by omega
   have e2:¬b=h5.next+2:=by omega
   simp only[go_sem,seval,e1,e2]
   exact(st05.trans stA).old b hb⟩
  refine .inr ⟨e0,h5.next,rfl,?_,(m.step fin).A.sa,fin.next,fun b lb _=>fin.old b lb⟩
  rw[k4]
  refine⟨by show h5.next<h7.next;omega,_,by simp only[go_sem,seval];rfl,rfl,rfl,?_⟩
  rw[if_neg (by decide)]
  exact⟨L,rfl,lL,lo7.step (by simp[go_sem,L1,L2])⟩
def F14(call:CallE):Prop:=∀h a ek c n hL lv ev ws l es nu (t s kd k o1 o2 o3 o4 o5:Int) (Q:Nat),AL h a ek c n hL lv ev ws l es nu->0<=k->Does call 14 [.ptr a.A 0,.int .i64 t,.int .i64 s,.agg [.int .u8 kd,.int .u64 k,.int .u64 o1,.int .u64 o2,.int .u64 o3,.int .u64 o4,.int .u64 o5],.ptr Q 0] h (PostNA a ek n lv ev ws l es nu kd t s h)
end
end Go.Proofs.YtghmnaojmpjglaaGreatDoor.PR
