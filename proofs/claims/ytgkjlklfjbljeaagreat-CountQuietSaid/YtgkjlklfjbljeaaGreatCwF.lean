/-
  What functions of the program compute. Conditions: those of each theorem.
-/
import Derived.Test.YtgkjlklfjbljeaaGreatCwE
import Derived.Test.YtgkjlklfjbljeaaGreatCwD
set_option linter.all false
namespace Go.Proofs.YtgkjlklfjbljeaaGreat.CQ
open Go.Proofs.YtgkjlklfjbljeaaGreat.Eo
noncomputable section
@[go_sem]def c14:CF:=⟨1,(Sq [p 2] (Qq (Sq [a 3 0,y 4 30 3] (Kq 4 [p 2] .skip)) (Rq [a 5 0,j 6 5,d 7 0 6,d 8 3 7,i 9 8,a 2 9]))),[.tmp 2]⟩
def Fz:CC:=(Qq (Sq [a 50 15,D 51 3 50 3] (Cq 51 .skip (.exit 0))) (Qq (.block 1 (Sq [a 55 11,q 56 81 55,a 54 56,o 57 54 0,o 58 54 1,a 16 57,a 17 58] (Sq [a 60 13,q 61 82 60,a 59 61,o 62 59 0,o 63 59 1,a 18 62,a 19 63] (Sq [a 64 16,a 65 18,qZ 66 5 64 65,a 67 66,r 68 67 17,r 69 67 19,z5 70 67 4 68 69,u 71 67 70] (Kq 71 [w 10] .skip))))) (Oq [a 52 15,C 53 3 52 1,a 15 53])))
@[go_sem]def c29:CF:=⟨5,(Sq [z 5 33 0,z 8 83 3,w 10] (Qq (.cn ⟨[([R 0 5 0,k 1 21 0,g 3 1,g 4 2,qt 5 8 2,g 6 4],some (Z 2 22 1 14)),([],some (qU 7 23 2 24 3 25 4 26 5 27 6 79)),([t 8 28 7,B 9 20 8 0,B 10 20 8 1,t 11 29 9,t 12 30 10],none)],[(0,21),(1,22),(2,23),(3,24),(4,25),(5,26),(6,27),(7,28),(8,20),(9,29),(10,30),(11,11),(12,12)],[(⟨5,[(8,none)],none,.r (.ld (some 2) (.t 8))⟩,[1])]⟩) (Qq (.cn ⟨[([R 0 5 1,k 1 32 0,n 2 33 1,m 3 34 2 3,k 4 35 3,g 5 1,g 6 2,qt 7 8 2,g 8 4],some (qU 9 36 4 37 5 38 6 39 7 40 8 80)),([t 10 41 9,B 11 31 10 0,B 12 31 10 1,t 13 42 11,t 14 43 12],none)],[(0,32),(1,33),(2,34),(3,35),(4,36),(5,37),(6,38),(7,39),(8,40),(9,41),(10,31),(11,42),(12,43),(13,13),(14,14)],[]⟩) (Qq (Sq [a 44 12,A 45 41 44 0,a 46 45,r 47 46 14,zu 48 46 41 47 0,u 49 46 48] (Kq 49 [w 10] .skip)) (Qq (Sq [b 15 0] (.block 0 (.loop Fz))) (Rq [qn 10])))))),[.tmp 10]⟩
structure KK where
 a:AA
 b:AB
 c:aj
 hL:H
 O:Nat
 Gm:Nat
 Gg:Nat
 Tk:Nat
 Gn:Nat
 K:Nat
 C:Nat
 Xz:AV
 rA:List AV
 rB:List AV
abbrev KK.n(k:KK):Nat:=(aH k.c).length
structure uI(k:KK):Prop where
 lay:eU k.hL k.a.L k.c (aA k.c) (aH k.c)
 b:LB k.c
 cu:∀x∈k.c.aI,kB x
 rA:∃R ev V,k.rA=[.ptr R 0,.ax,ev,.map V,.map k.Gm]
 rB:∃R vv,k.rB=[.ptr R 0,.int .i64 0,.bool false,.ax,.ax,vv,.sl k.K 0 (k.n+1) 1 (some (k.n+1)),.sl k.C 0 (k.n+1) 1 (some (k.n+1))]
def bS(v:AV):Nat->List Nat->List (AV×AV×Nat)
 |_,[]=>[]
 |i,t::l=>(.int .i64 (t:Int),v,i)::bS v (i+1) l
def om:AV:=.agg [.int .i64 0,.bool false]
def nP(n:Nat)(l:List Nat):List Bool:=(List.range n).map fun t=>l.contains t
structure DD where
 ws:List Int
 tk:List Nat
 lk:List Nat
def bL(k:KK)(lvA lvB:AV)(mA mB:Nat)(d:DD)(R:List Cm):List Cm:=
 cA k.a.M k.a.W lvA d.ws mA::
 aD k.a.Po (ym k.a.M k.a.L (aA k.c).po (aA k.c).li k.O (.sl k.Gg 0 k.n 1 (some k.n)))::
 aD k.O (.map (bS (.bool false) 0 d.tk) d.tk.length)::
 aD k.Gm (.map (bS om 0 d.lk) d.lk.length)::
 aD k.a.A (ag (.ptr k.a.L 0::.ptr k.a.M 0::.ptr k.a.Po 0::.ptr k.a.To 0::k.rA) 104)::
 aD k.a.To (ag [.ptr k.a.M 0,.ptr k.a.L 0] 123)::
 fz k.hL::
 aD k.Gg (.row (aa 0 (List.replicate k.n (.int .i64 0)) T.e) k.n 3)::
 cB k.b.M k.b.W lvB d.ws mB::
 aD k.b.B (ag (.ptr k.b.L 0::.ptr k.b.M 0::.ptr k.b.Po 0::.ptr k.b.To 0::k.rB) 95)::
 aD k.b.To (ag [.ptr k.b.M 0,.ptr k.b.L 0] 258)::
 Mm k.b.L k.c k.b.cv k.b.hv k.b.wv::
 aD k.b.Po (Mr k.b.M k.b.L (k.n+1) k.Tk k.Xz (.sl k.Gn 0 (k.n+1) 1 (some (k.n+1))))::
 aD k.Tk (.row (aa 0 ((nP (k.n+1) d.tk).map AV.bool) T.e) (k.n+1) 4)::
 aD k.Gn (.row (aa 0 (List.replicate (k.n+1) (.int .i64 0)) T.e) (k.n+1) 3)::
 aD k.K (.row (aa 0 ((nP (k.n+1) d.lk).map fun b=>.int .i64 (cond b 1 0)) T.e) (k.n+1) 3)::
 aD k.C (.row (aa 0 (List.replicate (k.n+1) (.int .i64 0)) T.e) (k.n+1) 3)::R
def St(h:H)(k:KK)(d:DD)(m:Nat)(R:List Cm):Prop:=uI k/\Er k.c d.ws/\∃lvA lvB mA mB,mA<=m/\mB<=m/\Sp h (bL k lvA lvB mA mB d R)
section
variable {k:KK} {lvA lvB:AV} {mA mB:Nat} {d:DD} {R:List Cm}
theorem uI.ac(o:uI k):AC (bL k lvA lvB mA mB d R) k.a k.c 4 5 6:=⟨⟨_,rfl⟩,rfl,⟨_,rfl,o.lay⟩,o.b⟩
theorem uI.bc(o:uI k):BC (bL k lvA lvB mA mB d R) k.b k.c 9 10 11:=⟨⟨_,rfl⟩,rfl,rfl,o.b,o.cu⟩
end
theorem ajK(P:Program)[PF P]{call:ab}{h:H}{B:Nat}{x y:AV}{r:List AV}(g:h.t.get B=some (ag (x::y::r) 104)):WF P call c12 [.ptr B 0] h fun v h'=>v=y/\h'=h:=by
 simp only[go_sem,seval,g]
def FB(call:ab)(f i:Nat):Prop:=∀h B (cs:List AV) v,h.t.get B=some (ag cs 104)->4<=cs.length->cs[i]?=some v->call f [.ptr B 0] h=some (v,h)
theorem w14(P:Program)[PF P]{call:ab}{h:H}{B:Nat}{x y z u:AV}{r:List AV}(g:h.t.get B=some (ag (x::y::z::u::r) 104)):WF P call c14 [.ptr B 0] h fun v h'=>v=u/\h'=h:=by
 simp only[go_sem,seval,g]
theorem ajL(P:Program)[PF P]{call:ab}(mW:FB call 12 1)(uH:D6 call)(k87:Xq call){h:H}{k:KK}{d:DD}{m:Nat}{R:List Cm}(st:St h k d m R)(hm:m<=900000){t:Int}(t0:0<=t)(t1:t<64){i:Nat}{x z:Int}(hx:d.ws[i]?=some x)(z0:0<=z):
 WF P call c31 [.agg [.ptr k.a.A 0,.ptr k.b.B 0],.int .i64 t,.int .i64 (i:Int),.int .u64 z] h fun v h'=>v=.bool true/\h.next<=h'.next/\St h' k {d with ws:=d.ws.set i z} (m+1) R:=by
 obtain⟨o,w,lvA,lvB,mA,mB,hA,hB,s⟩:=st;have s0:=s.new (ag [.ptr k.a.A 0,.ptr k.b.B 0] 33);have gA:=s0.row (n:=5) rfl;have k1:=mW _ k.a.A _ (.ptr k.a.M 0) gA (by simp) rfl;obtain⟨h1,mV,e1,eW,s1⟩:=uH.sp (z:=z) s0 (n:=1) rfl (by omega) t0 t1 hx;obtain⟨h2,Ob,e2,pF,s2⟩:=k87.sp (z:=z) s1 (n:=9) rfl (by omega) t0 t1 hx;have g0:=s1.row (n:=0) rfl;have gB:=s1.row (n:=10) rfl;have g02:=s2.row (n:=0) rfl;have G2:=s2.row (n:=10) rfl;simp only[ag]at k1 e1;simp only[go_sem,seval]at k1 e1;have GX:=s.row (n:=9) rfl;have nB:¬k.b.B=h.next:=by have:=s.uG (n:=9) rfl;omega
 have yJ:h.next<=h2.next:=by have:h.next+1<=h1.next:=eW;omega
 have ajM:h.next+1<=h1.next:=eW;simp only[go_sem,seval,k1,e1,g0,gB,e2,GX,nB,ajM,pF,g02,G2];exact⟨yJ,o,w.set i z0,mV,Ob,_,_,Nat.succ_le_succ hA,Nat.succ_le_succ hB,s2.tail⟩
def F81(call:ab):Prop:=∀h (L:List Cm) a c (ia it iz n q X Lf C2 C1 mm p1 p2 p3:Nat) lv (ws:List Int) (i:Nat) (x y z t:Int) (j ad:Nat) (o:Int),Sp h L->AC L a c ia it iz->L[n]?=some (cA a.M a.W lv ws mm)->mm<=999000->(aH c)[i]?=some x->(nO c)[i]?=some t->j<3->L[q]?=some (aD X (Cg a.M C1 C2 Lf j))->L[p1]?=some (aD Lf (TQ y z))->L[p2]?=some (aD C2 (ag [.int .i64 ((i:Int)+1)] 3))->L[p3]?=some (aD C1 (ag [.ptr a.To 0] 54))->(n≠q/\ia≠q/\it≠q/\iz≠q/\p1≠q/\p2≠q/\p3≠q)->t+(wW j:Int)=(ad:Int)->ws[ad]?=some o->
 aG call 81 [.ptr X 0] h fun v h'=>v=.aE [.int .u8 (9+j),.bool (decide (j=2))]/\∃dU,h.next<=h'.next/\Sp h' ((L.set q (aD X (Cg a.M C1 C2 Lf (j+1)))).set n (cA a.M a.W dU (ws.set ad (wV y z j)) (mm+1)))
def F82(call:ab):Prop:=∀h (L:List Cm) (M Ly To W n q it X Fa Fv Fp mm p1 p2 p3:Nat) lv (ws:List Int) (y z t:Int) (j ad:Nat) (o:Int),Sp h L->L[it]?=some (aD To (ag [.ptr M 0,.ptr Ly 0] 258))->L[n]?=some (cB M W lv ws mm)->mm<=999000->j<3->L[q]?=some (aD X (G7 To Fa Fv Fp j))->L[p1]?=some (aD Fp Mu)->L[p2]?=some (aD Fv (TW y z))->L[p3]?=some (aD Fa (TV t))->q≠n->t+(wW j:Int)=(ad:Int)->ws[ad]?=some o->
 aG call 82 [.ptr X 0] h fun v h'=>v=.aE [.int .u8 (9+j),.bool (decide (j=2))]/\∃dU,h.next<=h'.next/\Sp h' ((L.set n (cB M W dU (ws.set ad (wV y z j)) (mm+1))).set q (aD X (G7 To Fa Fv Fp (j+1))))
def Mv(ws:List Int)(t:Nat)(y z:Int):Nat->List Int
 |0=>ws
 |j+1=>(Mv ws t y z j).set (t+wW j) (wV y z j)
theorem AY(ws:List Int)(t:Nat)(y z:Int):∀j,(Mv ws t y z j).length=ws.length
 |0=>rfl
 |j+1=>by unfold Mv;rw[List.length_set];exact AY ws t y z j
structure WK where
 XB:Nat
 Fp:Nat
 Fv:Nat
 Fa:Nat
 Ca:Nat
 XA:Nat
 Lf:Nat
 Cb:Nat
 C2:Nat
 C1:Nat
 y:Int
 z:Int
 t:Int
 i:Nat
def wrL(k:KK)(w:WK)(j:Nat)(L:List Cm):List Cm:=
 aD w.XB (G7 k.b.To w.Fa w.Fv w.Fp j)::aD w.Fp Mu::aD w.Fv (TW w.y w.z)::aD w.Fa (TV w.t)::aD w.Ca (ag [.int .u64 w.y,.int .u64 w.z] 83)::
 aD w.XA (Cg k.a.M w.C1 w.C2 w.Lf j)::aD w.Lf (TQ w.y w.z)::aD w.Cb (ag [.int .u64 w.y,.int .u64 w.z] 83)::aD w.C2 (ag [.int .i64 ((w.i:Int)+1)] 3)::aD w.C1 (ag [.ptr k.a.To 0] 54)::L
theorem wm{call:ab}(T1:F81 call)(T2:F82 call){h:H}{k:KK}{w:WK}{p q:Cm}{lvA lvB:AV}{mA mB:Nat}{d:DD}{R:List Cm}{j ad:Nat}(o:uI k)(s:Sp h (wrL k w j (p::q::bL k lvA lvB mA mB d R)))(hmA:mA<=900000)(hmB:mB<=900000)(hj:j<3){x:Int}(hx:(aH k.c)[w.i]?=some x)(ht:(nO k.c)[w.i]?=some w.t)(oZ:w.t+(wW j:Int)=(ad:Int)){u:Int}(hu:d.ws[ad]?=some u):
 ∃h1 h2 Es Et,call 81 [.ptr w.XA 0] h=some (.aE [.int .u8 (9+j),.bool (decide (j=2))],h1)/\call 82 [.ptr w.XB 0] h1=some (.aE [.int .u8 (9+j),.bool (decide (j=2))],h2)/\h.next<=h1.next/\h1.next<=h2.next/\Sp h2 (wrL k w (j+1) (p::q::bL k Es Et (mA+1) (mB+1) {d with ws:=d.ws.set ad (wV w.y w.z j)} R)):=by
 obtain⟨v1,h1,e1,rfl,mV,eW,s1⟩:=T1 h _ k.a k.c 16 17 18 12 5 w.XA w.Lf w.C2 w.C1 mA 6 8 9 lvA d.ws w.i x w.y w.z w.t j ad u s ⟨⟨_,rfl⟩,rfl,⟨_,rfl,o.lay⟩,o.b⟩ rfl (by omega) hx ht hj rfl rfl rfl rfl (by decide) oZ hu;obtain⟨v2,h2,e2,rfl,Ob,pF,s2⟩:=T2 h1 _ k.b.M k.b.L k.b.To k.b.W 20 0 22 w.XB w.Fa w.Fv w.Fp mB 1 2 3 lvB d.ws w.y w.z w.t j ad u s1 rfl rfl (by omega) hj rfl rfl rfl rfl (by decide) oZ hu;exact⟨h1,h2,mV,Ob,e1,e2,eW,pF,s2⟩
def F79(call:ab):Prop:=∀h (L:List Cm) a c (i:Nat) (x y z:Int),Sp h L->AW h a c->(aH c)[i]?=some x->aG call 79 [.ptr a.To 0,.int .i64 0,.int .i64 ((i:Int)+1),.agg [.int .u64 y,.int .u64 z],.int .u64 1] h fun v h'=>∃X Lf C3 C2 C1,v=.aE [.ptr X 0,.int .i64 0]/\h.next<=h'.next/\Sp h' (aD X (Cg a.M C1 C2 Lf 0)::aD Lf (TQ y z)::aD C3 (ag [.int .u64 y,.int .u64 z] 83)::aD C2 (ag [.int .i64 ((i:Int)+1)] 3)::aD C1 (ag [.ptr a.To 0] 54)::L)
def F80(call:ab):Prop:=∀h (L:List Cm) a c ws (i:Nat) (x t y z:Int),Sp h L->BV h a c ws->(aH c)[i]?=some x->(nO c)[i]?=some t->aG call 80 [.ptr a.To 0,.int .i64 0,.int .i64 ((i:Int)+1),.agg [.int .u64 y,.int .u64 z],.int .u64 1] h fun v h'=>∃X Fp Fv Fa C3,v=.aE [.ptr X 0,.int .i64 0]/\h.next<=h'.next/\Sp h' (aD X (G7 a.To Fa Fv Fp 0)::aD Fp Mu::aD Fv (TW y z)::aD Fa (TV t)::aD C3 (ag [.int .u64 y,.int .u64 z] 83)::L)
theorem w29(P:Program)[pf:PF P]{call:ab}(T3:FB call 14 3)(k79:F79 call)(k80:F80 call)(T1:F81 call)(T2:F82 call){h:H}{k:KK}{d:DD}{m:Nat}{R:List Cm}(st:St h k d m R)(hm:m<=800000){i:Nat}{x:Int}{t:Nat}(hx:(aH k.c)[i]?=some x)(ht:(nO k.c)[i]?=some (t:Int)){y z:Int}(y0:0<=y)(z0:0<=z):
 WF P call c29 [.agg [.ptr k.a.A 0,.ptr k.b.B 0],.int .i64 0,.int .i64 ((i:Int)+1),.agg [.int .u64 y,.int .u64 z],.int .u64 1] h fun v h'=>v=.bool true/\h.next<=h'.next/\St h' k {d with ws:=Mv d.ws t y z 3} (m+3) R:=by
 obtain⟨o,w,lvA,lvB,mA,mB,hA,hB,s⟩:=st;obtain⟨t',JG,t0,t1,x1,x6,i60⟩:=o.b.tw hx;obtain rfl:t'=(t:Int):=Option.some.inj (JG.symm.trans ht);have hlen:=w.len;have s0:=(s.new (ag [.ptr k.a.A 0,.ptr k.b.B 0] 33)).new (ag [.int .u64 y,.int .u64 z] 83);have gA:=s0.row (n:=6) rfl;have k1:=T3 _ k.a.A _ (.ptr k.a.To 0) gA (by simp) rfl;simp only[ag]at k1;simp only[go_sem,seval]at k1;have m0:=(o.ac (lvA:=lvA) (lvB:=lvB) (mA:=mA) (mB:=mB) (d:=d) (R:=R)).cons.cons.aw s0;have g0:=s0.row (n:=1) rfl;have g1:=s0.row (n:=0) rfl;simp only[go_sem,seval,k1];refine af (k79 _ _ k.a k.c i x y z s0 m0 hx) fun v2 h2 p2=>?_
 obtain⟨XA,Lf,Cb,C2,C1,rfl,pF,s2⟩:=p2;have QJ:=s2.row (n:=6) rfl;have XC:=s2.row (n:=5) rfl;have G2:=s2.row (n:=16) rfl;have T4:h.next+2<=h2.next:=pF;have m2:=(o.bc (lvA:=lvA) (lvB:=lvB) (mA:=mA) (mB:=mB) (d:=d) (R:=R)).cons.cons.cons.cons.cons.cons.cons.bv s2 (n:=15) rfl w;simp only[go_sem,seval,T4,XC,QJ,G2];refine af (k80 _ _ k.b k.c d.ws i x (t:Int) y z s2 m2 hx ht) fun v3 h3 p3=>?_
 obtain⟨XB,Fp,Fv,Fa,Ca,rfl,Mj,s3⟩:=p3;obtain⟨wk,Eu⟩:∃wk:WK,wk=⟨XB,Fp,Fv,Fa,Ca,XA,Lf,Cb,C2,C1,y,z,(t:Int),i⟩:=⟨_,rfl⟩;have s3':Sp h3 (wrL k wk 0 (aD (h.next+1) (ag [.int .u64 y,.int .u64 z] 83)::aD h.next (ag [.ptr k.a.A 0,.ptr k.b.B 0] 33)::bL k lvA lvB mA mB d R)):=by rw[Eu];exact s3
 have CG:∀j,j<3->∃u,(Mv d.ws t y z j)[t+wW j]?=some u:=fun j hj=>⟨_,List.getElem?_eq_getElem (by rw[AY];unfold wW;split<;>omega)⟩
 obtain⟨u0,hu0⟩:=CG 0 (by decide);obtain⟨u1,T5⟩:=CG 1 (by decide);obtain⟨u2,hu2⟩:=CG 2 (by decide);obtain⟨a1,b1,l1,r1,e1,f1,na1,nb1,q1⟩:=wm T1 T2 o s3' (by omega) (by omega) (j:=0) (by decide) (ad:=t+wW 0) (by rw[Eu];exact hx) (by rw[Eu];exact ht) (by rw[Eu];rfl) hu0;obtain⟨a2,b2,l2,r2,e2,f2,na2,nb2,q2⟩:=wm T1 T2 o q1 (by omega) (by omega) (j:=1) (by decide) (ad:=t+wW 1) (by rw[Eu];exact hx) (by rw[Eu];exact ht) (by rw[Eu];rfl) (by rw[Eu];exact T5);obtain⟨a3,b3,l3,r3,e3,f3,na3,nb3,q3⟩:=wm T1 T2 o q2 (by omega) (by omega) (j:=2) (by decide) (ad:=t+wW 2) (by rw[Eu];exact hx) (by rw[Eu];exact ht) (by rw[Eu];rfl) (by rw[Eu];exact hu2);rw[Eu]at e1 f1 e2 f2 e3 f3 q3;simp only[go_sem,seval,Mj];refine kq 4 ?_
 have nf:=pf.S4 false false;have nt:=pf.S4 true true;simp only[go_sem,seval,Fz,e1,f1,e2,f2,e3,f3,nf,nt,bne_self_eq_false,dA,dN,dP];have yJ:h.next<=b3.next:=by have:h.next+2<=h2.next:=pF;omega
 have wn:∀j,0<=wV y z j:=fun j=>by unfold wV;split;exact y0;split;exact z0;decide
 exact⟨yJ,o,((w.set _ (wn 0)).set _ (wn 1)).set _ (wn 2),l3,r3,_,_,by omega,by omega,q3.tail.tail.tail.tail.tail.tail.tail.tail.tail.tail.tail.tail⟩
end
end Go.Proofs.YtgkjlklfjbljeaaGreat.CQ
namespace Go.Proofs.YtgkjlklfjbljeaaGreat.CQ
open Go.Proofs.YtgkjlklfjbljeaaGreat.Eo
noncomputable section
def AZ:CC:=(Qq (Sq [a 47 12,D 48 3 47 10,a 49 48,K 50 49 10,jh 51 49 74 50,⟨some 52,some (49,true),.p (.bin .neq 5 false true (.t 51) (.c (.int .u8 0)))⟩,O 53 49 52] (Cq 53 .skip (.exit 0))) (Qq (.block 1 (Sq [a 57 8,q 58 75 57,a 56 58,o 59 56 0,o 60 56 1,a 13 59,a 14 60] (Sq [a 62 10,q 63 76 62,a 61 63,o 64 61 0,o 65 61 1,a 15 64,a 16 65] (Sq [a 66 13,a 67 15,qZ 68 5 66 67,a 69 68,r 70 69 14,r 71 69 16,z5 72 69 4 70 71,u 73 69 72] (Kq 73 [b 6 0,w 7] .skip))))) (Oq [a 54 12,C 55 3 54 1,a 12 55])))
@[go_sem]def c28:CF:=⟨3,(Sq [z 3 33 0,b 6 0,w 7] (Sq [d 22 0 3,i 23 22,q 24 71 23,a 25 1,a 26 2,jJ 27 72 24 25 26 0,a 21 27,o 28 21 0,o 29 21 1,a 8 28,a 9 29] (Sq [d 31 1 3,i 32 31,j 33 32,d 34 2 33,i 35 34,a 36 1,a 37 2,jJ 38 73 35 36 37 0,a 30 38,o 39 30 0,o 40 30 1,a 10 39,a 11 40] (Qq (Sq [a 41 9,A 42 41 41 0,a 43 42,r 44 43 11,zu 45 43 41 44 0,u 46 43 45] (Kq 46 [b 6 0,w 7] .skip)) (Qq (Sq [b 12 0] (.block 0 (.loop AZ))) (Sq [a 75 8,q 76 77 75,a 74 76,o 77 74 0,o 78 74 1,o 79 74 2,a 17 77,a 18 78,a 9 79] (Sq [a 81 10,q 82 78 81,a 80 82,o 83 80 0,o 84 80 1,o 85 80 2,a 19 83,a 20 84,a 11 85] (Rq [a 86 19,a 87 17,a 88 19,q1 89 3 87 88,a 90 89,K 91 90 9,K 92 90 11,ze 93 90 41 91 92,O 94 90 93,a 6 86,a 7 94])))))))),[.tmp 6,.tmp 7]⟩
def hw(u g:Nat):Int:=((u+65536*g:Nat):Int)
def Oc(call:ab):Prop:=∀h (L:List Cm) k lv ws m tw w pc bl e (g u:Nat),PD h L k lv ws m tw w pc bl e->m<=999000->ws[k.hd]?=some (hw u g)->u<65536->aG call 139 [.ptr k.X 0] h fun v h'=>v=.aE []/\Lv h L k ws (m+1) (u:Int) (hw u g) (if u=0 then 0 else 5) bl (if u=0 then 6 else e) h'
def Od(call:ab):Prop:=∀h (L:List Cm) k lv ws m w pc bl e (u b a:Nat),PD h L k lv ws m (u:Int) w pc bl e->m<=999000->k.li+(u:Int) -1=(a:Int)->ws[a]?=some (b:Int)->u<=10000->b<=10000->aG call 140 [.ptr k.X 0] h fun v h'=>v=.aE []/\Lv h L k ws (m+1) (u:Int) w 6 (b:Int) e h'
def Oe(call:ab):Prop:=∀h (L:List Cm) k lv ws m tw pc e (g u b o:Nat) (es:List (AV×AV×Nat)) (Ts:Nat),PD h L k lv ws m tw (hw u g) pc (b:Int) e->m<=999000->ws[k.hd]?=some (hw u g)->u<65536->g<900->b<=1024->L[o]?=some (aD k.O (.map es Ts))->(o≠k.n/\o≠k.x/\o≠k.q/\o≠k.y)->dL 0 (.int .i64 tw) es 0=some none->
 aG call 141 [.ptr k.X 0] h fun v h'=>v=.aE []/\Lv h (L.set o (aD k.O (.map (es++[(.int .i64 tw,.bool false,Ts)]) (Ts+1)))) k (ws.set k.hd (hw b (g+1))) (m+1) tw (hw u g) 0 (b:Int) e h'
def XD(cl call:ab):Prop:=∀h (L:List Cm) k lv ws m tw w pc bl e (f:Nat) (L':List Cm) cz m' Ij w' D9 Mq e',PD h L k lv ws m tw w pc bl e->(pc=4/\f=139\/pc=5/\f=140\/pc=6/\f=141)->(aG cl f [.ptr k.X 0] h fun v h'=>v=.aE []/\Lv h L' k cz m' Ij w' D9 Mq e' h')->
 aG call 75 [.ptr k.X 0] h fun v h'=>v=.aE [.int .u8 pc,.bool (decide (D9=0))]/\Lv h L' k cz m' Ij w' D9 Mq e' h'
def Of(call:ab):Prop:=∀h (L:List Cm) k lv ws m lk fO e (g u a:Nat),PE h L k lv ws m 4 0 lk fO e->m<=999000->(aA k.c).po+k.ht-1=(a:Int)->ws[a]?=some (hw u g)->u<65536->
 aG call 76 [.ptr k.X 0] h fun v h'=>v=.aE [.int .u8 4,.bool (decide (u=0))]/\Lw h L k ws (m+1) (if u=0 then 0 else 5) (hw u g) lk fO (if u=0 then 6 else e) h'
def Og(call:ab):Prop:=∀h (L:List Cm) k lv ws m lk fO e (g u b a:Nat),PE h L k lv ws m 5 (hw u g) lk fO e->m<=999000->(aA k.c).li+(u:Int) -1=(a:Int)->ws[a]?=some (b:Int)->u<2000->
 aG call 76 [.ptr k.X 0] h fun v h'=>v=.aE [.int .u8 5,.bool false]/\Lw h L k ws (m+1) 6 (hw u g) (b:Int) fO e h'
def Oh(call:ab):Prop:=∀h (L:List Cm) k lv ws m fO e (g u b a o:Nat) (tk:List Bool),PE h L k lv ws m 6 (hw u g) (b:Int) fO e->m<=999000->(aA k.c).po+k.ht-1=(a:Int)->ws[a]?=some (hw u g)->u<2000->g<900->b<=1024->L[o]?=some (aD k.Tk (.row (aa 0 (tk.map AV.bool) T.e) k.ql 4))->(o≠k.n/\o≠k.x/\o≠k.q/\o≠k.z)->tk.length=k.ql->u<k.ql->
 aG call 76 [.ptr k.X 0] h fun v h'=>v=.aE [.int .u8 6,.bool true]/\Lw h (L.set o (aD k.Tk (.row (aa 0 ((tk.set u true).map AV.bool) T.e) k.ql 4))) k (ws.set a (hw b (g+1))) (m+1) 0 (hw u g) (b:Int) (u:Int) e h'
def tkA(k:KK)(X Y hd:Nat):ZX:=⟨4,5,2,1,k.a.M,k.a.W,k.a.Po,X,Y,k.O,k.a.L,.sl k.Gg 0 k.n 1 (some k.n),(aA k.c).po,(aA k.c).li,0,hd⟩
def tkB(k:KK)(X:Nat)(ht:Int):Z6:=⟨12,16,0,15,k.b.M,k.b.W,k.b.Po,X,k.b.L,k.Tk,k.n+1,k.Xz,.sl k.Gn 0 (k.n+1) 1 (some (k.n+1)),k.b.cv,k.b.hv,k.b.wv,k.c,0,ht⟩
def JH(k:KK)(XB Y XA:Nat)(p:Cm)(hd:Nat)(ht:Int)(tw w pc bl e:Int)(QK QL QM fO eb:Int)(L:List Cm):List Cm:=
 aD XB (Ms k.b.Po 0 ht QK QL QM fO eb)::aD Y stM::aD XA (Mo k.a.Po 0 tw (hd:Int) w pc Y bl e)::p::L
section
variable {call:ab} {h:H} {k:KK} {XB Y XA:Nat} {p:Cm} {hd:Nat} {ht:Int} {lvA lvB:AV} {mA mB:Nat} {d:DD} {R:List Cm}
theorem ajS:(2:Nat)≠4/\(5:Nat)≠4/\(1:Nat)≠4/\(5:Nat)≠2/\(1:Nat)≠2:=by decide
theorem ajT:(0:Nat)≠12/\(16:Nat)≠12/\(15:Nat)≠12/\(16:Nat)≠0/\(15:Nat)≠0:=by decide
theorem CS(o:uI k){tw w pc bl e QK QL QM fO eb:Int}(s:Sp h (JH k XB Y XA p hd ht tw w pc bl e QK QL QM fO eb (bL k lvA lvB mA mB d R))):PD h (JH k XB Y XA p hd ht tw w pc bl e QK QL QM fO eb (bL k lvA lvB mA mB d R)) (tkA k XA Y hd) lvA d.ws mA tw w pc bl e:=by
 obtain⟨n1,n2,n3,n4,n5,n6,n7,n8,n9,rH,rI⟩:=o.b.dq;have hv:=o.b.val;exact⟨s,⟨Nat.lt_of_sub_pos (Nat.succ_pos _),Nat.lt_of_sub_pos (Nat.succ_pos _)⟩,rfl,rfl,ajS,⟨Int.le_refl 0,(by decide:(0:Int)<64),(show 0<=(aA k.c).li by omega),(show(aA k.c).li<=10000 by omega)⟩⟩
theorem pa(o:uI k)(h1:1<=ht)(h6:ht<=6){ws:List Int}{m:Nat}{O':AO}{tw w pc bl e QK QL QM fO eb:Int}(s:Sp h (((JH k XB Y XA p hd ht tw w pc bl e QK QL QM fO eb (bL k lvA lvB m mB d R)).set 6 (aD k.O O')).set 4 (cA k.a.M k.a.W lvA ws mA))):PE h (((JH k XB Y XA p hd ht tw w pc bl e QK QL QM fO eb (bL k lvA lvB m mB d R)).set 6 (aD k.O O')).set 4 (cA k.a.M k.a.W lvA ws mA)) (tkB k XB ht) lvB d.ws mB QK QL QM fO eb:=
 ⟨s,⟨Nat.lt_of_sub_pos (Nat.succ_pos _),Nat.lt_of_sub_pos (Nat.succ_pos _)⟩,rfl,rfl,ajT,⟨Int.le_refl 0,(by decide:(0:Int)<64),h1,h6⟩,o.b⟩
theorem Oi{cl:ab}(k139:Oc cl)(k75:XD cl call)(Oj:Of call)(o:uI k)(h1:1<=ht)(h6:ht<=6)(hh:(aA k.c).po+ht-1=(hd:Int))(hA:mA<=900000)(hB:mB<=900000){u g:Nat}(hu:u<65536)(hx:d.ws[hd]?=some (hw u g))(s:Sp h (JH k XB Y XA p hd ht 0 0 4 0 0 4 0 0 0 0 (bL k lvA lvB mA mB d R))):
 ∃h1 h2 Es Et,call 75 [.ptr XA 0] h=some (.aE [.int .u8 4,.bool (decide (u=0))],h1)/\call 76 [.ptr XB 0] h1=some (.aE [.int .u8 4,.bool (decide (u=0))],h2)/\h.next<=h1.next/\h1.next<=h2.next/\
  Sp h2 (JH k XB Y XA p hd ht u (hw u g) (if u=0 then 0 else 5) 0 (if u=0 then 6 else 0) (if u=0 then 0 else 5) (hw u g) 0 0 (if u=0 then 6 else 0) (bL k Es Et (mA+1) (mB+1) d R)):=by
 have pd:=CS o s;obtain⟨v1,Cf,e1,rfl,mV,eW,p1⟩:=k75 _ _ _ _ _ _ _ _ _ _ _ 139 _ _ _ _ _ _ _ _ pd (.inl ⟨rfl,rfl⟩) (k139 _ _ _ _ _ _ _ _ _ _ _ g u pd (by omega) hx hu);have Ty:decide ((if u=0 then(0:Int)else 5)=0)=decide (u=0):=by by_cases q:u=0<;>simp[q]
 rw[Ty]at e1;obtain⟨v2,h2,e2,rfl,Ob,pF,p2⟩:=Oj _ _ _ _ _ _ _ _ _ g u hd (pa (m:=mA) (O':=.map (bS (.bool false) 0 d.tk) d.tk.length) o h1 h6 p1.s) (by omega) hh hx hu;exact⟨Cf,h2,mV,Ob,e1,e2,eW,pF,p2.s⟩
theorem JI{cl:ab}(k140:Od cl)(k75:XD cl call)(Oj:Og call)(o:uI k)(h1:1<=ht)(h6:ht<=6)(hA:mA<=900000)(hB:mB<=900000){u g b a:Nat}(ha:(aA k.c).li+(u:Int) -1=(a:Int))(hu:u<2000)(hb:b<=1024)(hx:d.ws[a]?=some (b:Int))(s:Sp h (JH k XB Y XA p hd ht u (hw u g) 5 0 0 5 (hw u g) 0 0 0 (bL k lvA lvB mA mB d R))):
 ∃h1 h2 Es Et,call 75 [.ptr XA 0] h=some (.aE [.int .u8 5,.bool false],h1)/\call 76 [.ptr XB 0] h1=some (.aE [.int .u8 5,.bool false],h2)/\h.next<=h1.next/\h1.next<=h2.next/\
  Sp h2 (JH k XB Y XA p hd ht u (hw u g) 6 b 0 6 (hw u g) b 0 0 (bL k Es Et (mA+1) (mB+1) d R)):=by
 have pd:=CS o s;obtain⟨v1,Cf,e1,rfl,mV,eW,p1⟩:=k75 _ _ _ _ _ _ _ _ _ _ _ 140 _ _ _ _ _ _ _ _ pd (.inr (.inl ⟨rfl,rfl⟩)) (k140 _ _ _ _ _ _ _ _ _ _ u b a pd (by omega) ha hx (by omega) (by omega));obtain⟨v2,h2,e2,rfl,Ob,pF,p2⟩:=Oj _ _ _ _ _ _ _ _ _ g u b a (pa (m:=mA) (O':=.map (bS (.bool false) 0 d.tk) d.tk.length) o h1 h6 p1.s) (by omega) ha hx hu;exact⟨Cf,h2,mV,Ob,e1,e2,eW,pF,p2.s⟩
theorem wq(v:AV):∀(l:List Nat) (i t:Nat),bS v i l++[(.int .i64 (t:Int),v,i+l.length)]=bS v i (l++[t])
 | [],i,t=>rfl
 |x::l,i,t=>by
  show(_::(bS v (i+1) l++[(AV.int IntKind.i64 (t:Int),v,i+(l.length+1))]))=_::bS v (i+1) (l++[t])
  rw[←wq v l (i+1) t,show i+(l.length+1)=i+1+l.length by omega]
theorem nQ{v:AV}{t:Nat}:∀(l:List Nat) (i j:Nat),t∉l->dL 0 (.int .i64 (t:Int)) (bS v i l) j=some none
 | [],_,_,_=>rfl
 |x::l,i,j,h=>by
  have h1:t≠x:=fun e=>h (by rw[e];exact List.mem_cons_self ..)
  have h2:=nQ (v:=v) l (i+1) (j+1) fun q=>h (List.mem_cons_of_mem _ q)
  unfold bS dL;have e:tT 0 (.int .i64 (t:Int)) (.int .i64 (x:Int))=some false:=by rw[G0,decide_eq_false (by omega)]
  simp only[e];exact h2
theorem FA(n:Nat)(l:List Nat)(t:Nat):(nP n l).set t true=nP n (l++[t]):=by
 unfold nP;refine List.ext_getElem? fun i=>?_
 rw[List.getElem?_set,List.getElem?_map,List.getElem?_map,List.length_map,List.length_range]
 by_cases hi:i<n
 ·rw[List.getElem?_range hi]
  by_cases e:t=i
  ·subst e;simp[hi]
  ·rw[if_neg e];simp[e,eq_comm]
 ·have:(List.range n)[i]?=none:=by rw[List.getElem?_eq_none];rw[List.length_range];omega
  rw[this]
  by_cases e:t=i
  ·subst e;simp[hi]
  ·simp[e]
theorem Ol{cl:ab}(k141:Oe cl)(k75:XD cl call)(Oj:Oh call)(o:uI k)(h1:1<=ht)(h6:ht<=6)(hh:(aA k.c).po+ht-1=(hd:Int))(hA:mA<=900000)(hB:mB<=900000){u g b:Nat}(hu:u<k.n+1)(hg:g<900)(hb:b<=1024)(hx:d.ws[hd]?=some (hw u g))(hn:u∉d.tk)(s:Sp h (JH k XB Y XA p hd ht u (hw u g) 6 b 0 6 (hw u g) b 0 0 (bL k lvA lvB mA mB d R))):
 ∃h1 h2 Es Et,call 75 [.ptr XA 0] h=some (.aE [.int .u8 6,.bool true],h1)/\call 76 [.ptr XB 0] h1=some (.aE [.int .u8 6,.bool true],h2)/\h.next<=h1.next/\h1.next<=h2.next/\
  Sp h2 (JH k XB Y XA p hd ht u (hw u g) 0 b 0 0 (hw u g) b u 0 (bL k Es Et (mA+1) (mB+1) {d with ws:=d.ws.set hd (hw b (g+1)),tk:=d.tk++[u]} R)):=by
 have D7:k.n<=60:=o.b.Ce;have pd:=CS o s;have hf:=nQ (v:=.bool false) d.tk 0 0 hn;obtain⟨v1,Cf,e1,rfl,mV,eW,p1⟩:=k75 _ _ _ _ _ _ _ _ _ _ _ 141 _ _ _ _ _ _ _ _ pd (.inr (.inr ⟨rfl,rfl⟩)) (k141 _ _ _ _ _ _ _ _ _ g u b 6 _ _ pd (by omega) hx (by omega) hg hb rfl (by decide:(6:Nat)≠4/\(6:Nat)≠2/\(6:Nat)≠5/\(6:Nat)≠1) hf);obtain⟨v2,h2,e2,rfl,Ob,pF,p2⟩:=Oj _ _ _ _ _ _ _ _ g u b hd 17 (nP (k.n+1) d.tk) (pa (m:=mA) o h1 h6 p1.s) (by omega) hh hx (by omega) hg hb rfl (by decide:(17:Nat)≠12/\(17:Nat)≠0/\(17:Nat)≠16/\(17:Nat)≠15) (by unfold nP;rw[List.length_map,List.length_range];rfl) hu;have s2:=p2.s;have em:=wq (.bool false) d.tk 0 u;rw[Nat.zero_add]at em;have el:(d.tk++[u]).length=d.tk.length+1:=by rw[List.length_append];rfl
 refine⟨Cf,h2,mV,Ob,e1,e2,eW,pF,?_⟩
 show Sp h2 (JH k XB Y XA p hd ht u (hw u g) 0 b 0 0 (hw u g) b u 0 (cA _ _ _ _ _::_::aD k.O (.map (bS (.bool false) 0 (d.tk++[u])) (d.tk++[u]).length)::_::_::_::_::_::_::_::_::_::_::aD k.Tk (.row (aa 0 ((nP (k.n+1) (d.tk++[u])).map AV.bool) T.e) (k.n+1) 4)::_))
 rw[←em,el,←FA];exact s2
end
def F72(call:ab):Prop:=∀h (L:List Cm) (q ht M Ly Po O:Nat) (po li:Int) gv,L[q]?=some (aD Po (ym M Ly po li O gv))->Sp h L->1<=ht->ht<=6->0<=po->po<=10000->
 aG call 72 [.ptr Po 0,.int .i64 0,.int .i64 (ht:Int),.int .i64 0] h fun v h'=>∃X Y,v=.aE [.ptr X 0,.int .i64 0]/\h.next<=h'.next/\Sp h' (aD Y stM::aD X (Mo Po 0 0 (po+ht-1) 0 4 Y 0 0)::L)
def F73(call:ab):Prop:=∀h (L:List Cm) (q M Ly ql Tk Po:Nat) gv gn (ht:Nat),L[q]?=some (aD Po (Mr M Ly ql Tk gv gn))->Sp h L->1<=ht->ht<=6->
 aG call 73 [.ptr Po 0,.int .i64 0,.int .i64 (ht:Int),.int .i64 0] h fun v h'=>∃X,v=.aE [.ptr X 0,.int .i64 0]/\h.next<=h'.next/\Sp h' (aD X (Ms Po 0 ht 4 0 0 0 0)::L)
def F74(call:ab):Prop:=∀h (L:List Cm) k lv ws m pc hd lk fO e,PE h L k lv ws m pc hd lk fO e->call 74 [.ptr k.X 0] h=some (.int .u8 pc,h)
def F77(call:ab):Prop:=∀h (L:List Cm) k lv ws m tw w bl e,PD h L k lv ws m tw w 0 bl e->call 77 [.ptr k.X 0] h=some (.aE [.int .i64 tw,.int .i64 0,.int .i64 e],h)
def F78(call:ab):Prop:=∀h (L:List Cm) k lv ws m hd lk fO e,PE h L k lv ws m 0 hd lk fO e->call 78 [.ptr k.X 0] h=some (.aE [.int .i64 fO,.int .i64 0,.int .i64 e],h)
section
variable {call:ab} {h:H} {k:KK} {d:DD} {m:Nat} {R:List Cm}
set_option maxRecDepth 4000 in
theorem w28(P:Program)[pf:PF P]{cl:ab}(k71:FB call 71 2)(k72:F72 call)(k73:F73 call)(T6:F74 call)(k139:Oc cl)(k140:Od cl)(k141:Oe cl)(k75:XD cl call)(aj2:Of call)(aj3:Og call)(aj4:Oh call)(k77:F77 call)(k78:F78 call)
 (st:St h k d m R) (hm:m<=800000) {ht:Nat} (h1:1<=ht) (h6:ht<=6) {hd u g:Nat} (hh:(aA k.c).po+ht-1=(hd:Int)) (hx:d.ws[hd]?=some (hw u g)) (hu:u<k.n+1) (hg:g<900) (hn:u∉d.tk) {b:Nat} (hb:b<=1024) (hl:u≠0->∃a:Nat,(aA k.c).li+(u:Int) -1=(a:Int)/\d.ws[a]?=some (b:Int)):
 WF P call c28 [.agg [.ptr k.a.A 0,.ptr k.b.B 0],.int .i64 0,.int .i64 (ht:Int)] h fun v h'=>v=.aE [.int .i64 (u:Int),.bool true]/\h.next<=h'.next/\St h' k (if u=0 then d else{d with ws:=d.ws.set hd (hw b (g+1)),tk:=d.tk++[u]}) (m+3) R:=by
 obtain⟨o,w,lvA,lvB,mA,mB,hA,hB,s⟩:=st;obtain⟨n1,n2,n3,n4,n5,n6,n7,n8,n9,rH,rI⟩:=o.b.dq;have hv:=o.b.val;have D7:k.n<=60:=o.b.Ce;have s0:=s.new (ag [.ptr k.a.A 0,.ptr k.b.B 0] 33);have gA:=s0.row (n:=5) rfl;have k1:=k71 _ k.a.A _ (.ptr k.a.Po 0) gA (by simp) rfl;simp only[ag]at k1;simp only[go_sem,seval]at k1;simp only[go_sem,seval,k1];refine af (k72 _ _ 2 ht k.a.M k.a.L k.a.Po k.O (aA k.c).po (aA k.c).li _ rfl s0 h1 h6 (by omega) (by omega)) fun v2 h2 p2=>?_
 obtain⟨XA,Y,rfl,pF,s2⟩:=p2;rw[hh]at s2;have QJ:=s2.row (n:=2) rfl;have G2:=s2.row (n:=12) rfl;simp only[go_sem,seval,QJ,G2];refine af (k73 h2 _ 15 k.b.M k.b.L (k.n+1) k.Tk k.b.Po k.Xz _ ht rfl s2 h1 h6) fun v3 h3 p3=>?_
 obtain⟨XB,rfl,Mj,s3⟩:=p3;have Mw:(1:Int)<=(ht:Int):=by omega
 have yo:(ht:Int)<=6:=by omega
 obtain⟨a1,b1,l1,r1,e1,f1,na1,nb1,q1⟩:=Oi (p:=aD h.next (ag [.ptr k.a.A 0,.ptr k.b.B 0] 33)) k139 k75 aj2 o Mw yo hh (by omega) (by omega) (by omega) hx s3;have j1:=T6 _ _ _ _ _ _ _ _ _ _ _ (pa (m:=mA) (O':=.map (bS (.bool false) 0 d.tk) d.tk.length) o Mw yo s3);have j1':call 74 [.ptr XB 0] h3=some (.int .u8 4,h3):=j1;have nf:=pf.S4 false false;have nt:=pf.S4 true true;have yJ:h.next+1<=h2.next:=pF
 by_cases h0:u=0
 ·have hi:(if u=0 then(0:Int)else 5)=0:=if_pos h0;have hi6:(if u=0 then(6:Int)else 0)=6:=if_pos h0;rw[hi,hi6]at q1;rw[decide_eq_true h0]at e1 f1;have j2:=T6 _ _ _ _ _ _ _ _ _ _ _ (pa (m:=mA+1) (O':=.map (bS (.bool false) 0 d.tk) d.tk.length) o Mw yo q1);have j2':call 74 [.ptr XB 0] b1=some (.int .u8 0,b1):=j2;have j3:=k77 _ _ _ _ _ _ _ _ _ _ (CS o q1);have j3':call 77 [.ptr XA 0] b1=some (.aE [.int .i64 (u:Int),.int .i64 0,.int .i64 6],b1):=j3;have j4:=k78 _ _ _ _ _ _ _ _ _ _ (pa (m:=mA+1) (O':=.map (bS (.bool false) 0 d.tk) d.tk.length) o Mw yo q1);have j4':call 78 [.ptr XB 0] b1=some (.aE [.int .i64 0,.int .i64 0,.int .i64 6],b1):=j4;have u0:(u:Int)=0:=by omega
  rw[u0]at j3'⊢;refine kq 2 ?_
  simp only[go_sem,seval,AZ,j1',e1,f1,j2',nf,nt,bne_self_eq_false,dA,j3',j4',if_pos h0];exact⟨by omega,o,w,l1,r1,_,_,by omega,by omega,q1.tail.tail.tail.tail⟩
 ·have hi:(if u=0 then(0:Int)else 5)=5:=if_neg h0;have hi6:(if u=0 then(6:Int)else 0)=0:=if_neg h0;rw[hi,hi6]at q1;rw[decide_eq_false h0]at e1 f1;obtain⟨a,ha,hxa⟩:=hl h0;obtain⟨a2,b2,l2,r2,e2,f2,na2,nb2,q2⟩:=JI k140 k75 aj3 o Mw yo (by omega) (by omega) ha (by omega) hb hxa q1;obtain⟨a3,b3,l3,r3,e3,f3,na3,nb3,q3⟩:=Ol k141 k75 aj4 o Mw yo hh (by omega) (by omega) hu hg hb hx hn q2;have j2:=T6 _ _ _ _ _ _ _ _ _ _ _ (pa (m:=mA+1) (O':=.map (bS (.bool false) 0 d.tk) d.tk.length) o Mw yo q1);have j2':call 74 [.ptr XB 0] b1=some (.int .u8 5,b1):=j2;have j5:=T6 _ _ _ _ _ _ _ _ _ _ _ (pa (m:=mA+1+1) (O':=.map (bS (.bool false) 0 d.tk) d.tk.length) o Mw yo q2);have j5':call 74 [.ptr XB 0] b2=some (.int .u8 6,b2):=j5;have j6:=T6 _ _ _ _ _ _ _ _ _ _ _ (pa (m:=mA+1+1+1) (O':=.map (bS (.bool false) 0 (d.tk++[u])) (d.tk++[u]).length) o Mw yo q3);have j6':call 74 [.ptr XB 0] b3=some (.int .u8 0,b3):=j6;have j3:=k77 _ _ _ _ _ _ _ _ _ _ (CS o q3);have j3':call 77 [.ptr XA 0] b3=some (.aE [.int .i64 (u:Int),.int .i64 0,.int .i64 0],b3):=j3;have j4:=k78 _ _ _ _ _ _ _ _ _ _ (pa (m:=mA+1+1+1) (O':=.map (bS (.bool false) 0 (d.tk++[u])) (d.tk++[u]).length) o Mw yo q3);have j4':call 78 [.ptr XB 0] b3=some (.aE [.int .i64 (u:Int),.int .i64 0,.int .i64 0],b3):=j4;refine kq 4 ?_
  simp only[go_sem,seval,AZ,j1',e1,f1,j2',e2,f2,j5',e3,f3,j6',nf,nt,bne_self_eq_false,dA,dN,dP,j3',j4',if_neg h0];have z0:0<=hw b (g+1):=by unfold hw;omega
  exact⟨by omega,o,w.set _ z0,l3,r3,_,_,by omega,by omega,q3.tail.tail.tail.tail⟩
end
end
end Go.Proofs.YtgkjlklfjbljeaaGreat.CQ
namespace Go.Proofs.YtgkjlklfjbljeaaGreat.CQ
open Go.Proofs.YtgkjlklfjbljeaaGreat.Eo
noncomputable section
variable(P:Program)[PT P]{call:ab}
@[go_sem]def c88:CF:=⟨2,(Sq [b 4 0] (Qq (Sq [a 6 0,j 7 6,d 8 2 7,i 9 8,j 10 9,d 11 4 10,i 12 11,a 13 1,G 14 1 12 13,i 15 14,C 16 3 15 1,a 5 16] (.block 0 (Sq [a 18 0,j 19 18,d 20 2 19,i 21 20,j 22 21,d 23 2 22,i 24 23,a 25 1,G 26 1 24 25,i 27 26,qa 28 27,a 17 28] (Kq 17 [b 4 0] (Sq [a 30 0,j 31 30,d 32 11 31,i 33 32,a 34 1,G 35 1 33 34,i 36 35,a 37 5,q1 38 3 36 37,a 29 38] (Kq 29 [b 4 3] (Sq [a 40 0,j 41 40,d 42 10 41,i 43 42,a 44 1,G 45 1 43 44,i 46 45,a 47 5,q1 48 3 46 47,a 39 48] (Kq 39 [b 4 2] .skip)))))))) (Rq [b 4 1]))),[.tmp 4]⟩
@[go_sem]def c86:CF:=⟨2,(Sq [b 4 0] (Qq (.block 0 (Sq [a 6 0,y 7 31 6,a 5 7] (Kq 5 [b 4 1] (Sq [a 9 1,D 10 3 9 1,a 11 10,r 12 11 1,r 13 11 0,qf 14 11 13,J 15 11 10 14,E 16 11 15,qu 17 11 16,qG 18 11 3 12 17,u 19 11 18,a 8 19] (Kq 8 [b 4 3] (Sq [a 21 0,a 22 1,M 23 88 21 22,A 24 3 23 1,a 20 24] (Kq 20 [b 4 8] .skip))))))) (Qq (.cn ⟨[([g 0 0,n 1 25 0,m 2 26 1 10,k 3 27 2,g 4 1,g 5 0,n 6 30 5,m 7 31 6 2,k 8 32 7,n 9 33 8,m 10 34 9 4,k 11 35 10,g 12 1,Y 13 36 11 37 12 1,k 14 38 13,qR 15 39 14 3 1,Y 16 28 3 29 4 1],some (V 17 41 16 40 15 1)),([],none)],[(0,25),(1,26),(2,27),(3,28),(4,29),(5,30),(6,31),(7,32),(8,33),(9,34),(10,35),(11,36),(12,37),(13,38),(14,39),(15,40),(16,41)],[]⟩) (Rq [b 4 0])))),[.tmp 4]⟩
@[go_sem]def aaq:CF:=⟨2,(Sq [b 4 0,b 5 0] (Qq (Sq [a 6 0,y 7 97 6] (Kq 7 [b 4 0,b 5 1] .skip)) (Qq (Sq [a 8 1,D 9 3 8 1,a 10 9,r 11 10 1,r 12 10 0,qf 13 10 12,J 14 10 5 13,E 15 10 14,qu 16 10 15,q9 17 10 3 11 16,u 18 10 17] (Kq 18 [b 4 0,b 5 3] .skip)) (Rq [a 19 0,j 20 19,d 21 5 20,i 22 21,a 23 1,ql 24 3 23 1,G 25 1 22 24,i 26 25,a 4 26,b 5 0])))),[.tmp 4,.tmp 5]⟩
@[go_sem]def aar:CF:=⟨2,(Sq [jK 4 298 0,w 5] (Sq [a 9 0,j 10 9,d 11 8 10,i 12 11,a 13 1,⟨some 14,none,.l ⟨0,.t 12,.t 13,.agg [.int .i64 0,.bool false],true⟩⟩,a 8 14,o 15 8 0,o 16 8 1,s 2 4 15,a 5 16] (Sq [a 18 0,j 19 18,d 20 0 19,d 21 2 20,i 22 21,a 23 1,M 24 154 22 23,a 17 24,o 25 17 0,o 26 17 1,a 6 25,a 7 26] (Rq [S 27 2 4,a 28 5,a 29 28,qi 30 29 0 4,qh 31 29 30,K 32 29 6,ze 33 29 3 31 32,O 34 29 33,s 2 4 27,a 5 34])))),[(.cell 4 (some 2)),.tmp 5]⟩
@[go_sem]def c44:CF:=⟨2,(Sq [w 4] (Rq [a 5 0,a 6 1,M 7 95 5 6,qP 8 3 7 0,a 4 8])),[.tmp 4]⟩
@[go_sem]def c85:CF:=⟨2,(Sq [b 4 0] (Qq (Sq [a 9 0,y 10 30 9] (Kq 10 [b 4 1] .skip)) (Sq [a 12 0,j 13 12,d 14 0 13,d 15 2 14,i 16 15,a 17 1,M 18 154 16 17,a 11 18,o 19 11 0,o 20 11 1,a 5 19,a 6 20] (Qq (Sq [a 21 6,A 22 41 21 0] (Kq 22 [a 23 6,a 4 23] .skip)) (Qq (Sq [a 25 0,a 26 1,M 27 155 25 26,a 24 27,o 28 24 0,o 29 24 1,jK 7 298 0,s 2 7 28,a 8 29] (Sq [a 30 8,a 31 30,r 32 31 0,qf 33 31 32,J 34 31 0 33,J 35 31 2 34,E 36 31 35,qH 37 31 156 36,r 38 31 1,zo 39 31 44 37 38,qz 40 31 39,u 41 31 40] (Kq 41 [b 4 8] .skip))) (Sq [a 42 0,j 43 42,d 44 8 43,i 45 44,a 46 1,a 47 5,⟨some 48,none,.p (.build [.int .i64 0,.bool false] [(0,1,.t 47)])⟩,z6 0 45 46 48] (Rq [b 4 0]))))))),[.tmp 4]⟩
structure GB(h:H)(k:KK)(d:DD):Prop where
 gB:h.t.get k.b.B=some (ag (.ptr k.b.L 0::.ptr k.b.M 0::.ptr k.b.Po 0::.ptr k.b.To 0::k.rB) 95)
 gP:h.t.get k.b.Po=some (Mr k.b.M k.b.L (k.n+1) k.Tk k.Xz (.sl k.Gn 0 (k.n+1) 1 (some (k.n+1))))
 gT:h.t.get k.Tk=some (.row (aa 0 ((nP (k.n+1) d.tk).map AV.bool) T.e) (k.n+1) 4)
 gG:h.t.get k.Gn=some (.row (aa 0 (List.replicate (k.n+1) (.int .i64 0)) T.e) (k.n+1) 3)
 gK:h.t.get k.K=some (.row (aa 0 ((nP (k.n+1) d.lk).map fun b=>.int .i64 (cond b 1 0)) T.e) (k.n+1) 3)
 gC:h.t.get k.C=some (.row (aa 0 (List.replicate (k.n+1) (.int .i64 0)) T.e) (k.n+1) 3)
theorem FD{n:Nat}{l:List Nat}{t:Nat}(h:t<n):(nP n l)[t]?=some (l.contains t):=by
 unfold nP;rw[List.getElem?_map,List.getElem?_range h];rfl
def Om(d:DD)(u:Nat):Int:=if d.tk.contains u then(if d.lk.contains u then 2 else 1)else 0
theorem w88(P:Program)[PF P]{call:ab}{h:H}{k:KK}{d:DD}(o:uI k)(g:GB h k d){u:Nat}(hu:u<k.n+1):WF P call c88 [.ptr k.b.B 0,.int .i64 (u:Int)] h fun v h'=>v=.int .i64 (Om d u)/\h'=h:=by
 obtain⟨gB,gP,gT,gG,gK,gC⟩:=g;obtain⟨R,vv,eR⟩:=o.rB;rw[eR]at gB;simp only[Mr]at gP;have hT:((nP (k.n+1) d.tk).map AV.bool)[u]?=some (.bool (d.tk.contains u)):=by rw[List.getElem?_map,FD hu];rfl
 have hK:((nP (k.n+1) d.lk).map fun b=>AV.int .i64 (cond b 1 0))[u]?=some (.int .i64 (cond (d.lk.contains u) 1 0)):=by rw[List.getElem?_map,FD hu];rfl
 have hG:(List.replicate (k.n+1) (AV.int .i64 0))[u]?=some (.int .i64 0):=by rw[List.getElem?_replicate,if_pos hu]
 have e1:(u:Int)<((k.n+1:Nat):Int):=by omega
 generalize k.n+1=q at*;unfold Om;cases ht:d.tk.contains u with
 |false=>
  rw[ht]at hT;simp only[go_sem,seval,gB,gP,gT,gG,e1,Nat.mul_one,hG,hT,dA]
 |true=>
  rw[ht]at hT;cases hl:d.lk.contains u with
  |false=>
   rw[hl]at hK;simp only[cond_false]at hK;simp only[go_sem,seval,gB,gP,gT,gG,gC,gK,e1,Nat.mul_one,hG,hT,hK,dA]
  |true=>
   rw[hl]at hK;simp only[cond_true]at hK;simp only[go_sem,seval,gB,gP,gT,gG,gC,gK,e1,Nat.mul_one,hG,hT,hK,dA]
def F88(call:ab):Prop:=∀h k d (u:Nat),uI k->GB h k d->u<k.n+1->call 88 [.ptr k.b.B 0,.int .i64 (u:Int)] h=some (.int .i64 (Om d u),h)
theorem T8(n:Nat)(l:List Nat)(t:Nat):((nP n l).map fun b=>AV.int .i64 (cond b 1 0)).set t (.int .i64 1)=(nP n (l++[t])).map fun b=>AV.int .i64 (cond b 1 0):=by
 rw[←FA,List.map_set];rfl
theorem w86(P:Program)[PF P]{call:ab}(T9:F88 call){h:H}{L:List Cm}{k:KK}{d:DD}{i:Nat}(o:uI k)(g:GB h k d)(s:Sp h L)(hK:L[i]?=some (aD k.K (.row (aa 0 ((nP (k.n+1) d.lk).map fun b=>.int .i64 (cond b 1 0)) T.e) (k.n+1) 3))){u:Nat}(u1:1<=u)(hu:u<k.n+1)(ht:u∈d.tk)(hl:u∉d.lk):
 WF P call c86 [.ptr k.b.B 0,.int .i64 (u:Int)] h fun v h'=>v=.int .i64 0/\h.next<=h'.next/\Sp h' (L.set i (aD k.K (.row (aa 0 ((nP (k.n+1) (d.lk++[u])).map fun b=>.int .i64 (cond b 1 0)) T.e) (k.n+1) 3))):=by
 have k1:=T9 h k d u o g hu;have e0:Om d u=1:=by
  unfold Om;rw[if_pos (by simpa using ht),if_neg (by simpa using hl)]
 rw[e0]at k1;obtain⟨gB,gP,gT,gG,gK,gC⟩:=g;obtain⟨R,vv,eR⟩:=o.rB;rw[eR]at gB;simp only[Mr]at gP;have hG:(List.replicate (k.n+1) (AV.int .i64 0))[u]?=some (.int .i64 0):=by rw[List.getElem?_replicate,if_pos hu]
 have hKl:((nP (k.n+1) d.lk).map fun b=>AV.int .i64 (cond b 1 0)).length=k.n+1:=by unfold nP;rw[List.length_map,List.length_map,List.length_range]
 have e1:(u:Int)<((k.n+1:Nat):Int):=by omega
 have e2:¬(u:Int)<1:=by omega
 have s2:=s.put hK (.row (aa 0 ((nP (k.n+1) (d.lk++[u])).map fun b=>.int .i64 (cond b 1 0)) T.e) (k.n+1) 3);rw[←T8]at s2⊢;have e7:u+1<=k.n+1:=hu;generalize k.n+1=q at*;have e6:u<((nP q d.lk).map fun b=>AV.int .i64 (cond b 1 0)).length:=by rw[hKl];omega
 simp only[go_sem,seval,gB,gP,gT,gG,gK,e1,e2,Nat.mul_one,hG,dA,k1,e6];rw[decide_eq_true e7,cond_true];simp only[go_sem,seval];exact s2
def F86(call:ab):Prop:=∀h (L:List Cm) k d (i u:Nat),uI k->GB h k d->Sp h L->L[i]?=some (aD k.K (.row (aa 0 ((nP (k.n+1) d.lk).map fun b=>.int .i64 (cond b 1 0)) T.e) (k.n+1) 3))->1<=u->u<k.n+1->u∈d.tk->u∉d.lk->aG call 86 [.ptr k.b.B 0,.int .i64 (u:Int)] h fun v h'=>v=.int .i64 0/\h.next<=h'.next/\Sp h' (L.set i (aD k.K (.row (aa 0 ((nP (k.n+1) (d.lk++[u])).map fun b=>.int .i64 (cond b 1 0)) T.e) (k.n+1) 3)))
theorem aj8(P:Program)[PF P]{call:ab}{h:H}{k:KK}(gP:h.t.get k.a.Po=some (ym k.a.M k.a.L (aA k.c).po (aA k.c).li k.O (.sl k.Gg 0 k.n 1 (some k.n))))(gG:h.t.get k.Gg=some (.row (aa 0 (List.replicate k.n (.int .i64 0)) T.e) k.n 3)){i:Nat}(hi:i<k.n)(hn:k.n<=60):WF P call aaq [.ptr k.a.Po 0,.int .i64 ((i:Int)+1)] h fun v h'=>v=.aE [.int .i64 0,.int .i64 0]/\h'=h:=by
 simp only[ym]at gP;have hG:(List.replicate k.n (AV.int .i64 0))[i]?=some (.int .i64 0):=by rw[List.getElem?_replicate,if_pos hi]
 have e1:¬(i:Int)+1<1:=by omega
 have e2:¬(k.n:Int)<(i:Int)+1:=by omega
 have e3:(i:Int)<(k.n:Int):=by omega
 have f1:fw .i64 ((i:Int)+1-1)=(i:Int):=by rw[show(i:Int)+1-1=(i:Int) by omega];exact aS (by omega) (by omega)
 generalize k.n=q at*;simp only[go_sem,seval,gP,e1,e2,f1,gG,e3,Nat.mul_one,hG]
def Ot(call:ab):Prop:=∀h (k:KK) (i:Nat),h.t.get k.a.Po=some (ym k.a.M k.a.L (aA k.c).po (aA k.c).li k.O (.sl k.Gg 0 k.n 1 (some k.n)))->h.t.get k.Gg=some (.row (aa 0 (List.replicate k.n (.int .i64 0)) T.e) k.n 3)->i<k.n->k.n<=60->call 154 [.ptr k.a.Po 0,.int .i64 ((i:Int)+1)] h=some (.aE [.int .i64 0,.int .i64 0],h)
theorem aj9(P:Program)[PF P]{call:ab}(JJ:Ot call){h:H}{k:KK}{d:DD}(o:uI k)(gA:h.t.get k.a.A=some (ag (.ptr k.a.L 0::.ptr k.a.M 0::.ptr k.a.Po 0::.ptr k.a.To 0::k.rA) 104))(gP:h.t.get k.a.Po=some (ym k.a.M k.a.L (aA k.c).po (aA k.c).li k.O (.sl k.Gg 0 k.n 1 (some k.n))))(gG:h.t.get k.Gg=some (.row (aa 0 (List.replicate k.n (.int .i64 0)) T.e) k.n 3))(gM:h.t.get k.Gm=some (.map (bS om 0 d.lk) d.lk.length))(lt:k.a.A<h.next/\k.a.Po<h.next/\k.Gg<h.next/\k.Gm<h.next){i:Nat}(hi:i<k.n)(hl:i+1∉d.lk):
 WF P call aar [.ptr k.a.A 0,.int .i64 ((i:Int)+1)] h fun v h'=>v=.aE [.agg [.int .i64 0,.bool false],.bool false]/\ae h h':=by
 obtain⟨R,ev,V,eR⟩:=o.rA;rw[eR]at gA;have n1:¬k.a.A=h.next:=by omega
 have n2:¬k.a.Po=h.next:=by omega
 have n3:¬k.Gg=h.next:=by omega
 have n4:¬k.Gm=h.next:=by omega
 have cr:=ae.new h (.row (aa 0 [.int .i64 0,.bool false] T.e) 2 298);have k1:=JJ _ k i ((cr.old _ lt.2.1).trans gP) ((cr.old _ lt.2.2.1).trans gG) hi o.b.Ce;have kA:iA 0 (.int .i64 ((i:Int)+1))=true:=rfl;have hf:dL 0 (.int .i64 ((i:Int)+1)) (bS om 0 d.lk) 0=some none:=nQ (v:=om) d.lk 0 0 hl;have gP':=gP;simp only[ym]at gP;simp only[go_sem,seval,gA,n1,n2,n4,gM,kA,hf,Go.Proofs.YtgkjlklfjbljeaaGreat.Eo.tS,gP,k1];exact cr
def wu:CC:=(Sq [qc 9 3 8 7] (Qq (Cq 9 .skip (.exit 0)) (Qq (.block 1 (Sq [a 10 8,a 5 10] (Sq [a 11 1,a 12 0,a 13 5,G 14 1 12 13,i 15 14,q1 16 3 11 15] (Kq 16 [a 17 5,a 4 17] .skip)))) (Oq [C 18 3 8 1,a 8 18]))))
@[go_sem]def c95:CF:=⟨2,(Sq [b 4 0] (Qq (Sq [a 6 0,N 7 6,b 8 0] (.block 0 (.loop wu))) (Rq [b 4 (-1)]))),[.tmp 4]⟩
def I95(h0:H)(v:AV)(x:Int)(xs:List Int)(k:Nat)(tm:T AV)(h:H):Prop:=
 tm.get 0=some v/\tm.get 1=some (.int .i64 x)/\tm.get 7=some (.int .i64 (xs.length:Int))/\h=h0/\∃i:Nat,i+k=xs.length/\tm.get 8=some (.int .i64 (i:Int))/\∀j y,j<i->xs[j]?=some y->y≠x
def R95(h0:H)(x:Int)(xs:List Int)(tm:T AV)(h:H):Prop:=h=h0/\x∉xs
def S95(h0:H)(x:Int)(xs:List Int)(tm:T AV)(h:H):Prop:=h=h0/\x∈xs/\∃r:Int,tm.get 4=some (.int .i64 r)/\0<=r
theorem Ua(P:Program){call:ab}{h0:H}{v:AV}{x:Int}{xs:List Int}(hv:Own 1 3 h0 v xs.length (iL xs))(hl:xs.length<=1000)(k:Nat)(tm:T AV)(h:H)(hI:I95 h0 v x xs k tm h):
 WC P call wu (bM 0 (fun tm h=>∃j,j<k/\I95 h0 v x xs j tm h) (R95 h0 x xs) (S95 h0 x xs)) tm h:=by
 obtain⟨t0,t1,t7,rfl,i,Cu,t8,hn⟩:=hI;cases k with
 |zero=>
  have e1:¬(i:Int)<(xs.length:Int):=by omega
  simp only[go_sem,seval,wu,t7,t8,e1];refine⟨rfl,fun hx=>?_⟩;obtain⟨j,hj,e⟩:=List.getElem_of_mem hx;exact hn j x (by omega) (by rw[List.getElem?_eq_getElem hj,e]) rfl
 |succ k=>
  have e1:(i:Int)<(xs.length:Int):=by omega
  have f1:fw .i64 ((i:Int)+1)=(i:Int)+1:=aS (by omega) (by omega);have e3:((i+1:Nat):Int)=(i:Int)+1:=rfl;have hi:i<xs.length:=by omega
  obtain⟨y,hy⟩:∃y,xs[i]?=some y:=⟨_,List.getElem?_eq_getElem hi⟩;have iq:(iL xs)[i]?=some (.int .i64 y):=by unfold iL;rw[List.getElem?_map,hy];rfl
  generalize hn':xs.length=n at*;generalize uD:iL xs=cs at*;cases hv with
  |nil=>omega
  |sl a len cs cap Cv hp iT ha hg=>
   by_cases Ie:x=y
   ·simp only[go_sem,seval,wu,t0,t1,t7,t8,e1,hg,Nat.mul_one,iq,Ie];subst Ie;exact⟨rfl,List.mem_of_getElem? hy,_,rfl,by omega⟩
   ·simp only[go_sem,seval,wu,t0,t1,t7,t8,e1,hg,Nat.mul_one,iq,Ie,f1];refine⟨k,Nat.lt_succ_self k,by simp[go_sem,t0],by simp[go_sem,t1],by simp[go_sem,t7,hn'],rfl,i+1,by omega,by simp[go_sem,e3],fun j z hj hz=>?_⟩
    by_cases e:j=i
    ·subst e;rw[hy]at hz;exact fun q=>Ie (q.symm.trans (Option.some.inj hz).symm)
    ·exact hn j z (by omega) hz
theorem w95(P:Program){call:ab}{h:H}{v:AV}{x:Int}{xs:List Int}(hv:Own 1 3 h v xs.length (iL xs))(hl:xs.length<=1000):WF P call c95 [v,.int .i64 x] h fun v' h'=>(∃r:Int,v'=.int .i64 r/\(0<=r↔x∈xs))/\h'=h:=by
 have pD:=hv.bR;simp only[go_sem,seval,pD];refine aT (I95 h v x xs) _ _ (fun k tm h' hI=>Ua P hv hl k tm h' hI) (fun dC h2 hR=>?_) (fun dC h2 hS=>?_) xs.length _ _
  ⟨by simp[go_sem],by simp[go_sem],by simp[go_sem],rfl,0,by omega,by simp[go_sem],fun j y hj=>by omega⟩
 ·obtain⟨rfl,hx⟩:=hR;simp only[go_sem,seval];exact⟨-1,rfl,by constructor;(intro q;omega);exact fun q=>absurd q hx⟩
 ·obtain⟨rfl,hx,r,t4,r0⟩:=hS;simp only[go_sem,seval,t4];exact⟨r,rfl,fun _=>hx,fun _=>r0⟩
def F95(call:ab):Prop:=∀h v (x:Int) xs,Own 1 3 h v xs.length (iL xs)->xs.length<=1000->aG call 95 [v,.int .i64 x] h fun v' h'=>(∃r:Int,v'=.int .i64 r/\(0<=r↔x∈xs))/\h'=h
theorem w44(P:Program){call:ab}(h95:F95 call){h:H}{v:AV}{x:Int}{xs:List Int}(hv:Own 1 3 h v xs.length (iL xs))(hl:xs.length<=1000):WF P call c44 [v,.int .i64 x] h fun v' h'=>v'=.bool (decide (x∈xs))/\h'=h:=by
 simp only[go_sem,seval];refine af (h95 h v x xs hv hl) fun v1 h1 p1=>?_
 obtain⟨⟨r,rfl,hr⟩,rfl⟩:=p1
 by_cases hx:x∈xs
 ·have r0:=hr.2 hx;have r1:¬r<0:=by omega
  simp only[go_sem,seval,r1,hx]
 ·have r1:r<0:=Int.not_le.1 fun q=>hx (hr.1 q)
  simp only[go_sem,seval,r1,hx]
def F44(call:ab):Prop:=∀h v (x:Int) xs,Own 1 3 h v xs.length (iL xs)->xs.length<=1000->call 44 [v,.int .i64 x] h=some (.bool (decide (x∈xs)),h)
def Ub(call:ab):Prop:=∀h (M Ly O Po:Nat) (po li:Int) (gv:AV) (tk:List Nat),h.t.get Po=some (ym M Ly po li O gv)->h.t.get O=some (.map (bS (.bool false) 0 tk) tk.length)->tk.Nodup->tk.length<=100->(∀t∈tk,t<=100000)->O<h.next->0<tk.length->
 aG call 156 [.ptr Po 0] h fun v h'=>ae h h'/\∃l:List Int,Own 1 3 h' v l.length (iL l)/\(∀t:Nat,(t:Int)∈l↔t∈tk)/\l.length<=1000
def Uc(call:ab):Prop:=∀h (k:KK) (d:DD) (i:Nat),uI k->h.t.get k.a.A=some (ag (.ptr k.a.L 0::.ptr k.a.M 0::.ptr k.a.Po 0::.ptr k.a.To 0::k.rA) 104)->h.t.get k.a.Po=some (ym k.a.M k.a.L (aA k.c).po (aA k.c).li k.O (.sl k.Gg 0 k.n 1 (some k.n)))->h.t.get k.Gg=some (.row (aa 0 (List.replicate k.n (.int .i64 0)) T.e) k.n 3)->h.t.get k.Gm=some (.map (bS om 0 d.lk) d.lk.length)->(k.a.A<h.next/\k.a.Po<h.next/\k.Gg<h.next/\k.Gm<h.next)->i<k.n->i+1∉d.lk->
 aG call 155 [.ptr k.a.A 0,.int .i64 ((i:Int)+1)] h fun v h'=>v=.aE [.agg [.int .i64 0,.bool false],.bool false]/\ae h h'
theorem w85(P:Program)[PF P]{call:ab}(JJ:Ot call)(Ud:Uc call)(Ou:Ub call)(k44:F44 call){h:H}{L:List Cm}{k:KK}{d:DD}(o:uI k)(s:Sp h L){ia ip io ig im:Nat}(hA:L[ia]?=some (aD k.a.A (ag (.ptr k.a.L 0::.ptr k.a.M 0::.ptr k.a.Po 0::.ptr k.a.To 0::k.rA) 104)))(hP:L[ip]?=some (aD k.a.Po (ym k.a.M k.a.L (aA k.c).po (aA k.c).li k.O (.sl k.Gg 0 k.n 1 (some k.n)))))(hO:L[io]?=some (aD k.O (.map (bS (.bool false) 0 d.tk) d.tk.length)))(hG:L[ig]?=some (aD k.Gg (.row (aa 0 (List.replicate k.n (.int .i64 0)) T.e) k.n 3)))(hM:L[im]?=some (aD k.Gm (.map (bS om 0 d.lk) d.lk.length)))
 (nd:d.tk.Nodup) (tl:d.tk.length<=100) (tb:∀t∈d.tk,t<=100000) {i:Nat} (hi:i<k.n) (ht:i+1∈d.tk) (hl:i+1∉d.lk):
 WF P call c85 [.ptr k.a.A 0,.int .i64 ((i:Int)+1)] h fun v h'=>v=.int .i64 0/\h.next<=h'.next/\Sp h' (L.set im (aD k.Gm (.map (bS om 0 (d.lk++[i+1])) (d.lk++[i+1]).length))):=by
 obtain⟨R,ev,V,eR⟩:=id o.rA;have gA:=s.row hA;have k1:=JJ h k i (s.row hP) (s.row hG) hi o.b.Ce;have gA':=gA;rw[eR]at gA';simp only[go_sem,seval,gA',k1];refine af (Ud h k d i o gA (s.row hP) (s.row hG) (s.row hM) ⟨s.uG hA,s.uG hP,s.uG hG,s.uG hM⟩ hi hl) fun v1 h1 p1=>?_
 obtain⟨rfl,bC⟩:=p1;have s1:=s.step bC;have cF:=ae.new h1 (.row (aa 0 [.int .i64 0,.bool false] T.e) 2 298);have s2:=s1.step cF;have Ik:=s2.row hA;rw[eR]at Ik;have lA1:=s1.uG hA;have nA:¬k.a.A=h1.next:=by omega
 have Ia:=s1.row hA;rw[eR]at Ia;simp only[go_sem,seval,Ia,nA];refine af (Ou _ k.a.M k.a.L k.O k.a.Po _ _ _ d.tk (s2.row hP) (s2.row hO) nd tl tb (s2.uG hO) (List.length_pos_of_mem ht)) fun v3 h3 p3=>?_
 obtain⟨fW,l,ol,vV,yg⟩:=p3;have s3:=s2.step fW;have k4:=k44 h3 v3 ((i:Int)+1) l ol yg;have fH:((i:Int)+1)∈l:=by have:=(vV (i+1)).2 ht;simpa using this
 rw[decide_eq_true fH]at k4;have gA3:=s3.row hA;rw[eR]at gA3;have gM3:=s3.row hM;have kA:iA 0 (.int .i64 ((i:Int)+1))=true:=rfl;have hf:dL 0 (.int .i64 ((i:Int)+1)) (bS om 0 d.lk) 0=some none:=nQ (v:=om) d.lk 0 0 hl;simp only[go_sem,seval,k4,gA3,gM3,kA,hf,G4];have em:=wq om d.lk 0 (i+1);rw[Nat.zero_add]at em;have em':bS om 0 d.lk++[(.int .i64 ((i:Int)+1),.agg [.int .i64 0,.bool false],d.lk.length)]=bS om 0 (d.lk++[i+1]):=em;rw[em'];have a1:=bC.next;have a2:=cF.next;have a3:=fW.next;exact⟨by omega,s3.put hM _⟩
theorem mX:∀(hs:List Int) (a:Int) (i j:Nat) (x y z:Int),(∀x∈hs,1<=x)->i<j->hs[i]?=some x->(Cx a hs)[i]?=some y->(Cx a hs)[j]?=some z->y+5+x<=z
 | [],_,_,_,_,_,_,_,_,h,_,_=>by simp at h
 |w::l,a,i,j,x,y,z,hp,Xs,hx,hy,hz=>by
  cases j with
  |zero=>omega
  |succ j=>
   cases i with
   |zero=>
    obtain rfl:w=x:=Option.some.inj hx;obtain rfl:a=y:=Option.some.inj hy;have Il:(Cx (a+(5+w)) l)[j]?=some z:=hz;have hj:j<l.length:=by rw[←uY l (a+(5+w))];exact(List.getElem?_eq_some_iff.1 Il).1
    obtain⟨y',h1,h2,_⟩:=vh l (a+(5+w)) j _ (fun x hx=>hp x (List.mem_cons_of_mem _ hx)) (List.getElem?_eq_getElem hj);have:=Option.some.inj (h1.symm.trans Il);omega
   |succ i=>exact mX l (a+(5+w)) i j x y z (fun x hx=>hp x (List.mem_cons_of_mem _ hx)) (by omega) hx hy hz
theorem FE{c:aj}{i:Nat}{y k:Int}(hy:(nO c)[i]?=some y):kD c ((i:Int)+1) k=y+5+k:=by
 unfold kD;rw[if_neg (by omega),show((i:Int)+1-1).toNat=i by omega,hy];rfl
theorem FF{c:aj}{r k:Int}(h:r<0):kD c r k=(aA c).he+(-1-r)*7+1+k:=by unfold kD;rw[if_pos h]
theorem Ue{c:aj}(b:LB c){r r' k k':Int}(n:Nd c r k)(n':Nd c r' k')(e:kD c r k=kD c r' k'):r=r'/\k=k':=by
 obtain⟨n1,n2,n3,n4,n5,n6,n7,n8,n9,rH,rI⟩:=b.dq;have hv:=b.val;rcases n with⟨r0,r1,k0,k6⟩|⟨i,x,rfl,hx,k0,k6⟩
 ·rw[FF r0]at e;rcases n' with⟨r0',r1',k0',k6'⟩|⟨i',x',rfl,vg,k0',k6'⟩
  ·rw[FF r0']at e;omega
  ·obtain⟨y',sV,y0',y1',_⟩:=b.tw vg;rw[FE sV]at e;omega
 ·obtain⟨y,hy,y0,y1,_⟩:=b.tw hx;rw[FE hy]at e;rcases n' with⟨r0',r1',k0',k6'⟩|⟨i',x',rfl,vg,k0',k6'⟩
  ·rw[FF r0']at e;omega
  ·obtain⟨y',sV,y0',y1',_⟩:=b.tw vg;rw[FE sV]at e;have h1:∀x∈aH c,1<=x:=fun x hx=>(dh x hx).1
   rcases Nat.lt_trichotomy i i' with h|h|h
   ·have:=mX _ _ i i' x y y' h1 h hx hy sV;omega
   ·subst h;obtain rfl:=Option.some.inj (hy.symm.trans sV);omega
   ·have:=mX _ _ i' i x' y' y h1 h vg sV hy;omega
def dJ(c:aj)(r k:Int):Nat:=(kD c r k).toNat
theorem ly{c:aj}(b:LB c){r r' k k':Int}(n:Nd c r k)(n':Nd c r' k')(e:r≠r'\/k≠k'):dJ c r k≠dJ c r' k':=fun q=>by
 obtain⟨_,a1,_⟩:=n.at b;obtain⟨_,a2,_⟩:=n'.at b;have:=Ue b n n' (by unfold dJ at q;omega);omega
def vj(c:aj)(ws:List Int):Int->List Nat->Prop
 |r,[]=>ws[dJ c r 0]?=some 0
 |r,t::l=>ws[dJ c r 0]?=some (t:Int)/\vj c ws (t:Int) l
theorem iM{c:aj}{ws cz:List Int}:∀{l:List Nat} {r r':Int},vj c ws r l->cz[dJ c r' 0]?=ws[dJ c r 0]?->(∀t∈l,cz[dJ c (t:Int) 0]?=ws[dJ c (t:Int) 0]?)->vj c cz r' l
 | [],r,r',h,e,_=>e.trans h
 |t::l,r,r',h,e,k=>⟨e.trans h.1,iM h.2 (k t (List.mem_cons_self ..)) fun s hs=>k s (List.mem_cons_of_mem _ hs)⟩
theorem wx{c:aj}{ws:List Int}:∀{l:List Nat} {s r:Int} {x:Int},vj c ws s l->(r=s\/∃t∈l,r=(t:Int))->ws[dJ c r 0]?=some x->x≠0->∃t∈l,x=(t:Int)
 | [],s,r,x,h,hr,hx,h0=>by
   rcases hr with rfl|⟨t,ht,_⟩
   ·exact absurd (Option.some.inj (hx.symm.trans h)) h0
   ·cases ht
 |t::l,s,r,x,h,hr,hx,h0=>by
  rcases hr with rfl|⟨t',ht,rfl⟩
  ·exact⟨t,List.mem_cons_self ..,Option.some.inj (hx.symm.trans h.1)⟩
  ·rcases List.mem_cons.1 ht with rfl|ht
   ·obtain⟨t2,h2,e2⟩:=wx h.2 (.inl rfl) hx h0;exact⟨t2,List.mem_cons_of_mem _ h2,e2⟩
   ·obtain⟨t2,h2,e2⟩:=wx h.2 (.inr ⟨t',ht,rfl⟩) hx h0;exact⟨t2,List.mem_cons_of_mem _ h2,e2⟩
theorem Ov{c:aj}(b:LB c){ws:List Int}{u:Nat}(nu:Nd c (u:Int) 0){r w:Int}(nr:Nd c r 0)(hw:ws[dJ c r 0]?=some w)(hu:dJ c (u:Int) 0<ws.length):∀{l:List Nat} {s:Int},vj c ws s l->Nd c s 0->(∀t∈l,Nd c (t:Int) 0)->l.Nodup->(∀t∈l,s≠(t:Int))->u∉l->s≠(u:Int)->(r=s\/∃t∈l,r=(t:Int))->
 ∃l',vj c ((ws.set (dJ c (u:Int) 0) w).set (dJ c r 0) (u:Int)) s l'/\l'.Perm (u::l):=by
 intro l;have hr:=(List.getElem?_eq_some_iff.1 hw).1;have aF:∀q:Int,Nd c q 0->q≠r->q≠(u:Int)->((ws.set (dJ c (u:Int) 0) w).set (dJ c r 0) (u:Int))[dJ c q 0]?=ws[dJ c q 0]?:=fun q nq h1 h2=>by
  rw[List.getElem?_set_ne (ly b nr nq (.inl h1.symm)),List.getElem?_set_ne (ly b nu nq (.inl h2.symm))]
 have aav:r≠(u:Int)->((ws.set (dJ c (u:Int) 0) w).set (dJ c r 0) (u:Int))[dJ c r 0]?=some (u:Int):=fun _=>by
  rw[List.getElem?_set_self (by rw[List.length_set];exact hr)]
 have aaw:r≠(u:Int)->((ws.set (dJ c (u:Int) 0) w).set (dJ c r 0) (u:Int))[dJ c (u:Int) 0]?=some w:=fun h=>by
  rw[List.getElem?_set_ne (ly b nr nu (.inl h)),List.getElem?_set_self hu]
 induction l with
 |nil=>
  intro s h ns _ _ _ _ su Ow;rcases Ow with rfl|⟨t,ht,_⟩
  ·exact⟨[u],⟨aav su,(aaw su).trans (by rw[←hw];exact h)⟩,List.Perm.refl _⟩
  ·cases ht
 |cons t l ih=>
  intro s h ns nl nd sl ul su Ow;have ht:=nl t (List.mem_cons_self ..);have nd':=List.nodup_cons.1 nd;have ut:u≠t:=fun e=>ul (e▸List.mem_cons_self ..)
  have ul':u∉l:=fun e=>ul (List.mem_cons_of_mem _ e)
  by_cases hs:r=s
  ·subst hs;refine⟨u::t::l,⟨aav su,?_⟩,List.Perm.refl _⟩;refine iM (r:=r) (ws:=ws) (l:=t::l) h ((aaw su).trans hw.symm) fun q hq=>?_
   refine aF _ (nl q hq) (fun e=>sl q hq e.symm) fun e=>?_
   have:q=u:=by omega
   exact ul (this▸hq)
  ·have akg:r=(t:Int)\/∃q∈l,r=(q:Int):=by
        rcases Ow with e|⟨q,hq,e⟩
        ·exact absurd e hs
        ·rcases List.mem_cons.1 hq with rfl|hq
         ·exact .inl e
         ·exact .inr ⟨q,hq,e⟩
   obtain⟨l',h1,h2⟩:=ih (s:=(t:Int)) h.2 ht (fun q hq=>nl q (List.mem_cons_of_mem _ hq)) nd'.2 (fun q hq e=>nd'.1 ((show t=q by omega)▸hq)) ul' (by omega) akg;exact⟨t::l',⟨(aF s ns (fun e=>hs e.symm) su).trans h.1,h1⟩,(List.Perm.cons t h2).trans (List.Perm.swap u t l)⟩
structure Uf(c:aj)(ch:Nat->List Nat)(lk:List Nat):Prop where
 mem:∀v:Nat,(v:Int)<ir c->∀t∈ch v,t∈lk
 cov:∀t∈lk,∃v:Nat,(v:Int)<ir c/\t∈ch v
 nd:∀v:Nat,(v:Int)<ir c->(ch v).Nodup
 dj:∀v v' t:Nat,(v:Int)<ir c->(v':Int)<ir c->t∈ch v->t∈ch v'->v=v'
def Ox(c:aj)(l:List Nat):Prop:=∀t∈l,1<=t/\t<=(aH c).length
theorem Ox.nd{c:aj}{l:List Nat}(w:Ox c l){t:Nat}(h:t∈l):Nd c (t:Int) 0:=by
 obtain⟨h1,h2⟩:=w t h;have hx:(aH c)[t-1]?=some _:=List.getElem?_eq_getElem (by omega);exact .inr ⟨t-1,_,by omega,hx,Int.le_refl _,by have:=(dh _ (List.mem_of_getElem? hx)).1;omega⟩
structure LJ(c:aj)(u v:Nat)(yp:List Int)(ch:Nat->List Nat)(k:Nat)(ws:List Int):Prop where
 len:ws.length=yp.length
 low:∀q:Nat,(q:Int)<(aA c).he->ws[q]?=yp[q]?
 st:∀(i w:Nat) (y:Int),(nO c)[i]?=some y->w<5->ws[(y+(w:Int)).toNat]?=yp[(y+(w:Int)).toNat]?
 c0:k=0->ws=yp
 c1:0<k->∃l',l'.Perm (u::ch v)/\vj c ws (-1-(v:Int)) l'/\∀v':Nat,(v':Int)<ir c->v'≠v->vj c ws (-1-(v':Int)) (ch v')
theorem vk{c:aj}(b:LB c){i w:Nat}{y:Int}(hy:(nO c)[i]?=some y)(hw:w<5){r k:Int}(n:Nd c r k):(y+(w:Int)).toNat≠dJ c r k:=fun e=>by
 obtain⟨n1,n2,n3,n4,n5,n6,n7,n8,n9,rH,rI⟩:=b.dq;have hv:=b.val;obtain⟨_,a1,_⟩:=n.at b;have Nw:i<(aH c).length:=by rw[←uY (aH c) (aA c).tw];exact(List.getElem?_eq_some_iff.1 hy).1
 have hx:(aH c)[i]?=some _:=List.getElem?_eq_getElem Nw;obtain⟨y',sV,y0,y1,x1,x6,_⟩:=b.tw hx;obtain rfl:y'=y:=Option.some.inj (sV.symm.trans hy);have h1:∀x∈aH c,1<=x:=fun x hx=>(dh x hx).1
 unfold dJ at e;rcases n with⟨r0,r1,k0,k6⟩|⟨i',x',rfl,vg,k0,k6⟩
 ·rw[FF r0]at e a1;omega
 ·obtain⟨z,hz,z0,z1,_⟩:=b.tw vg;rw[FE hz]at e a1;rcases Nat.lt_trichotomy i i' with h|h|h
  ·have:=mX _ _ i i' _ y' z h1 h hx sV hz;omega
  ·subst h;obtain rfl:=Option.some.inj (hz.symm.trans sV);omega
  ·have:=mX _ _ i' i x' z y' h1 h vg hz sV;omega
theorem LJ.zero{c:aj}{u v:Nat}{yp:List Int}{ch:Nat->List Nat}:LJ c u v yp ch 0 yp:=⟨rfl,fun _ _=>rfl,fun _ _ _ _ _=>rfl,fun _=>rfl,fun h=>absurd h (Nat.lt_irrefl _)⟩
theorem LJ.step{c:aj}(b:LB c){u v:Nat}{yp:List Int}{ch:Nat->List Nat}{lk:List Nat}{k:Nat}{ws:List Int}(j:LJ c u v yp ch k ws)(hlen:(yp.length:Int)=(aA c).wo)(A1:∀v':Nat,(v':Int)<ir c->vj c yp (-1-(v':Int)) (ch v'))(cs:Uf c ch lk)(tl:Ox c lk)(hu:u∉lk)(hv:(v:Int)<ir c)(nu:Nd c (u:Int) (k:Int))(u1:1<=u){r w:Int}(nr:Nd c r (k:Int))(hr:k=0->r=-1-(v:Int)\/∃t∈ch v,r=(t:Int))(hw:ws[dJ c r k]?=some w):
 LJ c u v yp ch (k+1) ((ws.set (dJ c (u:Int) k) w).set (dJ c r k) (u:Int)):=by
 obtain⟨_,a1,a2,_,_,_,_,_,a3⟩:=nu.at b;obtain⟨_,b1,b2,_,_,_,_,_,b3⟩:=nr.at b;have Cc:dJ c (u:Int) k<ws.length:=by have:=j.len;unfold dJ;omega
 refine⟨by rw[List.length_set,List.length_set];exact j.len,fun q hq=>?_,fun i w' y hy iY=>?_,fun h=>by omega,fun _=>?_⟩
 ·rw[List.getElem?_set_ne (by unfold dJ;omega),List.getElem?_set_ne (by unfold dJ;omega)];exact j.low q hq
 ·rw[List.getElem?_set_ne (vk b hy iY nr).symm,List.getElem?_set_ne (vk b hy iY nu).symm];exact j.st i w' y hy iY
 ·have hd:∀v':Nat,(v':Int)<ir c->Nd c (-1-(v':Int)) 0:=fun v' h=>Nd.hd (by omega) h (by decide) (by decide)
  have te:∀v':Nat,(v':Int)<ir c->∀t∈ch v',Nd c (t:Int) 0:=fun v' h t ht=>tl.nd (cs.mem v' h t ht)
  by_cases k0:k=0
  ·subst k0;have e0:=j.c0 rfl;subst e0;have nr0:Nd c r 0:=nr;have nu0:Nd c (u:Int) 0:=nu;have CG:ws[dJ c r 0]?=some w:=hw
   show∃l',l'.Perm (u::ch v)/\vj c ((ws.set (dJ c (u:Int) 0) w).set (dJ c r 0) (u:Int)) (-1-(v:Int)) l'/\∀v':Nat,(v':Int)<ir c->v'≠v->vj c ((ws.set (dJ c (u:Int) 0) w).set (dJ c r 0) (u:Int)) (-1-(v':Int)) (ch v')
   have hun:∀v':Nat,(v':Int)<ir c->u∉ch v':=fun v' h q=>hu (cs.mem v' h u q)
   obtain⟨l',h1,h2⟩:=Ov b nu0 nr0 CG Cc (A1 v hv) (hd v hv) (te v hv) (cs.nd v hv) (fun t ht=>by have:=(tl t (cs.mem v hv t ht)).1;omega) (hun v hv) (by omega) (hr rfl);refine⟨l',h2,h1,fun v' iU dB=>iM (A1 v' iU) ?_ fun t ht=>?_⟩
   ·rw[List.getElem?_set_ne (ly b nr0 (hd v' iU) (.inl ?_)),List.getElem?_set_ne (ly b nu0 (hd v' iU) (.inl (by omega)))];rcases hr rfl with e|⟨t,ht,e⟩
    ·omega
    ·omega
   ·rw[List.getElem?_set_ne (ly b nr0 (te v' iU t ht) (.inl ?_)),List.getElem?_set_ne (ly b nu0 (te v' iU t ht) (.inl ?_))]
    ·intro e;have:u=t:=by omega
     exact hun v' iU (this▸ht)
    ·rcases hr rfl with e|⟨t2,ht2,e⟩
     ·have:=(tl t (cs.mem v' iU t ht)).1;omega
     ·intro e2;have:t2=t:=by omega
      subst this;exact dB (cs.dj v' v t2 iU hv ht ht2)
  ·obtain⟨l',h1,h2,h3⟩:=j.c1 (by omega);have hk:(k:Int)≠0:=by omega
   have aF:∀q:Int,Nd c q 0->((ws.set (dJ c (u:Int) k) w).set (dJ c r k) (u:Int))[dJ c q 0]?=ws[dJ c q 0]?:=fun q nq=>by
        rw[List.getElem?_set_ne (ly b nr nq (.inr hk)),List.getElem?_set_ne (ly b nu nq (.inr hk))]
   have u0:Nd c (u:Int) 0:=by
        rcases nu with⟨q,_⟩|⟨i,x,e,hx,q0,q1⟩
        ·omega
        ·exact .inr ⟨i,x,e,hx,Int.le_refl _,by omega⟩
   refine⟨l',h1,iM h2 (aF _ (hd v hv)) fun t ht=>aF _ ?_,fun v' iU dB=>iM (h3 v' iU dB) (aF _ (hd v' iU)) fun t ht=>aF _ (te v' iU t ht)⟩;rcases List.mem_cons.1 (h1.mem_iff.1 ht)with rfl|q
   ·exact u0
   ·exact te v hv t q
end
end Go.Proofs.YtgkjlklfjbljeaaGreat.CQ
namespace Go.Proofs.YtgkjlklfjbljeaaGreat.CQ
open Go.Proofs.YtgkjlklfjbljeaaGreat.Eo
noncomputable section
def vl:CC:=(Qq (Sq [a 19 10,a 20 2,qc 21 3 19 20] (Cq 21 .skip (.exit 0))) (Qq (.block 1 (Sq [S 24 2 4,a 25 9,a 26 10,a 27 3,z7 28 83 24 25 26 27,a 11 28] (Sq [d 30 1 4,i 31 30,j 32 31,d 33 0 32,i 34 33,a 35 11,a 36 10,Q 37 84 34 35 36,a 29 37,o 38 29 0,o 39 29 1,a 12 38,a 13 39] (Sq [d 41 1 4,i 42 41,j 43 42,d 44 0 43,i 45 44,a 46 1,a 47 10,Q 48 84 45 46 47,a 40 48,o 49 40 0,o 50 40 1,a 14 49,a 15 50] (Qq (.cn ⟨[([qt 0 4 2,g 1 14,R 2 4 1,k 3 53 2,n 4 54 3,m 5 55 4 1,k 6 56 5,n 7 57 6,m 8 58 7 0,k 9 59 8,g 10 12,Y 11 60 9 61 10 1,k 12 62 11],some ⟨13,[(51,some 0),(52,some 1),(63,some 12)],none,.cv (.c (.fn (.func 31) [] [])) [.t 51,.c (.int .i64 0),.t 52,.t 63]⟩),([z8 14 64 13,t 15 65 14,jL 16 66 15 4 66 2,q5 17 66 15 12 66,q5 18 66 15 1 66,⟨19,[(66,some 15),(69,some 18)],some (66,false),.p (.conv .u64 (.t 69))⟩],some ⟨20,[(66,some 15),(67,some 16),(68,some 17),(70,some 19)],some (66,false),.cv (.c (.fn (.func 31) [] [])) [.t 67,.c (.int .i64 0),.t 68,.t 70]⟩),([jM 21 66 15 71 20 66,jN 22 66 15 72 21],none)],[(0,51),(1,52),(2,53),(3,54),(4,55),(5,56),(6,57),(7,58),(8,59),(9,60),(10,61),(11,62),(12,63),(13,64),(14,65),(15,66),(16,67),(17,68),(18,69),(19,70),(20,71),(21,72),(22,73)],[]⟩) (Kq 73 [w 8] .skip)))))) (Oq [a 22 10,C 23 3 22 1,a 10 23])))
@[go_sem]def c30:CF:=⟨4,(Sq [z 4 33 0,w 8] (Sq [S 16 2 4,a 17 3,M 18 69 16 17,a 9 18] (Qq (Sq [b 10 0] (.block 0 (.loop vl))) (Rq [d 74 0 4,i 75 74,a 76 1,M 77 85 75 76,qe 78 41 77 0,a 79 78,qi 80 79 1 4,qh 81 79 80,K 82 79 1,⟨some 83,some (79,true),.cv (.c (.fn (.func 86) [] [])) [.t 81,.t 82]⟩,qO 84 79 41 83 0,O 85 79 84,a 8 85])))),[.tmp 8]⟩
def dsj(c d:Cm):Prop:=∀b,c.F b->¬d.F b
theorem Sp.pw{h:H}{l:List Cm}(s:Sp h l):l.Pairwise dsj:=by
 rw[List.pairwise_iff_getElem];intro i j hi hj Xs b fb gb;have:=s.dj i j _ _ b (List.getElem?_eq_getElem hi) (List.getElem?_eq_getElem hj) fb gb;omega
theorem Sp.of{h:H}{l:List Cm}(a:∀c∈l,c.I h)(p:l.Pairwise dsj):Sp h l:=by
 rw[List.pairwise_iff_getElem]at p;refine⟨fun n c hc=>a c (List.mem_of_getElem? hc),fun i j c d b hi hj fb gb=>?_⟩;obtain⟨li,ei⟩:=List.getElem?_eq_some_iff.1 hi;obtain⟨lj,ej⟩:=List.getElem?_eq_some_iff.1 hj;rcases Nat.lt_trichotomy i j with q|q|q
 ·exact absurd (ej▸gb) (p i j li lj q b (ei▸fb))
 ·exact q
 ·exact absurd (ei▸fb) (p j i lj li q b (ej▸gb))
theorem Sp.perm{h:H}{l l':List Cm}(s:Sp h l)(p:l.Perm l'):Sp h l':=
 Sp.of (fun c hc=>by
  obtain⟨n,hn⟩:=List.getElem?_of_mem (p.mem_iff.2 hc);exact s.ok n c hn) ((p.pairwise_iff fun h b fb gb=>h b gb fb).1 s.pw)
theorem A2(k:KK)(lvA lvB:AV)(mA mB:Nat)(d:DD)(R:List Cm):bL k lvA lvB mA mB d R=bL k lvA lvB mA mB d []++R:=rfl
section
variable {h h':H} {k:KK} {d:DD} {m:Nat} {R:List Cm} {c:Cm} {b:Nat} {a:AO}
theorem St.in1{lvA lvB:AV}{mA mB:Nat}(s:Sp h (c::bL k lvA lvB mA mB d R)):Sp h (bL k lvA lvB mA mB d (c::R)):=s.perm (by rw[A2 k lvA lvB mA mB d R,A2 k lvA lvB mA mB d (c::R)];exact List.perm_middle.symm)
theorem St.aax{lvA lvB:AV}{mA mB:Nat}(s:Sp h (bL k lvA lvB mA mB d (c::R))):Sp h (c::bL k lvA lvB mA mB d R):=s.perm (by rw[A2 k lvA lvB mA mB d R,A2 k lvA lvB mA mB d (c::R)];exact List.perm_middle)
theorem St.box(st:St h k d m R)(a:AO):St ⟨h.next+1,h.t.set h.next a⟩ k d m (aD h.next a::R):=by
 obtain⟨o,w,lvA,lvB,mA,mB,hA,hB,s⟩:=st;exact⟨o,w,lvA,lvB,mA,mB,hA,hB,St.in1 (s.new a)⟩
theorem St.drop(st:St h k d m (c::R)):St h k d m R:=by
 obtain⟨o,w,lvA,lvB,mA,mB,hA,hB,s⟩:=st;exact⟨o,w,lvA,lvB,mA,mB,hA,hB,(St.aax s).tail⟩
theorem St.step(st:St h k d m R)(q:ae h h'):St h' k d m R:=by
 obtain⟨o,w,lvA,lvB,mA,mB,hA,hB,s⟩:=st;exact⟨o,w,lvA,lvB,mA,mB,hA,hB,s.step q⟩
theorem St.row(st:St h k d m (aD b a::R)):h.t.get b=some a:=by
 obtain⟨o,w,lvA,lvB,mA,mB,hA,hB,s⟩:=st;exact(St.aax s).row (n:=0) rfl
theorem St.bv(st:St h k d m R):BV h k.b k.c d.ws:=by
 obtain⟨o,w,lvA,lvB,mA,mB,hA,hB,s⟩:=st;exact o.bc.bv s (n:=8) rfl w
theorem St.le{m':Nat}(st:St h k d m R)(hm:m<=m'):St h k d m' R:=by
 obtain⟨o,w,lvA,lvB,mA,mB,hA,hB,s⟩:=st;exact⟨o,w,lvA,lvB,mA,mB,by omega,by omega,s⟩
end
def G8(call:ab):Prop:=∀h k d m R (t:Int) (i:Nat) (x z:Int),St h k d m R->m<=900000->0<=t->t<64->d.ws[i]?=some x->0<=z->aG call 31 [.agg [.ptr k.a.A 0,.ptr k.b.B 0],.int .i64 t,.int .i64 (i:Int),.int .u64 z] h fun v h'=>v=.bool true/\h.next<=h'.next/\St h' k {d with ws:=d.ws.set i z} (m+1) R
def I30(k:KK)(d:DD)(R:List Cm)(m:Nat)(h0 Bx u v:Nat)(y:Int)(ch:Nat->List Nat)(x n:Nat)(tm:T AV)(h:H):Prop:=
 tm.get 1=some (.int .i64 (u:Int))/\tm.get 2=some (.int .i64 (x:Int))/\tm.get 3=some (.int .u64 y)/\tm.get 4=some (.ptr Bx 0)/\tm.get 9=some (.int .i64 (v:Int))/\h0<=h.next/\∃(j:Nat) (ws:List Int),j+n=x/\tm.get 10=some (.int .i64 (j:Int))/\LJ k.c u v d.ws ch j ws/\St h k {d with ws:=ws} (m+2*j) (aD Bx (ag [.ptr k.a.A 0,.ptr k.b.B 0] 33)::R)
theorem Ug(P:Program)[PF P]{call:ab}(k83:F83 call)(Mn:Xw call)(Mx:G8 call){k:KK}{d:DD}{R:List Cm}{m h0 Bx u v:Nat}{y:Int}{ch:Nat->List Nat}{x:Nat}(hm:m<=800000){i:Nat}(Uh:u=i+1)(hx:(aH k.c)[i]?=some (x:Int))(hlen:(d.ws.length:Int)=(aA k.c).wo)(A1:∀v':Nat,(v':Int)<ir k.c->vj k.c d.ws (-1-(v':Int)) (ch v'))(cs:Uf k.c ch d.lk)(tl:Ox k.c d.lk)(hu:u∉d.lk)(hv:(v:Int)<ir k.c)(n:Nat)(tm:T AV)(h:H)(hI:I30 k d R m h0 Bx u v y ch x n tm h):
 WC P call vl (bM 0 (fun tm h=>∃n',n'<n/\I30 k d R m h0 Bx u v y ch x n' tm h) (fun tm h=>tm.get 1=some (.int .i64 (u:Int))/\tm.get 4=some (.ptr Bx 0)/\h0<=h.next/\∃ws,LJ k.c u v d.ws ch x ws/\St h k {d with ws:=ws} (m+2*x) (aD Bx (ag [.ptr k.a.A 0,.ptr k.b.B 0] 33)::R)) (fun _ _=>False)) tm h:=by
 obtain⟨t1,t2,t3,t4,t9,xV,j,ws,hjn,t10,lj,st⟩:=hI;have b:=st.bv.b;cases n with
 |zero=>
  obtain rfl:j=x:=by omega
  have e1:¬(j:Int)<(j:Int):=by omega
  simp only[go_sem,seval,vl,t2,t10,e1];exact⟨by simp[go_sem,t1],by simp[go_sem,t4],xV,ws,lj,st⟩
 |succ n=>
  have x6:=(dh _ (List.mem_of_getElem? hx)).2;have e1:(j:Int)<(x:Int):=by omega
  have f1:fw .i64 ((j:Int)+1)=(j:Int)+1:=aS (by omega) (by omega);have gB:=st.row;have nu:Nd k.c (u:Int) (j:Int):=.inr ⟨i,x,by omega,hx,by omega,e1⟩;have hdn:Nd k.c (-1-(v:Int)) (j:Int):=Nd.hd (by omega) hv (by omega) (by omega);obtain⟨S,hSd⟩:∃S:Int->Prop,S=fun r=>Nd k.c r (j:Int)/\(j=0->r=-1-(v:Int)\/∃t∈ch v,r=(t:Int)):=⟨_,rfl⟩
  have hS:∀r,S r->Nd k.c r (j:Int):=fun r q=>by rw[hSd]at q;exact q.1
  have iT:∀r (i':Nat) (x':Int),S r->ws[(kD k.c r (j:Int)).toNat]?=some ((i':Int)+1)->(aH k.c)[i']?=some x'->(j:Int)<x'->S ((i':Int)+1):=fun r i' x' q hw vg hj=>by
   rw[hSd]at q⊢;refine⟨.inr ⟨i',x',rfl,vg,by omega,hj⟩,fun j0=>.inr ?_⟩;subst j0;have e0:=lj.c0 rfl;subst e0;exact wx (A1 v hv) (q.2 rfl) hw (by omega)
  have hh:S (-1-(v:Int)):=by rw[hSd];exact⟨hdn,fun _=>.inl rfl⟩
  simp only[go_sem,seval,vl,t1,t2,t3,t4,t9,t10,e1,gB];refine af (k83 h k.a.A k.b k.c ws (v:Int) (j:Int) y S st.bv (by omega) hS iT hh) fun v1 h1 p1=>?_
  obtain⟨⟨r,rfl,hr⟩,q1⟩:=p1;have bC:=st.step q1;have nr:=hS r hr;rw[hSd]at hr;have AK:=bC.row;obtain⟨⟨rb1,gb1⟩,_⟩:=bC.bv;simp only[go_sem,seval,AK,gb1,t1,t4,t10];refine af (Mn h1 k.b.L k.c k.b.cv k.b.hv k.b.wv r (j:Int) bC.bv.lay b nr) fun v2 h2 p2=>?_
  obtain⟨rfl,q2⟩:=p2;have cF:=bC.step q2;have G2:=cF.row;obtain⟨⟨rb2,gb2⟩,_⟩:=cF.bv;simp only[go_sem,seval,G2,gb2,t1,t4,t10];refine af (Mn h2 k.b.L k.c k.b.cv k.b.hv k.b.wv (u:Int) (j:Int) cF.bv.lay b nu) fun v3 h3 p3=>?_
  obtain⟨rfl,q3⟩:=p3;have fW:=cF.step q3;have GU:=fW.row;obtain⟨⟨rb3,gb3⟩,_,⟨lv3,mm3⟩,_⟩:=fW.bv;have gM3:=mm3.g;have gW3:=mm3.w;obtain⟨_,a1,a2,_⟩:=nr.at b;obtain⟨_,b1,b2,_⟩:=nu.at b;obtain⟨w,hw,w0⟩:=fW.bv.at nr;obtain⟨w2,Oy,_⟩:=fW.bv.at nu;have hwx:=kr hw;have ea:kD k.c r (j:Int)=((dJ k.c r j:Nat):Int):=by unfold dJ;omega
  have eb:kD k.c (u:Int) (j:Int)=((dJ k.c (u:Int) j:Nat):Int):=by unfold dJ;omega
  have Ui:(ws.length:Int)=(aA k.c).wo:=by rw[lj.len];exact hlen
  have e2:((dJ k.c r j:Nat):Int)<(ws.length:Int):=by omega
  have akk:(uL ws)[dJ k.c r j]?=some (.int .u64 w):=hwx;simp only[ea,eb];simp only[go_sem,seval,GU,gb3,gM3,gW3,e2,Nat.mul_one,akk,t1,t4,t10];refine af (Mx h3 k {d with ws:=ws} _ _ 0 (dJ k.c (u:Int) j) w2 w fW (by omega) (by decide) (by decide) Oy w0) fun v4 h4 p4=>?_
  obtain⟨rfl,Qo,yG⟩:=p4;have AE:=yG.row;have fu:fw .u64 (u:Int)=u:=uE (by have:=b.Ce;have:=(List.getElem?_eq_some_iff.1 hx).1;omega) (by have:=b.Ce;have:=(List.getElem?_eq_some_iff.1 hx).1;omega);simp only[go_sem,seval,Qo,AE,t1,t4,fu];obtain⟨w3,hw3⟩:∃w3,(ws.set (dJ k.c (u:Int) j) w)[dJ k.c r j]?=some w3:=⟨_,List.getElem?_eq_getElem (by rw[List.length_set];omega)⟩;refine af (Mx h4 k {d with ws:=ws.set (dJ k.c (u:Int) j) w} _ _ 0 (dJ k.c r j) w3 (u:Int) yG (by omega) (by decide) (by decide) hw3 (by omega)) fun v5 h5 p5=>?_
  obtain⟨rfl,nx5,CM⟩:=p5;have gB5:=CM.row;simp only[go_sem,seval,nx5,gB5,t10,f1];have lj1:=lj.step b hlen A1 cs tl hu hv nu (by omega) nr hr.2 hw;have n1:=q1.next;have n2:=q2.next;have n3:=q3.next;exact⟨n,Nat.lt_succ_self n,by simp[go_sem,t1],by simp[go_sem,t2],by simp[go_sem,t3],by simp[go_sem,t4],by simp[go_sem,t9],by omega,j+1,_,by omega,by simp[go_sem],lj1,CM.le (by omega)⟩
def F85(call:ab):Prop:=∀h (L:List Cm) (k:KK) (d:DD) (ia ip io ig im i:Nat),uI k->Sp h L->L[ia]?=some (aD k.a.A (ag (.ptr k.a.L 0::.ptr k.a.M 0::.ptr k.a.Po 0::.ptr k.a.To 0::k.rA) 104))->L[ip]?=some (aD k.a.Po (ym k.a.M k.a.L (aA k.c).po (aA k.c).li k.O (.sl k.Gg 0 k.n 1 (some k.n))))->L[io]?=some (aD k.O (.map (bS (.bool false) 0 d.tk) d.tk.length))->L[ig]?=some (aD k.Gg (.row (aa 0 (List.replicate k.n (.int .i64 0)) T.e) k.n 3))->L[im]?=some (aD k.Gm (.map (bS om 0 d.lk) d.lk.length))->d.tk.Nodup->d.tk.length<=100->(∀t∈d.tk,t<=100000)->i<k.n->i+1∈d.tk->i+1∉d.lk->
 aG call 85 [.ptr k.a.A 0,.int .i64 ((i:Int)+1)] h fun v h'=>v=.int .i64 0/\h.next<=h'.next/\Sp h' (L.set im (aD k.Gm (.map (bS om 0 (d.lk++[i+1])) (d.lk++[i+1]).length)))
theorem w30(P:Program)[PF P]{call:ab}(Ih:F69 call)(k83:F83 call)(Mn:Xw call)(Mx:G8 call)(k85:F85 call)(k86:F86 call){h:H}{k:KK}{d:DD}{R:List Cm}{m u:Nat}{y:Int}{ch:Nat->List Nat}{x:Nat}(st:St h k d m R)(hm:m<=700000)(y0:0<=y){i:Nat}(Uh:u=i+1)(hx:(aH k.c)[i]?=some (x:Int))(A1:∀v':Nat,(v':Int)<ir k.c->vj k.c d.ws (-1-(v':Int)) (ch v'))(cs:Uf k.c ch d.lk)(tl:Ox k.c d.lk)(hu:u∉d.lk)(ht:u∈d.tk)(nd:d.tk.Nodup)(tb:∀t∈d.tk,t<=k.n)(tn:d.tk.length<=100):
 WF P call c30 [.agg [.ptr k.a.A 0,.ptr k.b.B 0],.int .i64 (u:Int),.int .i64 (x:Int),.int .u64 y] h fun r h'=>r=.bool true/\h.next<=h'.next/\∃(v:Nat) (ws:List Int),(v:Int)<ir k.c/\LJ k.c u v d.ws ch x ws/\St h' k {d with ws:=ws,lk:=d.lk++[u]} (m+12) R:=by
 have x6:=(dh _ (List.mem_of_getElem? hx)).2;have cr:=st.box (ag [.ptr k.a.A 0,.ptr k.b.B 0] 33);simp only[go_sem,seval];refine af (Ih _ k.a.A k.b k.c d.ws y cr.bv y0) fun v1 h1 p1=>?_
 obtain⟨⟨v,rfl,v0,v1⟩,q1⟩:=p1;have bC:=cr.step q1;obtain⟨vn,rfl⟩:∃n:Nat,v=(n:Int):=⟨v.toNat,by omega⟩;have n1:h.next+1<=h1.next:=q1.next;simp only[go_sem,seval];refine aT (I30 k d R m h.next h.next u vn y ch x) _ _ (fun n tm h' hI=>Ug P k83 Mn Mx (by omega) Uh hx st.bv.len A1 cs tl hu v1 n tm h' hI) (fun dC h2 hR=>?_) (fun _ _ hh=>hh.elim) x _ _
  ⟨by simp[go_sem],by simp[go_sem],by simp[go_sem],by simp[go_sem],by simp[go_sem],by omega,0,d.ws,by omega,by simp[go_sem],LJ.zero,bC.le (by omega)⟩
 obtain⟨t1,t4,hn2,ws,lj,cF⟩:=hR;have G2:=cF.row;obtain⟨o,w,lvA,lvB,mA,mB,hA,hB,s2⟩:=cF;have aaz:(u:Int)=(i:Int)+1:=by omega
 have D7:k.n<=60:=o.b.Ce;have Nw:i<k.n:=(List.getElem?_eq_some_iff.1 hx).1;simp only[go_sem,seval,t1,t4,G2,aaz];refine af (k85 h2 _ k {d with ws:=ws} 4 1 2 7 3 i o s2 rfl rfl rfl rfl rfl nd tn (fun t q=>by have:=tb t q;omega) Nw (Uh▸ht) (Uh▸hu)) fun v3 h3 p3=>?_
 obtain⟨rfl,n3,s3⟩:=p3;have g3:GB h3 k {d with ws:=ws}:=⟨s3.row (n:=9) rfl,s3.row (n:=12) rfl,s3.row (n:=13) rfl,s3.row (n:=14) rfl,s3.row (n:=15) rfl,s3.row (n:=16) rfl⟩
 have GU:=s3.row (n:=17) rfl;simp only[go_sem,seval,t1,t4,GU,aaz];have JK:((i:Int)+1)=((i+1:Nat):Int):=rfl;rw[JK];refine af (k86 h3 _ k {d with ws:=ws} 15 (i+1) o g3 s3 rfl (by omega) (by omega) (Uh▸ht) (Uh▸hu)) fun v4 h4 p4=>?_
 obtain⟨rfl,n4,s4⟩:=p4;simp only[go_sem,seval];refine⟨by omega,vn,ws,v1,lj,?_⟩;rw[Uh];exact St.drop ⟨o,w,lvA,lvB,mA,mB,by omega,by omega,s4⟩
end
end Go.Proofs.YtgkjlklfjbljeaaGreat.CQ
namespace Go.Proofs.YtgkjlklfjbljeaaGreat.CQ
open Go.Proofs.YtgkjlklfjbljeaaGreat.Eo
noncomputable section
variable(P:Program)[PT P]{call:ab}
abbrev nT(c:aj):Nat:=(aH c).length
def CT(c:aj):Nat:=(aA c).po.toNat
def My(c:aj):Nat:=(aA c).li.toNat
structure oq(c:aj)(d:DD)(ch:Nat->List Nat):Prop where
 len:(d.ws.length:Int)=(aA c).wo
 sU:∀x:Nat,x<6->∃g u lo:Nat,d.ws[CT c+x]?=some (hw u g)/\g<=lo/\lo<=nT c/\Xr (aH c) ((x:Int)+1) lo (nT c) (u:Int)/\∀i,i+1∈d.tk->(aH c)[i]?=some ((x:Int)+1)->i<lo
 link:∀i,i<nT c->d.ws[My c+i]?=some (if i+1<nT c/\(aH c)[i]?=(aH c)[i+1]? then(i:Int)+2 else 0)
 tw:Ox c d.tk
 eq:d.lk=d.tk
 nd:d.tk.Nodup
 vj:∀v:Nat,(v:Int)<ir c->vj c d.ws (-1-(v:Int)) (ch v)
 G9:Uf c ch d.lk
 zero:∀q:Nat,(q:Int)<(aA c).po->d.ws[q]?=some 0
theorem oq.take{c:aj}(b:LB c){d:DD}{ch:Nat->List Nat}(v:oq c d ch){x:Nat}(hx:x<6):∃g u b':Nat,d.ws[CT c+x]?=some (hw u g)/\u<nT c+1/\g<900/\u∉d.tk/\b'<=1024/\(u≠0->∃i,u=i+1/\i<nT c/\(aH c)[i]?=some ((x:Int)+1)/\d.ws[My c+i]?=some (b':Int)):=by
 obtain⟨g,u,lo,h1,h2,h3,h4,h5⟩:=v.sU x hx;have D7:nT c<=60:=b.Ce;rcases h4 with⟨u0,_⟩|⟨j,j1,j2,j3,j4,j5⟩
 ·have u0':u=0:=by omega
  refine⟨g,u,0,h1,by omega,by omega,fun q=>?_,by omega,fun q=>absurd u0' q⟩;have:=(v.tw u q).1;omega
 ·have ju:u=j+1:=by omega
  refine⟨g,u,if j+1<nT c/\(aH c)[j]?=(aH c)[j+1]? then j+2 else 0,h1,by omega,by omega,fun q=>?_,by split<;>omega,fun _=>⟨j,ju,j2,j3,?_⟩⟩
  ·have:=h5 j (ju▸q) j3;omega
  ·rw[v.link j j2];congr 1;split<;>rfl
theorem A3{ws:List Int}{t q:Nat}{y z:Int}(h:∀w,w<5->t+w≠q):∀j,j<=3->(Mv ws t y z j)[q]?=ws[q]?
 |0,_=>rfl
 |j+1,hj=>by
  unfold Mv;rw[List.getElem?_set_ne (h _ (by unfold wW;split<;>omega))]
  exact A3 h j (by omega)
theorem oq.more{c:aj}(b:LB c){d:DD}{ch:Nat->List Nat}(I:oq c d ch){x:Nat}(hx:x<6){g i b':Nat}(AI:d.ws[CT c+x]?=some (hw (i+1) g))(hi:i<nT c)(hxi:(aH c)[i]?=some ((x:Int)+1))(hb:d.ws[My c+i]?=some (b':Int))(hn:i+1∉d.tk){t:Nat}(ht:(nO c)[i]?=some (t:Int)){y z:Int}{v:Nat}(hv:(v:Int)<ir c){ws:List Int}{QN:List Int}(e2:QN=Mv (d.ws.set (CT c+x) (hw b' (g+1))) t y z 3){k:Nat}(k0:0<k)(lj:LJ c (i+1) v QN ch k ws):
 ∃ch',oq c ⟨ws,d.tk++[i+1],d.lk++[i+1]⟩ ch':=by
 obtain⟨n1,n2,n3,n4,n5,n6,n7,n8,n9,rH,rI⟩:=b.dq;have gr:=b.val;have Fo:nT c=(aH c).length:=rfl;have D7:nT c<=60:=b.Ce;obtain⟨l',p1,p2,p3⟩:=lj.c1 k0;obtain⟨t',JG,t0,t1,x1,x6,i60⟩:=b.tw hxi;obtain rfl:t'=(t:Int):=Option.some.inj (JG.symm.trans ht);have Oz:∀q:Nat,(q:Int)<(aA c).he->ws[q]?=(d.ws.set (CT c+x) (hw b' (g+1)))[q]?:=fun q hq=>by
  rw[lj.low q hq,e2,A3 (fun w hw=>by omega) 3 (Nat.le_refl _)]
 have hpo:(CT c:Int)=(aA c).po:=by unfold CT;omega
 have hli:(My c:Int)=(aA c).li:=by unfold My;omega
 have JL:∀q:Nat,(q:Int)<(aA c).he->q≠CT c+x->ws[q]?=d.ws[q]?:=fun q hq dB=>by
  rw[Oz q hq,List.getElem?_set_ne (Ne.symm dB)]
 have dB:∀t2∈d.tk,t2≠i+1:=fun t2 h2 e=>hn (e▸h2)
 refine⟨fun v'=>if v'=v then l' else ch v',⟨?_,fun x' vg=>?_,fun j hj=>?_,fun t2 h2=>?_,by rw[I.eq],?_,fun v' iU=>?_,⟨fun v' iU t2 h2=>?_,fun t2 h2=>?_,fun v' iU=>?_,fun v1 v2 t2 xU Ql h1 h2=>?_⟩,fun q hq=>?_⟩⟩
 ·show(ws.length:Int)=_
  rw[lj.len,e2,AY,List.length_set];exact I.len
 ·by_cases hxx:x'=x
  ·subst hxx;obtain⟨g',u',lo,h1,h2,h3,h4,h5⟩:=I.sU x' hx;have ehw:=Option.some.inj (h1.symm.trans AI);unfold hw at ehw;rcases h4 with⟨u0,q0⟩|⟨j,j1,j2,j3,j4,j5⟩
   ·omega
   ·obtain rfl:j=i:=by omega
    obtain rfl:g'=g:=by omega
    have hl:=Option.some.inj ((I.link j hi).symm.trans hb);refine⟨g'+1,b',j+1,?_,by omega,by omega,?_,fun i' FG H9=>?_⟩
    ·show ws[CT c+x']?=_
     rw[Oz _ (by omega),List.getElem?_set_self (List.getElem?_eq_some_iff.1 AI).1]
    ·by_cases hc:j+1<nT c/\(aH c)[j]?=(aH c)[j+1]?
     ·rw[if_pos hc]at hl;exact .inr ⟨j+1,Nat.le_refl _,hc.1,hc.2.symm.trans hxi,by omega,fun j' a1 a2=>by omega⟩
     ·rw[if_neg hc]at hl;refine .inl ⟨hl.symm,fun j' a1 a2 e=>hc ⟨by omega,?_⟩⟩;have hz:(aH c)[j+1]?=some _:=List.getElem?_eq_getElem (by omega);have as:=AM c;have z1:=as.le j (j+1) _ _ (by omega) hxi hz;have z2:=as.le (j+1) j' _ _ a1 hz e;rw[hxi,hz];congr 1;omega
    ·rcases List.mem_append.1 FG with q|q
     ·have:=h5 i' q H9;omega
     ·have:=List.mem_singleton.1 q;omega
  ·obtain⟨g',u',lo,h1,h2,h3,h4,h5⟩:=I.sU x' vg;refine⟨g',u',lo,?_,h2,h3,h4,fun i' FG H9=>?_⟩
   ·show ws[CT c+x']?=_
    rw[JL _ (by omega) (by omega)];exact h1
   ·rcases List.mem_append.1 FG with q|q
    ·exact h5 i' q H9
    ·have:i'=i:=by have:=List.mem_singleton.1 q;omega
     subst this;have:=Option.some.inj (hxi.symm.trans H9);omega
 ·show ws[My c+j]?=_
  rw[JL _ (by omega) (by omega)];exact I.link j hj
 ·rcases List.mem_append.1 h2 with q|q
  ·exact I.tw t2 q
  ·have:=List.mem_singleton.1 q;omega
 ·show(d.tk++[i+1]).Nodup
  rw[List.nodup_append];exact⟨I.nd,by simp,fun a ha b hb=>by rw[List.mem_singleton.1 hb];exact dB a ha⟩
 ·by_cases e:v'=v
  ·subst e;simp only[if_true];exact p2
  ·simp only[if_neg e];exact p3 v' iU e
 ·show t2∈d.lk++[i+1]
  by_cases e:v'=v
  ·subst e;simp only[if_true]at h2;rcases List.mem_cons.1 (p1.mem_iff.1 h2)with q|q
   ·rw[q];simp
   ·exact List.mem_append_left _ (I.G9.mem _ iU t2 q)
  ·simp only[if_neg e]at h2;exact List.mem_append_left _ (I.G9.mem _ iU t2 h2)
 ·rcases List.mem_append.1 h2 with q|q
  ·obtain⟨v',iU,h3⟩:=I.G9.cov t2 q;refine⟨v',iU,?_⟩
   by_cases e:v'=v
   ·subst e;simp only[if_true];exact p1.mem_iff.2 (List.mem_cons_of_mem _ h3)
   ·simp only[if_neg e];exact h3
  ·refine⟨v,hv,?_⟩;simp only[if_true];rw[List.mem_singleton.1 q];exact p1.mem_iff.2 (List.mem_cons_self ..)
 ·by_cases e:v'=v
  ·subst e;simp only[if_true];exact p1.nodup_iff.2 (List.nodup_cons.2 ⟨fun q=>hn (I.eq▸I.G9.mem _ iU _ q),I.G9.nd _ iU⟩)
  ·simp only[if_neg e];exact I.G9.nd _ iU
 ·have key:∀v':Nat,(v':Int)<ir c->t2∈(if v'=v then l' else ch v')->(t2=i+1/\v'=v)\/t2∈ch v':=fun v' iU h=>by
   by_cases e:v'=v
   ·subst e;simp only[if_true]at h;rcases List.mem_cons.1 (p1.mem_iff.1 h)with q|q
    ·exact .inl ⟨q,rfl⟩
    ·exact .inr q
   ·simp only[if_neg e]at h;exact .inr h
  have no:∀v':Nat,(v':Int)<ir c->t2∈ch v'->t2≠i+1:=fun v' iU h=>dB t2 (I.eq▸I.G9.mem _ iU _ h)
  rcases key v1 xU h1 with⟨a1,a2⟩|a1
  ·rcases key v2 Ql h2 with⟨b1,b2⟩|b1
   ·rw[a2,b2]
   ·exact absurd a1 (no v2 Ql b1)
  ·rcases key v2 Ql h2 with⟨b1,b2⟩|b1
   ·exact absurd b1 (no v1 xU a1)
   ·exact I.G9.dj _ _ t2 xU Ql a1 b1
 ·show ws[q]?=_
  rw[JL _ (by omega) (by omega)];exact I.zero q hq
def wy:CC:=(Qq (Sq [a 9 5,a 10 1,N 11 10,qc 12 3 9 11,a 13 12,K 14 13 5,qy 15 13 3 14 40,O 16 13 15] (Cq 16 .skip (.exit 0))) (Qq (.block 1 (Qq (Qq (.cn ⟨[([qt 0 2 2,g 1 1,g 2 5,Y 3 20 1 21 2 3,m 4 22 3 0,k 5 23 4],some (qq 6 19 0 24 5 27)),([],none)],[(0,19),(1,20),(2,21),(3,22),(4,23),(5,24),(6,25)],[]⟩) (Cq 25 (.exit 1) .skip)) (Sq [a 26 1,a 27 5,G 28 3 26 27,d 29 2 28,i 30 29,q6 31 11 30 6,qX 32 3 1 31,a 6 32] (Sq [S 34 2 2,a 35 6,q7 36 28 34 0 35,a 33 36,o 37 33 0,o 38 33 1,a 7 37,a 8 38] (Qq (Sq [a 39 8,qa 40 39] (Kq 40 [w 4] .skip)) (Qq (Sq [a 41 7,qe 42 3 41 0] (Cq 42 (.exit 1) .skip)) (Qq (.cn ⟨[([qt 0 2 2,g 1 7,g 2 1,g 3 5,Y 4 45 2 46 3 3,m 5 47 4 0,k 6 48 5,g 7 1,g 8 5,Y 9 50 7 51 8 3,m 10 52 9 1,k 11 53 10,⟨12,[(49,some 6),(54,some 11)],none,.p (.build [.int .u64 0,.int .u64 0] [(0,1,.t 49),(1,1,.t 54)])⟩],some ⟨13,[(43,some 0),(44,some 1),(55,some 12)],none,.cv (.c (.fn (.func 29) [] [])) [.t 43,.c (.int .i64 0),.t 44,.t 55,.c (.int .u64 1)]⟩),([z8 14 56 13,t 15 57 14,jL 16 58 15 2 58 2,q5 17 58 15 7 58,q5 18 58 15 6 58,q5 19 58 15 1 58,q5 20 58 15 5 58,⟨21,[(58,some 15),(62,some 19),(63,some 20)],some (58,false),.p (.mj 3 (.t 62) (.t 63))⟩,⟨22,[(58,some 15),(64,some 21)],some (58,false),.p (.uC 0 (.t 64))⟩,⟨23,[(58,some 15),(65,some 22)],some (58,false),.r (.ld none (.t 65))⟩],some ⟨24,[(58,some 15),(59,some 16),(60,some 17),(61,some 18),(66,some 23)],some (58,false),.cv (.c (.fn (.func 30) [] [])) [.t 59,.t 60,.t 61,.t 66]⟩),([jM 25 58 15 67 24 58,jN 26 58 15 68 25],none)],[(0,43),(1,44),(2,45),(3,46),(4,47),(5,48),(6,49),(7,50),(8,51),(9,52),(10,53),(11,54),(12,55),(13,56),(14,57),(15,58),(16,59),(17,60),(18,61),(19,62),(20,63),(21,64),(22,65),(23,66),(24,67),(25,68),(26,69)],[]⟩) (Kq 69 [w 4] .skip)))))))) (Oq [a 17 5,C 18 3 17 1,a 5 18])))
@[go_sem]def c6:CF:=⟨2,(Sq [z 2 33 0,w 4] (Qq (Sq [b 5 0] (.block 0 (.loop wy))) (Rq [qn 4]))),[.tmp 4]⟩
def kI(h:H)(v:AV)(ls:List (Int×Int×Int)):Prop:=(v=.ax/\ls=[])\/∃a o cap,v=.sl a o ls.length 3 cap/\∀(i:Nat) q,ls[i]?=some q->uT h.t.get none a (o+i*3)=some (.int .u64 q.1)/\uT h.t.get none a (o+(i*3+1))=some (.int .u64 q.2.1)/\uT h.t.get none a (o+(i*3+2))=some (.int .i64 q.2.2)/\0<=q.1/\0<=q.2.1
theorem kI.aF{h h':H}{v:AV}{ls:List (Int×Int×Int)}(r:kI h v ls)(k:∀a,own v=some a->h'.t.get a=h.t.get a):kI h' v ls:=by
 rcases r with r|⟨a,o,cap,rfl,r⟩
 ·exact .inl r
 ·refine .inr ⟨a,o,cap,rfl,fun i q hq=>?_⟩;have e:=k a rfl;obtain⟨h1,h2,h3,h4⟩:=r i q hq;rw[ko]at h1 h2 h3⊢;rw[ko,ko,e];exact⟨h1,h2,h3,h4⟩
theorem kI.bR{h:H}{v:AV}{ls:List (Int×Int×Int)}(r:kI h v ls):bR v=some (.int .i64 (ls.length:Int)):=by
 rcases r with⟨rfl,rfl⟩|⟨a,o,cap,rfl,_⟩<;>rfl
theorem St.fz{h:H}{k:KK}{d:DD}{m:Nat}{R:List Cm}(st:St h k d m R):ae k.hL h:=by
 obtain⟨o,w,lvA,lvB,mA,mB,hA,hB,s⟩:=st;exact s.ok 6 _ rfl
def F28(call:ab):Prop:=∀h k d m R (ht hd u g b:Nat),St h k d m R->m<=800000->1<=ht->ht<=6->(aA k.c).po+ht-1=(hd:Int)->d.ws[hd]?=some (hw u g)->u<k.n+1->g<900->u∉d.tk->b<=1024->(u≠0->∃a:Nat,(aA k.c).li+(u:Int) -1=(a:Int)/\d.ws[a]?=some (b:Int))->
 aG call 28 [.agg [.ptr k.a.A 0,.ptr k.b.B 0],.int .i64 0,.int .i64 (ht:Int)] h fun v h'=>v=.aE [.int .i64 (u:Int),.bool true]/\h.next<=h'.next/\St h' k (if u=0 then d else{d with ws:=d.ws.set hd (hw b (g+1)),tk:=d.tk++[u]}) (m+3) R
def F29(call:ab):Prop:=∀h k d m R (i:Nat) (x:Int) (t:Nat) (y z:Int),St h k d m R->m<=800000->(aH k.c)[i]?=some x->(nO k.c)[i]?=some (t:Int)->0<=y->0<=z->
 aG call 29 [.agg [.ptr k.a.A 0,.ptr k.b.B 0],.int .i64 0,.int .i64 ((i:Int)+1),.agg [.int .u64 y,.int .u64 z],.int .u64 1] h fun v h'=>v=.bool true/\h.next<=h'.next/\St h' k {d with ws:=Mv d.ws t y z 3} (m+3) R
def F30(call:ab):Prop:=∀h k d m R (u:Nat) (y:Int) ch (x i:Nat),St h k d m R->m<=700000->0<=y->u=i+1->(aH k.c)[i]?=some (x:Int)->(∀v':Nat,(v':Int)<ir k.c->vj k.c d.ws (-1-(v':Int)) (ch v'))->Uf k.c ch d.lk->Ox k.c d.lk->u∉d.lk->u∈d.tk->d.tk.Nodup->(∀t∈d.tk,t<=k.n)->d.tk.length<=100->
 aG call 30 [.agg [.ptr k.a.A 0,.ptr k.b.B 0],.int .i64 (u:Int),.int .i64 (x:Int),.int .u64 y] h fun r h'=>r=.bool true/\h.next<=h'.next/\∃(v:Nat) (ws:List Int),(v:Int)<ir k.c/\LJ k.c u v d.ws ch x ws/\St h' k {d with ws:=ws,lk:=d.lk++[u]} (m+12) R
def I6(k:KK)(R:List Cm)(h0 Bx:Nat)(v:AV)(ls:List (Int×Int×Int))(n:Nat)(tm:T AV)(h:H):Prop:=
 tm.get 1=some v/\tm.get 2=some (.ptr Bx 0)/\h0<=h.next/\∃(i:Nat) (d:DD) (ch:Nat->List Nat),i+n=min ls.length 40/\tm.get 5=some (.int .i64 (i:Int))/\d.tk.length<=i/\oq k.c d ch/\St h k d (18*i) (aD Bx (ag [.ptr k.a.A 0,.ptr k.b.B 0] 33)::R)
theorem aaE(P:Program)[PF P]{call:ab}(k27:F27 call)(Ea:NN call)(k28:F28 call)(k29:F29 call)(k30:F30 call){k:KK}{R:List Cm}{h0 Bx:Nat}{v:AV}{ls:List (Int×Int×Int)}(hv:kI k.hL v ls)(gr:∀a,own v=some a->a<k.hL.next)(n:Nat)(tm:T AV)(h:H)(hI:I6 k R h0 Bx v ls n tm h):
 WC P call wy (bM 0 (fun tm h=>∃n',n'<n/\I6 k R h0 Bx v ls n' tm h) (fun tm h=>h0<=h.next/\∃d ch,d.tk.length<=40/\oq k.c d ch/\St h k d 720 (aD Bx (ag [.ptr k.a.A 0,.ptr k.b.B 0] 33)::R)) (fun _ _=>False)) tm h:=by
 obtain⟨t1,t2,xV,i,d,ch,fH,t5,QO,I,st⟩:=hI;have b:=st.bv.b;have lr:kI h v ls:=hv.aF fun a ha=>st.fz.old a (gr a ha)
 have pD:=lr.bR;cases n with
 |zero=>
  have hd:d.tk.length<=40:=by omega
  by_cases e1:(i:Int)<(ls.length:Int)
  ·have e2:¬(i:Int)<40:=by omega
   simp only[go_sem,seval,wy,t1,t5,pD,e1,e2];exact⟨xV,d,ch,hd,I,st.le (by omega)⟩
  ·simp only[go_sem,seval,wy,t1,t5,pD,e1];exact⟨xV,d,ch,hd,I,st.le (by omega)⟩
 |succ n=>
  have e1:(i:Int)<(ls.length:Int):=by omega
  have e2:(i:Int)<40:=by omega
  have f1:fw .i64 ((i:Int)+1)=(i:Int)+1:=aS (by omega) (by omega);have e3:((i+1:Nat):Int)=(i:Int)+1:=rfl;obtain⟨⟨y,z,ht⟩,hq⟩:∃q,ls[i]?=some q:=⟨_,List.getElem?_eq_getElem (by omega)⟩;have gB:=st.row;rcases lr with⟨_,rfl⟩|⟨a,o,cap,rfl,hr⟩
  ·simp at hq
  obtain⟨r1,r2,r3,y0,z0⟩:=hr i _ hq;rw[ko]at r1 r2 r3;have la:=gr a rfl;have ea:∀{h' d' m' R'},St h' k d' m' R'->h'.t.get a=h.t.get a:=fun q=>(q.fz.old a la).trans (st.fz.old a la).symm
  simp only[go_sem,seval,wy,t1,t2,t5,e1,e2,gB,r1];refine af (k27 h k.a.A k.b k.c d.ws y st.bv y0) fun v1 h1 p1=>?_
  obtain⟨⟨bb,rfl⟩,q1⟩:=p1;have bC:=st.step q1;have eW:=q1.next;have AK:=bC.row;cases bb with
  |true=>
   simp only[go_sem,seval,t5,f1,eW];exact⟨n,Nat.lt_succ_self n,by simp[go_sem,t1],by simp[go_sem,t2],by omega,i+1,d,ch,by omega,by simp[go_sem,e3],by omega,I,bC.le (by omega)⟩
  |false=>
   have e1a:=ea bC;have k1:=Ea h1 ht 6 (by decide) (by decide);have mb:=gq ht (n:=6) (by decide);obtain⟨x,hxm⟩:∃x:Nat,bP ht 6=(x:Int):=⟨(bP ht 6).toNat,by omega⟩;rw[hxm]at k1;have fx:fw .i64 (1+(x:Int))=((x+1:Nat):Int):=by rw[aS (by omega) (by omega)];omega
   simp only[go_sem,seval,t1,t2,t5,eW,e1,e1a,r3,k1,fx,AK];obtain⟨g,u,b',p1,p2,p3,p4,p5,p6⟩:=I.take b (x:=x) (by omega);obtain⟨n1,n2,n3,n4,n5,n6,n7,n8,n9,rH,rI⟩:=b.dq;refine af (k28 h1 k d _ _ (x+1) (CT k.c+x) u g b' bC (by omega) (by omega) (by omega) (by unfold CT;omega) p1 p2 p3 p4 p5 fun q=>?_) fun v2 h2 p=>?_
   ·obtain⟨i',q1,q2,q3,q4⟩:=p6 q;exact⟨My k.c+i',by unfold My;omega,q4⟩
   obtain⟨rfl,pF,cF⟩:=p;have G2:=cF.row
   by_cases u0:u=0
   ·rw[if_pos u0]at cF;have u0':(u:Int)=0:=by omega
    simp only[go_sem,seval,u0',t5,f1];exact⟨n,Nat.lt_succ_self n,by simp[go_sem,t1],by simp[go_sem,t2],by omega,i+1,d,ch,by omega,by simp[go_sem,e3],by omega,I,cF.le (by omega)⟩
   ·rw[if_neg u0]at cF;have u0':¬(u:Int)=0:=by omega
    obtain⟨i',rfl,q2,q3,q4⟩:=p6 u0;obtain⟨t,JG,t0,t1',x1,x6,i60⟩:=b.tw q3;obtain⟨tn,rfl⟩:∃tn:Nat,t=(tn:Int):=⟨t.toNat,by have:=b.val;omega⟩;have e2a:=ea cF;have JK:((i'+1:Nat):Int)=(i':Int)+1:=rfl;simp only[go_sem,seval,u0',t1,t2,t5,e1,e2a,r1,r2,G2];rw[JK];refine af (k29 h2 k _ _ _ i' _ tn y z cF (by omega) q3 JG y0 z0) fun v3 h3 p=>?_
    obtain⟨rfl,Mj,fW⟩:=p;have GU:=fW.row;have e3a:=ea fW;simp only[go_sem,seval,Mj,t1,t2,t5,e1,e3a,r1,GU];obtain⟨QN,Uj⟩:∃QN,QN=Mv (d.ws.set (CT k.c+x) (hw b' (g+1))) tn y z 3:=⟨_,rfl⟩;rw[←Uj]at fW;have hpn:(CT k.c:Int)=(aA k.c).po:=by unfold CT;omega
    have aF:∀r:Int,Nd k.c r 0->QN[dJ k.c r 0]?=d.ws[dJ k.c r 0]?:=fun r nr=>by
     obtain⟨_,a1,_,_,_,_,_,_,a2⟩:=nr.at b;rw[Uj,A3 (fun w hw=>by
       have:=vk b JG hw nr;omega) 3 (Nat.le_refl _),List.getElem?_set_ne (by unfold dJ;omega)]
    have ako:∀v':Nat,(v':Int)<ir k.c->vj k.c QN (-1-(v':Int)) (ch v'):=fun v' iU=>iM (I.vj v' iU) (aF _ (Nd.hd (by omega) iU (by decide) (by decide))) fun t2 h2=>aF _ (I.tw.nd (I.eq▸I.G9.mem v' iU t2 h2))
    refine af (k30 h3 k _ _ _ (i'+1) y ch (x+1) i' fW (by omega) y0 rfl (by rw[q3];rfl) ako I.G9 (I.eq▸I.tw) (I.eq▸p4) (by simp) (by
     rw[List.nodup_append];exact⟨I.nd,by simp,fun a ha b hb e=>p4 (by rw[←List.mem_singleton.1 hb,←e];exact ha)⟩) (fun t2 h2=>by
     rcases List.mem_append.1 h2 with q|q
     ·exact(I.tw t2 q).2
     ·rw[List.mem_singleton.1 q];exact q2) (by rw[List.length_append,List.length_singleton];omega)) fun v4 h4 p=>?_
    obtain⟨rfl,Qo,vv,ws,hvv,lj,yG⟩:=p;obtain⟨ch',I'⟩:=I.more b (by omega) p1 q2 q3 q4 p4 JG hvv Uj (Nat.succ_pos x) lj;simp only[go_sem,seval,Qo,t5,f1];exact⟨n,Nat.lt_succ_self n,by simp[go_sem,t1],by simp[go_sem,t2],by omega,i+1,_,ch',by omega,by simp[go_sem,e3],by rw[List.length_append,List.length_singleton];omega,I',yG.le (by omega)⟩
theorem w6(P:Program)[PF P]{call:ab}(k27:F27 call)(Ea:NN call)(k28:F28 call)(k29:F29 call)(k30:F30 call){h:H}{k:KK}{d:DD}{R:List Cm}{ch:Nat->List Nat}(I:oq k.c d ch)(hd:d.tk=[])(st:St h k d 0 R){v:AV}{ls:List (Int×Int×Int)}(hv:kI k.hL v ls)(gr:∀a,own v=some a->a<k.hL.next):
 WF P call c6 [.agg [.ptr k.a.A 0,.ptr k.b.B 0],v] h fun r h'=>r=.bool true/\h.next<=h'.next/\∃d ch,d.tk.length<=40/\oq k.c d ch/\St h' k d 720 R:=by
 have cr:=st.box (ag [.ptr k.a.A 0,.ptr k.b.B 0] 33);simp only[go_sem,seval];refine aT (I6 k R h.next h.next v ls) _ _ (fun n tm h' hI=>aaE P k27 Ea k28 k29 k30 hv gr n tm h' hI) (fun dC h2 hR=>?_) (fun _ _ hh=>hh.elim) (min ls.length 40) _ _
  ⟨by simp[go_sem],by simp[go_sem],by show h.next<=h.next+1;omega,0,d,ch,by omega,by simp[go_sem],by rw[hd];exact Nat.le_refl _,I,cr⟩
 obtain⟨n2,d',ch',G6,I',st'⟩:=hR;simp only[go_sem,seval];exact⟨n2,d',ch',G6,I',st'.drop⟩
def FH:CC:=(Qq (Sq [a 16 5,a 17 4,qc 18 3 16 17] (Cq 18 .skip (.exit 0))) (Qq (.block 1 (Qq (.cn ⟨[([qt 0 1 2,g 1 5,R 2 1 1,k 3 23 2,n 4 24 3,m 5 25 4 0,k 6 26 5,n 7 27 6,m 8 28 7 16,m 9 29 8 0,k 10 30 9,g 11 5,qB 12 31 10 32 11 3,g 13 5,zn 14 34 13,zB 15 35 14 50 1],some (qw 16 21 0 22 1 33 12 36 15 31)),([z8 17 37 16],none)],[(0,21),(1,22),(2,23),(3,24),(4,25),(5,26),(6,27),(7,28),(8,29),(9,30),(10,31),(11,32),(12,33),(13,34),(14,35),(15,36),(16,37),(17,38)],[]⟩) (Kq 38 [a 39 4,a 2 39,w 3] .skip))) (Oq [a 19 5,C 20 3 19 1,a 5 20])))
@[go_sem]def c7:CF:=⟨1,(Sq [z 1 33 0,b 2 0,w 3] (Sq [d 6 1 1,i 7 6,j 8 7,d 9 0 8,i 10 9,j 11 10,d 12 0 11,d 13 1 12,i 14 13,⟨some 15,none,.p (.mm false (.t 14) [.c (.int .i64 4)])⟩,a 4 15] (Qq (Sq [b 5 0] (.block 0 (.loop FH))) (Rq [a 40 4,a 2 40,qn 3])))),[.tmp 2,.tmp 3]⟩
def wz:CC:=(Qq (Sq [a 7 0,zU 8 31 7,a 9 8,K 10 9 6,K 11 9 0,zd 12 9 11,qi 13 9 10 12,qh 14 9 13,qr 15 9 14,z9 16 9 3 10 15,O 17 9 16] (Cq 17 .skip (.exit 0))) (Qq (.block 1 (Sq [a 20 0,a 21 6,M 22 88 20 21,a 23 1,q1 24 3 22 23] (Cq 24 (Oq [a 25 5,a 26 6,qM 27 3 1 1 0 0 1 26,qo 28 3 1 8 25 27,a 5 28]) .skip))) (Oq [a 18 6,C 19 3 18 1,a 6 19])))
@[go_sem]def c32:CF:=⟨2,(Sq [U 4] (Sq [U 5] (Qq (Sq [b 6 1] (.block 0 (.loop wz))) (Rq [a 29 5,a 4 29])))),[.tmp 4]⟩
@[go_sem]def c8:CF:=⟨1,(Sq [U 2] (Rq [a 3 0,q6 4 32 3 2,a 2 4])),[.tmp 2]⟩
def kJ(ws:List Int):Nat->List Int
 |0=>ws
 |i+1=>(kJ ws i).set i ((i:Int)+1)
theorem nR(ws:List Int):∀i,(kJ ws i).length=ws.length
 |0=>rfl
 |i+1=>by unfold kJ;rw[List.length_set];exact nR ws i
theorem nS(ws:List Int):∀(n q:Nat),n<=ws.length->(kJ ws n)[q]?=if q<n then some ((q:Int)+1)else ws[q]?
 |0,q,_=>by rw[if_neg (Nat.not_lt_zero _)];rfl
 |n+1,q,h=>by
  unfold kJ;have ih:=nS ws n q (by omega)
  by_cases e:n=q
  ·subst e;rw[List.getElem?_set_self (by rw[nR];omega),if_pos (by omega)]
  ·rw[List.getElem?_set_ne e,ih]
   by_cases h2:q<n
   ·rw[if_pos h2,if_pos (by omega)]
   ·rw[if_neg h2,if_neg (by omega)]
def I7(k:KK)(d:DD)(R:List Cm)(m h0 Bx n0:Nat)(n:Nat)(tm:T AV)(h:H):Prop:=
 tm.get 1=some (.ptr Bx 0)/\tm.get 4=some (.int .i64 (n0:Int))/\h0<=h.next/\∃i:Nat,i+n=n0/\tm.get 5=some (.int .i64 (i:Int))/\St h k {d with ws:=kJ d.ws i} (m+i) (aD Bx (ag [.ptr k.a.A 0,.ptr k.b.B 0] 33)::R)
theorem aaJ(P:Program)[PF P]{call:ab}(Mx:G8 call){k:KK}{d:DD}{R:List Cm}{m h0 Bx n0:Nat}(hn:n0<=4)(hm:m<=800000)(hl:n0<=d.ws.length)(n:Nat)(tm:T AV)(h:H)(hI:I7 k d R m h0 Bx n0 n tm h):
 WC P call FH (bM 0 (fun tm h=>∃n',n'<n/\I7 k d R m h0 Bx n0 n' tm h) (fun tm h=>tm.get 4=some (.int .i64 (n0:Int))/\h0<=h.next/\St h k {d with ws:=kJ d.ws n0} (m+n0) (aD Bx (ag [.ptr k.a.A 0,.ptr k.b.B 0] 33)::R)) (fun _ _=>False)) tm h:=by
 obtain⟨t1,t4,xV,i,fH,t5,st⟩:=hI;cases n with
 |zero=>
  have e0:i=n0:=by omega
  have e1:¬(i:Int)<(n0:Int):=by omega
  simp only[go_sem,seval,FH,t4,t5,e1];rw[e0]at st;exact⟨xV,st⟩
 |succ n=>
  have e1:(i:Int)<(n0:Int):=by omega
  have f1:fw .i64 ((i:Int)+1)=(i:Int)+1:=aS (by omega) (by omega);have f2:fw .i64 (0+(i:Int))=(i:Int):=by rw[Int.zero_add];exact aS (by omega) (by omega)
  have I9:fw .i64 (i:Int)=(i:Int):=aS (by omega) (by omega);have f3:fw .u64 (i:Int)=(i:Int):=uE (by omega) (by omega);have f4:fw .u64 ((i:Int)+1)=(i:Int)+1:=uE (by omega) (by omega);have gB:=st.row;obtain⟨⟨rb,gb⟩,_,_,lay,_⟩:=st.bv;have gL:=lay.g;have ow:(aA k.c).ow=0:=rfl;obtain⟨x,hx⟩:∃x,(kJ d.ws i)[i]?=some x:=⟨_,List.getElem?_eq_getElem (by rw[nR];omega)⟩;simp only[go_sem,seval,FH,t1,t4,t5,e1,gB,gb,gL,au,cb,ow,Int.zero_add,I9,f3,f4];refine af (Mx h k {d with ws:=kJ d.ws i} _ _ (i:Int) i x ((i:Int)+1) st (by omega) (by omega) (by omega) hx (by omega)) fun v1 h1 p1=>?_
  obtain⟨rfl,eW,bC⟩:=p1;have e3:((i+1:Nat):Int)=(i:Int)+1:=rfl;simp only[go_sem,seval,t5,f1,eW];exact⟨n,Nat.lt_succ_self n,by simp[go_sem,t1],by simp[go_sem,t4],by omega,i+1,by omega,by simp[go_sem,e3],bC⟩
theorem mm4(a:Int):SU false (.int .i64 a) [.int .i64 4]=some (.int .i64 (if a<4 then a else 4)):=by
 show some (AV.int .i64 (cond (JM 4 a) 4 a))=_
 rw[iN]
 by_cases h:a<4
 ·rw[if_pos h,decide_eq_false (by omega),cond_false]
 ·rw[if_neg h]
  by_cases h2:4<a
  ·rw[decide_eq_true h2,cond_true]
  ·rw[decide_eq_false h2,cond_false,show a=4 by omega]
def xW(c:aj):Nat:=(if c.aq<4 then c.aq else 4).toNat
theorem w7(P:Program)[PF P]{call:ab}(Mx:G8 call){h:H}{k:KK}{d:DD}{R:List Cm}{m:Nat}(st:St h k d m R)(hm:m<=800000):
 WF P call c7 [.agg [.ptr k.a.A 0,.ptr k.b.B 0]] h fun r h'=>r=.aE [.int .i64 (xW k.c:Int),.bool true]/\h.next<=h'.next/\St h' k {d with ws:=kJ d.ws (xW k.c)} (m+4) R:=by
 have cr:=st.box (ag [.ptr k.a.A 0,.ptr k.b.B 0] 33);have b:=st.bv.b;have hlen:=st.bv.len;obtain⟨n1,n2,n3,n4,n5,n6,n7,n8,n9,rH,rI⟩:=b.dq;have hv:=b.val;obtain⟨⟨rb,gb⟩,_,_,lay,⟨lB,_⟩,_⟩:=st.bv;have gL:=lay.g;have nB:¬k.b.B=h.next:=by omega
 have nL:¬k.b.L=h.next:=by have:=lay.lt k.b.L (.inl rfl);omega
 have nU:(if k.c.aq<4 then k.c.aq else 4)=(xW k.c:Int):=by unfold xW;split<;>omega
 have hle:xW k.c<=4:=by unfold xW;split<;>omega
 have XE:xW k.c<=d.ws.length:=by unfold xW;split<;>omega
 have m4:=mm4 k.c.aq;rw[nU]at m4;simp only[go_sem,seval,gb,gL,nB,nL,au,cb,m4];refine aT (I7 k d R m h.next h.next (xW k.c)) _ _ (fun n tm h' hI=>aaJ P Mx hle hm XE n tm h' hI) (fun dC h2 hR=>?_) (fun _ _ hh=>hh.elim) (xW k.c) _ _
  ⟨by simp[go_sem],by simp[go_sem],by show h.next<=h.next+1;omega,0,by omega,by simp[go_sem],cr⟩
 obtain⟨t4,n2,cF⟩:=hR;simp only[go_sem,seval,t4];exact⟨n2,cF.drop.le (by omega)⟩
def yN(d:DD)(t n:Nat):List Nat:=((List.range' t n).filter fun u=>Om d u==2)
def I32(k:KK)(d:DD)(h0:H)(n:Nat)(tm:T AV)(h:H):Prop:=
 tm.get 0=some (.ptr k.b.B 0)/\tm.get 1=some (.int .i64 2)/\ae h0 h/\∃(t:Nat) (v:AV) (l:List Nat),t+n=k.n+1/\1<=t/\tm.get 6=some (.int .i64 (t:Int))/\tm.get 5=some v/\Own 1 3 h v l.length (iL (l.map Int.ofNat))/\(∀b,own v=some b->h0.next<=b)/\l++yN d t n=yN d 1 k.n/\l.length<=t
theorem GB.step{h h':H}{k:KK}{d:DD}(g:GB h k d)(s:ae h h')(lt:k.b.B<h.next/\k.b.Po<h.next/\k.Tk<h.next/\k.Gn<h.next/\k.K<h.next/\k.C<h.next):GB h' k d:=
 ⟨(s.old _ lt.1).trans g.gB,(s.old _ lt.2.1).trans g.gP,(s.old _ lt.2.2.1).trans g.gT,(s.old _ lt.2.2.2.1).trans g.gG,(s.old _ lt.2.2.2.2.1).trans g.gK,(s.old _ lt.2.2.2.2.2).trans g.gC⟩
theorem Uk(P:Program)[PF P]{call:ab}(T9:F88 call){k:KK}{d:DD}(o:uI k){h0:H}(g0:GB h0 k d)(lt:k.b.B<h0.next/\k.b.Po<h0.next/\k.Tk<h0.next/\k.Gn<h0.next/\k.K<h0.next/\k.C<h0.next)(n:Nat)(tm:T AV)(h:H)(hI:I32 k d h0 n tm h):
 WC P call wz (bM 0 (fun tm h=>∃n',n'<n/\I32 k d h0 n' tm h) (fun tm h=>ae h0 h/\∃v,tm.get 5=some v/\Own 1 3 h v (yN d 1 k.n).length (iL ((yN d 1 k.n).map Int.ofNat))/\∀b,own v=some b->h0.next<=b) (fun _ _=>False)) tm h:=by
 obtain⟨t0,t1,st,t,v,l,htn,t1',t6,t5,ov,AQ,hl,df⟩:=hI;have g:=g0.step st lt;obtain⟨R,vv,eR⟩:=o.rB;have gB:=g.gB;rw[eR]at gB;have D7:k.n<=60:=o.b.Ce;cases n with
 |zero=>
  have e1:¬(t:Int)<((k.n+1:Nat):Int):=by omega
  simp only[go_sem,seval,wz,t0,t6,gB,e1];have e2:yN d t 0=[]:=rfl;rw[e2,List.append_nil]at hl;rw[hl]at ov;exact⟨st,v,by simp[go_sem,t5],ov,AQ⟩
 |succ n=>
  have e1:(t:Int)<((k.n+1:Nat):Int):=by omega
  have f1:fw .i64 ((t:Int)+1)=(t:Int)+1:=aS (by omega) (by omega);have e3:((t+1:Nat):Int)=(t:Int)+1:=rfl;have k1:=T9 h k d t o g (by omega);have hof:yN d t (n+1)=(if Om d t==2 then[t]else[])++yN d (t+1) n:=by
   unfold yN;rw[List.range'_succ,List.filter_cons];split<;>rfl
  by_cases e2:Om d t=2
  ·rw[hof,if_pos (by rw[e2];rfl),←List.append_assoc]at hl;have QG:=ov.one;have sO:Own 1 3 ⟨h.next+1,h.t.set h.next (.row (aa 0 [.int .i64 (t:Int)] T.e) 1 3)⟩ v l.length (iL (l.map Int.ofNat)):=ov.aF (Nat.le_succ _) fun b hb=>(ae.new h _).old b (ov.lt hb)
   simp only[go_sem,seval,wz,t0,t1,t5,t6,gB,e1,k1,e2];refine b8 (du sO (by decide) (by decide) (by omega) (by omega)) ?_
   have oA:=eV sO (src:=[.int .i64 (t:Int)]) (n:=1) (by decide) rfl;have yd:=oA.one;have gg:=fun b hb hh=>cT (h:=⟨h.next+1,h.t.set h.next (.row (aa 0 [.int .i64 (t:Int)] T.e) 1 3)⟩) (e:=3) (v:=v) (cs:=iL (l.map Int.ofNat)++[.int .i64 (t:Int)]) (b:=b) hb hh
   have el:iL (l.map Int.ofNat)++[.int .i64 (t:Int)]=iL ((l++[t]).map Int.ofNat):=by unfold iL;rw[List.map_append,List.map_append];rfl
   simp only[go_sem,seval,yd,t6,f1,iJ];refine⟨n,Nat.lt_succ_self n,by simp[go_sem,t0],by simp[go_sem,t1],⟨?_,fun b hb=>?_⟩,t+1,mF ⟨h.next+1,h.t.set h.next (.row (aa 0 [.int .i64 (t:Int)] T.e) 1 3)⟩ 1 (l.length+1),l++[t],by omega,by omega,by simp[go_sem,e3],by simp[go_sem],?_,?_,hl,by rw[List.length_append,List.length_singleton];omega⟩
   ·show h0.next<=h.next+1+1
    have:=st.next;omega
   ·have iD:b<h.next:=Nat.lt_of_lt_of_le hb st.next;rw[gg b (by show b<h.next+1;omega) fun hh=>by have:=AQ _ hh;omega,(ae.new h _).old b iD];exact st.old b hb
   ·rw[List.length_append];rw[el]at oA⊢;exact oA
   ·intro b hb;rw[ez]at hb;obtain rfl:=Option.some.inj hb;have:=st.next
    show h0.next<=h.next+1
    omega
  ·rw[hof,if_neg (by simpa using e2),List.nil_append]at hl;simp only[go_sem,seval,wz,t0,t1,t6,gB,e1,k1,e2,f1];exact⟨n,Nat.lt_succ_self n,by simp[go_sem,t0],by simp[go_sem,t1],st,t+1,v,l,by omega,by omega,by simp[go_sem,e3],by simp[go_sem,t5],ov,AQ,hl,by omega⟩
theorem w32(P:Program)[PF P]{call:ab}(T9:F88 call){h:H}{k:KK}{d:DD}(o:uI k)(g:GB h k d)(lt:k.b.B<h.next/\k.b.Po<h.next/\k.Tk<h.next/\k.Gn<h.next/\k.K<h.next/\k.C<h.next):
 WF P call c32 [.ptr k.b.B 0,.int .i64 2] h fun v h'=>ae h h'/\Own 1 3 h' v (yN d 1 k.n).length (iL ((yN d 1 k.n).map Int.ofNat))/\∀b,own v=some b->h.next<=b:=by
 simp only[go_sem,seval];refine aT (I32 k d h) _ _ (fun n tm h' hI=>Uk P T9 o g lt n tm h' hI) (fun dC h2 hR=>?_) (fun _ _ hh=>hh.elim) k.n _ _
  ⟨by simp[go_sem],by simp[go_sem],ae.refl h,1,.ax,[],by omega,Nat.le_refl _,by simp[go_sem],by simp[go_sem],.nil,fun b hb=>(by cases hb),rfl,by show 0<=1;omega⟩
 obtain⟨st,v,t5,ov,AQ⟩:=hR;simp only[go_sem,seval,t5];exact⟨st,ov,AQ⟩
def F32(call:ab):Prop:=∀h k d,uI k->GB h k d->(k.b.B<h.next/\k.b.Po<h.next/\k.Tk<h.next/\k.Gn<h.next/\k.K<h.next/\k.C<h.next)->aG call 32 [.ptr k.b.B 0,.int .i64 2] h fun v h'=>ae h h'/\Own 1 3 h' v (yN d 1 k.n).length (iL ((yN d 1 k.n).map Int.ofNat))/\∀b,own v=some b->h.next<=b
theorem w8(P:Program)[PF P]{call:ab}(k32:F32 call){h:H}{k:KK}{d:DD}(o:uI k)(g:GB h k d)(lt:k.b.B<h.next/\k.b.Po<h.next/\k.Tk<h.next/\k.Gn<h.next/\k.K<h.next/\k.C<h.next):
 WF P call c8 [.ptr k.b.B 0] h fun v h'=>ae h h'/\Own 1 3 h' v (yN d 1 k.n).length (iL ((yN d 1 k.n).map Int.ofNat))/\∀b,own v=some b->h.next<=b:=by
 simp only[go_sem,seval];refine af (k32 h k d o g lt) fun v1 h1 p1=>?_
 simp only[go_sem,seval];exact p1
end
end Go.Proofs.YtgkjlklfjbljeaaGreat.CQ
