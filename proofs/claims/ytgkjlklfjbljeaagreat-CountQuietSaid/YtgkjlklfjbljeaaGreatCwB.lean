/-
  What functions of the program compute. Conditions: those of each theorem.
-/
import Derived.Test.YtgkjlklfjbljeaaGreatCwA
set_option linter.all false
namespace Go.Proofs.YtgkjlklfjbljeaaGreat.CQ
open Go.Proofs.YtgkjlklfjbljeaaGreat.Eo
noncomputable section
variable(P:Program)[PT P]{call:ab}
@[go_sem]def c97:CF:=⟨1,(Sq [z 1 24 0,b 2 0] (Qq (Sq [d 3 0 1,i 4 3] (.block 0 (Sq [L 6 5 4 2,a 5 6] (Kq 5 [d 7 1 1,i 8 7,a 2 8] (Sq [L 10 5 4 3,a 9 10] (Kq 9 [d 11 2 1,i 12 11,N 13 12,C 14 3 13 1,a 2 14] .skip)))))) (Rq [b 2 1]))),[.tmp 2]⟩
@[go_sem]def c47:CF:=⟨1,(Sq [z 1 24 0,b 2 0,b 3 0] (Qq (Sq [S 5 3 1,q 6 96 5,a 4 6] (Sq [a 7 4,A 8 41 7 0] (Kq 8 [a 9 4,b 2 0,a 3 9] .skip))) (Rq [S 10 3 1,q 11 97 10,a 2 11,b 3 0]))),[.tmp 2,.tmp 3]⟩
@[go_sem]def Yk:CF:=⟨1,(Sq [z 1 27 0,b 2 0] (Sq [d 4 1 1,i 5 4,d 6 1 1,i 7 6,qs 8 3 2 7,d 9 3 1,i 10 9,qs 11 3 4 10,⟨some 12,none,.p (.build [aN,aN,aN,aN] [(1,1,.t 5),(2,1,.t 8),(3,1,.t 11)])⟩,zK 3 311 0 0 0 0,s 4 3 12] (Rq [d 13 2 1,i 14 13,qA 15 4 1 3 14,i 16 15,a 2 16]))),[.tmp 2]⟩
@[go_sem]def c92:CF:=⟨1,(Sq [U 2] (Qq (Sq [a 3 0,⟨some 4,none,.p (.bin .eql 22 false true (.t 3) (.c .ax))⟩] (Kq 4 [U 2] .skip)) (Rq [zL 5 50 1 0,a 6 0,qo 7 50 1 8 5 6,a 2 7]))),[.tmp 2]⟩
@[go_sem]def Yl:CF:=⟨1,(Sq [b 2 0] (Qq (Sq [a 3 0,y 4 43 3] (Kq 4 [b 2 0] .skip)) (Rq [a 5 0,j 6 5,d 7 27 6,i 8 7,N 9 8,a 2 9]))),[.tmp 2]⟩
@[go_sem]def c41:CF:=⟨1,(Sq [zb 2 27 0 0 0 0 0 0 0 0 0 0 0 0 0 0 0] (Qq (Sq [a 4 0,y 5 43 4] (Kq 5 [jo 6 0 0 0 0 0 0 0 0 0 0 0 0 0 0 0,s 16 2 6] .skip)) (Sq [a 7 0,j 8 7,d 9 0 8,S 10 16 9,zb 3 27 0 0 0 0 0 0 0 0 0 0 0 0 0 0 0,s 16 3 10] (Sq [d 11 4 3,d 12 2 11,i 13 12,q 14 92 13,d 15 4 3,d 16 2 15,s 1 16 14] (Rq [S 17 16 3,s 16 2 17]))))),[(.cell 2 (some 16))]⟩
@[go_sem]def RW:CF:=⟨2,(Sq [qd 4 0,b 5 0] (Qq (Sq [a 6 0,zM 7 50 6 1099511627775,a 8 7,r 9 8 1,qv 10 8 3 9 0,u 11 8 10,a 12 11,r 13 12 1,qb 14 12 3 13 1024,u 15 12 14] (Kq 15 [qd 4 0,b 5 2] .skip)) (Rq [a 16 1,qQ 17 16,a 18 0,jp 19 50 65536 18,qg 20 50 17 19,a 4 20,b 5 0]))),[.tmp 4,.tmp 5]⟩
theorem vR(c:T AV):∀(l:List AV) (o:Nat),(∀i x,l[i]?=some x->c.get (o+i)=some x)->bh c o l.length=some l
 | [],o,_=>by rw[List.length_nil,dH]
 |x::l,o,h=>by
  have h0:=h 0 x rfl;rw[Nat.add_zero]at h0;have ih:=vR c l (o+1) fun i y hi=>by
   have:=h (i+1) y hi
   rwa [show o+1+i=o+(i+1) by omega]
  rw[List.length_cons,eT,h0];simp only[ih]
theorem cm.MS{h:H}{v:AV}{xs:List AV}(r:cm none 1 h v xs):Cw h.t.get 1 v=some (xs.length,xs):=by
 rcases r with⟨rfl,rfl⟩|⟨a,o,cap,rfl,_,ra⟩
 ·rfl
 ·cases xs with
  |nil=>rfl
  |cons x xs=>
   have key:∀cells:T AV,(∀i y,(x::xs)[i]?=some y->cells.get (o+i)=some y)->bh cells o ((x::xs).length*1)=some (x::xs):=fun cells hc=>by
        rw[Nat.mul_one];exact vR cells _ o hc
   have h0:=ra 0 x rfl;have e1:Nat.beq 1 1=true:=rfl;have e2:(x::xs).length=xs.length+1:=rfl;cases hg:h.t.get a with
   |none=>unfold uT at h0;rw[hg]at h0;cases h0
   |some ob=>
    cases ob with
    |row cells len e=>
     have hc:∀i y,(x::xs)[i]?=some y->cells.get (o+i)=some y:=fun i y hi=>by
      have:=ra i y hi;rw[ko,hg,Nat.mul_one]at this;exact this
     have hk:=key cells hc;unfold Cw;rw[e2]at hk⊢;simp only[e1,cond_true,hg,hk]
    |Aw cells=>
     have hc:∀i y,(x::xs)[i]?=some y->cells.get (o+i)=some y:=fun i y hi=>by
      have:=ra i y hi;rw[ko,hg,Nat.mul_one]at this;exact this
     have hk:=key cells hc;unfold Cw;rw[e2]at hk⊢;simp only[e1,cond_true,hg,hk]
    |_=>unfold uT at h0;rw[hg]at h0;cases h0
def uL(l:List Int):List AV:=l.map fun x:Int=>AV.int .u64 x
def iL(l:List Int):List AV:=l.map fun x:Int=>AV.int .i64 x
def db(k n:Int)(l:List Int):Int:=if k=2 then n else if k=3 then(l.length:Int)+1 else 1
theorem w97(P:Program){call:ab}{h:H}{k n:Int}{v:AV}{l:List Int}(hv:cm none 1 h v (uL l)):
 WF P call c97 [.agg [.int .u8 k,.int .i64 n,v]] h fun v' h'=>v'=.int .i64 (db k n l)/\ae h h':=by
 have ov:=hv.one;have gr:=hv.bR;have hle:=hv.le;unfold uL at gr hle;rw[List.length_map]at gr hle;have f1:fw .i64 ((l.length:Int)+1)=(l.length:Int)+1:=aS (by omega) (by omega)
 by_cases k2:k=2
 ·subst k2;simp only[go_sem,seval,ov,db];exact ae.new h _
 by_cases k3:k=3
 ·subst k3;simp only[go_sem,seval,ov,gr,f1,db];exact ae.new h _
 simp only[go_sem,seval,ov,k2,k3,db];exact ae.new h _
theorem w47(P:Program){call:ab}(Qj:∀h k n v (l:List Int),cm none 1 h v (uL l)->(∀a,own v=some a->a<h.next)->∃v' h',call 96 [.agg [.int .u8 k,.int .i64 n,v]] h=some (v',h')/\dg (cJ k n l) h v' h')
 (RX:∀h k n v (l:List Int),cm none 1 h v (uL l)->∃v' h',call 97 [.agg [.int .u8 k,.int .i64 n,v]] h=some (v',h')/\v'=.int .i64 (db k n l)/\ae h h')
 {h:H} {k n:Int} {v:AV} {l:List Int} (hd:cJ k n l) (hv:cm none 1 h v (uL l)) (dE:∀a,own v=some a->a<h.next):
 WF P call c47 [.agg [.int .u8 k,.int .i64 n,v]] h fun v' h'=>v'=.aE [.int .i64 (db k n l),.int .i64 0]/\ae h h':=by
 have ov:=hv.one;have cr:=ae.new h (.row (aa 0 [.int .u8 k,.int .i64 n,v] T.e) 3 24);have xU:=hv.aF fun b hb=>cr.old b (dE b hb)
 simp only[go_sem,seval,ov];refine af (Qj _ k n v l xU fun a ha=>Nat.lt_succ_of_lt (dE a ha)) fun v1 h1 p1=>?_
 obtain⟨e,rfl,he,bC⟩:=p1;obtain rfl:=he.2 hd;have g1:=bC.old h.next (Nat.lt_succ_self _);simp only[go_sem,seval]at g1;simp only[go_sem,seval,g1];have fC:=cr.trans bC;refine af (RX _ k n v l (hv.aF fun b hb=>fC.old b (dE b hb))) fun v2 h2 p2=>?_
 obtain⟨rfl,cF⟩:=p2;simp only[go_sem,seval];exact fC.trans cF
def bD(c:aj):Int:=if c.az=1 then c.aq else if c.az=2 then 2*c.aq else 4*c.buckets
theorem tR{c:aj}(h:fU c):1<=bD c/\bD c<=128:=by
 obtain⟨_,_,h2,h3,h4,h5,h6,_⟩:=h;unfold bD
 by_cases e1:c.az=1
 ·rw[if_pos e1];omega
 by_cases e2:c.az=2
 ·rw[if_neg e1,if_pos e2];omega
 have:=h5 (by omega);rw[if_neg e1,if_neg e2];omega
theorem afR(P:Program){call:ab}{h:H}{c:aj}{v:AV}(hc:fU c)(hv:aY v=true):
 WF P call Yk [.agg (au c v)] h fun v' h'=>v'=.int .i64 (bD c)/\ae h h':=by
 obtain⟨_,_,h2,h3,h4,h5,h6,_⟩:=hc;have st:∀x y,ae h ⟨h.next+2,((h.t.set h.next x).set (h.next+1) y)⟩:=fun x y=>⟨Nat.le_add_right _ _,fun b hb=>by
  have e1:¬b=h.next:=by omega
  have e2:¬b=h.next+1:=by omega
  simp only[go_sem,seval,e1,e2]⟩
 have f1:fw .i64 (2*c.aq)=2*c.aq:=aS (by omega) (by omega);have hb:0<=c.buckets/\c.buckets<=16:=by
  by_cases e:c.az=3
  ·have:=h5 e;omega
  ·have:=h6 e;omega
 have f2:fw .i64 (4*c.buckets)=4*c.buckets:=aS (by omega) (by omega);have m1:¬h.next+1=h.next:=by omega
 have m2:¬h.next=h.next+1:=by omega
 by_cases e1:c.az=1
 ·simp only[go_sem,seval,hv,au,f1,f2,m1,m2,e1,bD];exact st _ _
 by_cases e2:c.az=2
 ·simp only[go_sem,seval,hv,au,f1,f2,m1,m2,e2,bD];exact st _ _
 have e3:c.az=3:=by omega
 simp only[go_sem,seval,hv,au,f1,f2,m1,m2,e3,bD];exact st _ _
theorem vS{e:TypeId}{es bytes n a bl:Nat}{cells:T AV}{h:H}{src:List AV}(hg:h.t.get a=some (.row cells bl e))(hn:0<n)(hb:(2*n+192)*bytes<=281474976710656)(hle:n<=281474976710656):
 ry h e es bytes (.sl a 0 0 es (some 0)) n src=some (mF h es n,sR h e .ax src):=by
 obtain⟨m,rfl⟩:∃m,n=m+1:=⟨n-1,by omega⟩;have b1:Nat.ble ((2*(m+1)+192)*bytes) 281474976710656=true:=Nat.ble_eq_true_of_le hb;have b2:Nat.ble (m+1) 281474976710656=true:=Nat.ble_eq_true_of_le hle;have c1:Nat.beq es es=true:=by simp
 have c2:Nat.beq e e=true:=by simp
 have mE:Nat.ble (0+(m+1)) 0=false:=by rw[ble_eq,decide_eq_false_iff_not];omega
 unfold ry;simp only[c1,cond_true,hg,c2,mE,cond_false,Nat.zero_mul,dH,fY,Nat.zero_add,b1,b2,Bool.and_self];rfl
theorem IE{e:TypeId}{es bytes a o l nI:Nat}{c:Option Nat}{h:H}:ry h e es bytes (.sl a o l nI c) 0 []=some (.sl a o l nI c,h):=rfl
structure oQ(l:List Int)(h:H)(v:AV)(h':H):Prop where
 rd:cm none 1 h' v (uL l)
 lo:∀a,own v=some a->h.next<=a/\a<h'.next
 st:ae h h'
theorem w92{h:H}{v:AV}{l:List Int}(hv:cm none 1 h v (uL l))(dE:∀a,own v=some a->a<h.next)(hl:l.length<=1000):
 WF P call c92 [v] h (oQ l h):=by
 rcases id hv with⟨rfl,h0⟩|⟨a,o,cap,rfl,h1,h2⟩
 ·simp only[go_sem,seval,Ya];exact⟨.inl ⟨rfl,h0⟩,fun a ha=>(by cases ha),ae.refl h⟩
 ·have cr:=ae.new h (.row (aa 0 [] T.e) 0 50);have hs:=(hv.aF fun b hb=>cr.old b (dE b hb)).MS;have hlen:(uL l).length=l.length:=List.length_map _;simp only[go_sem,seval]at hs;simp only[go_sem,seval,afA,hs]
  by_cases hz:l.length=0
  ·have:l=[]:=List.eq_nil_of_length_eq_zero hz;subst this;refine b8 IE ?_
   simp only[go_sem,seval];exact⟨.inr ⟨_,_,_,rfl,by decide,fun i x hx=>(by cases hx)⟩,fun a ha=>(by cases ha;exact⟨Nat.le_refl _,Nat.lt_succ_self _⟩),cr⟩
  ·refine b8 (vS (by simp only[go_sem,seval];rfl) (by omega) (by omega) (by omega)) ?_
   simp only[go_sem,seval];refine⟨.inr ⟨h.next+1,0,none,rfl,by omega,fun i x hx=>?_⟩,fun a ha=>?_,⟨by show h.next<=h.next+1+1;omega,fun b hb=>?_⟩⟩
   ·rw[ko,Nat.mul_one,Nat.zero_add];unfold sR;simp only[go_sem,seval];exact hx
   ·cases ha;exact⟨by show h.next<=h.next+1;omega,by show h.next+1<h.next+1+1;omega⟩
   ·have e1:¬b=h.next:=by omega
    have e2:¬b=h.next+1:=by omega
    unfold sR;simp only[go_sem,seval,e1,e2]
structure kG where
 ow:Int
 en:Int
 ma:Int
 lo:Int
 de:Int
 po:Int
 li:Int
 he:Int
 tw:Int
 wo:Int
def cb(p:kG):List AV:=[.int .i64 p.ow,.int .i64 p.en,.int .i64 p.ma,.int .i64 p.lo,.int .i64 p.de,.int .i64 p.po,.int .i64 p.li,.int .i64 p.he,.int .i64 p.tw,.int .i64 p.wo]
def Cx:Int->List Int->List Int
 |_,[]=>[]
 |a,x::l=>a::Cx (a+(5+x)) l
structure eU(h:H)(L:Nat)(c:aj)(p:kG)(hs:List Int):Prop where
 ex:∃cv gv hv tv val,h.t.get L=some (ag (au c cv++(cb p++[gv,hv,tv,.int .i64 val])) 109)/\cm none 1 h cv (uL c.aI)/\(∀a,own cv=some a->a<h.next)/\cm none 1 h hv (iL hs)/\(∀a,own hv=some a->a<h.next)/\aY gv=true/\aY tv=true/\val=db c.kind c.n c.aI/\cm none 1 h tv (iL (Cx p.tw hs))/\(∀a,own tv=some a->a<h.next)
 lt:L<h.next
theorem eU.step{h h':H}{L:Nat}{c:aj}{p:kG}{hs:List Int}(l:eU h L c p hs)(s:ae h h'):eU h' L c p hs:=by
 obtain⟨cv,gv,hv,tv,val,g,r1,r2,r3,r4,o1,o2,o3,r5,r6⟩:=l.ex;exact⟨⟨cv,gv,hv,tv,val,(s.old L l.lt).trans g,r1.aF fun b hb=>s.old b (r2 b hb),fun a ha=>Nat.lt_of_lt_of_le (r2 a ha) s.next,r3.aF fun b hb=>s.old b (r4 b hb),fun a ha=>Nat.lt_of_lt_of_le (r4 a ha) s.next,o1,o2,o3,r5.aF fun b hb=>s.old b (r6 b hb),fun a ha=>Nat.lt_of_lt_of_le (r6 a ha) s.next⟩,Nat.lt_of_lt_of_le l.lt s.next⟩
theorem afS{h:H}{L:Nat}{c:aj}{p:kG}{hs:List Int}(hL:eU h L c p hs):WF P call Yl [.ptr L 0] h fun v h'=>v=.int .i64 (hs.length:Int)/\h'=h:=by
 obtain⟨cv,gv,hv,tv,val,g,r1,r2,r3,r4,o1,o2,o3⟩:=hL.ex;have hl:=r3.bR;unfold iL at hl;rw[List.length_map]at hl;simp only[go_sem,seval,g,au,cb,hl]
theorem w41(h59:∀h v (l:List Int),cm none 1 h v (uL l)->(∀a,own v=some a->a<h.next)->l.length<=1000->∃v' h',call 92 [v] h=some (v',h')/\oQ l h v' h')
 {h:H} {L:Nat} {c:aj} {p:kG} {hs:List Int} (hL:eU h L c p hs) (hl:c.aI.length<=1000):WF P call c41 [.ptr L 0] h fun v h'=>(∃cv,v=.agg (au c cv)/\aY cv=true/\cm none 1 h' cv (uL c.aI)/\∀a,own cv=some a->h.next<=a/\a<h'.next)/\ae h h':=by
 obtain⟨cv,gv,hv,tv,val,g,r1,r2,r3,r4,o1,o2,o3⟩:=hL.ex;have df:=hL.lt;have ov:=r1.one;have x1:¬L=h.next:=by omega
 have m1:¬h.next+1=h.next:=by omega
 have m2:¬h.next=h.next+1:=by omega
 simp only[go_sem,seval,g,au,cb,x1,m1,m2,ov];have cr:∀x y,ae h ⟨h.next+2,((h.t.set h.next x).set (h.next+1) y)⟩:=fun x y=>⟨Nat.le_add_right _ _,fun b hb=>by
  have e1:¬b=h.next:=by omega
  have e2:¬b=h.next+1:=by omega
  simp only[go_sem,seval,e1,e2]⟩
 refine af (h59 _ cv c.aI (r1.aF fun b hb=>(cr _ _).old b (r2 b hb)) (fun a ha=>by have:=r2 a ha;show a<h.next+2;omega) hl) fun v1 h1 p1=>?_
 have sO:=p1.rd.one;have g0:=p1.st.old h.next (by show h.next<h.next+2;omega);have g1:=p1.st.old (h.next+1) (by show h.next+1<h.next+2;omega);have nx:=p1.st.next;simp only[go_sem,seval,m1,m2]at g0 g1 nx;simp only[go_sem,seval,g0,g1,m1,m2,sO];refine⟨⟨v1,rfl,sO,p1.rd.aF fun b hb=>?_,fun a ha=>?_⟩,⟨by show h.next<=h1.next;omega,fun b hb=>?_⟩⟩
 ·have:=(p1.lo b hb).1
  change h.next+2<=b at this
  have e1:¬b=h.next:=by omega
  have e2:¬b=h.next+1:=by omega
  simp only[go_sem,seval,e1,e2]
 ·have:=p1.lo a ha
  change h.next+2<=a/\a<h1.next at this
  exact⟨by omega,this.2⟩
 have e1:¬b=h.next:=by omega
 have e2:¬b=h.next+1:=by omega
 have g2:=p1.st.old b (by show b<h.next+2;omega);simp only[go_sem,seval,e1,e2]at g2;simp only[go_sem,seval,e1,e2,g2]
theorem afU(P:Program){call:ab}{h:H}{t:Int}(h0:0<=t)(h1:t<=1024):WF P call RW [.int .u64 0,.int .i64 t] h fun v h'=>v=.aE [.int .u64 t,.int .i64 0]/\h'=h:=by
 have e1:¬t<0:=by omega
 have e2:¬1024<t:=by omega
 have f1:fw .u64 t=t:=uE (by omega) (by omega);have f2:fw .u64 (65536*0)=0:=rfl;simp only[go_sem,↓reduceIte,Nat.reduceEqDiff,Int.reduceLT,e1,e2,f2,Int.add_zero,f1]
@[go_sem]def RY:CF:=⟨5,(Sq [b 8 0] (Sq [i 10 3,a 9 10] (Qq (.cn ⟨[([W 0 4,W 1 4,n 2 12 1,m 3 13 2 26,k 4 14 3,g 5 0,g 6 9,g 7 1,g 8 2,⟨9,[(16,some 5),(17,some 6),(18,some 7),(19,some 8)],none,.p (.build [ya,aN,aN,aN] [(0,1,.t 16),(1,1,.t 17),(2,1,.t 18),(3,1,.t 19)])⟩,⟨10,[(20,some 9)],none,.n (.fl 222 4 1 [ya,aN,aN,aN] [(0,4,.t 20)])⟩],some (qJ 11 15 4 21 10 222 4 32)),([n 12 11 0,m 13 23 12 26],some (V 14 24 13 22 11 1)),([],none)],[(0,11),(1,12),(2,13),(3,14),(4,15),(5,16),(6,17),(7,18),(8,19),(9,20),(10,21),(11,22),(12,23),(13,24)],[(⟨0,[(4,none)],none,.r (.ld none (.t 4))⟩,[0,1]),(⟨1,[(4,none)],none,.r (.ld none (.t 4))⟩,[0]),(⟨4,[(14,(some 3))],none,.r (.ld none (.t 14))⟩,[0])]⟩) (Sq [i 25 3,a 26 1,a 27 2,⟨some 28,none,.p (.bin .mul 3 false false (.t 26) (.t 27))⟩,qg 29 3 25 28,s 1 3 29] (Rq [a 30 9,a 8 30]))))),[.tmp 8]⟩
def uU:CC:=(Sq [qc 43 3 42 41] (Qq (Cq 43 .skip (.exit 2)) (Qq (.block 3 (.cn ⟨[([W 0 5,W 1 5,n 2 45 1,m 3 46 2 27,k 4 47 3,g 5 6,qR 6 49 5 3 1,jq 7 50 6 3 1 1 0 0 1],some (qJ 8 48 4 51 7 3 1 8)),([n 9 44 0,m 10 53 9 27],some (V 11 54 10 52 8 1)),([],none)],[(0,44),(1,45),(2,46),(3,47),(4,48),(5,49),(6,50),(7,51),(8,52),(9,53),(10,54)],[(⟨0,[(5,none)],none,.r (.ld none (.t 5))⟩,[0,1]),(⟨1,[(5,none)],none,.r (.ld none (.t 5))⟩,[0]),(⟨4,[(47,(some 3))],none,.r (.ld none (.t 47))⟩,[0])]⟩)) (Oq [C 55 3 42 1,a 42 55]))))
def uV:CC:=(Sq [D 38 3 37 6] (Qq (Cq 38 .skip (.exit 0)) (Qq (.block 1 (Sq [a 39 37,ji 40 6 3 1 36 37,a 6 39,a 7 40] (Sq [a 41 7,b 42 0] (.block 2 (.loop uU))))) (Oq [C 56 3 37 1,a 37 56]))))
def uW:CC:=(Sq [qc 134 3 133 132] (Qq (Cq 134 .skip (.exit 4)) (Qq (.block 5 (Sq [G 135 1 131 133,i 136 135,a 11 136] (Qq (.cn ⟨[([W 0 5,W 1 5,n 2 138 1,m 3 139 2 28,k 4 140 3,W 5 8,jq 6 142 5 3 1 1 0 0 1],some (qJ 7 141 4 143 6 3 1 8)),([n 8 137 0,m 9 145 8 28],some (V 10 146 9 144 7 1)),([],none)],[(0,137),(1,138),(2,139),(3,140),(4,141),(5,142),(6,143),(7,144),(8,145),(9,146)],[(⟨0,[(5,none)],none,.r (.ld none (.t 5))⟩,[0,1]),(⟨1,[(5,none)],none,.r (.ld none (.t 5))⟩,[0]),(⟨4,[(140,(some 3))],none,.r (.ld none (.t 140))⟩,[0]),(⟨5,[(8,none)],none,.r (.ld none (.t 8))⟩,[0])]⟩) (Oq [i 147 8,a 148 11,qX 149 3 5 148,qg 150 3 147 149,s 1 8 150])))) (Oq [C 151 3 133 1,a 133 151]))))
@[go_sem]def c55:CF:=⟨1,(Sq [z 1 27 0,p 2,b 3 0] (Qq (Sq [S 12 16 1,q 13 118 12,a 4 13] (Sq [a 14 4,A 15 41 14 0] (Kq 15 [a 16 4,p 2,a 3 16] .skip))) (Sq [d 17 4 1,d 18 2 17,i 19 18,q 20 92 19,d 21 4 1,d 22 2 21,s 1 22 20] (Sq [S 23 16 1,⟨some 24,none,.p (.build [aN,aN,ya,aN,ya,aN,.ax,aN,aN,aN,aN,aN,aN,aN,aN,aN,aN,aN,aN,aN,aN,aN,aN,aN,aN,aN,.ax,.ax,.ax,aN] [(0,16,.t 23)])⟩,z 25 109 24,⟨some 5,none,.n (.new 43 [.aJ])⟩,s 1 5 25] (Qq (.cn ⟨[([W 0 5,R 1 1 4,zN 2 28 1 3],some (Z 3 29 2 47)),([t 4 30 3,B 5 26 4 0,B 6 26 4 1,n 7 27 0,m 8 33 7 29],some (V 9 34 8 31 5 1)),([],none)],[(0,27),(1,28),(2,29),(3,30),(4,26),(5,31),(6,32),(7,33),(8,34)],[(⟨0,[(5,none)],none,.r (.ld none (.t 5))⟩,[1])]⟩) (Qq (Sq [d 35 7 1,S 36 6 35,b 37 0] (.block 0 (.loop uV))) (Sq [⟨some 8,none,.n (.new 3 [.int .i64 0])⟩,qp 1 8 0] (Sq [zO 57 119 8 5,a 9 57] (Qq (.cn ⟨[([W 0 5,g 1 9,R 2 1 1,k 3 60 2],some (zc 4 59 1 61 3 1 1)),([n 5 58 0,m 6 63 5 16,m 7 64 6 0],some (V 8 65 7 62 4 1)),([],none)],[(0,58),(1,59),(2,60),(3,61),(4,62),(5,63),(6,64),(7,65)],[(⟨0,[(5,none)],none,.r (.ld none (.t 5))⟩,[1])]⟩) (Qq (.cn ⟨[([W 0 5,g 1 9,qt 2 1 16],some (Z 3 68 2 120)),([],some ⟨4,[(67,some 1),(69,some 3)],none,.cv (.t 67) [.c (.int .u8 2),.c (.int .i64 1),.t 69]⟩),([n 5 66 0,m 6 71 5 16,m 7 72 6 1],some (V 8 73 7 70 4 1)),([],none)],[(0,66),(1,67),(2,68),(3,69),(4,70),(5,71),(6,72),(7,73)],[(⟨0,[(5,none)],none,.r (.ld none (.t 5))⟩,[1,2])]⟩) (Qq (.cn ⟨[([W 0 5,g 1 9],some (jr 2 75 1 3 1 1)),([n 3 74 0,m 4 77 3 16,m 5 78 4 2],some (V 6 79 5 76 2 1)),([],none)],[(0,74),(1,75),(2,76),(3,77),(4,78),(5,79)],[(⟨0,[(5,none)],none,.r (.ld none (.t 5))⟩,[1])]⟩) (Qq (.cn ⟨[([W 0 5,g 1 9,R 2 1 13,k 3 82 2],some (zc 4 81 1 83 3 4 3)),([n 5 80 0,m 6 85 5 16,m 7 86 6 3],some (V 8 87 7 84 4 1)),([],none)],[(0,80),(1,81),(2,82),(3,83),(4,84),(5,85),(6,86),(7,87)],[(⟨0,[(5,none)],none,.r (.ld none (.t 5))⟩,[1])]⟩) (Qq (.cn ⟨[([W 0 5,g 1 9,R 2 1 13,k 3 90 2],some (zc 4 89 1 91 3 5 1)),([n 5 88 0,m 6 93 5 16,m 7 94 6 4],some (V 8 95 7 92 4 1)),([],none)],[(0,88),(1,89),(2,90),(3,91),(4,92),(5,93),(6,94),(7,95)],[(⟨0,[(5,none)],none,.r (.ld none (.t 5))⟩,[1])]⟩) (Qq (.cn ⟨[([W 0 5,g 1 9],some (jr 2 97 1 6 6 1)),([n 3 96 0,m 4 99 3 16,m 5 100 4 5],some (V 6 101 5 98 2 1)),([],none)],[(0,96),(1,97),(2,98),(3,99),(4,100),(5,101)],[(⟨0,[(5,none)],none,.r (.ld none (.t 5))⟩,[1])]⟩) (Qq (.cn ⟨[([W 0 5,g 1 9,W 2 5,n 3 104 2,m 4 105 3 27,k 5 106 4,qK 6 107 5],some (zc 7 103 1 108 6 7 1)),([n 8 102 0,m 9 110 8 16,m 10 111 9 6],some (V 11 112 10 109 7 1)),([],none)],[(0,102),(1,103),(2,104),(3,105),(4,106),(5,107),(6,108),(7,109),(8,110),(9,111),(10,112)],[(⟨0,[(5,none)],none,.r (.ld none (.t 5))⟩,[1])]⟩) (Qq (.cn ⟨[([W 0 5,g 1 9,W 2 5,n 3 115 2,m 4 116 3 29,k 5 117 4],some (zc 6 114 1 118 5 8 7)),([n 7 113 0,m 8 120 7 16,m 9 121 8 7],some (V 10 122 9 119 6 1)),([],none)],[(0,113),(1,114),(2,115),(3,116),(4,117),(5,118),(6,119),(7,120),(8,121),(9,122)],[(⟨0,[(5,none)],none,.r (.ld none (.t 5))⟩,[1])]⟩) (Sq [i 123 5,i 124 8,j 125 123,d 126 16 125,d 127 8 126,s 1 127 124] (Qq (Sq [i 128 5,j 129 128,d 130 27 129,i 131 130,N 132 131,b 133 0] (.block 4 (.loop uW))) (Sq [i 152 5,i 153 8,j 154 152,d 155 16 154,d 156 9 155,s 1 156 153] (Rq [i 157 5,a 2 157,b 3 0])))))))))))))))))))),[.tmp 2,.tmp 3]⟩
structure Ed(L A:Nat)(at':Int)(gv:AV)(gl:Nat)(c:aj)(cv:AV)(p:kG)(hv tv val:AV)(h h':H):Prop where
 gL:∃Xi RZ,h'.t.get L=some (ag (au c cv++(cb p++[Xi,hv,tv,val])) 109)/\Own 4 222 h' Xi (gl+1) RZ/\(∀a,own Xi=some a->h.next<=a)
 gA:h'.t.get A=some (ag [.int .i64 at'] 3)
 next:h.next<=h'.next
 old:∀b,b<h.next->b≠L->b≠A->own gv≠some b->h'.t.get b=h.t.get b
theorem afV(P:Program){call:ab}{h:H}{A X L gl:Nat}{c:aj}{cv gv hv tv val:AV}{p:kG}{Ee:List AV}{k fK m w:Int}
 (gA:h.t.get A=some (ag [.int .i64 fK] 3)) (gX:h.t.get X=some (ag [.ptr L 0] 43)) (gL:h.t.get L=some (ag (au c cv++(cb p++[gv,hv,tv,val])) 109)) (og:Own 4 222 h gv gl Ee) (Xj:gl<=100)
 (lA:A<h.next) (lX:X<h.next) (lL:L<h.next) (nXA:X≠A) (nLA:L≠A) (nXL:X≠L) (oA:own gv≠some A) (oX:own gv≠some X) (oL:own gv≠some L) (hm:0<=m/\m<=200) (hw:0<=w/\w<=200) (ha:0<=fK/\fK<=1000000):
 WF P call RY [.int .u8 k,.int .i64 m,.int .i64 w,.ptr A 0,.ptr X 0] h fun v h'=>v=.int .i64 fK/\Ed L A (fK+m*w) gv gl c cv p hv tv val h h':=by
 have ogv:=og.one;have hmw:0<=m*w/\m*w<=40000:=⟨Int.mul_nonneg hm.1 hw.1,by have h1:=Int.mul_le_mul hm.2 hw.2 hw.1 (by omega);omega⟩;have f1:fw .i64 (m*w)=m*w:=aS (by omega) (by omega);have f2:fw .i64 (fK+m*w)=fK+m*w:=aS (by omega) (by omega);have a1:¬A=h.next:=by omega
 have x1:¬X=h.next:=by omega
 have l1:¬L=h.next:=by omega
 have cr:=ae.new h (.row (aa 0 [.int .u8 k,.int .i64 fK,.int .i64 m,.int .i64 w] T.e) 4 222);have Ym:Own 4 222 ⟨h.next+1,h.t.set h.next (.row (aa 0 [.int .u8 k,.int .i64 fK,.int .i64 m,.int .i64 w] T.e) 4 222)⟩ gv gl Ee:=og.aF cr.next fun b hb=>cr.old b (og.lt hb)
 simp only[go_sem,seval,gA,gX,gL,a1,x1,l1,au,cb];refine b8 (du Ym (by decide) (by decide) (by omega) (by omega)) ?_
 have vT:=cT (h:=⟨h.next+1,h.t.set h.next (.row (aa 0 [.int .u8 k,.int .i64 fK,.int .i64 m,.int .i64 w] T.e) 4 222)⟩) (e:=222) (v:=gv) (cs:=Ee++[.int .u8 k,.int .i64 fK,.int .i64 m,.int .i64 w]) (b:=L) (by show L<h.next+1;omega) oL;have fI:=cT (h:=⟨h.next+1,h.t.set h.next (.row (aa 0 [.int .u8 k,.int .i64 fK,.int .i64 m,.int .i64 w] T.e) 4 222)⟩) (e:=222) (v:=gv) (cs:=Ee++[.int .u8 k,.int .i64 fK,.int .i64 m,.int .i64 w]) (b:=X) (by show X<h.next+1;omega) oX;have Ia:=cT (h:=⟨h.next+1,h.t.set h.next (.row (aa 0 [.int .u8 k,.int .i64 fK,.int .i64 m,.int .i64 w] T.e) 4 222)⟩) (e:=222) (v:=gv) (cs:=Ee++[.int .u8 k,.int .i64 fK,.int .i64 m,.int .i64 w]) (b:=A) (by show A<h.next+1;omega) oA;have yd:=eV Ym (src:=[.int .u8 k,.int .i64 fK,.int .i64 m,.int .i64 w]) (n:=1) (by decide) rfl;have sO:=yd.one;simp only[go_sem,seval,a1,x1,l1,gL,gX,gA,au,cb]at vT fI Ia;have nAL:¬A=L:=fun e=>nLA e.symm
 have Yn:¬X=L:=nXL;simp only[go_sem,seval,vT,fI,Ia,nAL,Yn,sO,iJ,f1,f2,a1,x1,l1,gL,gX,gA,au,cb];refine⟨⟨mF ⟨h.next+1,h.t.set h.next (.row (aa 0 [.int .u8 k,.int .i64 fK,.int .i64 m,.int .i64 w] T.e) 4 222)⟩ 4 (gl+1),Ee++[.int .u8 k,.int .i64 fK,.int .i64 m,.int .i64 w],?_,?_,?_⟩,?_,?_,?_⟩
 ·have n1:¬L=A:=nLA;simp only[go_sem,seval,n1,au,cb];rfl
 ·refine yd.aF (by show h.next+1+1<=h.next+2;omega) fun b hb=>?_
  rw[ez]at hb;obtain rfl:=Option.some.inj hb;have n1:¬h.next+1=A:=by omega
  have n2:¬h.next+1=L:=by omega
  simp only[go_sem,seval,n1,n2]
 ·intro a ha;rw[ez]at ha;obtain rfl:=Option.some.inj ha
  show h.next<=h.next+1
  omega
 ·simp only[go_sem,seval];rfl
 ·show h.next<=h.next+2
  omega
 ·intro b hb b1 b2 b3;have n1:¬b=h.next:=by omega
  have g1:=cT (h:=⟨h.next+1,h.t.set h.next (.row (aa 0 [.int .u8 k,.int .i64 fK,.int .i64 m,.int .i64 w] T.e) 4 222)⟩) (e:=222) (v:=gv) (cs:=Ee++[.int .u8 k,.int .i64 fK,.int .i64 m,.int .i64 w]) (b:=b) (by show b<h.next+1;omega) b3;simp only[go_sem,seval,n1]at g1;simp only[go_sem,seval,b1,b2,g1]
def uX:Int->List Int->List Int
 |_,[]=>[]
 |i,t::l=>List.replicate t.toNat (i+1)++uX (i+1) l
def Fl:kG:=⟨0,0,0,0,0,0,0,0,0,0⟩
structure LS(g0:Nat->Option AO)(L:Nat)(c:aj)(cv val:AV)(hs:List Int)(h:H):Prop where
 old:∀b,b<L->h.t.get b=g0 b
 x:h.t.get (L+1)=some (ag [.ptr L 0] 43)
 nx:L+2<=h.next
 ex:∃hv,h.t.get L=some (ag (au c cv++(cb Fl++[.ax,hv,.ax,val])) 109)/\Own 1 3 h hv hs.length (iL hs)/\(∀a,own hv=some a->L+2<=a)
def R0(B L:Nat)(ts:List Int)(i:Int)(tm:T AV):Prop:=tm.get 1=some (.ptr B 0)/\tm.get 5=some (.ptr (L+1) 0)/\tm.get 36=some (.agg (iL ts))/\tm.get 37=some (.int .i64 i)
def I14(g0:Nat->Option AO)(B L:Nat)(c:aj)(cv val:AV)(ts:List Int)(i:Int)(fV:List Int)(n k:Nat)(tm:T AV)(h:H):Prop:=
 R0 B L ts i tm/\tm.get 6=some (.int .i64 i)/\tm.get 41=some (.int .i64 (n:Int))/\∃j:Nat,j+k=n/\tm.get 42=some (.int .i64 (j:Int))/\LS g0 L c cv val (fV++List.replicate j (i+1)) h
theorem R1(P:Program){call:ab}{g0:Nat->Option AO}{B L:Nat}{c:aj}{cv val:AV}{ts:List Int}{i:Int}{fV:List Int}{n:Nat}(xU:aY cv=true)(Ql:aY val=true)(hn:fV.length+n<=1000)(hi:0<=i/\i<=100)(k:Nat)(tm:T AV)(h:H)(hI:I14 g0 B L c cv val ts i fV n k tm h):
 WC P call uU (bM 2 (fun tm h=>∃j,j<k/\I14 g0 B L c cv val ts i fV n j tm h) (fun tm h=>R0 B L ts i tm/\LS g0 L c cv val (fV++List.replicate n (i+1)) h) (fun _ _=>False)) tm h:=by
 obtain⟨⟨t1,t5,t36,t37⟩,t6,t41,j,hjk,t42,ls⟩:=hI;cases k with
 |zero=>
  have e1:¬(j:Int)<(n:Int):=by omega
  simp only[go_sem,seval,uU,t41,t42,e1];obtain rfl:j=n:=by omega
  exact⟨⟨by simp[go_sem,t1],by simp[go_sem,t5],by simp[go_sem,t36],by simp[go_sem,t37]⟩,ls⟩
 |succ k=>
  have e1:(j:Int)<(n:Int):=by omega
  obtain⟨old,gX,nx,hv,gL,oh,mP⟩:=ls;have f1:fw .i64 (i+1)=i+1:=aS (by omega) (by omega);have f2:fw .i64 ((j:Int)+1)=(j:Int)+1:=aS (by omega) (by omega);have e3:((j+1:Nat):Int)=(j:Int)+1:=rfl;have ov:=oh.one;have x1:¬L+1=h.next:=by omega
  have l1:¬L=h.next:=by omega
  have xl:¬L+1=L:=by omega
  have cr:=ae.new h (.row (aa 0 [.int .i64 (i+1)] T.e) 1 3);have Mi:Own 1 3 ⟨h.next+1,h.t.set h.next (.row (aa 0 [.int .i64 (i+1)] T.e) 1 3)⟩ hv _ _:=oh.aF cr.next fun b hb=>cr.old b (oh.lt hb)
  have hlen:(fV++List.replicate j (i+1)).length=fV.length+j:=by rw[List.length_append,List.length_replicate]
  generalize sS:fV++List.replicate j (i+1)=hs at oh Mi hlen gL;simp only[go_sem,seval,uU,t1,t5,t6,t36,t37,t41,t42,e1,gX,gL,x1,l1,au,cb,f1];refine b8 (du Mi (by decide) (by decide) (by omega) (by omega)) ?_
  have vT:=cT (h:=⟨h.next+1,h.t.set h.next (.row (aa 0 [.int .i64 (i+1)] T.e) 1 3)⟩) (e:=3) (v:=hv) (cs:=iL hs++[.int .i64 (i+1)]) (b:=L) (by show L<h.next+1;omega) (fun hh=>by have:=mP _ hh;omega);have fI:=cT (h:=⟨h.next+1,h.t.set h.next (.row (aa 0 [.int .i64 (i+1)] T.e) 1 3)⟩) (e:=3) (v:=hv) (cs:=iL hs++[.int .i64 (i+1)]) (b:=L+1) (by show L+1<h.next+1;omega) (fun hh=>by have:=mP _ hh;omega);have yd:=eV Mi (src:=[.int .i64 (i+1)]) (n:=1) (by decide) rfl;have sO:=yd.one;simp only[go_sem,seval,x1,l1,gL,gX,au,cb]at vT fI;simp only[go_sem,seval,vT,fI,xl,sO,iJ,f2,t1,t5,t36,t37,t6,t41,t42,x1,l1,gL,gX,au,cb];have ehs:fV++List.replicate (j+1) (i+1)=hs++[i+1]:=by rw[←sS,List.replicate_succ',List.append_assoc]
  refine⟨k,Nat.lt_succ_self k,⟨by simp[go_sem,t1],by simp[go_sem,t5],by simp[go_sem,t36],by simp[go_sem,t37]⟩,by simp[go_sem,t6],by simp[go_sem,t41],j+1,by omega,by simp[go_sem,e3],?_⟩;rw[ehs];refine⟨fun b hb=>?_,by simp[go_sem,xl,fI],by show L+2<=h.next+2;omega,mF ⟨h.next+1,h.t.set h.next (.row (aa 0 [.int .i64 (i+1)] T.e) 1 3)⟩ 1 (hs.length+1),by simp[go_sem,au,cb],?_,?_⟩
  ·have n1:¬b=h.next:=by omega
   have n2:¬b=L:=by omega
   have g1:=cT (h:=⟨h.next+1,h.t.set h.next (.row (aa 0 [.int .i64 (i+1)] T.e) 1 3)⟩) (e:=3) (v:=hv) (cs:=iL hs++[.int .i64 (i+1)]) (b:=b) (by show b<h.next+1;omega) (fun hh=>by have:=mP _ hh;omega);simp only[go_sem,seval,n1]at g1;simp only[go_sem,seval,n2,g1];exact old b hb
  ·have e4:iL hs++[.int .i64 (i+1)]=iL (hs++[i+1]):=by unfold iL;rw[List.map_append];rfl
   rw[e4]at yd;rw[List.length_append];refine yd.aF (by show h.next+1+1<=h.next+2;omega) fun b hb=>?_
   rw[ez]at hb;obtain rfl:=Option.some.inj hb;have n2:¬h.next+1=L:=by omega
   simp only[go_sem,seval,n2,e4]
  ·intro a ha;rw[ez]at ha;obtain rfl:=Option.some.inj ha
   show L+2<=h.next+1
   omega
def I16(g0:Nat->Option AO)(B L:Nat)(c:aj)(cv val:AV)(ts:List Int)(k:Nat)(tm:T AV)(h:H):Prop:=
 ∃i:Nat,i+k=6/\R0 B L ts i tm/\∃hs,hs++uX i (ts.drop i)=uX 0 ts/\LS g0 L c cv val hs h
theorem R3{g0:Nat->Option AO}{B L:Nat}{c:aj}{cv val:AV}{ts:List Int}(xU:aY cv=true)(Ql:aY val=true)(hts:ts.length=6)(eA:∀t∈ts,0<=t)(hn:(uX 0 ts).length<=1000)(k:Nat)(tm:T AV)(h:H)(hI:I16 g0 B L c cv val ts k tm h):
 WC P call uV (bM 0 (fun tm h=>∃j,j<k/\I16 g0 B L c cv val ts j tm h) (fun tm h=>tm.get 1=some (.ptr B 0)/\tm.get 5=some (.ptr (L+1) 0)/\LS g0 L c cv val (uX 0 ts) h) (fun _ _=>False)) tm h:=by
 obtain⟨i,Cu,⟨t1,t5,t36,t37⟩,hs,sS,ls⟩:=hI;cases k with
 |zero=>
  obtain rfl:i=6:=by omega
  simp only[go_sem,seval,uV,t37];rw[List.drop_eq_nil_of_le (by omega),show uX ((6:Nat):Int) []=[]from rfl,List.append_nil]at sS;rw[sS]at ls;exact⟨by simp[go_sem,t1],by simp[go_sem,t5],ls⟩
 |succ k=>
  have e1:(i:Int)<6:=by omega
  have hi:i<ts.length:=by omega
  have e6:(iL ts)[i]?=some (.int .i64 ts[i]):=by unfold iL;rw[List.getElem?_map,List.getElem?_eq_getElem hi];rfl
  have f1:fw .i64 ((i:Int)+1)=(i:Int)+1:=aS (by omega) (by omega);have e3:((i+1:Nat):Int)=(i:Int)+1:=rfl;have h0:=eA ts[i] (List.getElem_mem hi);obtain⟨n,xV⟩:∃n:Nat,ts[i]=(n:Int):=⟨ts[i].toNat,by omega⟩;have hd:uX i (ts.drop i)=List.replicate n ((i:Int)+1)++uX ((i+1:Nat):Int) (ts.drop (i+1)):=by
   rw[List.drop_eq_getElem_cons hi,uX,xV];rfl
  have hlen:hs.length+n<=1000:=by
   have:=congrArg List.length sS;rw[hd,List.length_append,List.length_append,List.length_replicate]at this;omega
  rw[xV]at e6;simp only[go_sem,seval,uV,t1,t5,t36,t37,e1,bo,Nat.mul_one,e6]
  trace_state
  refine aT (I14 g0 B L c cv val ts i hs n) _ _ (fun k tm h' hI=>R1 P xU Ql hlen (by omega) k tm h' hI) (fun dC h2 hR=>?_) (fun _ _ hh=>hh.elim) n _ _
   ⟨⟨by simp[go_sem,t1],by simp[go_sem,t5],by simp[go_sem,t36],by simp[go_sem,t37]⟩,by simp[go_sem],by simp[go_sem],0,by omega,by simp[go_sem],by rw[List.replicate_zero,List.append_nil];exact ls⟩
  obtain⟨⟨s1,s5,s36,s37⟩,ls2⟩:=hR;simp only[go_sem,seval,s1,s5,s36,s37,f1];refine⟨k,Nat.lt_succ_self k,i+1,by omega,⟨by simp[go_sem,s1],by simp[go_sem,s5],by simp[go_sem,s36],by simp[go_sem,e3]⟩,_,?_,ls2⟩;rw[List.append_assoc,←hd,sS]
end
end Go.Proofs.YtgkjlklfjbljeaaGreat.CQ
namespace Go.Proofs.YtgkjlklfjbljeaaGreat.CQ
open Go.Proofs.YtgkjlklfjbljeaaGreat.Eo
noncomputable section
structure sT(g0:Nat->Option AO)(L A:Nat)(c:aj)(cv:AV)(p:kG)(hv:AV)(hs:List Int)(tv val:AV)(gl:Nat)(fK:Int)(h:H):Prop where
 old:∀b,b<L->h.t.get b=g0 b
 x:h.t.get (L+1)=some (ag [.ptr L 0] 43)
 a:h.t.get A=some (ag [.int .i64 fK] 3)
 lA:L+1<A
 nx:A<h.next
 ex:∃gv Ee,h.t.get L=some (ag (au c cv++(cb p++[gv,hv,tv,val])) 109)/\Own 4 222 h gv gl Ee/\(∀a,own gv=some a->A<a)
 oh:Own 1 3 h hv hs.length (iL hs)
 mP:∀a,own hv=some a->L+2<=a/\a<A
section
variable {g0:Nat->Option AO} {L A:Nat} {c:aj} {cv:AV} {p:kG} {hv:AV} {hs:List Int} {tv val:AV} {gl:Nat} {fK:Int} {h h':H}
theorem sT.step(l:sT g0 L A c cv p hv hs tv val gl fK h)(s:ae h h'):sT g0 L A c cv p hv hs tv val gl fK h':=by
 have h1:=l.lA;have h2:=l.nx;obtain⟨gv,Ee,gL,og,ol⟩:=l.ex;exact⟨fun b hb=>(s.old b (by omega)).trans (l.old b hb),(s.old _ (by omega)).trans l.x,(s.old _ h2).trans l.a,h1,Nat.lt_of_lt_of_le h2 s.next,⟨gv,Ee,(s.old _ (by omega)).trans gL,og.aF s.next fun b hb=>s.old b (og.lt hb),ol⟩,l.oh.aF s.next fun b hb=>s.old b (l.oh.lt hb),l.mP⟩
theorem sT.mG(l:sT g0 L A c cv p hv hs tv val gl fK h){gv:AV}{Ee:List AV}(og:Own 4 222 h gv gl Ee)(ol:∀a,own gv=some a->A<a)(p':kG):sT g0 L A c cv p' hv hs tv val gl fK ⟨h.next,h.t.set L (ag (au c cv++(cb p'++[gv,hv,tv,val])) 109)⟩:=by
 have h1:=l.lA;have h2:=l.nx;have e1:¬L+1=L:=by omega
 have e2:¬A=L:=by omega
 refine⟨fun b hb=>?_,?_,?_,h1,h2,⟨gv,Ee,?_,og.aF (Nat.le_refl _) fun b hb=>?_,ol⟩,l.oh.aF (Nat.le_refl _) fun b hb=>?_,l.mP⟩
 ·have e3:¬b=L:=by omega
  simp only[go_sem,seval,e3];exact l.old b hb
 ·simp only[go_sem,seval,e1];exact l.x
 ·simp only[go_sem,seval,e2];exact l.a
 ·simp only[go_sem,seval]
 ·have:=ol b hb;have e3:¬b=L:=by omega
  simp only[go_sem,seval,e3]
 ·have:=l.mP b hb;have e3:¬b=L:=by omega
  simp only[go_sem,seval,e3]
theorem Ed.lay{gv:AV}{afZ:List AV}{at':Int}(l:sT g0 L A c cv p hv hs tv val gl fK h)(og0:Own 4 222 h gv gl afZ)(ol:∀a,own gv=some a->A<a)(pl:Ed L A at' gv gl c cv p hv tv val h h'):sT g0 L A c cv p hv hs tv val (gl+1) at' h':=by
 have h1:=l.lA;have h2:=l.nx;obtain⟨Xi,RZ,gL,og,og'⟩:=pl.gL;have no:∀b,b<A->own gv≠some b:=fun b hb hh=>by have:=ol b hh;omega
 refine⟨fun b hb=>(pl.old b (by omega) (by omega) (by omega) (no b (by omega))).trans (l.old b hb),(pl.old _ (by omega) (by omega) (by omega) (no _ (by omega))).trans l.x,pl.gA,h1,Nat.lt_of_lt_of_le h2 pl.next,⟨Xi,RZ,gL,og,fun a ha=>Nat.lt_of_lt_of_le h2 (og' a ha)⟩,l.oh.aF pl.next fun b hb=>?_,l.mP⟩;have:=l.mP b hb;exact pl.old b (l.oh.lt hb) (by omega) (by omega) (no b (by omega))
end
def R4(call:ab):Prop:=∀g0 L A c cv p hv hs tv val gl fK h (k m w:Int),sT g0 L A c cv p hv hs tv val gl fK h->gl<=100->0<=m/\m<=200->0<=w/\w<=200->0<=fK/\fK<=1000000->
 ∃v h',call 119 [.int .u8 k,.int .i64 m,.int .i64 w,.ptr A 0,.ptr (L+1) 0] h=some (v,h')/\(v=.int .i64 fK/\sT g0 L A c cv p hv hs tv val (gl+1) (fK+m*w) h'/\h.next<=h'.next)
theorem MT{P:Program}{call:ab}{cf:CF}{args:List AV}{h:H}{Q Q':AV->H->Prop}(hw:WF P call cf args h Q)(hk:∀v h',Q v h'->Q' v h'):WF P call cf args h Q':=by
 obtain⟨v,h',q,_,k⟩:=Ef hw hw;exact k Q' (hk _ _ q)
theorem Yo(P:Program){call:ab}{g0:Nat->Option AO}{L A:Nat}{c:aj}{cv:AV}{p:kG}{hv:AV}{hs:List Int}{tv val:AV}{gl:Nat}{fK:Int}{h:H}{k m w:Int}(l:sT g0 L A c cv p hv hs tv val gl fK h)(Xj:gl<=100)(hm:0<=m/\m<=200)(hw:0<=w/\w<=200)(ha:0<=fK/\fK<=1000000):
 WF P call RY [.int .u8 k,.int .i64 m,.int .i64 w,.ptr A 0,.ptr (L+1) 0] h fun v h'=>v=.int .i64 fK/\sT g0 L A c cv p hv hs tv val (gl+1) (fK+m*w) h'/\h.next<=h'.next:=by
 obtain⟨gv,Ee,gL,og,ol⟩:=l.ex;have h1:=l.lA;have h2:=l.nx;have no:∀b,b<=A->own gv≠some b:=fun b hb hh=>by have:=ol b hh;omega
 refine MT (afV P l.a l.x gL og Xj h2 (by omega) (by omega) (by omega) (by omega) (by omega) (no _ (by omega)) (no _ (by omega)) (no _ (by omega)) hm hw ha) fun v h' hh=>⟨hh.1,hh.2.lay l og ol,hh.2.next⟩
def eB:List Int->Int
 | []=>0
 |x::l=>(5+x)+eB l
theorem nJ:∀l:List Int,(∀x∈l,1<=x/\x<=6)->0<=eB l/\eB l<=11*(l.length:Int)
 | [],_=>⟨Int.le_refl _,by simp[eB]⟩
 |x::l,h=>by
  have h1:=nJ l fun y hy=>h y (List.mem_cons_of_mem _ hy)
  have h2:=h x (by simp);unfold eB;rw[List.length_cons];omega
theorem uY:∀(hs:List Int) (a:Int),(Cx a hs).length=hs.length
 | [],_=>rfl
 |x::l,a=>by rw[Cx,List.length_cons,List.length_cons,uY l]
structure LT(g0:Nat->Option AO)(L A:Nat)(c:aj)(cv:AV)(p:kG)(gv hv:AV)(hs:List Int)(val:AV)(ts:List Int)(fK:Int)(h:H):Prop where
 old:∀b,b<L->h.t.get b=g0 b
 x:h.t.get (L+1)=some (ag [.ptr L 0] 43)
 a:h.t.get A=some (ag [.int .i64 fK] 3)
 lA:L+1<A
 nx:A<h.next
 ex:∃tv,h.t.get L=some (ag (au c cv++(cb p++[gv,hv,tv,val])) 109)/\Own 1 3 h tv ts.length (iL ts)/\(∀a,own tv=some a->A<a)
 oh:Own 1 3 h hv hs.length (iL hs)
 mP:∀a,own hv=some a->L+2<=a/\a<A
def Yp(B L A:Nat)(hv:AV)(n:Nat)(tm:T AV):Prop:=tm.get 5=some (.ptr (L+1) 0)/\tm.get 8=some (.ptr A 0)/\tm.get 131=some hv/\tm.get 132=some (.int .i64 (n:Int))
def I34(g0:Nat->Option AO)(B L A:Nat)(c:aj)(cv:AV)(p:kG)(gv hv:AV)(hs:List Int)(val:AV)(Eg:Int)(k:Nat)(tm:T AV)(h:H):Prop:=
 Yp B L A hv hs.length tm/\∃i:Nat,i+k=hs.length/\tm.get 133=some (.int .i64 (i:Int))/\∃ts fK,ts.length=i/\ts++Cx fK (hs.drop i)=Cx (Eg-eB hs) hs/\0<=fK/\fK+eB (hs.drop i)=Eg/\LT g0 L A c cv p gv hv hs val ts fK h
theorem R6(P:Program){call:ab}{g0:Nat->Option AO}{B L A:Nat}{c:aj}{cv:AV}{p:kG}{gv hv:AV}{hs:List Int}{val:AV}{Eg:Int}(o1:aY cv=true)(o2:aY gv=true)(o3:aY val=true)(hb:∀x∈hs,1<=x/\x<=6)(hl:hs.length<=1000)(af1:Eg<=1000000)(k:Nat)(tm:T AV)(h:H)(hI:I34 g0 B L A c cv p gv hv hs val Eg k tm h):
 WC P call uW (bM 4 (fun tm h=>∃j,j<k/\I34 g0 B L A c cv p gv hv hs val Eg j tm h) (fun tm h=>Yp B L A hv hs.length tm/\∃ts,ts=Cx (Eg-eB hs) hs/\LT g0 L A c cv p gv hv hs val ts Eg h) (fun _ _=>False)) tm h:=by
 obtain⟨⟨t5,t8,t131,t132⟩,i,Cu,t133,ts,fK,hts,Cy,h0,B7,lt⟩:=hI;have f0:=lt;obtain⟨old,gX,gA,lA,nx,⟨tv,gL,ot,otl⟩,oh,mP⟩:=lt;cases k with
 |zero=>
  have e1:¬(i:Int)<(hs.length:Int):=by omega
  simp only[go_sem,seval,uW,t132,t133,e1];rw[List.drop_eq_nil_of_le (by omega),eB,Int.add_zero]at B7;subst B7;rw[List.drop_eq_nil_of_le (by omega),Cx,List.append_nil]at Cy;exact⟨⟨by simp[go_sem,t5],by simp[go_sem,t8],by simp[go_sem,t131],by simp[go_sem,t132]⟩,_,Cy,f0⟩
 |succ k=>
  have e1:(i:Int)<(hs.length:Int):=by omega
  have hi:i<hs.length:=by omega
  obtain⟨x,hx⟩:∃x,hs[i]?=some x:=⟨_,List.getElem?_eq_getElem hi⟩;have hxm:=hb x (List.mem_of_getElem? hx);have B8:hs.drop i=x::hs.drop (i+1):=by
   rw[List.drop_eq_getElem_cons hi];rw[List.getElem?_eq_getElem hi]at hx;rw[Option.some.inj hx]
  rw[B8,eB]at B7;rw[B8,Cx]at Cy;have Cz:=nJ (hs.drop (i+1)) fun y hy=>hb y (List.mem_of_mem_drop hy)
  have f1:fw .i64 (5+x)=5+x:=aS (by omega) (by omega);have f2:fw .i64 (fK+(5+x))=fK+(5+x):=aS (by omega) (by omega);have f3:fw .i64 ((i:Int)+1)=(i:Int)+1:=aS (by omega) (by omega);have e3:((i+1:Nat):Int)=(i:Int)+1:=rfl;have iq:(iL hs)[i]?=some (.int .i64 x):=by unfold iL;rw[List.getElem?_map,hx];rfl
  have oh0:=oh;generalize hn:hs.length=n at*;generalize uD:iL hs=cs at*;cases oh with
  |nil=>omega
  |sl a len cs cap hcp hp iT df hg=>
   have ov:=ot.one;have a1:¬A=h.next:=by omega
   have x1:¬L+1=h.next:=by omega
   have l1:¬L=h.next:=by omega
   have xA:¬L+1=A:=by omega
   have xL:¬L+1=L:=by omega
   have AL:¬A=L:=by omega
   have LA:¬L=A:=by omega
   have MU:=mP a rfl;have cr:=ae.new h (.row (aa 0 [.int .i64 fK] T.e) 1 3);have ot1:Own 1 3 ⟨h.next+1,h.t.set h.next (.row (aa 0 [.int .i64 fK] T.e) 1 3)⟩ tv _ _:=ot.aF cr.next fun b hb=>cr.old b (ot.lt hb)
   simp only[go_sem,seval,uW,t5,t8,t131,t132,t133,e1,gX,gL,gA,x1,l1,a1,au,cb,hg,Nat.mul_one,iq];refine b8 (du ot1 (by decide) (by decide) (by omega) (by omega)) ?_
   have gg:=fun b hb hh=>cT (h:=⟨h.next+1,h.t.set h.next (.row (aa 0 [.int .i64 fK] T.e) 1 3)⟩) (e:=3) (v:=tv) (cs:=iL ts++[.int .i64 fK]) (b:=b) hb hh
   have no:∀b,b<=A->own tv≠some b:=fun b hb hh=>by have:=otl b hh;omega
   have vT:=gg L (by show L<h.next+1;omega) (no _ (by omega));have fI:=gg (L+1) (by show L+1<h.next+1;omega) (no _ (by omega));have Ia:=gg A (by show A<h.next+1;omega) (no _ (by omega));have yd:=eV ot1 (src:=[.int .i64 fK]) (n:=1) (by decide) rfl;have sO:=yd.one;simp only[go_sem,seval,x1,l1,a1,gL,gX,gA,au,cb]at vT fI Ia;simp only[go_sem,seval,vT,fI,Ia,sO,iJ,f1,f2,f3,x1,l1,a1,xA,xL,AL,LA,gL,gX,gA,au,cb,t5,t8,t131,t132,t133];refine⟨k,Nat.lt_succ_self k,⟨by simp[go_sem,t5],by simp[go_sem,t8],by simp[go_sem,t131],by simp[go_sem,t132,hn]⟩,i+1,by omega,by simp[go_sem,e3],ts++[fK],fK+(5+x),by rw[List.length_append,hts];rfl,by rw[List.append_assoc];exact Cy,by omega,by omega,?_⟩;have IF:own (mF ⟨h.next+1,h.t.set h.next (.row (aa 0 [.int .i64 fK] T.e) 1 3)⟩ 1 (ts.length+1))=some (h.next+1):=rfl;refine⟨fun b hb=>?_,by simp[go_sem,xA,xL,fI],by simp[go_sem],lA,by show A<h.next+2;omega,⟨mF ⟨h.next+1,h.t.set h.next (.row (aa 0 [.int .i64 fK] T.e) 1 3)⟩ 1 (ts.length+1),by simp[go_sem,LA,au,cb],?_,?_⟩,?_,?_⟩
   ·have n1:¬b=h.next:=by omega
    have n2:¬b=L:=by omega
    have n3:¬b=A:=by omega
    have g1:=gg b (by show b<h.next+1;omega) (no _ (by omega));simp only[go_sem,seval,n1]at g1;simp only[go_sem,seval,n2,n3,g1];exact old b hb
   ·have e4:iL ts++[.int .i64 fK]=iL (ts++[fK]):=by unfold iL;rw[List.map_append];rfl
    rw[e4]at yd;rw[List.length_append];refine yd.aF (by show h.next+1+1<=h.next+2;omega) fun b hb=>?_
    rw[ez]at hb;obtain rfl:=Option.some.inj hb;have n2:¬h.next+1=L:=by omega
    have n3:¬h.next+1=A:=by omega
    simp only[go_sem,seval,n2,n3,e4]
   ·intro b hb;rw[ez]at hb;obtain rfl:=Option.some.inj hb
    show A<h.next+1
    omega
   ·rw[uD,hn];refine oh0.aF (by show h.next<=h.next+2;omega) fun b hb=>?_
    obtain rfl:=Option.some.inj hb;have n1:¬a=h.next:=by omega
    have n2:¬a=L:=by omega
    have n3:¬a=A:=by omega
    have g1:=gg a (by show a<h.next+1;omega) (no _ (by omega));simp only[go_sem,seval,n1]at g1;simp only[go_sem,seval,n2,n3,g1]
   ·exact mP
end
end Go.Proofs.YtgkjlklfjbljeaaGreat.CQ
namespace Go.Proofs.YtgkjlklfjbljeaaGreat.CQ
open Go.Proofs.YtgkjlklfjbljeaaGreat.Eo
noncomputable section
variable(P:Program)[PT P]{call:ab}
def oT(c:aj):List Int:=[c.t0,c.t1,c.t2,c.t3,c.t4,c.t5]
def aH(c:aj):List Int:=uX 0 (oT c)
def MY(c:aj):Int:=c.aq+bD c+1+c.bY*3+c.bY
def aA(c:aj):kG:=⟨0,c.aq,c.aq+bD c,c.aq+bD c+1,c.aq+bD c+1+c.bY*3,MY c,MY c+6,MY c+6+((aH c).length:Int),MY c+6+((aH c).length:Int)+db c.kind c.n c.aI*7,MY c+6+((aH c).length:Int)+db c.kind c.n c.aI*7+eB (aH c)⟩
structure ye(c:aj)(p:kG):Prop where
 ow:p.ow=0
 en:p.en=c.aq
 Yq:p.en+bD c<=p.wo
 po:c.aq<=p.po/\p.po+6<=p.wo
 li:c.aq<=p.li/\p.li+((aH c).length:Int)<=p.wo
 wo:p.wo<=5000
 eq:p=aA c
theorem Ay:∀(ts:List Int) (i:Int) (x:Int),x∈uX i ts->i+1<=x/\x<=i+(ts.length:Int)
 | [],i,x,h=>by simp[uX]at h
 |t::l,i,x,h=>by
  unfold uX at h;rw[List.length_cons];rcases List.mem_append.1 h with h|h
  ·have:=(List.mem_replicate.1 h).2;omega
  ·have:=Ay l (i+1) x h;omega
theorem dh{c:aj}:∀x∈aH c,1<=x/\x<=6:=fun x hx=>by
 have h1:=Ay _ _ x hx;have h2:(oT c).length=6:=rfl;rw[h2]at h1;omega
theorem vU:∀(l:List Int) (a:Int),bZ a l->∀t∈l,0<=t
 | [],_,_,t,h=>by simp at h
 |x::l,a,hb,t,h=>by
  rcases List.mem_cons.1 h with rfl|h
  ·exact hb.1.1
  ·exact vU l _ hb.2 t h
theorem Az{k n:Int}{l:List Int}(h:cJ k n l):1<=db k n l/\db k n l<=64:=by
 unfold db;rcases h with⟨rfl,_⟩|⟨rfl,h,_⟩|⟨rfl,_,h1,h2,_⟩
 ·rw[if_neg (by decide),if_neg (by decide)];decide
 ·exact h
 ·rw[if_neg (by decide),if_pos rfl];omega
structure Qm(c:aj)(h:H)(v:AV)(h':H):Prop where
 ex:∃L p,v=.aE [.ptr L 0,.int .i64 0]/\h.next<=L/\ye c p/\eU h' L c p (aH c)
 st:ae h h'
def R7(call:ab):Prop:=∀h c v,cm none 1 h v (uL c.aI)->(∀a,own v=some a->a<h.next)->∃v' h',call 118 [.agg (au c v)] h=some (v',h')/\dg (fU c) h v' h'
def F92(call:ab):Prop:=∀h v (l:List Int),cm none 1 h v (uL l)->(∀a,own v=some a->a<h.next)->l.length<=1000->∃v' h',call 92 [v] h=some (v',h')/\oQ l h v' h'
def F47(call:ab):Prop:=∀h k n v (l:List Int),cJ k n l->cm none 1 h v (uL l)->(∀a,own v=some a->a<h.next)->∃v' h',call 47 [.agg [.int .u8 k,.int .i64 n,v]] h=some (v',h')/\(v'=.aE [.int .i64 (db k n l),.int .i64 0]/\ae h h')
def R8(call:ab):Prop:=∀h c v,fU c->aY v=true->∃v' h',call 120 [.agg (au c v)] h=some (v',h')/\(v'=.int .i64 (bD c)/\ae h h')
set_option maxHeartbeats 1000000 in
theorem w55(h58:R7 call)(h59:F92 call)(h60:F47 call)(h62:R8 call)(Qn:R4 call)
 {h:H} {c:aj} {v:AV} (hv:cm none 1 h v (uL c.aI)) (dE:∀a,own v=some a->a<h.next) (hc:fU c) (hn:(aH c).length<=60):WF P call c55 [.agg (au c v)] h (Qm c h):=by
 have Cv:=hc;obtain⟨hT,Ib,mL,IG,IH,iD,oU,hd,Eh,MZ,II⟩:=hc;have hvN:=Az hd;have heN:=tR Cv;have iT:c.aI.length<=1000:=by
  rcases hd with⟨_,_,h1⟩|⟨_,_,h1⟩|⟨_,_,_,h1,_⟩
  ·rw[h1];decide
  ·rw[h1];decide
  ·omega
 have ov:=hv.one;have cr:=ae.new h (.row (aa 0 (au c v) T.e) 16 27);simp only[go_sem,seval,ov,au];refine af (h58 _ c v (hv.aF fun b hb=>cr.old b (dE b hb)) fun a ha=>Nat.lt_succ_of_lt (dE a ha)) fun v1 h1 p1=>?_
 obtain⟨e,rfl,he,bC⟩:=p1;obtain rfl:=he.2 Cv;have g1:=bC.old h.next (Nat.lt_succ_self _);simp only[go_sem,seval,au]at g1;have fC:=cr.trans bC;have eW:h.next<h1.next:=bC.next;simp only[go_sem,seval,g1,ov];refine af (h59 _ v c.aI (hv.aF fun b hb=>fC.old b (dE b hb)) (fun a ha=>Nat.lt_trans (dE a ha) eW) iT) fun cv h2 p2=>?_
 have yF:=p2.rd.one;have g2:=(p2.st.old _ eW).trans g1;have pF:=p2.st.next;have Ei:=fC.trans p2.st;have hB:h.next<h2.next:=by omega
 obtain⟨B,hBe⟩:∃B,B=h.next:=⟨_,rfl⟩;obtain⟨L,R9⟩:∃L,L=h2.next:=⟨_,rfl⟩;rw[←hBe]at g2 hB;rw[←hBe];have D0:B<L:=by omega
 have e1:¬B=h2.next:=by omega
 have e2:¬B=h2.next+1:=by omega
 have e3:¬h2.next=h2.next+1:=by omega
 have e4:¬h2.next+1=h2.next:=by omega
 have e5:¬h2.next=B:=by omega
 have e6:¬h2.next+1=B:=by omega
 have rd2:∀h':H,(∀b,b<h2.next->b≠B->h'.t.get b=h2.t.get b)->cm none 1 h' cv (uL c.aI):=fun h' hh=>p2.rd.aF fun b hb=>hh b (p2.lo b hb).2 (by have:=(p2.lo b hb).1;omega)
 simp only[go_sem,seval,g2,yF,e1,e2,e3,e4];refine af (h60 _ c.kind c.n cv c.aI hd (rd2 _ fun b hb hn=>?_) (fun a ha=>by have:=(p2.lo a ha).2;show a<h2.next+2;omega)) fun v3 h3 p3=>?_
 ·have n1:¬b=h2.next:=by omega
  have n2:¬b=h2.next+1:=by omega
  simp only[go_sem,seval,n1,n2,hn]
 obtain⟨rfl,fW⟩:=p3;have Mj:L+2<=h3.next:=by have:=fW.next;rw[R9];exact this
 have Xk:=fW.old L (by rw[R9];show h2.next<h2.next+2;omega);have D2:=fW.old (L+1) (by rw[R9];show h2.next+1<h2.next+2;omega);have GU:=fW.old B (by show B<h2.next+2;omega);have IJ:∀b,b<L->b≠B->h3.t.get b=h2.t.get b:=fun b hb hn=>by
  have n1:¬b=h2.next:=by omega
  have n2:¬b=h2.next+1:=by omega
  have:=fW.old b (by show b<h2.next+2;omega);simp only[go_sem,seval,n1,n2,hn]at this;exact this
 simp only[go_sem,seval,R9,e1,e2,e3,e4,e5,e6]at Xk D2 GU;simp only[←R9]at Xk D2 GU⊢;have l2:¬L=B:=by omega
 have x2:¬L+1=B:=by omega
 have lL:¬L=L+1:=by omega
 have xL:¬L+1=L:=by omega
 have bL:¬B=L:=by omega
 have bX:¬B=L+1:=by omega
 simp only[go_sem,seval,Xk,D2,GU,lL,xL,bL,bX,l2,x2,yF,Mj];have Mk:h3.t.get B=some (ag (au c cv) 27):=by rw[GU];rfl
 obtain⟨VAL,Sa⟩:∃x,x=AV.int .i64 (db c.kind c.n c.aI):=⟨_,rfl⟩;have AD:aY VAL=true:=by rw[Sa];rfl
 rw[←Sa];refine aT (I16 h3.t.get B L c cv VAL (oT c)) _ _ (fun k tm h' hI=>R3 P yF AD rfl (vU _ _ hT) (Nat.le_trans hn (by decide)) k tm h' hI) (fun tm4 h4 hR=>?_) (fun _ _ hh=>hh.elim) 6 _ _
  ⟨0,rfl,⟨by simp[go_sem,R9],by simp[go_sem,R9],by simp[go_sem,iL,oT],by simp[go_sem]⟩,[],rfl,⟨fun b hb=>?_,by simp only[go_sem,seval,xL];exact D2,by show L+2<=h3.next;omega,.ax,by simp[go_sem,au,cb,Fl],.nil,fun a ha=>by cases ha⟩⟩
 ·obtain⟨t1,t5,ls⟩:=hR;replace ls:LS h3.t.get L c cv VAL (aH c) h4:=ls;subst Sa;obtain⟨hs,sS⟩:∃l,l=aH c:=⟨_,rfl⟩;have vV:∀x∈hs,1<=x/\x<=6:=by rw[sS];exact dh
  rw[←sS]at ls hn;have af5:=nJ hs vV;obtain⟨M4,gX4,Qo,Ic,gL4,M5,Sc⟩:=ls;obtain⟨A,hA⟩:∃A,A=h4.next:=⟨_,rfl⟩;have M6:=M5.bR;have yf:=M5.one;have aX:¬L+1=A:=by omega
  have aL:¬L=A:=by omega
  have aB:¬B=A:=by omega
  have Ax:¬A=L+1:=by omega
  have Al:¬A=L:=by omega
  have AE:=(M4 B D0).trans Mk;have yG:=ae.new h4 (.row (aa 0 [.int .i64 0] T.e) 1 3);rw[←hA]at yG;have l0:sT h3.t.get L A c cv Fl Ic hs .ax (.int .i64 (db c.kind c.n c.aI)) 0 0 ⟨A+1,h4.t.set A (.row (aa 0 [.int .i64 0] T.e) 1 3)⟩:=
   ⟨fun b hb=>(yG.old b (by rw[←hA];omega)).trans (M4 b hb),(yG.old _ (by omega)).trans gX4,by simp[go_sem],by omega,Nat.lt_succ_self _,⟨.ax,[],(yG.old _ (by omega)).trans gL4,.nil,fun a ha=>by cases ha⟩,M5.aF (by show h4.next<=A+1;omega) fun b hb=>yG.old b (M5.lt hb),fun a ha=>⟨Sc a ha,by rw[hA];exact M5.lt ha⟩⟩
  simp only[Fl]at l0;simp only[go_sem,seval,t1,t5,gX4,gL4,AE,au,cb,←hA,aX,aL,aB];refine af (Qn h3.t.get L A c cv _ Ic hs .ax (.int .i64 (db c.kind c.n c.aI)) 0 0 _ 1 c.aq 1 l0 (by decide) (by omega) (by omega) (by omega)) fun v1 k1 q1=>?_
  obtain⟨rfl,r1,M7⟩:=q1;replace M7:A+1<=k1.next:=M7;obtain⟨a1,ha1⟩:∃a,a=0+c.aq*1:=⟨_,rfl⟩;rw[←ha1]at r1;obtain⟨gv1,atZ,IK,Ym,ol1⟩:=r1.ex;have Sd:=r1.x;have Yr:=r1.a;have IL:=(r1.old B D0).trans Mk;have af9:=Ym.one;simp only[go_sem,seval,t1,t5,M7,Sd,IK,IL,Yr,af9,AD,yf,gX4,gL4,AE,aX,aL,aB,xL,bL,yF,Al,M6,au,cb];have l1:=r1.mG Ym ol1 ⟨0,0,0,0,0,0,0,0,0,0⟩;refine af (h62 _ c cv Cv yF) fun ve hE qE=>?_
  obtain⟨rfl,stE⟩:=qE;have lE:=l1.step stE;obtain⟨gvE,at2,gLE,ogE,olE⟩:=lE.ex;have gXE:=lE.x;have gBE:=(lE.old B D0).trans Mk;have nxE:k1.next<=hE.next:=stE.next;simp only[go_sem,seval,t1,t5,nxE,gXE,gLE,gBE,Sd,IK,IL,xL,bL,au,cb];refine af (Qn h3.t.get L A c cv _ Ic hs .ax (.int .i64 (db c.kind c.n c.aI)) 1 a1 _ 2 1 (bD c) lE (by decide) (by omega) (by omega) (by omega)) fun v2 k2 q2=>?_
  obtain⟨rfl,r2,M8⟩:=q2;replace M8:hE.next<=k2.next:=M8;obtain⟨a2,ha2⟩:∃a,a=a1+1*(bD c):=⟨_,rfl⟩;rw[←ha2]at r2;obtain⟨gv2,at4,M9,og2,ol2⟩:=r2.ex;have Ys:=r2.x;have Yt:=r2.a;have Na:=(r2.old B D0).trans Mk;have agc:=og2.one;simp only[go_sem,seval,t1,t5,M8,Ys,M9,Na,Yt,agc,AD,yf,gXE,gLE,gBE,Sd,IK,IL,Yr,xL,bL,yF,Al,M6,au,cb];have l2:=r2.mG og2 ol2 ⟨0,a1,0,0,0,0,0,0,0,0⟩;refine af (Qn h3.t.get L A c cv _ Ic hs .ax (.int .i64 (db c.kind c.n c.aI)) 2 a2 _ 3 1 1 l2 (by decide) (by omega) (by omega) (by omega)) fun v3 k3 q3=>?_
  obtain⟨rfl,r3,Nb⟩:=q3;replace Nb:k2.next<=k3.next:=Nb;obtain⟨a3,ha3⟩:∃a,a=a2+1*1:=⟨_,rfl⟩;rw[←ha3]at r3;obtain⟨gv3,at6,Nc,og3,ol3⟩:=r3.ex;have Yu:=r3.x;have Yv:=r3.a;have Nf:=(r3.old B D0).trans Mk;have age:=og3.one;simp only[go_sem,seval,t1,t5,Nb,Yu,Nc,Nf,Yv,age,AD,yf,Ys,M9,Na,Yt,xL,bL,yF,Al,M6,au,cb];have l3:=r3.mG og3 ol3 ⟨0,a1,a2,0,0,0,0,0,0,0⟩;refine af (Qn h3.t.get L A c cv _ Ic hs .ax (.int .i64 (db c.kind c.n c.aI)) 3 a3 _ 4 c.bY 3 l3 (by decide) (by omega) (by omega) (by omega)) fun v4 k4 q4=>?_
  obtain⟨rfl,r4,Ng⟩:=q4;replace Ng:k3.next<=k4.next:=Ng;obtain⟨a4,Se⟩:∃a,a=a3+c.bY*3:=⟨_,rfl⟩;rw[←Se]at r4;obtain⟨gv4,at8,Nh,og4,ol4⟩:=r4.ex;have Yw:=r4.x;have Yx:=r4.a;have Ni:=(r4.old B D0).trans Mk;have agf:=og4.one;simp only[go_sem,seval,t1,t5,Ng,Yw,Nh,Ni,Yx,agf,AD,yf,Yu,Nc,Nf,Yv,xL,bL,yF,Al,M6,au,cb];have l4:=r4.mG og4 ol4 ⟨0,a1,a2,a3,0,0,0,0,0,0⟩;refine af (Qn h3.t.get L A c cv _ Ic hs .ax (.int .i64 (db c.kind c.n c.aI)) 4 a4 _ 5 c.bY 1 l4 (by decide) (by omega) (by omega) (by omega)) fun v5 k5 q5=>?_
  obtain⟨rfl,r5,Nj⟩:=q5;replace Nj:k4.next<=k5.next:=Nj;obtain⟨a5,ha5⟩:∃a,a=a4+c.bY*1:=⟨_,rfl⟩;rw[←ha5]at r5;obtain⟨gv5,aua,Nk,og5,ol5⟩:=r5.ex;have Yy:=r5.x;have Yz:=r5.a;have Nl:=(r5.old B D0).trans Mk;have agi:=og5.one;simp only[go_sem,seval,t1,t5,Nj,Yy,Nk,Nl,Yz,agi,AD,yf,Yw,Nh,Ni,Yx,xL,bL,yF,Al,M6,au,cb];have l5:=r5.mG og5 ol5 ⟨0,a1,a2,a3,a4,0,0,0,0,0⟩;refine af (Qn h3.t.get L A c cv _ Ic hs .ax (.int .i64 (db c.kind c.n c.aI)) 5 a5 _ 6 6 1 l5 (by decide) (by omega) (by omega) (by omega)) fun v6 k6 q6=>?_
  obtain⟨rfl,r6,Nn⟩:=q6;replace Nn:k5.next<=k6.next:=Nn;obtain⟨a6,ha6⟩:∃a,a=a5+6*1:=⟨_,rfl⟩;rw[←ha6]at r6;obtain⟨gv6,auc,Np,og6,ol6⟩:=r6.ex;have YA:=r6.x;have YB:=r6.a;have Nq:=(r6.old B D0).trans Mk;have agk:=og6.one;simp only[go_sem,seval,t1,t5,Nn,YA,Np,Nq,YB,agk,AD,yf,Yy,Nk,Nl,Yz,xL,bL,yF,Al,M6,au,cb];have l6:=r6.mG og6 ol6 ⟨0,a1,a2,a3,a4,a5,0,0,0,0⟩;refine af (Qn h3.t.get L A c cv _ Ic hs .ax (.int .i64 (db c.kind c.n c.aI)) 6 a6 _ 7 (hs.length:Int) 1 l6 (by decide) (by omega) (by omega) (by omega)) fun v7 k7 q7=>?_
  obtain⟨rfl,r7,Nr⟩:=q7;replace Nr:k6.next<=k7.next:=Nr;obtain⟨a7,ha7⟩:∃a,a=a6+(hs.length:Int)*1:=⟨_,rfl⟩;rw[←ha7]at r7;obtain⟨gv7,aue,Ns,og7,ol7⟩:=r7.ex;have YC:=r7.x;have YD:=r7.a;have Nt:=(r7.old B D0).trans Mk;have agm:=og7.one;simp only[go_sem,seval,t1,t5,Nr,YC,Ns,Nt,YD,agm,AD,yf,YA,Np,Nq,YB,xL,bL,yF,Al,M6,au,cb];have l7:=r7.mG og7 ol7 ⟨0,a1,a2,a3,a4,a5,a6,0,0,0⟩;refine af (Qn h3.t.get L A c cv _ Ic hs .ax (.int .i64 (db c.kind c.n c.aI)) 7 a7 _ 8 (db c.kind c.n c.aI) 7 l7 (by decide) (by omega) (by omega) (by omega)) fun v8 k8 q8=>?_
  obtain⟨rfl,r8,Nu⟩:=q8;replace Nu:k7.next<=k8.next:=Nu;obtain⟨a8,ha8⟩:∃a,a=a7+(db c.kind c.n c.aI)*7:=⟨_,rfl⟩;rw[←ha8]at r8;obtain⟨gv8,aug,Sf,og8,ol8⟩:=r8.ex;have ago:=r8.x;have agp:=r8.a;have Sg:=(r8.old B D0).trans Mk;have Sh:=og8.one;simp only[go_sem,seval,t1,t5,Nu,ago,Sf,Sg,agp,Sh,AD,yf,YC,Ns,Nt,YD,xL,bL,yF,Al,M6,au,cb];have l9:=r8.mG og8 ol8 ⟨0,a1,a2,a3,a4,a5,a6,a7,a8,0⟩;refine aT (I34 h3.t.get B L A c cv ⟨0,a1,a2,a3,a4,a5,a6,a7,a8,0⟩ gv8 Ic hs (.int .i64 (db c.kind c.n c.aI)) (a8+eB hs)) _ _ (fun k tm h' hI=>R6 P yF Sh rfl vV (by omega) (by omega) k tm h' hI) (fun tm5 h5 hR5=>?_) (fun _ _ hh=>hh.elim) hs.length _ _
   ⟨⟨by simp[go_sem,t5],by simp[go_sem],by simp[go_sem],by simp[go_sem]⟩,0,by omega,by simp[go_sem],[],a8,rfl,by rw[List.drop_zero,List.nil_append];congr 1;omega,by omega,rfl,⟨l9.old,l9.x,l9.a,l9.lA,l9.nx,⟨.ax,by simp[go_sem,au,cb],.nil,fun a ha=>by cases ha⟩,l9.oh,l9.mP⟩⟩
  obtain⟨⟨s5,s8,-,-⟩,ts5,Si,Qp⟩:=hR5;obtain⟨tv5,gL5,ot5,ags⟩:=Qp.ex;have gX5:=Qp.x;have gA5:=Qp.a;have otv:=ot5.one;have nx5:=Qp.nx;simp only[go_sem,seval,s5,s8,gX5,gA5,gL5,xL,au,cb];have YE:∀b,b<L->h5.t.get b=h3.t.get b:=Qp.old;have auo:c.az=3->c.buckets<=16:=fun e=>(iD e).2
  refine⟨⟨L,⟨0,a1,a2,a3,a4,a5,a6,a7,a8,a8+eB hs⟩,rfl,by omega,⟨rfl,by show a1=c.aq;omega,?_,?_,?_,?_,?_⟩,⟨⟨cv,gv8,Ic,tv5,db c.kind c.n c.aI,by simp[go_sem,au,cb],?_,?_,?_,?_,Sh,otv,rfl,?_,?_⟩,?_⟩⟩,⟨?_,fun b hb=>?_⟩⟩
  ·show a1+bD c<=a8+eB hs
   omega
  ·show c.aq<=a5/\a5+6<=a8+eB hs
   omega
  ·rw[←sS]
   show c.aq<=a6/\a6+(hs.length:Int)<=a8+eB hs
   omega
  ·show a8+eB hs<=5000
   omega
  ·unfold aA MY;rw[kG.mk.injEq,←sS];exact⟨rfl,by omega,by omega,by omega,by omega,by omega,by omega,by omega,by omega,by omega⟩
  ·refine rd2 _ fun b hb hn=>?_
   have n1:¬b=L:=by omega
   simp only[go_sem,seval,n1];exact(YE b (by omega)).trans (IJ b (by omega) hn)
  ·intro a ha;have:=(p2.lo a ha).2
   show a<h5.next
   omega
  ·rw[←sS];refine Own.GS (e:=3) (len:=hs.length) (Qp.oh.aF (Nat.le_refl _) fun b hb=>?_) (by omega);have:=Qp.mP b hb;have n1:¬b=L:=by omega
   simp only[go_sem,seval,n1]
  ·intro a ha;have:=Qp.mP a ha
   show a<h5.next
   omega
  ·have e9:a8+eB hs-eB hs=a8:=by omega
   rw[e9]at Si
   show cm none 1 _ tv5 (iL (Cx a8 (aH c)))
   rw[←sS,←Si];refine Own.GS (e:=3) (len:=ts5.length) (ot5.aF (Nat.le_refl _) fun b hb=>?_) (by have:=congrArg List.length Si;rw[uY]at this;omega);have:=ags b hb;have n1:¬b=L:=by omega
   simp only[go_sem,seval,n1]
  ·exact fun a ha=>ot5.lt ha
  ·show L<h5.next
   omega
  ·show h.next<=h5.next
   omega
  ·have n1:¬b=L:=by omega
   simp only[go_sem,seval,n1];exact((YE b (by omega)).trans (IJ b (by omega) (by omega))).trans (Ei.old b hb)
 ·have n1:¬b=L:=by omega
  simp only[go_sem,seval,n1]
def nK:CC:=(Sq [qc 20 3 19 18] (Qq (Cq 20 .skip (.exit 0)) (Qq (.block 1 (Sq [a 21 19,G 22 1 17 19,i 23 22,a 4 21,a 5 23] (Sq [a 24 4,qW 25 3 24 0,a 26 25,K 27 26 0,zd 28 26 27,qi 29 26 27 28,qh 30 26 29,K 31 26 4,js 32 26 3 31 1,⟨some 33,some (26,true),.p (.mj 1 (.t 30) (.t 32))⟩,qh 34 26 33,K 35 26 5,ze 36 26 3 34 35,O 37 26 36] (Cq 37 (Oq [a 38 3,a 39 0,j 40 39,d 41 16 40,d 42 6 41,i 43 42,a 44 4,qg 45 3 43 44,ql 46 3 45 1,a 47 4,C 48 3 47 1,qQ 49 48,G 50 1 38 46,s 1 50 49]) (.cn ⟨[([g 0 3,g 1 0,n 2 53 1,m 3 54 2 16,m 4 55 3 5,k 5 56 4,g 6 5,qB 7 57 5 58 6 3,qI 8 59 7 3 1,g 9 4,qR 10 61 9 3 1],some ⟨11,[(62,some 10)],none,.cv (.c (.fn (.func 123) [] [])) [.c (.int .u64 0),.t 62]⟩),([t 12 63 11,B 13 51 12 0,B 14 51 12 1,Y 15 52 0 60 8 1],some (V 16 66 15 64 13 1)),([],none)],[(0,52),(1,53),(2,54),(3,55),(4,56),(5,57),(6,58),(7,59),(8,60),(9,61),(10,62),(11,63),(12,51),(13,64),(14,65),(15,66)],[(⟨5,[(56,(some 4))],none,.r (.ld none (.t 56))⟩,[1])]⟩))))) (Oq [C 67 3 19 1,a 19 67]))))
@[go_sem]def c57:CF:=⟨1,(Sq [U 2] (Qq (Sq [a 6 0,y 7 43 6] (Kq 7 [U 2] .skip)) (Sq [a 8 0,j 9 8,d 10 16 9,d 11 9 10,i 12 11,zr 13 50 1 8 0 12,a 3 13] (Qq (Sq [a 14 0,j 15 14,d 16 27 15,i 17 16,N 18 17,b 19 0] (.block 0 (.loop nK))) (Rq [a 68 3,a 2 68]))))),[.tmp 2]⟩
def Nv(call:ab):Prop:=∀h (t:Int),0<=t->t<=1024->call 123 [.int .u64 0,.int .i64 t] h=some (.aE [.int .u64 t,.int .i64 0],h)
structure Zero(W:Nat)(s:Int)(ws:List Int):Prop where
 len:ws.length=W
 zero:∀i:Nat,(i:Int)<s->ws[i]?=some 0
theorem Zero.set{W:Nat}{s:Int}{ws:List Int}(z:Zero W s ws){j:Nat}(hj:s<=(j:Int))(x:Int):Zero W s (ws.set j x):=⟨by rw[List.length_set];exact z.len,fun i hi=>by
 rw[List.getElem?_set,if_neg (by omega)];exact z.zero i hi⟩
def vW(po li:Int)(hs:List Int)(i:Nat)(ws:List Int):List Int:=match hs[i]? with
 |none=>ws
 |some x=>if 0<i/\hs[i-1]?=some x then ws.set (li+(i:Int) -1).toNat ((i:Int)+1)else ws.set (po+x-1).toNat ((i:Int)+1)
def AF(po li:Int)(hs:List Int)(W:Nat):Nat->List Int
 |0=>List.replicate W 0
 |i+1=>vW po li hs i (AF po li hs W i)
def I22(h0:H)(L:Nat)(hv:AV)(W n:Nat)(s:Int)(po li:Int)(hs:List Int)(k:Nat)(tm:T AV)(h:H):Prop:=
 tm.get 0=some (.ptr L 0)/\tm.get 3=some (.sl h0.next 0 W 1 (some W))/\tm.get 17=some hv/\tm.get 18=some (.int .i64 (n:Int))/\h.next=h0.next+1/\(∀b,b<h0.next->h.t.get b=h0.t.get b)/\
    ∃(i:Nat) (ws:List Int),i+k=n/\tm.get 19=some (.int .i64 (i:Int))/\h.t.get h0.next=some (.row (aa 0 (uL ws) T.e) W 50)/\Zero W s ws/\ws=AF po li hs W i
theorem AG(ws:List Int)(j:Nat)(x:Int):(uL ws).set j (.int .u64 x)=uL (ws.set j x):=by unfold uL;rw[List.map_set]
theorem fm(ws:List Int):(uL ws).length=ws.length:=List.length_map _
theorem Sj(P:Program){call:ab}(h65:Nv call){h0:H}{L:Nat}{c:aj}{p:kG}{cv gv hv tv:AV}{val:Int}{hs:List Int}{W:Nat}(hp:ye c p)(hlen:(hs.length:Int)=(aH c).length)(fV:0<=c.aq)(hm:∀x∈hs,1<=x/\x<=6)(hn:hs.length<=60)(hW:p.wo=(W:Int))(hL:L<h0.next)
 (gL:h0.t.get L=some (ag (au c cv++(cb p++[gv,hv,tv,.int .i64 val])) 109)) (rh:cm none 1 h0 hv (iL hs)) (rl:∀a,own hv=some a->a<h0.next) (k:Nat) (tm:T AV) (h:H) (hI:I22 h0 L hv W hs.length c.aq p.po p.li hs k tm h):
 WC P call nK (bM 0 (fun tm h=>∃j,j<k/\I22 h0 L hv W hs.length c.aq p.po p.li hs j tm h) (fun tm h=>tm.get 3=some (.sl h0.next 0 W 1 (some W))/\ae h0 h/\h0.next<h.next/\∃ws,h.t.get h0.next=some (.row (aa 0 (uL ws) T.e) W 50)/\Zero W c.aq ws/\ws=AF p.po p.li hs W hs.length) (fun _ _=>False)) tm h:=by
 obtain⟨t0,t3,t17,t18,nx,old,i,ws,Cu,t19,gO,z,zi⟩:=hI;have vT:=(old L hL).trans gL;cases k with
 |zero=>
  have e1:¬(i:Int)<(hs.length:Int):=by omega
  simp only[go_sem,seval,nK,t18,t19,e1,t3];exact⟨⟨by omega,old⟩,by omega,ws,gO,z,by rw[zi,show i=hs.length by omega]⟩
 |succ k=>
  have e1:(i:Int)<(hs.length:Int):=by omega
  have hi:i<hs.length:=by omega
  have p1:=hp.po;have p2:=hp.li;have p3:=hp.wo;have rh1:=rh.aF (h':=h) fun b hb=>old b (rl b hb)
  have Nw:(iL hs).length=hs.length:=List.length_map _;have mD:∀j,j<hs.length->∃x,hs[j]?=some x/\(iL hs)[j]?=some (.int .i64 x)/\1<=x/\x<=6:=fun j hj=>⟨hs[j],List.getElem?_eq_getElem hj,by unfold iL;rw[List.getElem?_map,List.getElem?_eq_getElem hj];rfl,hm _ (List.getElem_mem hj)⟩
  rcases rh1 with⟨rfl,hh⟩|⟨a,o,cap,rfl,_,ra⟩
  ·rw[hh]at Nw;simp at Nw;omega
  rw[Nw]at vT t17;obtain⟨x,YF,hx,B9,hx6⟩:=mD i hi;have YG:=ra i _ hx;rw[ko,Nat.mul_one]at YG;have f1:fw .i64 ((i:Int)+1)=(i:Int)+1:=aS (by omega) (by omega);have f2:fw .u64 ((i:Int)+1)=(i:Int)+1:=uE (by omega) (by omega);have f3:fw .i64 (p.po+x)=p.po+x:=aS (by omega) (by omega);have f4:fw .i64 (p.po+x-1)=p.po+x-1:=aS (by omega) (by omega);have e3:((i+1:Nat):Int)=(i:Int)+1:=rfl;have YH:=h65 h ((i:Int)+1) (by omega) (by omega);obtain⟨q,hq⟩:∃q:Nat,p.po+x-1=(q:Int):=⟨(p.po+x-1).toNat,by omega⟩;have fq:fw .i64 (q:Int)=(q:Int):=aS (by omega) (by omega);have Sk:q<W:=by omega
  have Ny:(q:Int)<(W:Int):=by omega
  have Cc:=fm ws;rw[z.len]at Cc;have fin:∀(j:Nat) (y:Int),ws.set j y=vW p.po p.li hs i ws->c.aq<=(j:Int)->j<W->∀aC:T AV,aC.get 0=some (.ptr L 0)->aC.get 3=some (.sl h0.next 0 W 1 (some W))->aC.get 17=some (AV.sl a o hs.length 1 cap)->aC.get 18=some (.int .i64 (hs.length:Int))->aC.get 19=some (.int .i64 ((i:Int)+1))->
        ∃j',j'<k+1/\I22 h0 L (AV.sl a o hs.length 1 cap) W hs.length c.aq p.po p.li hs j' aC ⟨h.next,h.t.set h0.next (.row (aa 0 ((uL ws).set j (.int .u64 y)) T.e) W 50)⟩:=fun j y h0s h1 h2 aC a1 a2 a3 a4 a5=>
   ⟨k,Nat.lt_succ_self k,a1,a2,a3,a4,nx,fun b hb=>by
        have e0:¬b=h0.next:=by omega
        simp only[go_sem,seval,e0];exact old b hb,i+1,ws.set j y,by omega,a5,by simp[go_sem,AG],z.set h1 y,by rw[h0s,zi];rfl⟩
  rw[Nw]
  by_cases i0:i=0
  ·subst i0;rw[Nat.add_zero]at YG;have e1':(0:Int)<(hs.length:Int):=by omega
   have agu:=h65 h 1 (by decide) (by decide);simp only[go_sem,seval,nK,t0,t3,t17,t18,t19,e1',Nat.mul_one,YG,vT,au,cb,dA,f3,fq,agu,hq,Ny,gO,Cc,Sk,Nat.succ_le_of_lt];exact fin q _ (by unfold vW;rw[YF];simp only[];rw[if_neg (fun hh=>Nat.lt_irrefl 0 hh.1),hq];rfl) (by omega) Sk _ (by simp[go_sem,t0]) (by simp[go_sem,t3]) (by simp[go_sem,t17]) (by simp[go_sem,t18]) (by simp[go_sem])
  ·obtain⟨m,rfl⟩:∃m,i=m+1:=⟨i-1,by omega⟩;obtain⟨y,hys,hy,_,_⟩:=mD m (by omega);have ra2:=ra m _ hy;rw[ko,Nat.mul_one]at ra2;have c1:((m+1:Nat):Int)=(m:Int)+1:=rfl;have g1:(0:Int)<(m:Int)+1:=by omega
   have k1:(0:Int)<=(m:Int)+1:=by omega
   have k2:((m:Int)+1).toNat=m+1:=by omega
   have g2:(m:Int)+1-1=(m:Int):=by omega
   have g3:fw .i64 (m:Int)=(m:Int):=aS (by omega) (by omega);have g4:(m:Int)<(hs.length:Int):=by omega
   rw[c1]at e1 f1 f2 YH t19 fin
   by_cases Ie:y=x
   ·have f5:fw .i64 (p.li+((m:Int)+1))=p.li+((m:Int)+1):=aS (by omega) (by omega);have f6:fw .i64 (p.li+((m:Int)+1) -1)=p.li+((m:Int)+1) -1:=aS (by omega) (by omega);obtain⟨q2,YI⟩:∃q:Nat,p.li+((m:Int)+1) -1=(q:Int):=⟨(p.li+((m:Int)+1) -1).toNat,by omega⟩;have fq2:fw .i64 (q2:Int)=(q2:Int):=aS (by omega) (by omega);have Nz:q2<W:=by omega
    have IM:(q2:Int)<(W:Int):=by omega
    simp only[go_sem,seval,nK,t0,t3,t17,t18,t19,e1,Nat.mul_one,YG,ra2,vT,au,cb,f1,f2,f5,fq2,k1,k2,g1,g2,g3,g4,Ie,YI,IM,gO,Cc,Nz,Nat.succ_le_of_lt];exact fin q2 _ (by unfold vW;rw[YF];simp only[];rw[if_pos ⟨Nat.succ_pos m,by rw[Nat.add_sub_cancel,hys,Ie]⟩,c1,YI];rfl) (by omega) Nz _ (by simp[go_sem,t0]) (by simp[go_sem,t3]) (by simp[go_sem,t17]) (by simp[go_sem,t18]) (by simp[go_sem])
   ·simp only[go_sem,seval,nK,t0,t3,t17,t18,t19,e1,Nat.mul_one,YG,ra2,vT,au,cb,f1,f3,fq,k1,k2,g1,g2,g3,g4,Ie,YH,hq,Ny,gO,Cc,Sk,Nat.succ_le_of_lt];exact fin q _ (by unfold vW;rw[YF];simp only[];rw[if_neg (fun hh=>by have h2:=hh.2;rw[Nat.add_sub_cancel,hys]at h2;exact Ie (Option.some.inj h2)),c1,hq];rfl) (by omega) Sk _ (by simp[go_sem,t0]) (by simp[go_sem,t3]) (by simp[go_sem,t17]) (by simp[go_sem,t18]) (by simp[go_sem])
def rC(c:aj)(W:Nat)(ws:List Int):Prop:=ws=AF (aA c).po (aA c).li (aH c) W (aH c).length
structure Fm(W:Nat)(s:Int)(sp:List Int->Prop)(h:H)(v:AV)(h':H):Prop where
 ex:∃ws,Own 1 50 h' v ws.length (uL ws)/\Zero W s ws/\sp ws
 lo:∀a,own v=some a->h.next<=a
 st:ae h h'
theorem w57(h65:Nv call){h:H}{L:Nat}{c:aj}{p:kG}(hL:eU h L c p (aH c))(hp:ye c p)(fV:0<=c.aq)(hn:(aH c).length<=60)(W:Nat)(hW:p.wo=(W:Int))(hW0:0<W):
 WF P call c57 [.ptr L 0] h (Fm W c.aq (rC c W) h):=by
 obtain⟨cv,gv,hv,tv,val,gL,r1,r2,r3,r4,o1,o2,o3⟩:=hL.ex;have df:=hL.lt;have p3:=hp.wo;have p2:=hp.li;have p1:=hp.po;have e1:8*W<=281474976710656:=by omega
 have e2:W<=281474976710656:=by omega
 have x1:¬L=h.next:=by omega
 have yg:=r3.bR;unfold iL at yg;rw[List.length_map]at yg;have z0:Zero W c.aq (List.replicate W 0):=⟨List.length_replicate,fun i hi=>by rw[List.getElem?_replicate,if_pos (by omega)]⟩;have hz:uL (List.replicate W 0)=List.replicate W (.int .u64 0):=by unfold uL;rw[List.map_replicate]
 simp only[go_sem,seval,gL,au,cb,x1,hW,fM,dZ,Nat.mul_one,Nat.le_refl,e1,e2,decide_true,Bool.and_self,cond_true,yg];refine aT (I22 h L hv W (aH c).length c.aq p.po p.li (aH c)) _ _ (fun k tm h' hI=>Sj P h65 hp rfl fV dh hn hW df gL r3 r4 k tm h' hI) (fun dC h2 hR=>?_) (fun _ _ hh=>hh.elim) (aH c).length _ _
  ⟨by simp[go_sem],by simp[go_sem],by simp[go_sem],by simp[go_sem],rfl,fun b hb=>?_,0,List.replicate W 0,by omega,by simp[go_sem],by simp[go_sem,hz],z0,rfl⟩
 ·obtain⟨t3,st,Sl,ws,gO,z,zi⟩:=hR;simp only[go_sem,seval,t3];refine⟨⟨ws,?_,z,by unfold rC;rw[←hp.eq];exact zi⟩,fun a ha=>by cases ha;exact Nat.le_refl _,st⟩;rw[z.len];refine .sl _ _ _ _ (.inr rfl) hW0 (by rw[fm,z.len,Nat.mul_one]) Sl ?_
  rw[gO,ag,fm,z.len]
 ·have n1:¬b=h.next:=by omega
  simp only[go_sem,seval,n1]
@[go_sem]def YJ:CF:=⟨1,(Sq [b 2 0,b 3 0] (Qq (Sq [a 4 0,D 5 3 4 1,a 6 5,r 7 6 0,qb 8 6 3 7 64,u 9 6 8] (Kq 9 [b 2 0,b 3 2] .skip)) (Rq [a 10 0,a 2 10,b 3 0]))),[.tmp 2,.tmp 3]⟩
@[go_sem]def YK:CF:=⟨1,(Sq [b 2 0,b 3 0] (Qq (Sq [a 4 0,D 5 3 4 1,a 6 5,r 7 6 0,qb 8 6 3 7 64,u 9 6 8] (Kq 9 [b 2 0,b 3 2] .skip)) (Rq [a 10 0,qs 11 3 2 10,a 2 11,b 3 0]))),[.tmp 2,.tmp 3]⟩
@[go_sem]def YL:CF:=⟨1,(Sq [b 2 0,b 3 0] (Qq (Sq [a 4 0,D 5 3 4 1,a 6 5,r 7 6 0,qb 8 6 3 7 16,u 9 6 8] (Kq 9 [b 2 0,b 3 2] .skip)) (Rq [a 10 0,qs 11 3 4 10,a 2 11,b 3 0]))),[.tmp 2,.tmp 3]⟩
@[go_sem]def YM:CF:=⟨3,(Sq [b 6 0,b 7 0] (Qq (Sq [a 8 1,D 9 3 8 1,a 10 9,r 11 10 1,qb 12 10 3 11 64,u 13 10 12,a 14 13,r 15 14 0,jm 16 14 5 15 3,r 17 14 16,K 18 17 2,jn 19 17 3 18 0,zJ 20 14 17 19,u 21 14 20] (Kq 21 [b 6 0,b 7 2] .skip)) (Qq (Sq [a 22 0] (.block 0 (Sq [L 24 5 22 1,a 23 24] (Kq 23 [a 25 1,q 26 175 25,o 27 26 0,o 28 26 1,a 6 27,a 7 28] (Sq [L 30 5 22 2,a 29 30] (Kq 29 [a 31 1,q 32 176 31,o 33 32 0,o 34 32 1,a 6 33,a 7 34] (Sq [L 36 5 22 3,a 35 36] (Kq 35 [a 37 2,q 38 177 37,o 39 38 0,o 40 38 1,a 6 39,a 7 40] .skip)))))))) (Rq [b 6 0,b 7 2])))),[.tmp 6,.tmp 7]⟩
@[go_sem]def YN:CF:=⟨3,(Sq [p 6,b 7 0] (Qq (Sq [a 12 0,y 13 47 12] (Kq 13 [p 6,b 7 1] .skip)) (Qq (Sq [a 15 2,q 16 175 15,a 14 16,o 17 14 0,o 18 14 1,a 8 17,a 9 18] (Sq [a 19 9,A 20 41 19 0] (Kq 20 [a 21 9,p 6,a 7 21] .skip))) (Qq (Sq [a 22 1,D 23 3 22 0,a 24 23,r 25 24 1,qb 26 24 3 25 65536,u 27 24 26] (Kq 27 [p 6,b 7 3] .skip)) (Qq (Sq [a 29 0,a 30 1,a 31 2,qg 32 3 30 31,ql 33 3 32 1,M 34 90 29 33,a 28 34,o 35 28 0,o 36 28 1,a 10 35,a 11 36] (Sq [a 37 11,qa 38 37] (Kq 38 [p 6,b 7 3] .skip))) (Qq (.cn ⟨[([g 0 0,g 1 1,g 2 2,⟨3,[(41,some 2),(41,some 2)],none,.n (.yb 50 1 8 [.int .u64 0] (.t 41) (.t 41))⟩,g 4 2,zP 5 43 4 4 4 1 1,⟨6,[(39,some 0),(40,some 1),(42,some 3),(44,some 5)],none,.p (.build [.aJ,.int .i64 0,.ax,.ax] [(0,1,.t 39),(1,1,.t 40),(2,1,.t 42),(3,1,.t 44)])⟩,qY 7 45 6 314,t 8 46 7,qS 9 0],none)],[(0,39),(1,40),(2,41),(3,42),(4,43),(5,44),(6,45),(7,46),(8,6),(9,7)],[]⟩) .ret)))))),[.tmp 6,.tmp 7]⟩
@[go_sem]def YO:CF:=⟨3,(Sq [z 4 3 1,p 6,b 7 0] (Qq (Sq [a 12 0,y 13 47 12] (Kq 13 [p 6,b 7 1] .skip)) (Sq [a 15 2,q 16 176 15,a 14 16,o 17 14 0,o 18 14 1,a 8 17,a 9 18] (Qq (Sq [a 19 9,A 20 41 19 0] (Kq 20 [a 21 9,p 6,a 7 21] .skip)) (Qq (Sq [i 22 4,D 23 3 22 0,a 24 23,E 25 24 4,qb 26 24 3 25 65536,u 27 24 26] (Kq 27 [p 6,b 7 3] .skip)) (Qq (Sq [a 29 0,i 30 4,a 31 8,qg 32 3 30 31,ql 33 3 32 1,M 34 90 29 33,a 28 34,o 35 28 0,o 36 28 1,a 10 35,a 11 36] (Sq [a 37 11,qa 38 37] (Kq 38 [p 6,b 7 3] .skip))) (Rq [a 39 0,a 40 2,⟨some 41,none,.n (.yb 430 2 16 [.int .u64 0,.bool false] (.t 40) (.t 40))⟩,jt 42 178 4,⟨some 43,none,.p (.build [.aJ,.ax,.dQ] [(0,1,.t 39),(1,1,.t 41),(2,1,.t 42)])⟩,z 44 317 43,a 6 44,b 7 0]))))))),[.tmp 6,.tmp 7]⟩
@[go_sem]def YP:CF:=⟨3,(Sq [p 6,b 7 0] (Qq (Sq [a 12 0,y 13 47 12] (Kq 13 [p 6,b 7 1] .skip)) (Sq [a 15 2,q 16 177 15,a 14 16,o 17 14 0,o 18 14 1,a 8 17,a 9 18] (Qq (Sq [a 19 9,A 20 41 19 0] (Kq 20 [a 21 9,p 6,a 7 21] .skip)) (Qq (Sq [a 22 1,D 23 3 22 0,a 24 23,r 25 24 1,qb 26 24 3 25 65536,u 27 24 26] (Kq 27 [p 6,b 7 3] .skip)) (Qq (Sq [a 29 0,a 30 1,a 31 8,qg 32 3 30 31,ql 33 3 32 1,M 34 90 29 33,a 28 34,o 35 28 0,o 36 28 1,a 10 35,a 11 36] (Sq [a 37 11,qa 38 37] (Kq 38 [p 6,b 7 3] .skip))) (Rq [a 39 0,a 40 1,a 41 2,zf 42,⟨some 43,none,.p (.build [.aJ,.int .i64 0,.int .i64 0,.kH] [(0,1,.t 39),(1,1,.t 40),(2,1,.t 41),(3,1,.t 42)])⟩,z 44 320 43,a 6 44,b 7 0]))))))),[.tmp 6,.tmp 7]⟩
@[go_sem]def c60:CF:=⟨5,(Sq [p 10,b 11 0] (Qq (Sq [a 19 0,y 20 47 19] (Kq 20 [p 10,b 11 1] .skip)) (Qq (Sq [a 22 1,a 23 3,a 24 4,Q 25 125 22 23 24,a 21 25,o 26 21 0,o 27 21 1,a 12 26,a 13 27] (Sq [a 28 13,A 29 41 28 0] (Kq 29 [a 30 13,p 10,a 11 30] .skip))) (Sq [a 31 1,a 32 3,⟨some 33,none,.p (.build [.pC,.int .u8 0,.int .i64 0] [(1,1,.t 31),(2,1,.t 32)])⟩,z 34 206 33,a 14 34] (Sq [b 15 0] (Qq (Sq [a 35 1] (.block 0 (Sq [L 51 5 35 1,a 50 51] (Cq 50 (Sq [p 16] (Sq [a 53 0,a 54 2,a 55 3,Q 56 126 53 54 55,a 52 56,o 57 52 0,o 58 52 1,a 16 57,a 15 58] (Oq [a 59 14,a 60 16,qC 61 232 60,zv 62 0 1 61,qC 63 238 62,j 64 59,d 65 0 64,s 1 65 63]))) (Sq [L 67 5 35 2,a 66 67] (Cq 66 (Sq [p 17] (Sq [a 69 0,a 70 2,a 71 3,Q 72 127 69 70 71,a 68 72,o 73 68 0,o 74 68 1,a 17 73,a 15 74] (Oq [a 75 14,a 76 17,qC 77 239 76,zv 78 0 1 77,qC 79 245 78,j 80 75,d 81 0 80,s 1 81 79]))) (Sq [p 18] (Sq [a 37 0,a 38 2,a 39 4,Q 40 128 37 38 39,a 36 40,o 41 36 0,o 42 36 1,a 18 41,a 15 42] (Oq [a 43 14,a 44 18,qC 45 246 44,zv 46 0 1 45,qC 47 252 46,j 48 43,d 49 0 48,s 1 49 47]))))))))) (Qq (Sq [a 82 15,A 83 41 82 0] (Kq 83 [a 84 15,p 10,a 11 84] .skip)) (Rq [a 85 14,a 10 85,b 11 0])))))))),[.tmp 10,.tmp 11]⟩
inductive yH(h:H)(R:Nat)(n:Nat):Prop where
 |full (G N B M:Nat) (base kind:Int) (gR:h.t.get R=some (ag [.dR 238 (.agg [.dR 232 (.ptr G 0)]),.int .u8 kind,.int .i64 (n:Int)] 206))
   (gG:h.t.get G=some (ag [.ptr M 0,.int .i64 base,.sl N 0 n 1 (some n),.sl B 0 n 1 (some n)] 314)) (gN:h.t.get N=some (.row (aa 0 (List.replicate n (.int .u64 0)) T.e) n 50)) (lR:R<h.next) (lG:G<h.next) (lN:N<h.next)
 |each (G N M:Nat) (fv:AV) (kind:Int) (gR:h.t.get R=some (ag [.dR 245 (.agg [.dR 239 (.ptr G 0)]),.int .u8 kind,.int .i64 (n:Int)] 206))
   (gG:h.t.get G=some (ag [.ptr M 0,.sl N 0 n 2 (some n),fv] 317)) (gN:h.t.get N=some (.row (aa 0 (rep [.int .u64 0,.bool false] (n*2)) T.e) (n*2) 430)) (lR:R<h.next) (lG:G<h.next) (lN:N<h.next)
 |gate (G S M:Nat) (base nb kind:Int) (gR:h.t.get R=some (ag [.dR 252 (.agg [.dR 246 (.ptr G 0)]),.int .u8 kind,.int .i64 (n:Int)] 206))
   (gG:h.t.get G=some (ag [.ptr M 0,.int .i64 base,.int .i64 nb,.map S] 320)) (gS:h.t.get S=some (.map [] 0)) (lR:R<h.next) (lG:G<h.next) (lS:S<h.next)
theorem agy(P:Program){call:ab}{h:H}{n:Int}(h1:1<=n)(h2:n<=64):WF P call YJ [.int .i64 n] h fun v h'=>v=.aE [.int .i64 n,.int .i64 0]/\h'=h:=by
 have e1:¬n<1:=by omega
 have e2:¬64<n:=by omega
 simp only[go_sem,seval,e1,e2]
theorem agz(P:Program){call:ab}{h:H}{n:Int}(h1:1<=n)(h2:n<=64):WF P call YK [.int .i64 n] h fun v h'=>v=.aE [.int .i64 (2*n),.int .i64 0]/\h'=h:=by
 have e1:¬n<1:=by omega
 have e2:¬64<n:=by omega
 have f1:fw .i64 (2*n)=2*n:=aS (by omega) (by omega);simp only[go_sem,seval,e1,e2,f1]
theorem agA(P:Program){call:ab}{h:H}{n:Int}(h1:1<=n)(h2:n<=16):WF P call YL [.int .i64 n] h fun v h'=>v=.aE [.int .i64 (4*n),.int .i64 0]/\h'=h:=by
 have e1:¬n<1:=by omega
 have e2:¬16<n:=by omega
 have f1:fw .i64 (4*n)=4*n:=aS (by omega) (by omega);simp only[go_sem,seval,e1,e2,f1]
def FW(call:ab)(f:FuncId)(m k:Int):Prop:=∀h (n:Int),1<=n->n<=m->call f [.int .i64 n] h=some (.aE [.int .i64 (k*n),.int .i64 0],h)
def mQ(c:aj):Prop:=(1<=c.aq/\c.aq<=64)/\(c.az=1/\c.buckets=0\/c.az=2/\c.buckets=0\/c.az=3/\1<=c.buckets/\c.buckets<=16)
theorem fU.Yq{c:aj}(h:fU c):mQ c:=by
 obtain⟨_,_,h2,h3,h4,h5,h6,_⟩:=h;refine⟨h2,?_⟩
 by_cases e1:c.az=1
 ·exact .inl ⟨e1,h6 (by omega)⟩
 by_cases e2:c.az=2
 ·exact .inr (.inl ⟨e2,h6 (by omega)⟩)
 ·exact .inr (.inr ⟨by omega,h5 (by omega)⟩)
theorem agB(P:Program){call:ab}(Sm:FW call 175 64 1)(Sn:FW call 176 64 2)(Sr:FW call 177 16 4){h:H}{c:aj}(hc:mQ c):
 WF P call YM [.int .u8 c.az,.int .i64 c.aq,.int .i64 c.buckets] h fun v h'=>v=.aE [.int .i64 (bD c),.int .i64 0]/\h'=h:=by
 obtain⟨hs,hc⟩:=hc;have e1:¬c.aq<1:=by omega
 have e2:¬64<c.aq:=by omega
 have k1:=Sm h c.aq hs.1 hs.2;have k2:=Sn h c.aq hs.1 hs.2;rw[Int.one_mul]at k1;rcases hc with⟨he,hb⟩|⟨he,hb⟩|⟨he,iD,oU⟩
 ·simp only[go_sem,seval,e1,e2,he,hb,k1,bD]
 ·simp only[go_sem,seval,e1,e2,he,hb,k2,bD]
 ·have k3:=Sr h c.buckets iD oU;simp only[go_sem,seval,e1,e2,he,k3,bD]
def iK(call:ab):Prop:=∀h M W ws (a:Int),dK h M W ws->call 90 [.ptr M 0,.int .i64 a] h=some ((if h:0<=a/\a.toNat<ws.length then .aE [.int .u64 (ws[a.toNat]'h.2),.bool true]else .aE [.int .u64 0,.bool false]),h)
theorem iK.yes{call:ab}(f:iK call){h:H}{M W:Nat}{ws:List Int}(m:dK h M W ws){a:Int}(h0:0<=a)(h1:a<(ws.length:Int)):∃x,call 90 [.ptr M 0,.int .i64 a] h=some (.aE [.int .u64 x,.bool true],h):=by
 have:=f h M W ws a m;rw[dif_pos ⟨h0,by omega⟩]at this;exact⟨_,this⟩
theorem iK.no{call:ab}(f:iK call){h:H}{M W:Nat}{ws:List Int}(m:dK h M W ws){a:Int}(h1:(ws.length:Int)<=a):call 90 [.ptr M 0,.int .i64 a] h=some (.aE [.int .u64 0,.bool false],h):=by
 have:=f h M W ws a m;rw[dif_neg (by omega)]at this;exact this
def IP(M:Nat)(n:Nat)(base:Int)(h:H)(v:AV)(h':H):Prop:=ae h h'/\∃G N B,v=.aE [.ptr G 0,.int .i64 0]/\h'.t.get G=some (ag [.ptr M 0,.int .i64 base,.sl N 0 n 1 (some n),.sl B 0 n 1 (some n)] 314)/\h'.t.get N=some (.row (aa 0 (List.replicate n (.int .u64 0)) T.e) n 50)/\G<h'.next/\N<h'.next/\h'.t.get B=some (.row (aa 0 (List.replicate n (.bool false)) T.e) n 4)/\B<h'.next/\h.next<=G/\h.next<=N/\h.next<=B/\N≠B
theorem agC(Sm:FW call 175 64 1)(Ig:iK call){h:H}{M W:Nat}{ws:List Int}(hm:dK h M W ws){n:Nat}(h1:1<=n)(h2:n<=64){base:Int}(b0:0<=base)(b1:base+(n:Int)<=(ws.length:Int))(b2:base<=60000):
 WF P call YN [.ptr M 0,.int .i64 base,.int .i64 (n:Int)] h (IP M n base h):=by
 have k1:=Sm h (n:Int) (by omega) (by omega);rw[Int.one_mul]at k1;obtain⟨x,hx⟩:=Ig.yes hm (a:=base+(n:Int) -1) (by omega) (by omega);have f1:fw .i64 (base+(n:Int))=base+(n:Int):=aS (by omega) (by omega);have f2:fw .i64 (base+(n:Int) -1)=base+(n:Int) -1:=aS (by omega) (by omega);have e1:¬base<0:=by omega
 have e2:¬65536<base:=by omega
 have m1:8*n<=281474976710656:=by omega
 have m2:n<=281474976710656:=by omega
 have m3:1*n<=281474976710656:=by omega
 simp only[go_sem,seval,k1,hx,f1,f2,e1,e2,fM,dZ,Nat.mul_one,Nat.le_refl,m1,m2,m3,decide_true,Bool.and_self,cond_true];refine⟨⟨by show h.next<=h.next+3;omega,fun b hb=>?_⟩,_,_,_,rfl,by simp only[go_sem,seval];rfl,?_,by show h.next+2<h.next+3;omega,by show h.next<h.next+3;omega,?_,by show h.next+1<h.next+3;omega,by omega,by omega,by omega,by omega⟩
 ·have n1:¬b=h.next:=by omega
  have n2:¬b=h.next+1:=by omega
  have n3:¬b=h.next+2:=by omega
  simp only[go_sem,seval,n1,n2,n3]
 ·have n1:¬h.next=h.next+1:=by omega
  have n2:¬h.next=h.next+2:=by omega
  simp only[go_sem,seval,n1,n2]
 ·have n2:¬h.next+1=h.next+2:=by omega
  simp only[go_sem,seval,n2]
def IQ(M:Nat)(n:Nat)(base:Int)(h:H)(v:AV)(h':H):Prop:=ae h h'/\∃G N fv F,v=.aE [.ptr G 0,.int .i64 0]/\h'.t.get G=some (ag [.ptr M 0,.sl N 0 n 2 (some n),fv] 317)/\h'.t.get N=some (.row (aa 0 (rep [.int .u64 0,.bool false] (n*2)) T.e) (n*2) 430)/\G<h'.next/\N<h'.next/\fv=.fn (.func 178) [] [.ptr F 0]/\h'.t.get F=some (ag [.int .i64 base] 3)/\F<h'.next/\h.next<=G/\h.next<=N/\h.next<=F
theorem agD(Sn:FW call 176 64 2)(Ig:iK call){h:H}{M W:Nat}{ws:List Int}(hm:dK h M W ws)(hM:M<h.next)(hW:W<h.next){n:Nat}(h1:1<=n)(h2:n<=64){base:Int}(b0:0<=base)(b1:base+2*(n:Int)<=(ws.length:Int))(b2:base<=60000):
 WF P call YO [.ptr M 0,.int .i64 base,.int .i64 (n:Int)] h (IQ M n base h):=by
 have cr:=ae.new h (.row (aa 0 [.int .i64 base] T.e) 1 3);have hm1:dK ⟨h.next+1,h.t.set h.next (.row (aa 0 [.int .i64 base] T.e) 1 3)⟩ M W ws:=by
  obtain⟨⟨lg,g,o⟩,w,ne⟩:=hm;exact⟨⟨lg,(cr.old M hM).trans g,o⟩,(cr.old W hW).trans w,ne⟩
 have k1:=Sn ⟨h.next+1,h.t.set h.next (.row (aa 0 [.int .i64 base] T.e) 1 3)⟩ (n:Int) (by omega) (by omega);obtain⟨x,hx⟩:=Ig.yes hm1 (a:=base+2*(n:Int) -1) (by omega) (by omega);have f1:fw .i64 (base+2*(n:Int))=base+2*(n:Int):=aS (by omega) (by omega);have f2:fw .i64 (base+2*(n:Int) -1)=base+2*(n:Int) -1:=aS (by omega) (by omega);have e1:¬base<0:=by omega
 have e2:¬65536<base:=by omega
 have m1:16*n<=281474976710656:=by omega
 have m2:n<=281474976710656:=by omega
 simp only[go_sem,seval,k1,hx,f1,f2,e1,e2,fM,Nat.le_refl,m1,m2,decide_true,Bool.and_self,cond_true];refine⟨⟨by show h.next<=h.next+3;omega,fun b hb=>?_⟩,_,_,_,h.next,rfl,by simp only[go_sem,seval];rfl,?_,by show h.next+2<h.next+3;omega,by show h.next+1<h.next+3;omega,rfl,?_,by show h.next<h.next+3;omega,by omega,by omega,by omega⟩
 ·have n1:¬b=h.next:=by omega
  have n2:¬b=h.next+1:=by omega
  have n3:¬b=h.next+2:=by omega
  simp only[go_sem,seval,n1,n2,n3]
 ·have n1:¬h.next+1=h.next+2:=by omega
  simp only[go_sem,seval,n1]
 ·have n1:¬h.next=h.next+1:=by omega
  have n2:¬h.next=h.next+2:=by omega
  simp only[go_sem,seval,n1,n2];rfl
def IU(M:Nat)(base nb:Int)(h:H)(v:AV)(h':H):Prop:=ae h h'/\∃G S,v=.aE [.ptr G 0,.int .i64 0]/\h'.t.get G=some (ag [.ptr M 0,.int .i64 base,.int .i64 nb,.map S] 320)/\h'.t.get S=some (.map [] 0)/\G<h'.next/\S<h'.next/\h.next<=G/\h.next<=S
theorem agF(Sr:FW call 177 16 4)(Ig:iK call){h:H}{M W:Nat}{ws:List Int}(hm:dK h M W ws){n:Int}(h1:1<=n)(h2:n<=16){base:Int}(b0:0<=base)(b1:base+4*n<=(ws.length:Int))(b2:base<=60000):
 WF P call YP [.ptr M 0,.int .i64 base,.int .i64 n] h (IU M base n h):=by
 have k1:=Sr h n (by omega) (by omega);obtain⟨x,hx⟩:=Ig.yes hm (a:=base+4*n-1) (by omega) (by omega);have f1:fw .i64 (base+4*n)=base+4*n:=aS (by omega) (by omega);have f2:fw .i64 (base+4*n-1)=base+4*n-1:=aS (by omega) (by omega);have e1:¬base<0:=by omega
 have e2:¬65536<base:=by omega
 simp only[go_sem,seval,k1,hx,f1,f2,e1,e2];refine⟨⟨by show h.next<=h.next+2;omega,fun b hb=>?_⟩,_,_,rfl,by simp only[go_sem,seval];rfl,?_,by show h.next+1<h.next+2;omega,by show h.next<h.next+2;omega,by omega,by omega⟩
 ·have n1:¬b=h.next:=by omega
  have n2:¬b=h.next+1:=by omega
  simp only[go_sem,seval,n1,n2]
 ·have n1:¬h.next=h.next+1:=by omega
  simp only[go_sem,seval,n1]
theorem dK.step{h h':H}{M W:Nat}{ws:List Int}(m:dK h M W ws)(hM:M<h.next)(hW:W<h.next)(s:ae h h'):dK h' M W ws:=by
 obtain⟨⟨lg,g,o⟩,w,ne⟩:=m;exact⟨⟨lg,(s.old M hM).trans g,o⟩,(s.old W hW).trans w,ne⟩
inductive rD(lo:Nat)(h:H)(M:Nat)(base:Int)(R n:Nat)(c:aj):Prop where
 |full (G N B:Nat) (he:c.az=1) (gR:h.t.get R=some (ag [.dR 238 (.agg [.dR 232 (.ptr G 0)]),.int .u8 1,.int .i64 (n:Int)] 206))
   (gG:h.t.get G=some (ag [.ptr M 0,.int .i64 base,.sl N 0 n 1 (some n),.sl B 0 n 1 (some n)] 314)) (gN:h.t.get N=some (.row (aa 0 (List.replicate n (.int .u64 0)) T.e) n 50)) (gB:h.t.get B=some (.row (aa 0 (List.replicate n (.bool false)) T.e) n 4)) (lR:R<h.next) (lG:G<h.next) (lN:N<h.next) (lB:B<h.next) (oR:lo<=R) (oG:lo<=G) (oN:lo<=N) (oB:lo<=B)
 |each (G N F:Nat) (he:c.az=2) (gR:h.t.get R=some (ag [.dR 245 (.agg [.dR 239 (.ptr G 0)]),.int .u8 2,.int .i64 (n:Int)] 206))
   (gG:h.t.get G=some (ag [.ptr M 0,.sl N 0 n 2 (some n),.fn (.func 178) [] [.ptr F 0]] 317)) (gN:h.t.get N=some (.row (aa 0 (rep [.int .u64 0,.bool false] (n*2)) T.e) (n*2) 430)) (gF:h.t.get F=some (ag [.int .i64 base] 3)) (lR:R<h.next) (lG:G<h.next) (lN:N<h.next) (lF:F<h.next) (oR:lo<=R) (oG:lo<=G) (oN:lo<=N) (oF:lo<=F)
 |gate (G S:Nat) (he:c.az=3) (hb:1<=c.buckets/\c.buckets<=16) (gR:h.t.get R=some (ag [.dR 252 (.agg [.dR 246 (.ptr G 0)]),.int .u8 3,.int .i64 (n:Int)] 206))
   (gG:h.t.get G=some (ag [.ptr M 0,.int .i64 base,.int .i64 c.buckets,.map S] 320)) (gS:h.t.get S=some (.map [] 0)) (lR:R<h.next) (lG:G<h.next) (lS:S<h.next) (oR:lo<=R) (oG:lo<=G) (oS:lo<=S)
theorem rD.aF{lo:Nat}{h h':H}{M:Nat}{base:Int}{R n:Nat}{c:aj}(p:rD lo h M base R n c)(hn:h.next<=h'.next)(k:∀b,lo<=b->b<h.next->h'.t.get b=h.t.get b):rD lo h' M base R n c:=by
 have l:∀{a},a<h.next->a<h'.next:=fun ha=>Nat.lt_of_lt_of_le ha hn
 cases p with
 |full G N B he gR gG gN gB lR lG lN lB oR oG oN oB=>exact .full G N B he ((k _ oR lR).trans gR) ((k _ oG lG).trans gG) ((k _ oN lN).trans gN) ((k _ oB lB).trans gB) (l lR) (l lG) (l lN) (l lB) oR oG oN oB
 |each G N F he gR gG gN gF lR lG lN lF oR oG oN oF=>exact .each G N F he ((k _ oR lR).trans gR) ((k _ oG lG).trans gG) ((k _ oN lN).trans gN) ((k _ oF lF).trans gF) (l lR) (l lG) (l lN) (l lF) oR oG oN oF
 |gate G S he hb gR gG gS lR lG lS oR oG oS=>exact .gate G S he hb ((k _ oR lR).trans gR) ((k _ oG lG).trans gG) ((k _ oS lS).trans gS) (l lR) (l lG) (l lS) oR oG oS
def Qs(M:Nat)(base:Int)(c:aj)(n:Nat)(h:H)(v:AV)(h':H):Prop:=ae h h'/\∃R,v=.aE [.ptr R 0,.int .i64 0]/\yH h' R n/\rD h.next h' M base R n c
theorem w60(h69:∀h c,mQ c->call 125 [.int .u8 c.az,.int .i64 c.aq,.int .i64 c.buckets] h=some (.aE [.int .i64 (bD c),.int .i64 0],h))
 (h70:∀h M W ws n base,dK h M W ws->1<=n->n<=64->0<=base->base+((n:Nat):Int)<=((ws:List Int).length:Int)->base<=60000->∃v h',call 126 [.ptr M 0,.int .i64 base,.int .i64 (n:Int)] h=some (v,h')/\IP M n base h v h')
 (h71:∀h M W ws n base,dK h M W ws->M<h.next->W<h.next->1<=n->n<=64->0<=base->base+2*((n:Nat):Int)<=((ws:List Int).length:Int)->base<=60000->∃v h',call 127 [.ptr M 0,.int .i64 base,.int .i64 (n:Int)] h=some (v,h')/\IQ M n base h v h')
 (h72:∀h M W ws n base,dK h M W ws->1<=n->n<=16->0<=base->base+4*n<=((ws:List Int).length:Int)->base<=60000->∃v h',call 128 [.ptr M 0,.int .i64 base,.int .i64 n] h=some (v,h')/\IU M base n h v h')
 {h:H} {M W:Nat} {ws:List Int} (hm:dK h M W ws) (hM:M<h.next) (hW:W<h.next) {c:aj} (hc:mQ c) {base:Int} (b0:0<=base) (b1:base+bD c<=(ws.length:Int)) (b2:base<=60000) {n:Nat} (hn:c.aq=(n:Int)):
 WF P call c60 [.ptr M 0,.int .u8 c.az,.int .i64 base,.int .i64 c.aq,.int .i64 c.buckets] h (Qs M base c n h):=by
 have Ih:=h69 h c hc;obtain⟨hs,hc⟩:=hc;have cr:∀x,ae h ⟨h.next+1,h.t.set h.next x⟩:=fun x=>ae.new h x
 have fin:∀{x h1 y},ae ⟨h.next+1,h.t.set h.next x⟩ h1->ae h ⟨h1.next,h1.t.set h.next y⟩:=fun{x h1 y} s=>⟨by have:=s.next;show h.next<=h1.next;have h2:h.next+1<=h1.next:=this;omega,fun b hb=>by
  have e1:¬b=h.next:=by omega
  have:=s.old b (by show b<h.next+1;omega);simp only[go_sem,seval,e1]at this;simp only[go_sem,seval,e1,this]⟩
 rcases hc with⟨he,hb⟩|⟨he,hb⟩|⟨he,iD,oU⟩
 ·have hN:bD c=(n:Int):=by unfold bD;rw[if_pos he,hn]
  rw[he,hb,hn,hN]at Ih;rw[he,hb,hn];simp only[go_sem,seval,Ih];refine af (h70 _ M W ws n base (hm.step hM hW (cr _)) (by omega) (by omega) b0 (by omega) b2) fun v1 h1 p1=>?_
  obtain⟨bC,G,N,B,rfl,gG,gN,lG,lN,gBg,lBg,YQ,YR,loB,NB⟩:=p1;have eW:h.next+1<=h1.next:=bC.next;have gR:=bC.old h.next (Nat.lt_succ_self _);simp only[go_sem,seval]at gR;simp only[go_sem,seval,gR]
  by_cases hG:G=h.next
  ·rw[hG,gR]at gG;simp at gG
  by_cases AH:N=h.next
  ·rw[AH,gR]at gN;simp at gN
  by_cases hB:B=h.next
  ·rw[hB,gR]at gBg;simp at gBg
  have o1:h.next+1<=G:=YQ;have o2:h.next+1<=N:=YR;have o3:h.next+1<=B:=loB;exact⟨fin bC,h.next,rfl,.full G N B M base 1 (by simp[go_sem]) (by simp[go_sem,hG,gG]) (by simp[go_sem,AH,gN]) (by show h.next<h1.next;omega) lG lN,.full G N B he (by simp only[go_sem,seval];rfl) (by simp[go_sem,hG,gG]) (by simp[go_sem,AH,gN]) (by simp[go_sem,hB,gBg]) (by show h.next<h1.next;omega) lG lN lBg (Nat.le_refl _) (by omega) (by omega) (by omega)⟩
 ·have hN:bD c=2*(n:Int):=by unfold bD;rw[if_neg (by omega),if_pos he,hn]
  rw[he,hb,hn,hN]at Ih;rw[he,hb,hn];simp only[go_sem,seval,Ih];refine af (h71 _ M W ws n base (hm.step hM hW (cr _)) (Nat.lt_succ_of_lt hM) (Nat.lt_succ_of_lt hW) (by omega) (by omega) b0 (by omega) b2) fun v1 h1 p1=>?_
  obtain⟨bC,G,N,fv,F,rfl,gG,gN,lG,lN,efv,gF,lF,YQ,YR,loF⟩:=p1;have eW:h.next+1<=h1.next:=bC.next;have gR:=bC.old h.next (Nat.lt_succ_self _);simp only[go_sem,seval]at gR;simp only[go_sem,seval,gR]
  by_cases hG:G=h.next
  ·rw[hG,gR]at gG;simp at gG
  by_cases AH:N=h.next
  ·rw[AH,gR]at gN;simp at gN
  by_cases hF:F=h.next
  ·rw[hF,gR]at gF;simp[ag]at gF
  have o1:h.next+1<=G:=YQ;have o2:h.next+1<=N:=YR;have o3:h.next+1<=F:=loF;subst efv;exact⟨fin bC,h.next,rfl,.each G N M (.fn (.func 178) [] [.ptr F 0]) 2 (by simp[go_sem]) (by simp[go_sem,hG,gG]) (by simp[go_sem,AH,gN]) (by show h.next<h1.next;omega) lG lN,.each G N F he (by simp only[go_sem,seval];rfl) (by simp[go_sem,hG,gG]) (by simp[go_sem,AH,gN]) (by simp[go_sem,hF,gF]) (by show h.next<h1.next;omega) lG lN lF (Nat.le_refl _) (by omega) (by omega) (by omega)⟩
 ·have hN:bD c=4*c.buckets:=by unfold bD;rw[if_neg (by omega),if_neg (by omega)]
  rw[he,hn,hN]at Ih;rw[he,hn];simp only[go_sem,seval,Ih];refine af (h72 _ M W ws c.buckets base (hm.step hM hW (cr _)) iD oU b0 (by omega) b2) fun v1 h1 p1=>?_
  obtain⟨bC,G,S,rfl,gG,gN,lG,lN,YQ,YR⟩:=p1;have eW:h.next+1<=h1.next:=bC.next;have gR:=bC.old h.next (Nat.lt_succ_self _);simp only[go_sem,seval]at gR;simp only[go_sem,seval,gR]
  by_cases hG:G=h.next
  ·rw[hG,gR]at gG;simp at gG
  by_cases AH:S=h.next
  ·rw[AH,gR]at gN;simp at gN
  have o1:h.next+1<=G:=YQ;have o2:h.next+1<=S:=YR;exact⟨fin bC,h.next,rfl,.gate G S M base c.buckets 3 (by simp[go_sem]) (by simp[go_sem,hG,gG]) (by simp[go_sem,AH,gN]) (by show h.next<h1.next;omega) lG lN,.gate G S he ⟨iD,oU⟩ (by simp only[go_sem,seval];rfl) (by simp[go_sem,hG,gG]) (by simp[go_sem,AH,gN]) (by show h.next<h1.next;omega) lG lN (Nat.le_refl _) (by omega) (by omega)⟩
end
end Go.Proofs.YtgkjlklfjbljeaaGreat.CQ
