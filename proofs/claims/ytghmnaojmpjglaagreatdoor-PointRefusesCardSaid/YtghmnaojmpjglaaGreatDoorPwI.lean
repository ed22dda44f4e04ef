/-
  What functions of the program compute, one by one. Conditions: those of each theorem.
-/
import Derived.Test.YtghmnaojmpjglaaGreatDoorPwH
set_option linter.all false
namespace Go.Proofs.YtghmnaojmpjglaaGreatDoor.PR
open Go.Proofs.YtghmnaojmpjglaaGreatDoor.Eo
noncomputable section
variable(P:Program)[PT P]{call:CallE}
def c23_l13:CC:=(Qq (Sq [a 19 4,d 20 2 1,i 21 20,A 22 21,qb 23 3 19 22,a 24 23,B 25 24 3,ql 26 24 25,qy 27 24 3 26 4,O 28 24 27] (Cq 28 .skip (.exit 1))) (Qq (.block 2 (Sq [d 31 2 1,i 32 31,a 33 4,E 34 1 32 33,i 35 34,a 5 35] (Sq [a 36 5,z2 37 51 36 0,a 38 37,B 39 38 3,ql 40 38 39,qP 41 38 3 40 0,B 42 38 41,s 43 42 5,s 44 42 3,s 45 42 3,qO 46 42 45,⟨some 47,some (42,false),.p (.bin .sub 3 false true (.t 46) (.c (.int .i64 1)))⟩,⟨some 48,some (42,false),.p (.iadrS 1 (.t 44) (.t 47))⟩,L 49 42 48,zz 50 42 51 43 49,zB 51 38 42 50,O 52 38 51] (Cq 52 (Oq [a 53 3,a 54 5,⟨some 55,none,.n (.buildS 51 1 1 [.int .u64 0] [(0,1,.t 54)])⟩,qj 56 51 1 8 53 55,a 3 56]) .skip)))) (Oq [a 29 4,C 30 3 29 1,a 4 30])))
@[go_sem]def c23:CF:=⟨1,(Sq [w 1 24 0,jw 2 24 0 0] (Qq (Sq [d 6 0 1,i 7 6,⟨some 8,none,.p (.bin .rem 5 false true (.t 7) (.c (.int .u8 3)))⟩] (.block 0 (Sq [J 10 5 8 0,a 9 10] (Kq 9 [jx 11 0 0 0 1 1,t 3 2 11] (Sq [J 13 5 8 1,a 12 13] (Kq 12 [d 14 1 1,i 15 14,qT 16 7 15 5,zF 17 3 1 16,jy 18 0 0 0 1 2 1 1 17,t 3 2 18] .skip)))))) (Sq [D 3] (Qq (Sq [b 4 0] (.block 1 (.loop c23_l13))) (Qq (Sq [a 57 3,A 58 57,U 59 3 58 0] (Kq 59 [jx 60 0 0 0 1 1,t 3 2 60] .skip)) (Rq [a 61 3,jy 62 0 0 0 1 3 2 1 61,t 3 2 62])))))),[(.cell 2 (some 3))]⟩
def lastA(a:Int)(l:List Int):Int:=(l.getLast?).getD a
theorem asc_app:∀(l:List Int) (a x:Int),ascB a l=true->lastA a l<x->ascB a (l++[x])=true
 | [],a,x,_,h=>by
   unfold lastA at h
   show(if x<=a then false else ascB x [])=true
   rw[if_neg (by simp at h;omega)]
   rfl
 |y::l,a,x,h,hx=>by
  show(if y<=a then false else ascB y (l++[x]))=true
  have h':(if y<=a then false else ascB y l)=true:=h
  by_cases c:y<=a
  ·rw[if_pos c]at h';cases h'
  ·rw[if_neg c]at h'⊢
   refine asc_app l y x h' ?_
   unfold lastA at hx⊢
   cases l with
   |nil=>simpa using hx
   |cons z l=>
    rw[List.getLast?_cons_cons]at hx
    cases hq:(z::l).getLast? with
    |none=>simp at hq
    |some w=>rw[hq]at hx;exact hx
theorem app_u{HH:H}{lv:AV}{len:Nat}{cs src:List AV}{K:AV×H->Prop}(o:Own 1 51 HH lv len cs)(hs:src.length=1)(hl:len<=1000000)
 (hK:∀X:H,X.next=HH.next+1->Own 1 51 X (.sl HH.next 0 (len+1) 1 none) (len+1) (cs++src)->(∀b,b<HH.next->own lv≠some b->X.t.get b=HH.t.get b)->K (.sl HH.next 0 (len+1) 1 none,X)):@optI _ (appA HH 51 1 8 lv 1 src) ⟨K⟩:=
 opt_some (appA_own o (by decide) (by decide) (by omega) (by omega)) (hK _ rfl (own_app o (by decide) hs) fun b hb hn=>app_get hb hn)
def I23(h0:H)(D:Nat)(kd n v:AV)(l:List Int)(k:Nat)(tm:T AV)(h:H):Prop:=
 tm.get 1=some (.ptr D 0)∧tm.get 2=some (.ptr (D+1) 0)∧StepN h0 h∧∃(i:Nat) (cv:AV) (xs:List Int),i+k=l.length∧tm.get 4=some (.int .i64 (i:Int))∧tm.get 3=some cv∧Own 1 51 h cv xs.length (uL xs)∧(∀b,own cv=some b->h0.next<=b)∧xs.length<=4∧ascB 0 xs=true∧∀x∈xs,inU x
def R23(h0:H)(D:Nat)(tm:T AV)(h:H):Prop:=tm.get 2=some (.ptr (D+1) 0)∧StepN h0 h∧∃(cv:AV) (xs:List Int),tm.get 3=some cv∧Own 1 51 h cv xs.length (uL xs)∧(∀b,own cv=some b->h0.next<=b)∧xs.length<=4∧ascB 0 xs=true∧∀x∈xs,inU x
theorem step23{h0:H}{D:Nat}{kd n v:AV}{l:List Int}(lD:D+1<h0.next)(gD:h0.t.get D=some (.row (putList 0 [kd,n,v] T.e) 3 24))(hv:RdL none 1 h0 v (uL l))(hlv:∀a,own v=some a->a<h0.next)(hl:l.length<=140737488351232)(hin:∀x∈l,inU x)(k:Nat)(tm:T AV)(h:H)(hI:I23 h0 D kd n v l k tm h):
 WC P call c23_l13 (loopQ 1 (fun tm h=>∃j,j<k∧I23 h0 D kd n v l j tm h) (R23 h0 D) (fun _ _=>False)) tm h:=by
 obtain⟨t1,t2,st,i,cv,xs,hik,t4,t3,o,lo,x4,asc,ix⟩:=hI
 have g:=(st.old D (by omega)).trans gD
 have hv1:=hv.keep fun b hb=>st.old b (hlv b hb)
 have hla:=hv1.lenA
 rw[uL_len]at hla
 have hlc:=o.lenA
 cases k with
 |zero=>
  have e1:¬(i:Int)<(l.length:Int):=by omega
  simp only[go_sem,seval,c23_l13,t1,t3,t4,g,hla,e1]
  exact⟨by simp[go_sem,t2],st,cv,xs,by simp[go_sem,t3],o,lo,x4,asc,ix⟩
 |succ k=>
  have e1:(i:Int)<(l.length:Int):=by omega
  by_cases e2:(xs.length:Int)<4
  ·have f1:fw .i64 ((i:Int)+1)=(i:Int)+1:=fwI (by omega) (by omega)
   have e3:((i+1:Nat):Int)=(i:Int)+1:=rfl
   obtain⟨x,hx⟩:∃x,l[i]?=some x:=⟨_,List.getElem?_eq_getElem (by omega)⟩
   have ixx:=hin x (List.mem_of_getElem? hx)
   obtain⟨a,of,cap,hve,gx⟩:=rd_get hv1 hx
   subst hve
   rw[rLdA]at gx
   have skip:∀tm':T AV,tm'.get 1=some (.ptr D 0)->tm'.get 2=some (.ptr (D+1) 0)->tm'.get 4=some (.int .i64 ((i:Int)+1))->tm'.get 3=some cv->∃j,j<k+1∧I23 h0 D kd n (.sl a of l.length 1 cap) l j tm' h:=fun tm' a1 a2 a4 a3=>⟨k,Nat.lt_succ_self k,a1,a2,st,i+1,cv,xs,by omega,by rw[a4];rfl,a3,o,lo,x4,asc,ix⟩
   have take:∀X:H,X.next=h.next+1+1->Own 1 51 X (.sl (h.next+1) 0 (xs.length+1) 1 none) (xs.length+1) (uL xs++[.int .u64 x])->(∀b,b<h.next+1->own cv≠some b->X.t.get b=(h.t.set h.next (.row (putList 0 [.int .u64 x] T.e) 1 51)).get b)->lastA 0 xs<x->∀tm':T AV,tm'.get 1=some (.ptr D 0)->tm'.get 2=some (.ptr (D+1) 0)->tm'.get 4=some (.int .i64 ((i:Int)+1))->tm'.get 3=some (.sl (h.next+1) 0 (xs.length+1) 1 none)->∃j,j<k+1∧I23 h0 D kd n (.sl a of l.length 1 cap) l j tm' X:=fun X nX oX kX lx tm' a1 a2 a4 a3=>by
        have eu:uL (xs++[x])=uL xs++[.int .u64 x]:=by unfold uL;rw[List.map_append];rfl
        have sn:=st.next
        refine⟨k,Nat.lt_succ_self k,a1,a2,⟨by omega,fun b hb=>?_⟩,i+1,_,xs++[x],by omega,by rw[a4];rfl,a3,by rw[eu,List.length_append];exact oX,fun b hb=>?_,by rw[List.length_append];show xs.length+1<=4;omega,asc_app xs 0 x asc lx,fun y hy=>?_⟩
        ·have q:¬b=h.next:=by omega
         rw[kX b (by omega) fun e=>by have:=lo b e;omega]
         simp only[go_sem,seval,q]
         exact st.old b hb
        ·have:h.next+1=b:=Option.some.inj hb
         omega
        ·rcases List.mem_append.1 hy with hy|hy
         ·exact ix y hy
         ·rw[List.mem_singleton.1 hy];exact ixx
   by_cases c0:0<x
   ·have ovc:=o.one
    by_cases z:xs.length=0
    ·have zx:xs=[]:=List.length_eq_zero_iff.1 z
     subst zx
     have lc:lenA cv=some (.int .i64 0):=by rw[hlc];rfl
     simp only[go_sem,seval,c23_l13,t1,t2,t3,t4,g,e1,lc,gx,Nat.mul_one,c0,f1]
     refine app_u (HH:=⟨h.next+1,h.t.set h.next (.row (putList 0 [.int .u64 x] T.e) 1 51)⟩) (o.keep (Nat.le_succ _) fun b hb=>by have:=o.lt hb;have q:¬b=h.next:=(by omega);simp only[go_sem,seval,q]) rfl (by decide) fun X nX oX kX=>?_
     simp only[go_sem,seval,t4,f1,t2]
     exact take X nX oX kX c0 _ (by simp[go_sem,t1]) (by simp[go_sem,t2]) (by simp[go_sem]) (by simp[go_sem])
    ·obtain⟨y,hy⟩:∃y,xs[xs.length-1]?=some y:=⟨_,List.getElem?_eq_getElem (by omega)⟩
     have hyl:lastA 0 xs=y:=by unfold lastA;rw[List.getLast?_eq_getElem?,hy];rfl
     have uy:=uL_get hy
     have z0:¬(xs.length:Int)=0:=by omega
     have f5:fw .i64 ((xs.length:Int) -1)=((xs.length-1:Nat):Int):=by rw[fwI (by omega) (by omega)];omega
     have e5:((xs.length-1:Nat):Int)<(xs.length:Int):=by omega
     have o':=o
     generalize hn':xs.length=m at*
     generalize hcs:uL xs=cs at*
     cases o with
     |nil=>omega
     |sl b len cs cap' hc0 hp hcl hb hg=>
      have B1:¬b=h.next:=by omega
      by_cases c1:y<x
      ·simp only[go_sem,seval,c23_l13,t1,t2,t3,t4,g,e1,e2,gx,Nat.mul_one,c0,f1,z0,f5,e5,hg,uy,c1]
       refine app_u (HH:=⟨h.next+1,h.t.set h.next (.row (putList 0 [.int .u64 x] T.e) 1 51)⟩) (o'.keep (Nat.le_succ _) fun b hb=>by have:=o'.lt hb;have q:¬b=h.next:=(by omega);simp only[go_sem,seval,q]) rfl (by omega) fun X nX oX kX=>?_
       simp only[go_sem,seval,t4,f1,t2]
       exact take X nX oX kX (by rw[hyl];exact c1) _ (by simp[go_sem,t1]) (by simp[go_sem,t2]) (by simp[go_sem]) (by simp[go_sem])
      ·simp only[go_sem,seval,c23_l13,t1,t2,t3,t4,g,e1,e2,gx,Nat.mul_one,c0,f1,z0,f5,e5,hg,uy,c1]
       exact skip _ (by simp[go_sem,t1]) (by simp[go_sem,t2]) (by simp[go_sem]) (by simp[go_sem,t3])
   ·simp only[go_sem,seval,c23_l13,t1,t2,t3,t4,g,hla,e1,hlc,e2,gx,Nat.mul_one,c0,f1]
    exact skip _ (by simp[go_sem,t1]) (by simp[go_sem,t2]) (by simp[go_sem]) (by simp[go_sem,t3])
  ·simp only[go_sem,seval,c23_l13,t1,t3,t4,g,hla,e1,hlc,e2]
   exact⟨by simp[go_sem,t2],st,cv,xs,by simp[go_sem,t3],o,lo,x4,asc,ix⟩
def Post23(h:H)(r:AV)(h':H):Prop:=StepN h h'∧∃(k n:Int) (v:AV) (l:List Int),r=.agg [.int .u8 k,.int .i64 n,v]∧domB k n l∧RdL none 1 h' v (uL l)∧(∀a,own v=some a->h.next<=a∧a<h'.next)∧∀x∈l,inU x
theorem w23(h7:F7 call){h:H}{kd n:Int}{v:AV}{l:List Int}(k0:0<=kd)(hv:RdL none 1 h v (uL l))(hlv:∀a,own v=some a->a<h.next)(hl:l.length<=140737488351232)(hin:∀x∈l,inU x):WF P call c23 [.agg [.int .u8 kd,.int .i64 n,v]] h (Post23 h):=by
 have ov:=hv.one
 have m1:¬h.next=h.next+1:=by omega
 have m2:¬h.next+1=h.next:=by omega
 have st0:∀x y,StepN h ⟨h.next+2,(h.t.set h.next x).set (h.next+1) y⟩:=fun x y=>⟨Nat.le_add_right _ _,fun b hb=>by
  have e1:¬b=h.next:=by omega
  have e2:¬b=h.next+1:=by omega
  simp only[go_sem,seval,e1,e2]⟩
 have r0:0<=Int.tmod kd 3:=Int.tmod_nonneg _ k0
 have r1:Int.tmod kd 3<3:=Int.tmod_lt_of_pos kd (by omega)
 have nn:RdL none 1 h .nils (uL []):=.inl ⟨rfl,rfl⟩
 by_cases c0:Int.tmod kd 3=0
 ·simp only[go_sem,seval,ov,m1,m2,c0]
  exact⟨st0 _ _,1,0,.nils,[],rfl,.inl ⟨rfl,rfl,rfl⟩,.inl ⟨rfl,rfl⟩,fun a ha=>(by cases ha),fun x hx=>by cases hx⟩
 ·by_cases c1:Int.tmod kd 3=1
  ·have k7:=fun h=>h7 h n 5 (by omega) (by omega)
   have b7:=modN_bd n (n:=5) (by omega)
   have f1:fw .i64 (1+modN n 5)=1+modN n 5:=fwI (by omega) (by omega)
   simp only[go_sem,seval,ov,m1,m2,c0,c1,k7,f1]
   exact⟨st0 _ _,2,_,.nils,[],rfl,.inr (.inl ⟨rfl,by omega,rfl⟩),.inl ⟨rfl,rfl⟩,fun a ha=>(by cases ha),fun x hx=>by cases hx⟩
  ·simp only[go_sem,seval,ov,m1,m2,c0,c1]
   refine loop_in (I23 _ h.next (.int .u8 kd) (.int .i64 n) v l) _ _ (fun k tm h' hI=>step23 P (h0:=⟨h.next+2,(h.t.set h.next (.row (putList 0 [.int .u8 kd,.int .i64 n,v] T.e) 3 24)).set (h.next+1) (.row (putList 0 [.int .u8 0,.int .i64 0,.nils] T.e) 3 24)⟩) (by show h.next+1<h.next+2;omega) (by simp[go_sem,m1]) (hv.keep fun b hb=>(st0 _ _).old b (hlv b hb)) (fun a ha=>by have:=hlv a ha;show a<h.next+2;omega) hl hin k tm h' hI) (fun tm2 h2 hR=>?_) (fun _ _ hh=>hh.elim) l.length _ _
        ⟨by simp[go_sem],by simp[go_sem],StepN.refl _,0,.nils,[],by omega,by simp[go_sem],by simp[go_sem],.nil,fun b hb=>(by cases hb),by decide,rfl,fun x hx=>by cases hx⟩
   obtain⟨t2,st,cv,xs,t3,o,lo,x4,asc,ix⟩:=hR
   have g1:=st.old (h.next+1) (by show h.next+1<h.next+2;omega)
   simp only[go_sem,seval]at g1
   have hlc:=o.lenA
   have ovc:=o.one
   have fin:∀x,StepN h ⟨h2.next,h2.t.set (h.next+1) x⟩:=fun x=>⟨by have:=st.next;show h.next<=h2.next;simp only at this;omega,fun b hb=>by
        have e1:¬b=h.next+1:=by omega
        simp only[go_sem,seval,e1]
        exact((st0 _ _).trans st).old b hb⟩
   by_cases z:xs.length=0
   ·have zx:xs=[]:=List.length_eq_zero_iff.1 z
    subst zx
    have lc:lenA cv=some (.int .i64 0):=by rw[hlc];rfl
    simp only[go_sem,seval,t2,t3,lc,g1]
    exact⟨fin _,1,0,.nils,[],rfl,.inl ⟨rfl,rfl,rfl⟩,.inl ⟨rfl,rfl⟩,fun a ha=>(by cases ha),fun x hx=>by cases hx⟩
   ·have z0:¬(xs.length:Int)=0:=by omega
    simp only[go_sem,seval,t2,t3,hlc,z0,g1,ovc]
    refine⟨fin _,3,0,cv,xs,rfl,.inr (.inr ⟨rfl,rfl,by omega,by omega,asc⟩),(Own.rdl1 o (by omega)).keep fun b hb=>?_,fun a ha=>⟨by have h1:h.next+2<=a:=lo a ha;omega,o.lt ha⟩,ix⟩
    have h1:h.next+2<=b:=lo b hb
    have e1:¬b=h.next+1:=by omega
    simp only[go_sem,seval,e1]
def F23(call:CallE):Prop:=∀h (kd n:Int) v l,0<=kd->RdL none 1 h v (uL l)->(∀a,own v=some a->a<h.next)->l.length<=140737488351232->(∀x∈l,inU x)->Does call 23 [.agg [.int .u8 kd,.int .i64 n,v]] h (Post23 h)
def c5_l8:CC:=(Qq (Sq [a 40 4,K 41 3 40 6] (Cq 41 .skip (.exit 0))) (Qq (.block 1 (Oq [a 44 4,a 45 4,d 46 7 1,qs 47 6 1 46 45,i 48 47,qT 49 7 48 7,d 50 7 3,qs 51 6 1 50 44,t 1 51 49])) (Oq [a 42 4,C 43 3 42 1,a 4 43])))
@[go_sem]def c5:CF:=⟨1,(Sq [w 1 27 0,q5 2 27 0 0 0 0 0 0 0 0 0 0 0 0 0 0 0] (Qq (.drw ⟨[([S 0 1 0,k 1 5 0,S 4 1 1,k 5 9 4,S 8 1 2,k 9 13 8,⟨10,[(14,some 9)],none,.p (.bin .rem 5 false true (.t 14) (.c (.int .u8 3)))⟩,⟨11,[(15,some 10)],none,.p (.bin .add 5 true false (.c (.int .u8 1)) (.t 15))⟩,S 12 1 4,qD 13 17 12 3,S 15 1 13,k 16 20 15,S 19 1 14,k 20 24 19,S 23 1 15,k 24 28 23,⟨27,[],none,.n (.new 27 [iz,iz,bz,iz,bz,iz,.nils,iz,iz,iz,iz,iz,iz,iz,iz,iz])⟩],some (qW 2 6 1 7 6)),([qR 3 7 2 3 1],some (qW 6 10 5 7 5)),([qR 7 11 6 3 1],some (qg 14 18 13 23)),([],some (qW 17 21 16 7 4)),([qR 18 22 17 3 1],some (qW 21 25 20 7 6)),([qR 22 26 21 3 1],some (qW 25 29 24 7 4)),([⟨26,[(8,some 3),(12,some 7),(16,some 11),(19,some 14),(23,some 18),(27,some 22),(30,some 25)],none,.p (.build [iz,iz,bz,iz,bz,iz,.nils,iz,iz,iz,iz,iz,iz,iz,iz,iz] [(0,1,.t 8),(1,1,.t 12),(2,1,.t 16),(4,3,.t 19),(13,1,.t 23),(14,1,.t 27),(15,1,.t 30)])⟩],some (R 28 3 27 31 26 16)),([],none)],[(0,5),(1,6),(2,7),(3,8),(4,9),(5,10),(6,11),(7,12),(8,13),(9,14),(10,15),(11,16),(12,17),(13,18),(14,19),(15,20),(16,21),(17,22),(18,23),(19,24),(20,25),(21,26),(22,27),(23,28),(24,29),(25,30),(26,31),(27,3)],[(⟨1,[(5,(some 0))],none,.r (.ld none (.t 5))⟩,[0]),(⟨5,[(9,(some 4))],none,.r (.ld none (.t 9))⟩,[0,1]),(⟨9,[(13,(some 8))],none,.r (.ld none (.t 13))⟩,[0,1,2,3,4,5,6]),(⟨13,[(17,(some 12))],none,.r (.ld (some 3) (.t 17))⟩,[0,1,2]),(⟨16,[(20,(some 15))],none,.r (.ld none (.t 20))⟩,[0,1,2,3]),(⟨20,[(24,(some 19))],none,.r (.ld none (.t 24))⟩,[0,1,2,3,4]),(⟨24,[(28,(some 23))],none,.r (.ld none (.t 28))⟩,[0,1,2,3,4,5])]⟩) (Qq (Sq [d 32 2 3,i 33 32,J 34 5 33 3] (Cq 34 (Oq [d 35 3 1,i 36 35,qT 37 7 36 4,zF 38 3 1 37,d 39 3 3,t 1 39 38]) .skip)) (Qq (Sq [b 4 0] (.block 0 (.loop c5_l8))) (Rq [V 52 16 3,t 16 2 52]))))),[(.cell 2 (some 16))]⟩
def Post5(h:H)(r:AV)(h':H):Prop:=StepN h h'∧∃c v,r=.agg (cfgC c v)∧RdL none 1 h' v (uL c.cuts)∧(∀a,own v=some a->a<h'.next)∧(∀x∈c.cuts,inU x)∧layB c∧(hsL c).length<=60∧c.slots<=5
theorem htS_len:∀(ts:List Int) (i:Int),(∀t∈ts,0<=t∧t<7)->(htL i ts).length<=7*ts.length
 | [],i,h=>by simp[htL]
 |t::l,i,h=>by
  have h1:=h t List.mem_cons_self
  have h2:=htS_len l (i+1) fun x hx=>h x (List.mem_cons_of_mem _ hx)
  unfold htL
  rw[List.length_append,List.length_replicate,List.length_cons]
  omega
def out5(ts:List Int)(cs:List AV):Nat->List AV
 |0=>cs
 |i+1=>(out5 ts cs i).set (7+i) (.int .i64 (modN ((ts[i]?).getD 0) 7))
theorem out5_len(ts:List Int)(cs:List AV):∀i,(out5 ts cs i).length=cs.length
 |0=>rfl
 |i+1=>by unfold out5;rw[List.length_set];exact out5_len ts cs i
def I5(h2:H)(D:Nat)(ts:List Int)(cs:List AV)(k:Nat)(tm:T AV)(h:H):Prop:=
 tm.get 1=some (.ptr D 0)∧tm.get 2=some (.ptr (D+1) 0)∧tm.get 3=some (.ptr (D+2) 0)∧∃i,i+k=6∧tm.get 4=some (.int .i64 ((i:Nat):Int))∧h=⟨h2.next,h2.t.set (D+2) (.row (putList 0 (out5 ts cs i) T.e) 16 27)⟩
def R5(h2:H)(D:Nat)(ts:List Int)(cs:List AV)(tm:T AV)(h:H):Prop:=tm.get 2=some (.ptr (D+1) 0)∧tm.get 3=some (.ptr (D+2) 0)∧h=⟨h2.next,h2.t.set (D+2) (.row (putList 0 (out5 ts cs 6) T.e) 16 27)⟩
theorem step5(h7:F7 call){h2:H}{D:Nat}{c:CfgT}{v:AV}{cs:List AV}(gD:h2.t.get D=some (.row (putList 0 (cfgC c v) T.e) 16 27))(hc:cs.length=16)(k:Nat)(tm:T AV)(h:H)(hI:I5 h2 D (twL c) cs k tm h):
 WC P call c5_l8 (loopQ 0 (fun tm h=>∃j,j<k∧I5 h2 D (twL c) cs j tm h) (R5 h2 D (twL c) cs) (fun _ _=>False)) tm h:=by
 obtain⟨t1,t2,t3,i,hik,t4,rfl⟩:=hI
 cases k with
 |zero=>
  obtain rfl:i=6:=by omega
  simp only[go_sem,seval,c5_l8,t4]
  exact⟨by simp[go_sem,t2],by simp[go_sem,t3],rfl⟩
 |succ k=>
  have e1:(i:Int)<6:=by omega
  have f1:fw .i64 ((i:Int)+1)=(i:Int)+1:=fwI (by omega) (by omega)
  have e3:((i+1:Nat):Int)=(i:Int)+1:=rfl
  have x1:¬D=D+2:=by omega
  have hl:(twL c).length=6:=rfl
  obtain⟨x,hx⟩:∃x,(twL c)[i]?=some x:=⟨_,List.getElem?_eq_getElem (by omega)⟩
  have hcell:(cfgC c v)[7+i]?=some (.int .i64 x):=by
   have hi:i<6:=by omega
   unfold twL at hx
   unfold cfgC
   match i,hi with
   |0,_|1,_|2,_|3,_|4,_|5,_=>simp at hx;subst hx;rfl
  have k7:=fun h=>h7 h x 7 (by omega) (by omega)
  have ol:=(out5_len (twL c) cs i).trans hc
  have i7:7+i<16:=by omega
  have hi6:i<6:=by omega
  have i8:7+(i+1)<=16:=by omega
  have os:out5 (twL c) cs (i+1)=(out5 (twL c) cs i).set (7+i) (.int .i64 (modN x 7)):=by
   show(out5 (twL c) cs i).set (7+i) (.int .i64 (modN (((twL c)[i]?).getD 0) 7))=_
   rw[hx];rfl
  simp only[go_sem,seval,c5_l8,t1,t2,t3,t4,e1,gD,x1,hcell,k7,ol,i7,i8,hi6,Nat.mul_one,f1]
  exact⟨k,Nat.lt_succ_self k,by simp[go_sem,t1],by simp[go_sem,t2],by simp[go_sem,t3],i+1,by omega,by simp[go_sem,e3],by rw[os]⟩
theorem out5_eq(c:CfgT)(a0 a1 a2 a3 a4 a5 a6 b0 b1 b2:AV):out5 (twL c) [a0,a1,a2,a3,a4,a5,a6,.int .i64 0,.int .i64 0,.int .i64 0,.int .i64 0,.int .i64 0,.int .i64 0,b0,b1,b2] 6=[a0,a1,a2,a3,a4,a5,a6,.int .i64 (modN c.t0 7),.int .i64 (modN c.t1 7),.int .i64 (modN c.t2 7),.int .i64 (modN c.t3 7),.int .i64 (modN c.t4 7),.int .i64 (modN c.t5 7),b0,b1,b2]:=rfl
theorem small_ok(c:CfgT){k n e bk:Int}{l:List Int}(hd:domB k n l)(e1:1<=e)(e2:e<=3)(hb:(e=3->1<=bk∧bk<=16)∧(e≠3->bk=0))(s:CfgT)(hs:s=⟨1+modN c.threads 6,1+modN c.slots 5,e,bk,k,n,l,modN c.t0 7,modN c.t1 7,modN c.t2 7,modN c.t3 7,modN c.t4 7,modN c.t5 7,1+modN c.locks 4,1+modN c.tries 6,modN c.batch 4⟩):layB s∧(hsL s).length<=60∧s.slots<=5:=by
 subst hs
 have b7:=fun i=>modN_bd i (n:=7) (by omega)
 have b6:=fun i=>modN_bd i (n:=6) (by omega)
 have b5:=fun i=>modN_bd i (n:=5) (by omega)
 have b4:=fun i=>modN_bd i (n:=4) (by omega)
 have c0:=b7 c.t0
 have c1:=b7 c.t1
 have c2:=b7 c.t2
 have c3:=b7 c.t3
 have c4:=b7 c.t4
 have c5:=b7 c.t5
 have d1:=b6 c.threads
 have d2:=b5 c.slots
 have d3:=b4 c.locks
 have d4:=b6 c.tries
 have d5:=b4 c.batch
 have ht:towB 1024 [modN c.t0 7,modN c.t1 7,modN c.t2 7,modN c.t3 7,modN c.t4 7,modN c.t5 7]:=⟨⟨by omega,by omega⟩,⟨by omega,by omega⟩,⟨by omega,by omega⟩,⟨by omega,by omega⟩,⟨by omega,by omega⟩,⟨by omega,by omega⟩,trivial⟩
 refine⟨⟨ht,⟨by show 1<=1+_;omega,by show 1+_<=64;omega⟩,⟨by show 1<=1+_;omega,by show 1+_<=64;omega⟩,e1,e2,hb.1,hb.2,hd,⟨by show 1<=1+_;omega,by show 1+_<=16;omega⟩,⟨by show 1<=1+_;omega,by show 1+_<=255;omega⟩,d5.1,by show modN _ _<=64;omega⟩,?_,by show 1+_<=5;omega⟩
 unfold hsL
 have:=htS_len (twL ⟨1+modN c.threads 6,1+modN c.slots 5,e,bk,k,n,l,modN c.t0 7,modN c.t1 7,modN c.t2 7,modN c.t3 7,modN c.t4 7,modN c.t5 7,1+modN c.locks 4,1+modN c.tries 6,modN c.batch 4⟩) 0 fun t ht=>by
  unfold twL at ht
  simp only[List.mem_cons,List.not_mem_nil,or_false]at ht
  rcases ht with rfl|rfl|rfl|rfl|rfl|rfl<;>assumption
 have h6:(twL (⟨1+modN c.threads 6,1+modN c.slots 5,e,bk,k,n,l,modN c.t0 7,modN c.t1 7,modN c.t2 7,modN c.t3 7,modN c.t4 7,modN c.t5 7,1+modN c.locks 4,1+modN c.tries 6,modN c.batch 4⟩:CfgT)).length=6:=rfl
 omega
theorem w5(h7:F7 call)(h23:F23 call){h:H}{c:CfgT}{v:AV}(k0:0<=c.kind)(e0:0<=c.engine)(hv:RdL none 1 h v (uL c.cuts))(hlv:∀a,own v=some a->a<h.next)(hl:c.cuts.length<=140737488351232)(hin:∀x∈c.cuts,inU x):WF P call c5 [.agg (cfgC c v)] h (Post5 h):=by
 have ov:=hv.one
 have m1:¬h.next=h.next+1:=by omega
 have m2:¬h.next+1=h.next:=by omega
 have m3:¬h.next=h.next+2:=by omega
 have m4:¬h.next+1=h.next+2:=by omega
 have m5:¬h.next+2=h.next:=by omega
 have m6:¬h.next+2=h.next+1:=by omega
 have st0:∀x y z,StepN h ⟨h.next+3,((h.t.set h.next x).set (h.next+1) y).set (h.next+2) z⟩:=fun x y z=>⟨Nat.le_add_right _ _,fun b hb=>by
  have e1:¬b=h.next:=by omega
  have e2:¬b=h.next+1:=by omega
  have e3:¬b=h.next+2:=by omega
  simp only[go_sem,seval,e1,e2,e3]⟩
 have k6:=fun h i=>h7 h i 6 (by omega) (by omega)
 have k5:=fun h i=>h7 h i 5 (by omega) (by omega)
 have k4:=fun h i=>h7 h i 4 (by omega) (by omega)
 have k7:=fun h i=>h7 h i 7 (by omega) (by omega)
 have b6:=fun i=>modN_bd i (n:=6) (by omega)
 have b5:=fun i=>modN_bd i (n:=5) (by omega)
 have b4:=fun i=>modN_bd i (n:=4) (by omega)
 have f6:∀i,fw .i64 (1+modN i 6)=1+modN i 6:=fun i=>by have:=b6 i;exact fwI (by omega) (by omega)
 have f5:∀i,fw .i64 (1+modN i 5)=1+modN i 5:=fun i=>by have:=b5 i;exact fwI (by omega) (by omega)
 have f4:∀i,fw .i64 (1+modN i 4)=1+modN i 4:=fun i=>by have:=b4 i;exact fwI (by omega) (by omega)
 have r0:0<=Int.tmod c.engine 3:=Int.tmod_nonneg _ e0
 have r1:Int.tmod c.engine 3<3:=Int.tmod_lt_of_pos c.engine (by omega)
 have fe:fw .u8 (1+Int.tmod c.engine 3)=1+Int.tmod c.engine 3:=fwB (by omega) (by omega)
 simp only[go_sem,seval,cfgC,ov,m1,m2,m3,m4,m5,m6,k6,k5,f6,f5,fe]
 refine opt_by (h23 _ c.kind c.n v c.cuts k0 (hv.keep fun b hb=>(st0 _ _ _).old b (hlv b hb)) (fun a ha=>by have:=hlv a ha;show a<h.next+3;omega) hl hin) fun r2 h2 p2=>?_
 obtain⟨st2,k',n',v',l',rfl,hd,rd,lo,ix⟩:=p2
 have g0:=st2.old h.next (by show h.next<h.next+3;omega)
 have g1:=st2.old (h.next+1) (by show h.next+1<h.next+3;omega)
 have g2:=st2.old (h.next+2) (by show h.next+2<h.next+3;omega)
 simp only[go_sem,seval,cfgC,m1,m2,m3,m4,m5,m6]at g0 g1 g2
 have ov2:=rd.one
 have nx2:h.next+3<=h2.next:=st2.next
 simp only[go_sem,seval,g0,g1,g2,cfgC,ov,ov2,nx2,m1,m2,m3,m4,m5,m6,k6,k5,k4,f6,f5,f4,fe]
 have fin:∀x y (r:AV) (s:CfgT),r=.agg (cfgC s v')->layB s->(hsL s).length<=60->s.slots<=5->s.cuts=l'->Post5 h r ⟨h2.next,(h2.t.set (h.next+2) x).set (h.next+1) y⟩:=fun x y r s hr hy hn6 hs5 hc=>by
  have kb:∀b,b≠h.next+1->b≠h.next+2->((h2.t.set (h.next+2) x).set (h.next+1) y).get b=h2.t.get b:=fun b q1 q2=>by simp only[go_sem,seval,q1,q2]
  refine⟨⟨by show h.next<=h2.next;omega,fun b hb=>?_⟩,s,v',hr,by rw[hc];exact rd.keep fun b hb=>kb b (by have h1:h.next+3<=b:=(lo b hb).1;omega) (by have h1:h.next+3<=b:=(lo b hb).1;omega),fun a ha=>(lo a ha).2,by rw[hc];exact ix,hy,hn6,hs5⟩
  rw[show((h2.t.set (h.next+2) x).set (h.next+1) y).get b=h2.t.get b from kb b (by omega) (by omega)]
  exact((st0 _ _ _).trans st2).old b hb
 by_cases c3:1+Int.tmod c.engine 3=3
 ·simp only[go_sem,seval,c3,g0,g1,g2,m1,m2,m3,m4,m5,m6,k4,f4]
  refine loop_in (I5 h2 h.next (twL c) _) _ _ (fun k tm h' hI=>step5 P h7 (v:=v) g0 rfl k tm h' hI) (fun tm2 h3 hR=>?_) (fun _ _ hh=>hh.elim) 6 _ _
   ⟨by simp[go_sem],by simp[go_sem],by simp[go_sem],0,by omega,by simp[go_sem],rfl⟩
  obtain⟨t2,t3,rfl⟩:=hR
  simp only[go_sem,seval,t2,t3,g1,m4,out5_eq,ov2]
  obtain⟨hy,hn6,hs5⟩:=small_ok c (e:=3) (bk:=1+modN c.buckets 4) hd (by omega) (by omega) ⟨fun e=>by have:=b4 c.buckets;omega,fun e=>by omega⟩ _ rfl
  exact fin _ _ _ _ rfl hy hn6 hs5 rfl
 ·simp only[go_sem,seval,c3]
  refine loop_in (I5 h2 h.next (twL c) _) _ _ (fun k tm h' hI=>step5 P h7 (v:=v) g0 rfl k tm h' hI) (fun tm2 h3 hR=>?_) (fun _ _ hh=>hh.elim) 6 _ _
   ⟨by simp[go_sem],by simp[go_sem],by simp[go_sem],0,by omega,by simp[go_sem],rfl⟩
  obtain⟨t2,t3,rfl⟩:=hR
  simp only[go_sem,seval,t2,t3,g1,m4,out5_eq,ov2]
  obtain⟨hy,hn6,hs5⟩:=small_ok c (e:=1+Int.tmod c.engine 3) (bk:=0) hd (by omega) (by omega) ⟨fun e=>by have:=b4 c.buckets;omega,fun e=>by omega⟩ _ rfl
  exact fin _ _ _ _ rfl hy hn6 hs5 rfl
def F5(call:CallE):Prop:=∀h c v,0<=c.kind->0<=c.engine->RdL none 1 h v (uL c.cuts)->(∀a,own v=some a->a<h.next)->c.cuts.length<=140737488351232->(∀x∈c.cuts,inU x)->Does call 5 [.agg (cfgC c v)] h (Post5 h)
def c3_l10:CC:=(Qq (Sq [a 44 12,a 45 1,A 46 45,qb 47 3 44 46,a 48 47,B 49 48 12,B 50 48 11,qS 51 48 3 49 50,O 52 48 51] (Cq 52 .skip (.exit 0))) (Qq (.block 1 (Qq (.drw ⟨[([zE 0 9 2,S 1 9 1,k 2 56 1,n 3 57 2,j 4 58 3 0,k 5 59 4,n 6 60 5,j 7 61 6 16,j 8 62 7 0,k 9 63 8,g 10 12,qz 11 64 9 65 10 3,g 12 1,g 13 12,Q 14 67 12 68 13 1,k 15 69 14],some ⟨16,[(55,some 0),(66,some 11),(70,some 15)],none,.cv (.c (.fn (.func 6) [] [])) [.t 55,.c (.int .i64 0),.t 66,.t 70]⟩),([⟨17,[(71,some 16)],none,.p (.un .not (.t 71))⟩],none)],[(0,55),(1,56),(2,57),(3,58),(4,59),(5,60),(6,61),(7,62),(8,63),(9,64),(10,65),(11,66),(12,67),(13,68),(14,69),(15,70),(16,71),(17,72)],[]⟩) (Kq 72 [G 8] .skip))) (Oq [a 53 12,C 54 3 53 1,a 12 54])))
def c3_l23:CC:=(Qq (Sq [a 115 17,qr 116 57 115,a 117 116,B 118 117 19,qy 119 117 3 118 3,O 120 117 119] (Cq 120 .skip (.exit 4))) (Qq (.block 5 (Sq [a 123 15,q 124 10 123] (Oq [a 125 17,q 126 11 125]))) (Oq [a 121 19,C 122 3 121 1,a 19 122])))
def c3_l25:CC:=(Qq (Sq [a 73 13,a 74 2,A 75 74,qb 76 3 73 75,a 77 76,B 78 77 13,qy 79 77 3 78 5,O 80 77 79] (Cq 80 .skip (.exit 2))) (Qq (.block 3 (Sq [a 83 2,a 84 13,E 85 1 83 84,i 86 85,a 87 11,Z 88 7 86 87,a 14 88] (Sq [d 90 0 9,i 91 90,a 92 14,a 93 14,jz 94 8 91 92 93 0,a 89 94,o 95 89 0,o 96 89 1,a 15 95,a 16 96] (Sq [d 98 1 9,i 99 98,a 100 14,a 101 14,jz 102 9 99 100 101 0,a 97 102,o 103 97 0,o 104 97 1,a 17 103,a 18 104] (Qq (Sq [a 105 16,a 106 18,qK 107 54 105 106,a 108 107,s 109 108 15,qA 110 108 53 109,s 111 108 17,qA 112 108 57 111,jA 113 108 4 110 112,r 114 108 113] (Kq 114 [G 8] .skip)) (Sq [b 19 0] (.block 4 (.loop c3_l23)))))))) (Oq [a 81 13,C 82 3 81 1,a 13 82])))
def c3_l38:CC:=(Qq (Sq [a 127 20,a 128 3,A 129 128,qb 130 3 127 129,a 131 130,B 132 131 20,qy 133 131 3 132 20,O 134 131 133] (Cq 134 .skip (.exit 6))) (Qq (.block 7 (Qq (.drw ⟨[([S 0 9 0,k 1 138 0,g 2 3,g 3 20,Q 4 140 2 141 3 9,j 5 142 4 0,k 6 143 5],some (qW 7 144 6 7 64)),([],some (q1 8 139 1 145 7 12)),([y 9 146 8,N 10 137 9 0,N 11 137 9 1,y 12 147 10,y 13 148 11],none)],[(0,138),(1,139),(2,140),(3,141),(4,142),(5,143),(6,144),(7,145),(8,146),(9,137),(10,147),(11,148),(12,21),(13,22)],[(⟨1,[(138,(some 0))],none,.r (.ld none (.t 138))⟩,[1])]⟩) (Qq (.drw ⟨[([S 0 9 1,k 1 150 0,g 2 3,g 3 20,Q 4 152 2 153 3 9,j 5 154 4 0,k 6 155 5],some (qW 7 156 6 7 64)),([],some (q1 8 151 1 157 7 13)),([y 9 158 8,N 10 149 9 0,N 11 149 9 1,y 12 159 10,y 13 160 11],none)],[(0,150),(1,151),(2,152),(3,153),(4,154),(5,155),(6,156),(7,157),(8,158),(9,149),(10,159),(11,160),(12,23),(13,24)],[(⟨1,[(150,(some 0))],none,.r (.ld none (.t 150))⟩,[1])]⟩) (Qq (Sq [a 161 22,z 162 54 161 0,a 163 162,s 164 163 24,zW 165 163 54 164 0,r 166 163 165] (Kq 166 [G 8] .skip)) (Qq (.drw ⟨[([S 0 9 0,k 1 168 0,g 2 3,g 3 20,Q 4 170 2 171 3 9,j 5 172 4 0,k 6 173 5,g 7 3,g 8 20,Q 9 175 7 176 8 9,j 10 177 9 1,k 11 178 10,g 12 3,g 13 20,Q 14 180 12 181 13 9,j 15 182 14 2,qD 16 183 15 7,g 17 21],some (qZ 18 169 1 174 6 179 11 184 16 185 17 14)),([y 19 186 18,N 20 167 19 0,N 21 167 19 1,y 22 187 20,y 23 188 21],none)],[(0,168),(1,169),(2,170),(3,171),(4,172),(5,173),(6,174),(7,175),(8,176),(9,177),(10,178),(11,179),(12,180),(13,181),(14,182),(15,183),(16,184),(17,185),(18,186),(19,167),(20,187),(21,188),(22,25),(23,22)],[]⟩) (Qq (.drw ⟨[([S 0 9 1,k 1 190 0,g 2 3,g 3 20,Q 4 192 2 193 3 9,j 5 194 4 0,k 6 195 5,g 7 3,g 8 20,Q 9 197 7 198 8 9,j 10 199 9 1,k 11 200 10,g 12 3,g 13 20,Q 14 202 12 203 13 9,j 15 204 14 2,qD 16 205 15 7,g 17 23],some (qZ 18 191 1 196 6 201 11 206 16 207 17 15)),([y 19 208 18,N 20 189 19 0,N 21 189 19 1,y 22 209 20,y 23 210 21],none)],[(0,190),(1,191),(2,192),(3,193),(4,194),(5,195),(6,196),(7,197),(8,198),(9,199),(10,200),(11,201),(12,202),(13,203),(14,204),(15,205),(16,206),(17,207),(18,208),(19,189),(20,209),(21,210),(22,26),(23,24)],[]⟩) (Qq (Sq [a 211 22,a 212 24,qK 213 54 211 212,a 214 213,s 215 214 25,qA 216 214 72 215,s 217 214 26,qA 218 214 75 217,jA 219 214 4 216 218,r 220 214 219,a 221 220,s 222 221 26,⟨some 223,some (221,false),.p (.bin .neq 75 false true (.t 222) (.c .nilp))⟩,s 224 221 223,B 225 224 25,zy 226 224 16 225,B 227 224 26,zy 228 224 17 227,⟨some 229,some (224,true),.p (.bin .neq 5 false false (.t 226) (.t 228))⟩,zC 230 221 224 229,r 231 221 230] (Kq 231 [G 8] .skip)) (Sq [a 232 26,qr 233 75 232] (Cq 233 (.exit 6) .skip))))))))) (Oq [a 135 20,C 136 3 135 1,a 20 136])))
@[go_sem]def c3:CF:=⟨4,(Sq [w 4 27 0,G 8] (Sq [V 28 16 4,q 29 5 28,q 30 4 29,a 27 30,o 31 27 0,o 32 27 1,⟨some 9,none,.n (.new 33 [.nilp,.nilp])⟩,t 2 9 31,a 10 32] (Qq (Sq [a 33 10,qe 34 33] (Kq 34 [G 8] .skip)) (Sq [d 35 1 9,i 36 35,m 37 36,d 38 0 37,i 39 38,m 40 39,d 41 0 40,d 42 1 41,i 43 42,a 11 43] (Qq (Sq [b 12 0] (.block 0 (.loop c3_l10))) (Qq (Sq [b 13 0] (.block 2 (.loop c3_l25))) (Qq (Sq [b 20 0] (.block 6 (.loop c3_l38))) (Rq [V 234 2 9,q 235 18 234,a 236 235,⟨some 237,some (236,true),.cv (.c (.fn (.func 19) [] [])) []⟩,O 238 236 237,a 8 238])))))))),[.tmp 8]⟩
structure ArgT where
 t:Int
 s:Int
 kd:Int
 k:Int
 o1:Int
 o2:Int
 o3:Int
 o4:Int
 o5:Int
def ArgR(h:H)(v:AV)(l:List ArgT):Prop:=(v=.nils∧l=[])∨∃a o cap,v=.sl a o l.length 9 cap∧a<h.next∧∀(i:Nat) x,l[i]?=some x->ldA h.t.get none a (o+i*9)=some (.int .i64 x.t)∧ldA h.t.get none a (o+(i*9+1))=some (.int .i64 x.s)∧ldA h.t.get (some 7) a (o+(i*9+2))=some (opV x.kd x.k x.o1 x.o2 x.o3 x.o4 x.o5)
theorem ArgR.len{h:H}{v:AV}{l:List ArgT}(r:ArgR h v l):lenA v=some (.int .i64 (l.length:Int)):=by
 rcases r with⟨rfl,rfl⟩|⟨a,o,cap,rfl,_⟩<;>rfl
theorem ArgR.step{h h':H}{v:AV}{l:List ArgT}(r:ArgR h v l)(s:StepN h h'):ArgR h' v l:=by
 rcases r with h1|⟨a,o,cap,rfl,la,g⟩
 ·exact .inl h1
 ·have e:∀k n,ldA h'.t.get k a n=ldA h.t.get k a n:=fun k n=>by unfold ldA;rw[s.old a la]
  exact .inr ⟨a,o,cap,rfl,Nat.lt_of_lt_of_le la s.next,fun i x hx=>by rw[e,e,e];exact g i x hx⟩
structure Giv(g:H)(ow se ar:AV)(owl sel:List Int)(arl:List ArgT):Prop where
 ro:RdL none 1 g ow (uL owl)
 bo:∀a,own ow=some a->a<g.next
 rs:RdL none 1 g se (iL sel)
 bs:∀a,own se=some a->a<g.next
 ra:ArgR g ar arl
 lo:owl.length<=140737488351232
 ls:sel.length<=140737488351232
 la:arl.length<=140737488351232
 key:∀x∈arl,0<=x.k
theorem Giv.step{g h:H}{ow se ar:AV}{owl sel:List Int}{arl:List ArgT}(x:Giv g ow se ar owl sel arl)(s:StepN g h):Giv h ow se ar owl sel arl:=
 ⟨x.ro.keep fun b hb=>s.old b (x.bo b hb),fun a ha=>Nat.lt_of_lt_of_le (x.bo a ha) s.next,x.rs.keep fun b hb=>s.old b (x.bs b hb),fun a ha=>Nat.lt_of_lt_of_le (x.bs a ha) s.next,x.ra.step s,x.lo,x.ls,x.la,x.key⟩
structure LI(g hL:H)(T9 A B:Nat)(c:CfgT)(n m:Nat)(nu:List Int)(ow se ar:AV)(tm:T AV)(h:H):Prop where
 t1:tm.get 1=some ow
 t2:tm.get 2=some se
 t3:tm.get 3=some ar
 t9:tm.get 9=some (.ptr T9 0)
 t11:tm.get 11=some (.int .i64 (n:Int))
 g9:h.t.get T9=some (.row (putList 0 [.ptr A 0,.ptr B 0] T.e) 2 33)
 tw:TwoS hL h (fun x=>x=T9) A B c n m nu
 gl:StepN g hL
theorem TwoS.rows{hL h:H}{P:Nat->Prop}{A B:Nat}{c:CfgT}{n m:Nat}{nu:List Int}(t:TwoS hL h P A B c n m nu):∃L rest cv hv wv,h.t.get B=some (rowL (.ptr L 0::rest) 49)∧h.t.get L=some (rowL (cfgC c cv++(plC (plOf c)++[hv,wv])) 41):=by
 obtain⟨a,ek,lv,ev,b,z,rk,lv2,ev2,ws,l,es,ea,rfl,t⟩:=t
 exact⟨_,_,_,_,_,t.B.sb.gB,t.B.st.gL⟩
theorem TwoS.nn{hL h:H}{P:Nat->Prop}{A B:Nat}{c:CfgT}{n m:Nat}{nu:List Int}(t:TwoS hL h P A B c n m nu):n<=64∧nu.length=n∧∀(i:Nat) (x:Int),nu[i]?=some x->x=0∨x=1:=by
 obtain⟨a,ek,lv,ev,b,z,rk,lv2,ev2,ws,l,es,ea,eb,t⟩:=t
 exact⟨t.n64,t.A.en.len,t.nu01⟩
theorem TwoS.mono{hL h:H}{P:Nat->Prop}{A B:Nat}{c:CfgT}{n m m':Nat}{nu:List Int}(t:TwoS hL h P A B c n m nu)(hm:m<=m'):TwoS hL h P A B c n m' nu:=by
 obtain⟨a,ek,lv,ev,b,z,rk,lv2,ev2,ws,l,es,ea,eb,t⟩:=t
 exact⟨a,ek,lv,ev,b,z,rk,lv2,ev2,ws,l,es,ea,eb,t.A,t.B,t.d,t.p,t.w.mono hm,t.n64,t.nu01,t.lP⟩
def I10(g hL:H)(T9 A B:Nat)(c:CfgT)(n:Nat)(nu:List Int)(ow se ar:AV)(N:Nat)(k:Nat)(tm:T AV)(h:H):Prop:=∃i:Nat,i+k=N∧tm.get 12=some (.int .i64 (i:Int))∧LI g hL T9 A B c n i nu ow se ar tm h
theorem step10(h6:F6 call){g hL:H}{T9 A B:Nat}{c:CfgT}{n:Nat}{nu:List Int}{ow se ar:AV}{owl sel:List Int}{arl:List ArgT}(gv:Giv g ow se ar owl sel arl)(hn:n<=5)(k:Nat)(tm:T AV)(h:H)(hI:I10 g hL T9 A B c n nu ow se ar (min owl.length n) k tm h):
 WC P call c3_l10 (loopQ 0 (fun tm h=>∃j,j<k∧I10 g hL T9 A B c n nu ow se ar (min owl.length n) j tm h) (fun tm h=>∃m,m<=5∧LI g hL T9 A B c n m nu ow se ar tm h) (fun _ _=>False)) tm h:=by
 obtain⟨i,hik,t12,li⟩:=hI
 have gh:=gv.step (li.gl.trans li.tw.fz)
 have t1:=li.t1
 have t9:=li.t9
 have t11:=li.t11
 have g9:=li.g9
 have hla:=gh.ro.lenA
 rw[uL_len]at hla
 have fin:∀tm':T AV,tm'.get 1=some ow->tm'.get 2=some se->tm'.get 3=some ar->tm'.get 9=some (.ptr T9 0)->tm'.get 11=some (.int .i64 (n:Int))->∃m,m<=5∧LI g hL T9 A B c n m nu ow se ar tm' h:=fun tm' a1 a2 a3 a9 a11=>⟨i,by omega,a1,a2,a3,a9,a11,li.g9,li.tw,li.gl⟩
 by_cases e1:(i:Int)<(owl.length:Int)
 ·by_cases e2:(i:Int)<(n:Int)
  ·obtain⟨k,rfl⟩:∃k',k=k'+1:=⟨k-1,by omega⟩
   obtain⟨x,hx⟩:∃x,owl[i]?=some x:=⟨_,List.getElem?_eq_getElem (by omega)⟩
   obtain⟨a,o,cap,he,gx⟩:=rd_get gh.ro hx
   rw[rLdA]at gx
   obtain⟨L,rest,cv,hv,wv,gB,gL⟩:=li.tw.rows
   have ho:(plOf c).ow=0:=rfl
   have f0:fw .i64 (i:Int)=(i:Int):=fwI (by omega) (by omega)
   have f1:fw .i64 ((i:Int)+1)=(i:Int)+1:=fwI (by omega) (by omega)
   have e3:((i+1:Nat):Int)=(i:Int)+1:=rfl
   obtain⟨h1,k1,kp,tw⟩:=two_store h6 li.tw (by omega) (t:=0) (by omega) (by omega) (i:=i) (by omega) x
   have t2:=li.t2
   have t3:=li.t3
   have nx:=kp.next
   subst he
   simp only[go_sem,seval,c3_l10,t1,t12,hla,e1,t11,e2,t9,g9,gB,gL,cfgC,plC,ho,Int.zero_add,f0,Nat.mul_one,gx,k1,nx,f1]
   exact⟨k,Nat.lt_succ_self k,i+1,by omega,by simp[go_sem,e3],by simp[go_sem,t1],by simp[go_sem,t2],by simp[go_sem,t3],by simp[go_sem,t9],by simp[go_sem,t11],(kp.old T9 rfl).trans g9,tw,li.gl⟩
  ·simp only[go_sem,seval,c3_l10,t1,t12,hla,e1,t11,e2]
   exact fin _ (by simp[go_sem,t1]) (by simp[go_sem,li.t2]) (by simp[go_sem,li.t3]) (by simp[go_sem,t9]) (by simp[go_sem,t11])
 ·simp only[go_sem,seval,c3_l10,t1,t12,hla,e1]
  exact fin _ (by simp[go_sem,t1]) (by simp[go_sem,li.t2]) (by simp[go_sem,li.t3]) (by simp[go_sem,t9]) (by simp[go_sem,t11])
class PL(P:Program):Prop extends PE P where
 bool4:P.underlying 4=some .bool
theorem neB(P:Program)[p:PL P](x y:Bool):evBin P .neq 4 false false (.bool x) (.bool y)=some (.bool (x !=y)):=by
 have u4:=p.bool4
 unfold evBin
 simp only[u4]
 rfl
structure LP(g hL:H)(T9 A B:Nat)(c:CfgT)(n m:Nat)(nu:List Int)(ow se ar:AV)(i:Nat)(s Z Z2 d:Nat)(tm:T AV)(h:H):Prop where
 t1:tm.get 1=some ow
 t2:tm.get 2=some se
 t3:tm.get 3=some ar
 t9:tm.get 9=some (.ptr T9 0)
 t11:tm.get 11=some (.int .i64 (n:Int))
 t13:tm.get 13=some (.int .i64 (i:Int))
 t15:tm.get 15=some (.ptr Z 0)
 t17:tm.get 17=some (.ptr Z2 0)
 t19:tm.get 19=some (.int .i64 (d:Int))
 g9:h.t.get T9=some (.row (putList 0 [.ptr A 0,.ptr B 0] T.e) 2 33)
 tw:TwoP hL h (fun x=>x=T9) A B c n (m+d) nu (s:Int) s Z Z2 d
def IP(g hL:H)(T9 A B:Nat)(c:CfgT)(n m:Nat)(nu:List Int)(ow se ar:AV)(i:Nat)(s Z Z2:Nat)(k:Nat)(tm:T AV)(h:H):Prop:=∃d,d+k=3∧LP g hL T9 A B c n m nu ow se ar i s Z Z2 d tm h
theorem step_p(h10:F10 call)(h11:F11 call){g hL:H}{T9 A B:Nat}{c:CfgT}{n m:Nat}{nu:List Int}{ow se ar:AV}{i s Z Z2:Nat}(hm:m<=100)(hs:s<64)(k:Nat)(tm:T AV)(h:H)(hI:IP g hL T9 A B c n m nu ow se ar i s Z Z2 k tm h):
 WC P call c3_l23 (loopQ 4 (fun tm h=>∃j,j<k∧IP g hL T9 A B c n m nu ow se ar i s Z Z2 j tm h) (LP g hL T9 A B c n m nu ow se ar i s Z Z2 3) (fun _ _=>False)) tm h:=by
 obtain⟨d,hdk,l⟩:=hI
 have t15:=l.t15
 have t17:=l.t17
 have t19:=l.t19
 cases k with
 |zero=>
  obtain rfl:d=3:=by omega
  simp only[go_sem,seval,c3_l23,t17,t19]
  exact⟨by simp[go_sem,l.t1],by simp[go_sem,l.t2],by simp[go_sem,l.t3],by simp[go_sem,l.t9],by simp[go_sem,l.t11],by simp[go_sem,l.t13],by simp[go_sem,t15],by simp[go_sem,t17],by simp[go_sem,t19],l.g9,l.tw⟩
 |succ k=>
  have e1:(d:Int)<3:=by omega
  have f1:fw .i64 ((d:Int)+1)=(d:Int)+1:=fwI (by omega) (by omega)
  have e3:((d+1:Nat):Int)=(d:Int)+1:=rfl
  obtain⟨v1,h1,k1,v2,h2,k2,kp1,kp2,tw⟩:=two_step h10 h11 l.tw (by omega) (by omega) (by omega)
  simp only[go_sem,seval,c3_l23,t15,t17,t19,e1,k1,k2,f1]
  exact⟨k,Nat.lt_succ_self k,d+1,by omega,by simp[go_sem,l.t1],by simp[go_sem,l.t2],by simp[go_sem,l.t3],by simp[go_sem,l.t9],by simp[go_sem,l.t11],by simp[go_sem,l.t13],by simp[go_sem,t15],by simp[go_sem,t17],by simp[go_sem,e3],(kp2.old T9 rfl).trans l.g9,tw⟩
def I25(g hL:H)(T9 A B:Nat)(c:CfgT)(n:Nat)(ow se ar:AV)(N:Nat)(k:Nat)(tm:T AV)(h:H):Prop:=∃(i:Nat) (nu:List Int),i+k=N∧tm.get 13=some (.int .i64 (i:Int))∧LI g hL T9 A B c n (5+3*i) nu ow se ar tm h
def R25(g hL:H)(T9 A B:Nat)(c:CfgT)(n:Nat)(ow se ar:AV)(tm:T AV)(h:H):Prop:=∃nu,LI g hL T9 A B c n 20 nu ow se ar tm h
theorem step25(P:Program)[PL P]{call:CallE}(h7:F7 call)(h8:F8 call)(h9:F9 call)(h10:F10 call)(h11:F11 call){g hL:H}{T9 A B:Nat}{c:CfgT}{n:Nat}{ow se ar:AV}{owl sel:List Int}{arl:List ArgT}(gv:Giv g ow se ar owl sel arl)(hn1:1<=n)(hn:n<=5)(k:Nat)(tm:T AV)(h:H)(hI:I25 g hL T9 A B c n ow se ar (min sel.length 5) k tm h):
 WC P call c3_l25 (loopQ 2 (fun tm h=>∃j,j<k∧I25 g hL T9 A B c n ow se ar (min sel.length 5) j tm h) (R25 g hL T9 A B c n ow se ar) (fun _ _=>False)) tm h:=by
 obtain⟨i,nu,hik,t13,li⟩:=hI
 have gh:=gv.step (li.gl.trans li.tw.fz)
 have t1:=li.t1
 have t2:=li.t2
 have t3:=li.t3
 have t9:=li.t9
 have t11:=li.t11
 have g9:=li.g9
 have hla:=gh.rs.lenA
 have il:(iL sel).length=sel.length:=List.length_map _
 rw[il]at hla
 have fin:∀tm':T AV,tm'.get 1=some ow->tm'.get 2=some se->tm'.get 3=some ar->tm'.get 9=some (.ptr T9 0)->tm'.get 11=some (.int .i64 (n:Int))->R25 g hL T9 A B c n ow se ar tm' h:=fun tm' a1 a2 a3 a9 a11=>⟨nu,a1,a2,a3,a9,a11,li.g9,li.tw.mono (by omega),li.gl⟩
 by_cases e1:(i:Int)<(sel.length:Int)
 ·by_cases e2:(i:Int)<5
  ·obtain⟨k,rfl⟩:∃k',k=k'+1:=⟨k-1,by omega⟩
   obtain⟨x,hx⟩:∃x,sel[i]?=some x:=⟨_,List.getElem?_eq_getElem (by omega)⟩
   have f1:fw .i64 ((i:Int)+1)=(i:Int)+1:=fwI (by omega) (by omega)
   have e3:((i+1:Nat):Int)=(i:Int)+1:=rfl
   have bm:=modN_bd x (n:=(n:Int)) (by omega)
   obtain⟨s,hs⟩:∃s:Nat,modN x (n:Int)=(s:Int):=⟨(modN x (n:Int)).toNat,by omega⟩
   have k7:=h7 h x (n:Int) (by omega) (by omega)
   rw[hs]at k7
   have hsn:s<n:=by omega
   obtain⟨_,ln,_⟩:=li.tw.nn
   obtain⟨y,hy⟩:∃y,nu[s]?=some y:=⟨_,List.getElem?_eq_getElem (by omega)⟩
   have hse:∃a o cap,se=.sl a o sel.length 1 cap∧ldA h.t.get none a (o+i)=some (.int .i64 x):=by
        rcases gh.rs with⟨_,e⟩|⟨a,o,cap,e,_,kk⟩
        ·rw[e]at il
         simp at il
         omega
        ·have:=kk i (.int .i64 x) (by unfold iL;rw[List.getElem?_map,hx];rfl)
         rw[Nat.mul_one]at this
         rw[il]at e
         exact⟨a,o,cap,e,this⟩
   obtain⟨a,o,cap,he,gx⟩:=hse
   rw[rLdA]at gx
   obtain⟨v1,h1,k1,v2,h2,k2,kp1,kp2,hcase⟩:=two_enter h8 h9 li.tw (t:=(s:Int)) (by omega) (by omega) hsn hy
   have g91:=(kp1.old T9 rfl).trans g9
   have g92:=(kp2.old T9 rfl).trans g9
   subst he
   rcases hcase with⟨rfl,rfl,tw⟩|⟨Z,Z2,rfl,rfl,tw⟩
   ·simp only[go_sem,seval,c3_l25,t2,t13,hla,e1,e2,gx,Nat.mul_one,t11,k7,t9,g9,k1,g91,k2,neB,bne_self_eq_false]
    refine unroll 1 ?_
    simp only[go_sem,seval,c3_l23,t13,f1]
    exact⟨k,Nat.lt_succ_self k,i+1,nu,by omega,by simp[go_sem,e3],by simp[go_sem,t1],by simp[go_sem,t2],by simp[go_sem,t3],by simp[go_sem,t9],by simp[go_sem,t11],g92,tw.mono (by omega),li.gl⟩
   ·simp only[go_sem,seval,c3_l25,t2,t13,hla,e1,e2,gx,Nat.mul_one,t11,k7,t9,g9,k1,g91,k2,neB,bne_self_eq_false]
    refine loop_in (IP g hL T9 A B c n (5+3*i) nu ow (.sl a o sel.length 1 cap) ar i s Z Z2) _ _ (fun k tm h' hI=>step_p P h10 h11 (by omega) (by omega) k tm h' hI) (fun tm2 h3 hR=>?_) (fun _ _ hh=>hh.elim) 3 _ _
     ⟨0,by omega,by simp[go_sem,t1],by simp[go_sem,t2],by simp[go_sem,t3],by simp[go_sem,t9],by simp[go_sem,t11],by simp[go_sem,t13],by simp[go_sem],by simp[go_sem],by simp[go_sem],g92,tw⟩
    have q1:=hR.t1
    have q2:=hR.t2
    have q3:=hR.t3
    have q9:=hR.t9
    have q11:=hR.t11
    have q13:=hR.t13
    simp only[go_sem,seval,q13,f1]
    exact⟨k,Nat.lt_succ_self k,i+1,nu.set s 1,by omega,by simp[go_sem,e3],by simp[go_sem,q1],by simp[go_sem,q2],by simp[go_sem,q3],by simp[go_sem,q9],by simp[go_sem,q11],hR.g9,(TwoP.done (d:=1) hR.tw).mono (by omega),li.gl⟩
  ·simp only[go_sem,seval,c3_l25,t2,t13,hla,e1,e2]
   exact fin _ (by simp[go_sem,t1]) (by simp[go_sem,t2]) (by simp[go_sem,t3]) (by simp[go_sem,t9]) (by simp[go_sem,t11])
 ·simp only[go_sem,seval,c3_l25,t2,t13,hla,e1]
  exact fin _ (by simp[go_sem,t1]) (by simp[go_sem,t2]) (by simp[go_sem,t3]) (by simp[go_sem,t9]) (by simp[go_sem,t11])
def I38(g hL:H)(T9 A B:Nat)(c:CfgT)(n:Nat)(ow se ar:AV)(N:Nat)(k:Nat)(tm:T AV)(h:H):Prop:=∃(i:Nat) (nu:List Int),i+k=N∧tm.get 20=some (.int .i64 (i:Int))∧LI g hL T9 A B c n 20 nu ow se ar tm h
def R38(hL:H)(T9 A B:Nat)(c:CfgT)(n:Nat)(tm:T AV)(h:H):Prop:=tm.get 9=some (.ptr T9 0)∧h.t.get T9=some (.row (putList 0 [.ptr A 0,.ptr B 0] T.e) 2 33)∧TwoE hL h A B c n 20
theorem TwoS.lP{hL h:H}{P:Nat->Prop}{A B:Nat}{c:CfgT}{n m:Nat}{nu:List Int}(t:TwoS hL h P A B c n m nu):∀x,P x->x<h.next:=by
 obtain⟨a,ek,lv,ev,b,z,rk,lv2,ev2,ws,l,es,ea,eb,t⟩:=t
 exact t.lP
set_option maxHeartbeats 1000000 in
theorem step38(P:Program)[PL P]{call:CallE}(h7:F7 call)(h12:F12 call)(h13:F13 call)(h14:F14 call)(h15:F15 call)(h16:F16 call)(h17:F17 call){g hL:H}{T9 A B:Nat}{c:CfgT}{n:Nat}{ow se ar:AV}{owl sel:List Int}{arl:List ArgT}(gv:Giv g ow se ar owl sel arl)(lay:layB c)(cu:∀x∈c.cuts,inU x)(k:Nat)(tm:T AV)(h:H)(hI:I38 g hL T9 A B c n ow se ar (min arl.length 20) k tm h):
 WC P call c3_l38 (loopQ 6 (fun tm h=>∃j,j<k∧I38 g hL T9 A B c n ow se ar (min arl.length 20) j tm h) (R38 hL T9 A B c n) (fun _ _=>False)) tm h:=by
 obtain⟨i,nu,hik,t20,li⟩:=hI
 have gh:=gv.step (li.gl.trans li.tw.fz)
 have t1:=li.t1
 have t2:=li.t2
 have t3:=li.t3
 have t9:=li.t9
 have t11:=li.t11
 have g9:=li.g9
 have l9:=li.tw.lP T9 rfl
 have hla:=gh.ra.len
 by_cases e1:(i:Int)<(arl.length:Int)
 ·by_cases e2:(i:Int)<20
  ·obtain⟨k,rfl⟩:∃k',k=k'+1:=⟨k-1,by omega⟩
   obtain⟨x,hx⟩:∃x,arl[i]?=some x:=⟨_,List.getElem?_eq_getElem (by omega)⟩
   have f1:fw .i64 ((i:Int)+1)=(i:Int)+1:=fwI (by omega) (by omega)
   have e3:((i+1:Nat):Int)=(i:Int)+1:=rfl
   have bm:=modN_bd x.t (n:=64) (by omega)
   have k7:=fun h=>h7 h x.t 64 (by omega) (by omega)
   have xk:=gh.key x (List.mem_of_getElem? hx)
   have hse:∃a o cap,ar=.sl a o arl.length 9 cap∧a<h.next∧ldA h.t.get none a (o+i*9)=some (.int .i64 x.t)∧ldA h.t.get none a (o+(i*9+1))=some (.int .i64 x.s)∧ldA h.t.get (some 7) a (o+(i*9+2))=some (opV x.kd x.k x.o1 x.o2 x.o3 x.o4 x.o5):=by
        rcases gh.ra with⟨_,e⟩|⟨a,o,cap,e,la,kk⟩
        ·subst e
         simp at hx
        ·exact⟨a,o,cap,e,la,kk i x hx⟩
   obtain⟨a,o,cap,he,la,ga,gb,gc⟩:=hse
   obtain⟨v1,h1,k1,⟨Q,rfl⟩,st1⟩:=h12 h A (modN x.t 64) bm.1 bm.2
   obtain⟨v2,h2,k2,⟨Q2,rfl⟩,st2⟩:=h13 h1 B (modN x.t 64) bm.1 bm.2
   have st:=st1.trans st2
   have tw2:=li.tw.step st
   obtain⟨v3,h3,k3,v4,h4,k4,kp1,kp2,hcase⟩:=two_new h14 h15 h16 h17 tw2 lay cu x.t x.s x.kd x.k x.o1 x.o2 x.o3 x.o4 x.o5 xk Q Q2
   have lA:∀{h':H},StepN h h'->∀ag p,ldA h'.t.get ag a p=ldA h.t.get ag a p:=fun s ag p=>by unfold ldA;rw[s.old a la]
   have ga0:=ga
   have ga1:=(lA st1 _ _).trans ga
   have ga2:=(lA st _ _).trans ga
   have gb2:=(lA st _ _).trans gb
   have gc2:=(lA st _ _).trans gc
   rw[rLdA]at ga ga1 ga2 gb2 gc2
   have g91:=(st1.old T9 l9).trans g9
   have g92:=(st.old T9 l9).trans g9
   have g93:=(kp1.old T9 (.inl rfl)).trans g92
   have nx1:=st1.next
   have nx2:=st2.next
   have nx3:=kp1.next
   have la0:a<hL.next:=by
        rcases gv.ra with⟨e,_⟩|⟨a',o',cap',e,la',_⟩
        ·rw[e]at he;cases he
        ·rw[e]at he
         cases he
         exact Nat.lt_of_lt_of_le la' li.gl.next
   have lA3:∀ag p,ldA h3.t.get ag a p=ldA h2.t.get ag a p:=fun ag p=>by unfold ldA;rw[kp1.old a (.inr la0)]
   have ga3:=(lA3 none _).trans ((lA st _ _).trans ga0)
   have gb3:=(lA3 none _).trans ((lA st _ _).trans gb)
   have gc3:=(lA3 (some 7) _).trans ((lA st _ _).trans gc)
   rw[rLdA]at ga3 gb3 gc3
   subst he
   have nx4:=kp2.next
   have g94:=(kp2.old T9 (.inl rfl)).trans g93
   rcases hcase with⟨e,e0,rfl,rfl,tw⟩|⟨D,D2,rfl,rfl,pc,h5,k5,k6,kp3,te⟩
   ·simp only[go_sem,seval,c3_l38,t3,t20,hla,e1,e2,t9,g9,ga,Nat.mul_one,k7,k1,nx1,g91,ga1,k2,nx2,g92,ga2,gb2,gc2,k3,nx3,g93,ga3,gb3,gc3,k4,nx4,neB,bne_self_eq_false,f1]
    exact⟨k,Nat.lt_succ_self k,i+1,nu,by omega,by simp[go_sem,e3],by simp[go_sem,t1],by simp[go_sem,t2],by simp[go_sem,t3],by simp[go_sem,t9],by simp[go_sem,t11],g94,tw,li.gl⟩
   ·have g95:=(kp3.old T9 (.inl rfl)).trans g92
    simp only[go_sem,seval,c3_l38,t3,t20,hla,e1,e2,t9,g9,ga,Nat.mul_one,k7,k1,nx1,g91,ga1,k2,nx2,g92,ga2,gb2,gc2,k3,nx3,g93,ga3,gb3,gc3,k4,nx4,neB,bne_self_eq_false,k5,k6]
    exact⟨by simp[go_sem,t9],g95,te⟩
  ·simp only[go_sem,seval,c3_l38,t3,t20,hla,e1,e2]
   exact⟨by simp[go_sem,t9],g9,li.tw.e⟩
 ·simp only[go_sem,seval,c3_l38,t3,t20,hla,e1]
  exact⟨by simp[go_sem,t9],g9,li.tw.e⟩
def F19(call:CallE)(tb:AO):Prop:=∀h,h.t.get 0=some tb->call 19 [] h=some (.bool true,h)
theorem w3(P:Program)[PL P]{call:CallE}{tb:AO}(h4:F4 call)(h5:F5 call)(h6:F6 call)(h7:F7 call)(h8:F8 call)(h9:F9 call)(h10:F10 call)(h11:F11 call)(h12:F12 call)(h13:F13 call)(h14:F14 call)(h15:F15 call)(h16:F16 call)(h17:F17 call)(h18:F18 call)(h19:F19 call tb)
 {g:H} {c:CfgT} {v ow se ar:AV} {owl sel:List Int} {arl:List ArgT} (k0:0<=c.kind) (e0:0<=c.engine) (hv:RdL none 1 g v (uL c.cuts)) (hlv:∀a,own v=some a->a<g.next) (hl:c.cuts.length<=140737488351232) (hin:∀x∈c.cuts,inU x) (gv:Giv g ow se ar owl sel arl) (g0:g.t.get 0=some tb) (gn:0<g.next):
 WF P call c3 [.agg (cfgC c v),ow,se,ar] g fun v' h'=>v'=.bool true:=by
 have ov:=hv.one
 have st0:=StepN.new g (.row (putList 0 (cfgC c v) T.e) 16 27)
 simp only[go_sem,seval,cfgC,ov]
 refine opt_by (h5 _ c v k0 e0 (hv.keep fun b hb=>st0.old b (hlv b hb)) (fun a ha=>Nat.lt_succ_of_lt (hlv a ha)) hl hin) fun r1 h1 p1=>?_
 obtain⟨st1,c',v',rfl,rd,lo,ix,lay,hn60,hs5⟩:=p1
 have cl:c'.cuts.length<=1000:=by
  obtain⟨_,_,_,_,_,_,_,d,_⟩:=lay
  rcases d with⟨_,_,e⟩|⟨_,_,e⟩|⟨_,_,_,e,_⟩
  ·rw[e];exact Nat.zero_le _
  ·rw[e];exact Nat.zero_le _
  ·omega
 simp only[go_sem,seval]
 refine opt_by (h4 h1 c' v' rd lo cl ix lay hn60) fun r2 h2 p2=>?_
 obtain⟨st2,A,B,hL,n,rfl,hsl,stL,tw⟩:=p2
 have stG:StepN g hL:=(st0.trans st1).trans stL
 have tw3:=tw.more (StepN.new h2 (.row (putList 0 [.ptr A 0,.ptr B 0] T.e) 2 33)) (P':=fun x=>x=h2.next) fun x hx=>by subst hx;exact⟨Nat.lt_succ_self _,.inr (Nat.le_refl _)⟩
 obtain⟨L,rest,cv,hv',wv,gB,gL⟩:=tw.rows
 obtain⟨_,⟨_,_⟩,⟨s1,s2⟩,_⟩:=id lay
 have xB:¬B=h2.next:=fun q=>by
  obtain⟨a,ek,lv,ev,b,z,rk,lv2,ev2,ws,l,es,ea,eb,t⟩:=tw
  have:=t.B.sb.lB
  omega
 have xL:¬L=h2.next:=fun q=>by
  obtain⟨a,ek,lv,ev,b,z,rk,lv2,ev2,ws,l,es,ea,rfl,t⟩:=tw
  have e1:=t.B.sb.gB
  have e2:=t.B.st.lL
  rw[e1]at gB
  have e3:=Option.some.inj gB
  have e4:b.L=L:=by
   have e5:=congrArg (fun o:AO=>match o with| .row c _ _=>c.get 0|_=>none) e3
   unfold rowL at e5
   simp only[rowGet]at e5
   simpa using e5
  omega
 simp only[go_sem,seval,gB,gL,xB,xL,cfgC,hsl]
 refine loop_in (I10 g hL h2.next A B c' n (List.replicate n 0) ow se ar (min owl.length n)) _ _ (fun k tm h' hI=>step10 P h6 gv (by omega) k tm h' hI) (fun tm3 h3 hR=>?_) (fun _ _ hh=>hh.elim) (min owl.length n) _ _
  ⟨0,by omega,by simp[go_sem],by simp[go_sem],by simp[go_sem],by simp[go_sem],by simp[go_sem],by simp[go_sem],by simp[go_sem],tw3,stG⟩
 obtain⟨m3,hm3,li3⟩:=hR
 have q1:=li3.t1
 have q2:=li3.t2
 have q3:=li3.t3
 have q9:=li3.t9
 have q11:=li3.t11
 simp only[go_sem,seval]
 refine loop_in (I25 g hL h2.next A B c' n ow se ar (min sel.length 5)) _ _ (fun k tm h' hI=>step25 P h7 h8 h9 h10 h11 gv (by omega) (by omega) k tm h' hI) (fun tm4 h4 hR=>?_) (fun _ _ hh=>hh.elim) (min sel.length 5) _ _
  ⟨0,_,by omega,by simp[go_sem],by simp[go_sem,q1],by simp[go_sem,q2],by simp[go_sem,q3],by simp[go_sem,q9],by simp[go_sem,q11],li3.g9,li3.tw.mono (by omega),stG⟩
 obtain⟨nu4,li4⟩:=hR
 have p1:=li4.t1
 have p2:=li4.t2
 have p3:=li4.t3
 have p9:=li4.t9
 have p11:=li4.t11
 simp only[go_sem,seval]
 refine loop_in (I38 g hL h2.next A B c' n ow se ar (min arl.length 20)) _ _ (fun k tm h' hI=>step38 P h7 h12 h13 h14 h15 h16 h17 gv lay ix k tm h' hI) (fun tm5 h5 hR=>?_) (fun _ _ hh=>hh.elim) (min arl.length 20) _ _
  ⟨0,nu4,by omega,by simp[go_sem],by simp[go_sem,p1],by simp[go_sem,p2],by simp[go_sem,p3],by simp[go_sem,p9],by simp[go_sem,p11],li4.g9,li4.tw,stG⟩
 obtain⟨u9,g9,te⟩:=hR
 simp only[go_sem,seval,u9,g9]
 refine opt_by (h18 hL h5 A B c' n 20 te (by omega) hn60) fun v6 h6 p6=>?_
 obtain⟨rfl,st6⟩:=p6
 have gt:h6.t.get 0=some tb:=by
  rw[((stG.trans te.fz).trans st6).old 0 gn]
  exact g0
 simp only[go_sem,seval]
 refine opt_some (h19 h6 gt) ?_
 simp only[go_sem,seval]
end
end Go.Proofs.YtghmnaojmpjglaaGreatDoor.PR
