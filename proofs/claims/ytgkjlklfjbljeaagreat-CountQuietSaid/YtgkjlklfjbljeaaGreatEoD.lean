/-
  An evaluator of Go code is sound. No condition.
-/
import Derived.Test.YtgkjlklfjbljeaaGreatEoC
import Derived.Orders
set_option linter.all false
namespace Go.Proofs.YtgkjlklfjbljeaaGreat.Eo
noncomputable section
def Sub(F F':T Rec):Prop:=∀i r,F.get i=some r->F'.get i=some r
theorem Sub.refl(F:T Rec):Sub F F:=fun _ _ h=>h
theorem Sub.trans{F F' F'':T Rec}(h:Sub F F')(h':Sub F' F''):Sub F F'':=fun i r e=>h' i r (h i r e)
theorem Sub.set{F:T Rec}{i:Nat}{r:Rec}(h:F.get i=none):Sub F (F.set i r):=fun j s e=>by
 rw[T.ay,if_neg]
 ·exact e
 ·rintro rfl;rw[h]at e;simp at e
theorem tJ{aQ:T AV}{F F':T Rec}(h:Sub F F'):∀{lk:List (Nat×Option Nat)} {tm:T AV},kU aQ F lk=some tm->kU aQ F' lk=some tm
 | [],tm,e=>e
 |(t,none)::l,tm,e=>by
  rw[tH]at e⊢;split at e
  ·rename_i aC h1;rw[tJ h h1];exact e
  ·simp at e
 |(t,some j)::l,tm,e=>by
  rw[tI]at e⊢;split at e
  ·rename_i aC h1;rw[tJ h h1];simp only[];split at e
   ·rename_i r hr;rw[h _ _ hr];exact e
   ·simp at e
  ·simp at e
theorem fg{ops:List Oper}{m:T Nat}{N:Nat}{aQ:T AV}{F F':T Rec}(h:Sub F F'){i:Nat}{o:Oper}{tm:T AV}(e:dt ops m N aQ F i o=some tm):dt ops m N aQ F' i o=some tm:=by
 unfold dt at e⊢;split at e
 ·split at e
  ·rename_i hd lk hl;exact tJ h e
  ·simp at e
 ·simp at e
theorem Dz{P:Program}{ops:List Oper}{m:T Nat}{N:Nat}{aQ:T AV}{ph:Nat}{F F':T Rec}(h:Sub F F'){hp:H}{i:Nat}{o:Oper}{x:Rec×H}(e:BK P ops m N aQ ph F hp i o=some x):BK P ops m N aQ ph F' hp i o=some x:=by
 unfold BK at e⊢;split at e
 ·rename_i tm ht;rw[fg h ht];exact e
 ·simp at e
theorem LH{P:Program}{call:ab}{ops:List Oper}{m:T Nat}{N:Nat}{aQ:T AV}{F F':T Rec}(h:Sub F F'){hp:H}{i:Nat}{o:Oper}{x:AV×H}(e:MH P call ops m N aQ F hp i o=some x):MH P call ops m N aQ F' hp i o=some x:=by
 unfold MH at e⊢;split at e
 ·rename_i tm ht;rw[fg h ht];exact e
 ·simp at e
theorem ny{P:Program}{ops:List Oper}{m:T Nat}{N:Nat}{aQ:T AV}{ph:Nat}{F:T Rec}{h h':H}{i:Nat}{o:Oper}{r:Rec}(e:BK P ops m N aQ ph F h i o=some (r,h')):
 (∀v,r≠.BJ v)/\((h'=h/\∀v a ao p,r≠.alloc v a ao p)\/∃v ao,r=.alloc v h.next ao ph/\h'=⟨h.next+1,h.t.set h.next ao⟩):=by
 unfold BK at e;split at e
 ·split at e
  ·simp at e;obtain⟨rfl,rfl⟩:=e;simp
  ·split at e
   all_goals first
        |(split at e
          ·first
           |(simp at e;obtain⟨rfl,rfl⟩:=e;simp;done)
           |(simp only[Option.some.injEq,Prod.mk.injEq]at e;obtain⟨rfl,rfl⟩:=e
             exact⟨by simp,.inr ⟨_,_,rfl,rfl⟩⟩)
          ·simp at e)
        |(simp at e;done)
  ·simp at e
 ·simp at e
structure PhF(P:Program)(ops:List Oper)(m:T Nat)(N:Nat)(aQ:T AV)(ph:Nat)(F:T Rec)(h h1:H):Prop where
 next:h.next<=h1.next
 old:∀b,b<h.next->h1.t.get b=h.t.get b
 at_:∀i v a ao,F.get i=some (.alloc v a ao ph)->h.next<=a/\a<h1.next/\h1.t.get a=some ao
def QF(P:Program)(ops:List Oper)(m:T Nat)(N:Nat)(aQ:T AV)(F:T Rec)(i:Nat)(r:Rec):Prop:=
 ∃o ph h h',ops[i]?=some o/\BK P ops m N aQ ph F h i o=some (r,h')
theorem fh{P:Program}{ops:List Oper}{m:T Nat}{N:Nat}{aQ:T AV}{ph:Nat}:∀{ids:List Nat} {F F1:T Rec} {h h1:H},HP P ops m N aQ ph ids F h=some (F1,h1)->
 Sub F F1/\h.next<=h1.next/\(∀b,b<h.next->h1.t.get b=h.t.get b)/\
 (∀i r,F1.get i=some r->F.get i=some r\/(QF P ops m N aQ F1 i r/\∀v a ao p,r=.alloc v a ao p->p=ph/\h.next<=a/\a<h1.next/\h1.t.get a=some ao))/\
 (∀i j v a ao p v' E5 p',F.get i=none->F1.get i=some (.alloc v a ao p)->F.get j=none->F1.get j=some (.alloc v' a E5 p')->i=j)
 | [],F,F1,h,h1,e=>by
   simp[HP]at e;obtain⟨rfl,rfl⟩:=e;exact⟨Sub.refl _,Nat.le_refl _,fun _ _=>rfl,fun i r hr=>.inl hr,fun i j v a ao p v' E5 p' h1 h2=>by rw[h1]at h2;simp at h2⟩
 |i::l,F,F1,h,h1,e=>by
  unfold HP at e;split at e
  ·rename_i o ho hF;split at e
   ·rename_i r h2 hq;obtain⟨k1,k2,k3,k4,k5⟩:=fh e;have oD:Sub F (F.set i r):=Sub.set hF;obtain⟨q1,q2⟩:=ny hq;have hn:h.next<=h2.next:=by
     rcases q2 with⟨rfl,_⟩|⟨v,ao,_,rfl⟩
     ·exact Nat.le_refl _
     ·exact Nat.le_succ _
    have hold:∀b,b<h.next->h2.t.get b=h.t.get b:=by
     intro b hb;rcases q2 with⟨rfl,_⟩|⟨v,ao,_,rfl⟩
     ·rfl
     ·show(h.t.set h.next ao).get b=_
      rw[T.ay,if_neg (by omega)]
    have vf:F1.get i=some r:=k1 i r (by rw[T.ay,if_pos rfl]);have hia:∀v a ao p,r=.alloc v a ao p->p=ph/\a=h.next/\h2.next=h.next+1/\h2.t.get a=some ao:=by
     intro v a ao p hr;rcases q2 with⟨_,dB⟩|⟨v',E5,WR,rfl⟩
     ·exact absurd hr (dB v a ao p)
     ·rw[WR]at hr;simp at hr;obtain⟨_,rfl,rfl,rfl⟩:=hr;exact⟨rfl,rfl,rfl,by show(h.t.set h.next E5).get h.next=_;rw[T.ay,if_pos rfl]⟩
    refine⟨oD.trans k1,Nat.le_trans hn k2,fun b hb=>by rw[k3 b (by omega),hold b hb],?_,?_⟩
    ·intro j s hj;rcases k4 j s hj with hh|⟨PJ,XW⟩
     ·rw[T.ay]at hh
      by_cases e:j=i
      ·subst e;rw[if_pos rfl]at hh;simp at hh;subst hh;refine .inr ⟨⟨o,ph,h,h2,ho,Dz (oD.trans k1) hq⟩,fun v a ao p hr=>?_⟩;obtain⟨r1,rfl,r3,r4⟩:=hia v a ao p hr;exact⟨r1,Nat.le_refl _,by omega,by rw[k3 _ (by omega)];exact r4⟩
      ·rw[if_neg e]at hh;exact .inl hh
     ·exact .inr ⟨PJ,fun v a ao p hr=>by
       obtain⟨r1,r2,r3,r4⟩:=XW v a ao p hr;exact⟨r1,by omega,r3,r4⟩⟩
    ·have far:∀j v a ao p,j≠i->F.get j=none->F1.get j=some (.alloc v a ao p)->h2.next<=a:=by
       intro j v a ao p Qi hj ET;rcases k4 j _ ET with hh|⟨_,hh⟩
       ·rw[T.ay,if_neg Qi,hj]at hh;simp at hh
       ·exact(hh v a ao p rfl).2.1
     have adz:∀v a ao p,F1.get i=some (.alloc v a ao p)->a<h2.next:=by
       intro v a ao p hh;rw[vf]at hh;simp at hh;obtain⟨_,rfl,r3,_⟩:=hia v a ao p hh;omega
     intro j k v a ao p v' E5 p' hj ET hk hk1
     by_cases ej:j=i
     ·by_cases ek:k=i
      ·rw[ej,ek]
      ·subst ej;have:=adz _ _ _ _ ET;have:=far k _ _ _ _ ek hk hk1;omega
     ·by_cases ek:k=i
      ·subst ek;have:=adz _ _ _ _ hk1;have:=far j _ _ _ _ ej hj ET;omega
      ·exact k5 j k v a ao p v' E5 p' (by rw[T.ay,if_neg ej];exact hj) ET (by rw[T.ay,if_neg ek];exact hk) hk1
   ·simp at e
  ·simp at e
def LI(F:T Rec)(ph:Nat)(h:H):Prop:=∀i v a ao p,F.get i=some (.alloc v a ao p)->ph<=p->h.next<=a
def DA(P:Program)(call:ab)(ops:List Oper)(m:T Nat)(N:Nat)(aQ:T AV)(F:T Rec):Nat->List (List Nat×Option Nat)->H->List H->Prop
 |_,[],_,_=>False
 |ph,(_,none)::_,h,hs=>LI F ph h/\∃h1,hs=[h1]/\PhF P ops m N aQ ph F h h1
 |ph,(_,some e)::rest,h,hs=>LI F ph h/\∃h1 Ck v h2 o,hs=h1::Ck/\PhF P ops m N aQ ph F h h1/\ops[e]?=some o/\F.get e=some (.BJ v)/\MH P call ops m N aQ F h1 e o=some (v,h2)/\h1.next<=h2.next/\
   DA P call ops m N aQ F (ph+1) rest h2 Ck
theorem QF.mono{P:Program}{ops:List Oper}{m:T Nat}{N:Nat}{aQ:T AV}{F F':T Rec}(hs:Sub F F'){i:Nat}{r:Rec}(h:QF P ops m N aQ F i r):QF P ops m N aQ F' i r:=by
 obtain⟨o,ph,h1,h2,k1,k2⟩:=h;exact⟨o,ph,h1,h2,k1,Dz hs k2⟩
theorem kW{P:Program}{call:ab}{ops:List Oper}{m:T Nat}{N:Nat}{aQ:T AV}:∀{l:List (List Nat×Option Nat)} {ph:Nat} {F0 F:T Rec} {h:H} {hs:List H},yB P call ops m N aQ ph l F0 h=some (F,hs)->
 (∀i v a ao p,F0.get i=some (.alloc v a ao p)->p<ph)->
 Sub F0 F/\DA P call ops m N aQ F ph l h hs/\
 (∀i r,F.get i=some r->F0.get i=some r\/(∃v,r=.BJ v)\/QF P ops m N aQ F i r)/\
 (∀i v a ao p,F.get i=some (.alloc v a ao p)->F0.get i=some (.alloc v a ao p)\/(ph<=p/\h.next<=a))/\
 (∀i j v a ao p v' E5 p',F0.get i=none->F.get i=some (.alloc v a ao p)->F0.get j=none->F.get j=some (.alloc v' a E5 p')->i=j)
 | [],ph,F0,F,h,hs,e,_=>by simp[yB]at e
 |(ids,none)::l,ph,F0,F,h,hs,e,HQ=>by
  unfold yB at e;split at e
  ·rename_i F1 h1 hp;simp at e;obtain⟨rfl,rfl⟩:=e;obtain⟨k1,k2,k3,k4,k5⟩:=fh hp;refine⟨k1,⟨fun i v a ao p hi hp=>?_,h1,rfl,⟨k2,k3,fun i v a ao hi=>?_⟩⟩,fun i r hi=>?_,fun i v a ao p hi=>?_,k5⟩
   ·rcases k4 i _ hi with hh|⟨_,hh⟩
    ·have:=HQ _ _ _ _ _ hh;omega
    ·exact(hh v a ao p rfl).2.1
   ·rcases k4 i _ hi with hh|⟨_,hh⟩
    ·exact absurd (HQ _ _ _ _ _ hh) (Nat.lt_irrefl _)
    ·exact(hh v a ao ph rfl).2
   ·rcases k4 i _ hi with hh|⟨hh,_⟩
    ·exact .inl hh
    ·exact .inr (.inr hh)
   ·rcases k4 i _ hi with hh|⟨_,hh⟩
    ·exact .inl hh
    ·obtain⟨rfl,r2,_⟩:=hh v a ao p rfl;exact .inr ⟨Nat.le_refl _,r2⟩
  ·simp at e
 |(ids,some x)::l,ph,F0,F,h,hs,e,HQ=>by
  unfold yB at e;split at e
  ·rename_i F1 h1 hp;split at e
   ·rename_i o ho hFx;split at e
    ·rename_i v h2 hv;split at e
     ·rename_i hle;have hle:=Nat.le_of_ble_eq_true hle;split at e
      ·rename_i F' Ck hd;simp at e;obtain⟨rfl,rfl⟩:=e;obtain⟨k1,k2,k3,k4,k5⟩:=fh hp;have aoj:Sub F1 (F1.set x (.BJ v)):=Sub.set hFx;have adC:∀i v' a ao p,(F1.set x (.BJ v)).get i=some (.alloc v' a ao p)->p<ph+1:=by
        intro i v' a ao p hi;rw[T.ay]at hi
        by_cases e:i=x
        ·rw[if_pos e]at hi;simp at hi
        ·rw[if_neg e]at hi;rcases k4 i _ hi with hh|⟨_,hh⟩
         ·have:=HQ _ _ _ _ _ hh;omega
         ·have:=(hh v' a ao p rfl).1;omega
       obtain⟨j1,j2,j3,j4,j5⟩:=kW hd adC;have oD:Sub F1 F':=aoj.trans j1;have back:∀i v' a ao p,F'.get i=some (.alloc v' a ao p)->F1.get i=some (.alloc v' a ao p)\/(ph+1<=p/\h2.next<=a):=by
        intro i v' a ao p hi;rcases j4 i _ _ _ _ hi with hh|hh
        ·rw[T.ay]at hh
         by_cases e:i=x
         ·rw[if_pos e]at hh;simp at hh
         ·rw[if_neg e]at hh;exact .inl hh
        ·exact .inr hh
       refine⟨k1.trans oD,⟨fun i v' a ao p hi hp=>?_,h1,Ck,v,h2,o,rfl,⟨k2,k3,fun i v' a ao hi=>?_⟩,ho,j1 _ _ (by rw[T.ay,if_pos rfl]),LH oD hv,hle,j2⟩,fun i r hi=>?_,fun i v' a ao p hi=>?_,?_⟩
       ·rcases back i _ _ _ _ hi with hh|hh
        ·rcases k4 i _ hh with hh|⟨_,hh⟩
         ·have:=HQ _ _ _ _ _ hh;omega
         ·exact(hh v' a ao p rfl).2.1
        ·omega
       ·rcases back i _ _ _ _ hi with hh|hh
        ·rcases k4 i _ hh with hh|⟨_,hh⟩
         ·exact absurd (HQ _ _ _ _ _ hh) (Nat.lt_irrefl _)
         ·exact(hh v' a ao ph rfl).2
        ·omega
       ·rcases j3 i r hi with hh|hh|hh
        ·rw[T.ay]at hh
         by_cases e:i=x
         ·rw[if_pos e]at hh;simp at hh;exact .inr (.inl ⟨v,hh.symm⟩)
         ·rw[if_neg e]at hh;rcases k4 i r hh with hh|⟨hh,_⟩
          ·exact .inl hh
          ·exact .inr (.inr (hh.mono oD))
        ·exact .inr (.inl hh)
        ·exact .inr (.inr hh)
       ·rcases back i _ _ _ _ hi with hh|⟨hh,XW⟩
        ·rcases k4 i _ hh with hh|⟨_,hh⟩
         ·exact .inl hh
         ·obtain⟨rfl,r2,_⟩:=hh v' a ao p rfl;exact .inr ⟨Nat.le_refl _,r2⟩
        ·exact .inr ⟨by omega,by omega⟩
       ·intro i j v1 a ao p v2 E5 p' hi0 hi ZJ hj;have lo:∀i v' ao p,F0.get i=none->F1.get i=some (.alloc v' a ao p)->a<h1.next:=by
               intro i v' ao p h0 hh;rcases k4 i _ hh with hh|⟨_,hh⟩
               ·rw[h0]at hh;simp at hh
               ·exact(hh v' a ao p rfl).2.2.1
        have adD:∀i v' ao p,F'.get i=some (.alloc v' a ao p)->F1.get i=some (.alloc v' a ao p)\/(F1.set x (.BJ v)).get i=none:=by
               intro i v' ao p hh;cases hg:(F1.set x (.BJ v)).get i with
               |none=>exact .inr rfl
               |some s=>
                have:=j1 _ _ hg;rw[hh]at this;simp at this;subst this;rw[T.ay]at hg
                by_cases e:i=x
                ·rw[if_pos e]at hg;simp at hg
                ·rw[if_neg e]at hg;exact .inl hg
        rcases back i _ _ _ _ hi with bi|⟨_,bi⟩
        ·rcases back j _ _ _ _ hj with bj|⟨_,bj⟩
         ·exact k5 i j _ _ _ _ _ _ _ hi0 bi ZJ bj
         ·have:=lo i _ _ _ hi0 bi;omega
        ·rcases back j _ _ _ _ hj with bj|⟨_,bj⟩
         ·have:=lo j _ _ _ ZJ bj;omega
         ·have n1:∀i v' ao p,F0.get i=none->F'.get i=some (.alloc v' a ao p)->(F1.set x (.BJ v)).get i=none:=by
              intro i v' ao p h0 hh;rcases adD i v' ao p hh with PJ|PJ
              ·have:=lo i _ _ _ h0 PJ;omega
              ·exact PJ
          exact j5 i j _ _ _ _ _ _ _ (n1 i _ _ _ hi0 hi) hi (n1 j _ _ _ ZJ hj) hj
      ·simp at e
     ·simp at e
    ·simp at e
   ·simp at e
  ·simp at e
def tK:Nat->AV->AV->Bool
 |0,_,_=>false
 |n+1,x,y=>match x,y with
  | .bool a,.bool b=>match a,b with|true,true=>true|false,false=>true|_,_=>false
  | .int k a,.int k' b=>decide (k=k')&&yK a b
  | .str a,.str b=>rY a b
  | .ptr a o,.ptr b p=>Nat.beq a b&&Nat.beq o p
  | .aJ,.aJ=>true
  | .sl a o l e c,.sl a' o' l' e' c'=>Nat.beq a a'&&Nat.beq o o'&&Nat.beq l l'&&Nat.beq e e'&&(match c,c' with|none,none=>true|some x,some y=>Nat.beq x y|_,_=>false)
  | .ax,.ax=>true
  | .map a,.map b=>Nat.beq a b
  | .kH,.kH=>true
  | .dQ,.dQ=>true
  | .fn f [] [],.fn g [] []=>decide (f=g)
  | .fn f a c,.fn g b d=>decide (f=g)&&sA (tK n) a b&&sA (tK n) c d
  | .dR t v,.dR u w=>Nat.beq t u&&tK n v w
  | .pC,.pC=>true
  | .agg l,.agg m=>sA (tK n) l m
  | .aE l,.aE m=>sA (tK n) l m
  |_,_=>false
where sA (f:AV->AV->Bool):List AV->List AV->Bool
 | [],[]=>true
 |x::l,y::m=>f x y&&sA f l m
 |_,_=>false
theorem gH{f:AV->AV->Bool}(hf:∀x y,f x y=true->x=y):∀{l m:List AV},tK.sA f l m=true->l=m
 | [],[],_=>rfl
 |x::l,y::m,h=>by
  simp only[tK.sA,Bool.and_eq_true]at h;rw[hf _ _ h.1,gH hf h.2]
 | [],_::_,h=>by simp[tK.sA]at h
 |_::_,[],h=>by simp[tK.sA]at h
theorem xr:∀(n:Nat) (x y:AV),tK n x y=true->x=y
 |0,x,y,h=>by simp[tK]at h
 |n+1,x,y,h=>by
  have ih:=xr n;unfold tK at h;split at h
  all_goals first
   |rfl
   |(simp at h;done)
   |skip
  ·split at h<;>first|rfl|simp at h
  ·simp only[Bool.and_eq_true,decide_eq_true_eq,gJ,beq_iff_eq]at h;rw[h.1,h.2]
  ·rw[wS]at h;rw[(Go.MapKept.bytes_beq _ _).1 h]
  ·simp only[Bool.and_eq_true]at h;rw[Nat.eq_of_beq_eq_true h.1,Nat.eq_of_beq_eq_true h.2]
  ·simp only[Bool.and_eq_true]at h;obtain⟨⟨⟨⟨h1,h2⟩,h3⟩,h4⟩,h5⟩:=h;rw[Nat.eq_of_beq_eq_true h1,Nat.eq_of_beq_eq_true h2,Nat.eq_of_beq_eq_true h3,Nat.eq_of_beq_eq_true h4];split at h5
   ·rfl
   ·rw[Nat.eq_of_beq_eq_true h5]
   ·simp at h5
  ·rw[Nat.eq_of_beq_eq_true h]
  ·rw[of_decide_eq_true h]
  ·simp only[Bool.and_eq_true,decide_eq_true_eq]at h;rw[h.1.1,gH ih h.1.2,gH ih h.2]
  ·simp only[Bool.and_eq_true]at h;rw[Nat.eq_of_beq_eq_true h.1,ih _ _ h.2]
  ·rw[gH ih h]
  ·rw[gH ih h]
def kY(m:T Nat)(i:Nat):List Nat->Nat->Bool
 | [],_=>true
 |e::es,0=>!ss m i e&&kY m i es 0
 |e::es,k+1=>!ss m e i&&kY m i es k
def mf(P:Program)(tm:T AV)(h:H)(o:Oper):Option AV:=match pU P o with
 |some (.r x)=>Iq tm h.t.get x
 |some (.l x)=>tS tm h.t.get x
 |some (.s x)=>HJ tm h.t.get x
 |_=>none
def sC(P:Program)(m:T Nat)(es:List Nat)(tm:T AV)(o:Oper)(i:Nat)(v:AV):Nat->List H->Bool
 |_,[]=>true
 |k,h::hs=>(match kY m i es k with
  |true=>match mf P tm h o with
   |some u=>tK 20 u v
   |none=>false
  |false=>true)&&sC P m es tm o i v (k+1) hs
def xu(P:Program)(ops:List Oper)(m:T Nat)(N:Nat)(es:List Nat)(aQ:T AV)(F:T Rec)(hs:List H):List Oper->Nat->Bool
 | [],_=>true
 |o::l,i=>(match F.get i with
  |some (.read v)=>match dt ops m N aQ F i o with
   |some tm=>sC P m es tm o i v 0 hs
   |none=>false
  |some (.alloc _ _ _ 0)=>true
  |some (.alloc _ _ _ (q+1))=>match es[q]? with
   |some e=>ss m i e
   |none=>false
  |some (.BJ _)=>es.contains i
  |some (.quiet _)=>true
  |none=>false)&&xu P ops m N es aQ F hs l (i+1)
def dI(F:T Rec)(l:List Oper)(i:Nat)(tm:T AV):T AV:=
 List.rec (motive:=fun _=>Nat->T AV->T AV) (fun _ tm=>tm) (fun o _ ih i tm=>Option.rec (ih (Nat.succ i) tm) (fun d=>Option.rec (ih (Nat.succ i) tm) (fun r=>ih (Nat.succ i) (tm.set d r.val)) (F.get i)) o.dst) l i tm
theorem sD(F:T Rec)(o:Oper)(l:List Oper)(i:Nat)(tm:T AV):dI F (o::l) i tm=match o.dst,F.get i with
 |some d,some r=>dI F l (i+1) (tm.set d r.val)
 |_,_=>dI F l (i+1) tm:=by
 show(Option.rec (dI F l (i+1) tm) (fun d=>Option.rec (dI F l (i+1) tm) (fun r=>dI F l (i+1) (tm.set d r.val)) (F.get i)) o.dst:T AV)=_
 cases o.dst with
 |none=>rfl
 |some d=>cases h:F.get i<;>simp
def nz:List H->Option H
 | []=>none
 | [h]=>some h
 |_::hs=>nz hs
def sE(ops:List Oper):Bool:=ops.all fun o=>match o.op with
 | .defer _=>false
 |_=>true
def Kz(P:Program):eQ:=fun call ops N tm h=>
 match da ops 0&&kn (cG ops) (bq P ops 0)&&sE ops with
 |true=>match yB P (iF call) ops (cG ops) N tm 0 (fT (cG ops) (bq P ops 0) ops.length 0 (bq P ops 0)) .e h with
  |some (F,hs)=>match xu P ops (cG ops) N (bq P ops 0) tm F hs ops 0 with
   |true=>match nz hs with
    |some h'=>some (dI F ops 0 tm,h')
    |none=>none
   |false=>none
  |none=>none
 |false=>none
end
end Go.Proofs.YtgkjlklfjbljeaaGreat.Eo
namespace Go.Proofs.YtgkjlklfjbljeaaGreat.Eo
noncomputable section
abbrev On(listed:Array Bool)(i:Nat):Prop:=listed.getD i false=true
structure Inv(ops:Array Oper)(N:Nat)(es:List Nat)(F:T Rec)(h0:H)(ρ0:aR)(w0:World)(a0:Act)(listed:Array Bool)(k:Nat)(hk:H)(ρ:aR)(a:Act)(w:World):Prop where
 uu:listed.size=ops.size
 down:Down ops.toList (On listed)
 yC:∀l e,es[l]?=some e->(On listed e↔l<k)
 kle:k<=es.length
 nx:Nx ρ0 h0.t.get w0 ρ hk.t.get w
 fresh:cC ρ hk.next
 kp:Kp ρ0 h0 ρ hk
 al:∀i v b o p,F.get i=some (.alloc v b o p)->¬On listed i->ρ b=none/\(p<=k->hk.t.get b=some o/\b<hk.next)
 aq:∀t,(∃j r o,ops[j]?=some o/\o.dst=some t/\On listed j/\F.get j=some r/\(∀j' o',ops[j']?=some o'->o'.dst=some t->On listed j'->j'<=j)/\t<N/\VR ρ r.val (a.tmps.getD t undef))\/
  ((∀j o,ops[j]?=some o->o.dst=some t->¬On listed j)/\a.tmps.getD t undef=a0.tmps.getD t undef)
 uv:a.tmps.size=N
 defers:a.defers=a0.defers
theorem uw{ops:List Oper}{m:T Nat}{i:Nat}:∀{ts:List Nat} {lk:List (Nat×Option Nat)},nZ ops m i ts=some lk->∀t r,(t,r)∈lk->tG ops m i t=some r
 | [],lk,h,t,r,hm=>by simp[nZ]at h;subst h;simp at hm
 |s::ts,lk,h,t,r,hm=>by
  unfold nZ at h;split at h
  ·rename_i r' hr;split at h
   ·rename_i rs Ow;simp at h;subst h;rcases List.mem_cons.1 hm with e|hm
    ·simp at e;obtain⟨rfl,rfl⟩:=e;exact hr
    ·exact uw Ow t r hm
   ·simp at h
  ·simp at h
section
variable {ops:Array Oper} {N:Nat} {es:List Nat} {F:T Rec} {h0:H} {ρ0:aR} {w0:World} {a0:Act} {listed:Array Bool} {k:Nat} {hk:H} {ρ:aR} {a:Act} {w:World}
structure Next(ops:Array Oper)(listed:Array Bool)(i:Nat)(o:Oper):Prop where
 op:ops[i]?=some o
 new:¬On listed i
 pre:∀e∈o.after.toList,Region.binds .any e=true->On listed e.on
theorem Next.down(hd:Down ops.toList (On listed)){i:Nat}{o:Oper}(hn:Next ops listed i o):Down ops.toList (fun j=>On listed j\/j=i):=by
 intro j oj hj hS e he hb;rcases hS with hS|rfl
 ·exact .inl (hd j oj hj hS e he hb)
 ·have:ops[j]?=some oj:=by simpa using hj
  rw[hn.op]at this;simp at this;subst this;exact .inl (hn.pre e he hb)
theorem Next.E6(hd:Down ops.toList (On listed))(my:da ops.toList 0=true){i:Nat}{o:Oper}(hn:Next ops listed i o){j:Nat}(hb:ss (cG ops.toList) i j=true):On listed j:=by
 obtain⟨h1,h2⟩:=gk my hb;rcases h2 _ (hn.down hd) (.inr rfl)with h|h
 ·exact h
 ·omega
theorem Next.vL(hd:Down ops.toList (On listed))(my:da ops.toList 0=true){i:Nat}{o:Oper}(hn:Next ops listed i o){j:Nat}(hj:On listed j):ss (cG ops.toList) j i=false:=by
 cases hb:ss (cG ops.toList) j i with
 |false=>rfl
 |true=>exact absurd ((gk my hb).2 _ hd hj) hn.new
theorem pv(hI:Inv ops N es F h0 ρ0 w0 a0 listed k hk ρ a w)(my:da ops.toList 0=true){aQ:T AV}(HS:TR ρ0 aQ a0.tmps)(HT:a0.tmps.size=N){i:Nat}{o:Oper}(hn:Next ops listed i o){tm:T AV}
 (h:dt ops.toList (cG ops.toList) N aQ F i o=some tm):TR ρ tm a.tmps:=by
 unfold dt at h;split at h
 ·split at h
  ·rename_i lk Rr;have key:∀(Mt:List (Nat×Option Nat)) tm,(∀t r,(t,r)∈Mt->tG ops.toList (cG ops.toList) i t=some r)->kU aQ F Mt=some tm->TR ρ tm a.tmps:=by
        intro Mt
        induction Mt with
        |nil=>intro tm _ h;simp[Dx]at h;subst h;intro t v hv;simp[T.di]at hv
        |cons x l ih=>
         obtain⟨t,r⟩:=x;intro tm Rr h;have ih':=fun tm=>ih tm (fun t r hm=>Rr t r (List.mem_cons_of_mem _ hm))
         have hl:=Rr t r (List.mem_cons_self ..);unfold tG at hl;obtain⟨c1,c2⟩:=fS hl fF (by simp);have wr:∀j oj,ops[j]?=some oj->oj.dst=some t->j∈br t ops.toList 0:=fun j oj hj hd=>dM.2 ⟨Nat.zero_le _,oj,by simpa using hj,hd⟩
         have lw:∀j oj,ops[j]?=some oj->oj.dst=some t->On listed j->j≠i/\ss (cG ops.toList) i j=true:=by
          intro j oj hj hd HU;have dB:j≠i:=by rintro rfl;exact hn.new HU
          rcases c1 j (wr j oj hj hd)with rfl|hb|hb
          ·exact absurd rfl dB
          ·exact⟨dB,hb⟩
          ·rw[hn.vL hI.down my HU]at hb;simp at hb
         cases r with
         |none=>
          rw[tH]at h;split at h
          ·rename_i aC h1;have nU:∀j oj,ops[j]?=some oj->oj.dst=some t->¬On listed j:=by
            intro j oj hj hd HU;obtain⟨l1,l2⟩:=lw j oj hj hd HU;have:=c2.2 j (wr j oj hj hd) l1;rw[l2]at this;simp at this
           split at h
           ·rename_i v hv;simp at h;subst h;have hT:=ih' aC h1;rcases hI.aq t with⟨j,r,oj,s1,s2,s3,_⟩|⟨_,s2⟩
            ·exact absurd s3 (nU j oj s1 s2)
            ·obtain⟨z1,z2⟩:=HS t v hv;intro s u hu;rw[T.ay]at hu
             by_cases e:s=t
             ·subst e;rw[if_pos rfl]at hu;simp at hu;subst hu;exact⟨by rw[hI.uv,←HT];exact z1,by rw[s2];exact VR.mono hI.nx.le _ _ z2⟩
             ·rw[if_neg e]at hu;exact hT s u hu
           ·simp at h;subst h;exact ih' _ h1
          ·simp at h
         |some j=>
          rw[tI]at h;split at h
          ·rename_i aC h1;split at h
           ·rename_i r hr;simp at h;subst h;have hT:=ih' aC h1;obtain⟨d1,d2,_⟩:=c2;obtain⟨w1,w2,w3⟩:=d1.resolve_left (by simp);obtain⟨_,oj,w4,w5⟩:=dM.1 w1;have w4':ops[j]?=some oj:=by simpa using w4
            have adE:=hn.E6 hI.down my w3;rcases hI.aq t with⟨j',r',oj',s1,s2,s3,s4,s5,s6,s7⟩|⟨s1,_⟩
            ·obtain⟨l1,l2⟩:=lw j' oj' s1 s2 s3;have e1:=d2 j' (wr j' oj' s1 s2) l1 l2;have e2:=s5 j oj w4' w5 adE;have e3:j'=j:=by omega
             subst e3;rw[hr]at s4;simp at s4;subst s4;intro s u hu;rw[T.ay]at hu
             by_cases e:s=t
             ·subst e;rw[if_pos rfl]at hu;simp at hu;subst hu;exact⟨by rw[hI.uv];exact s6,s7⟩
             ·rw[if_neg e]at hu;exact hT s u hu
            ·exact absurd adE (s1 j oj w4' w5)
           ·simp at h
          ·simp at h
   exact key lk tm (fun t r hm=>uw Rr t r hm) h
  ·simp at h
 ·simp at h
theorem xw{listed:Array Bool}{i j:Nat}(hi:i<listed.size):On (listed.setIfInBounds i true) j↔On listed j\/j=i:=by
 unfold On
 by_cases e:i=j
 ·subst e;simp[hi]
 ·rw[getD_set_ne false e];constructor
  ·exact .inl
  ·rintro (h|rfl)
   ·exact h
   ·exact absurd rfl e
theorem DB{a:Act}{dst:Option Nat}{V:Value}{t:Nat}(h:dst≠some t):(a.put dst V).tmps.getD t undef=a.tmps.getD t undef:=by
 cases dst with
 |none=>rfl
 |some d=>
  have dB:d≠t:=fun e=>h (by rw[e])
  simp[Act.put,Array.getElem?_setIfInBounds_ne dB]
theorem Inv.next(hI:Inv ops N es F h0 ρ0 w0 a0 listed k hk ρ a w)(my:da ops.toList 0=true){i:Nat}{o:Oper}(hn:Next ops listed i o){r:Rec}(hr:F.get i=some r)(hd:Dy ops.toList (cG ops.toList) N i o.dst=true)
 {k':Nat} {nc:H} {ρ':aR} {w':World} {V:Value} (hV:VR ρ' r.val V) (hle:Le ρ ρ') (nx':Nx ρ0 h0.t.get w0 ρ' nc.t.get w') (WW:cC ρ' nc.next) (kp':Kp ρ0 h0 ρ' nc)
 (adF:∀l e,es[l]?=some e->(On listed e\/e=i↔l<k')) (aom:k'<=es.length)
 (al':∀j v b o p,F.get j=some (.alloc v b o p)->¬On listed j->j≠i->ρ' b=none/\(p<=k'->nc.t.get b=some o/\b<nc.next)):
 Inv ops N es F h0 ρ0 w0 a0 (listed.setIfInBounds i true) k' nc ρ' (a.put o.dst V) w':=by
 have hi:i<listed.size:=by rw[hI.uu];exact(Array.getElem?_eq_some_iff.1 hn.op).1
 have HU:=fun j=>xw (j:=j) hi
 refine⟨by simp[hI.uu],fun j oj hj hS e he hb=>?_,fun l e hl=>by rw[HU];exact adF l e hl,aom,nx',WW,kp',fun j v b o p hj nU=>?_,fun t=>?_,?_,?_⟩
 ·rw[HU]at hS⊢;exact hn.down hI.down j oj hj hS e he hb
 ·have:¬(On listed j\/j=i):=fun hh=>nU ((HU j).2 hh)
  exact al' j v b o p hj (fun hh=>this (.inl hh)) (fun hh=>this (.inr hh))
 ·by_cases ht:o.dst=some t
  ·left;unfold Dy at hd;rw[ht]at hd;simp only[]at hd;split at hd
   ·rename_i rr Rs;have htN:=Nat.le_of_ble_eq_true hd;unfold tG at Rs;obtain⟨c1,_⟩:=fS Rs fF (by simp);refine⟨i,r,o,hn.op,ht,(HU i).2 (.inr rfl),hr,fun j' o' FK G6 LK=>?_,by omega,?_⟩
    ·rcases(HU j').1 LK with ET|rfl
     ·have hm:j'∈br t ops.toList 0:=dM.2 ⟨Nat.zero_le _,o',by simpa using FK,G6⟩;rcases c1 j' hm with rfl|hb|hb
      ·exact Nat.le_refl _
      ·exact Nat.le_of_lt (gk my hb).1
      ·rw[hn.vL hI.down my ET]at hb;simp at hb
     ·exact Nat.le_refl _
    ·have:(a.put o.dst V).tmps.getD t undef=V:=by
      rw[ht];have df:t<a.tmps.size:=by rw[hI.uv];omega
      simp[Act.put,df]
     rw[this];exact hV
   ·simp at hd
  ·rw[DB ht];rcases hI.aq t with⟨j,r',oj,s1,s2,s3,s4,s5,s6,s7⟩|⟨s1,s2⟩
   ·refine .inl ⟨j,r',oj,s1,s2,(HU j).2 (.inl s3),s4,fun j' o' FK G6 LK=>?_,s6,VR.mono hle _ _ s7⟩;rcases(HU j').1 LK with ET|rfl
    ·exact s5 j' o' FK G6 ET
    ·rw[hn.op]at FK;simp at FK;subst FK;exact absurd G6 ht
   ·refine .inr ⟨fun j oj hj G6 LK=>?_,s2⟩;rcases(HU j).1 LK with ET|rfl
    ·exact s1 j oj hj G6 ET
    ·rw[hn.op]at hj;simp at hj;subst hj;exact absurd G6 ht
 ·cases o.dst<;>simp[Act.put,hI.uv]
 ·cases o.dst<;>simp[Act.put,hI.defers]
theorem kZ{o:Oper}{c:HL}(h:Ai o=some c):(∃f as,c=.cv f as)\/∃r n as,c=.ci r n as:=by
 unfold Ai at h;split at h
 ·split at h
  ·simp at h;subst h;exact .inl ⟨_,_,rfl⟩
  ·simp at h
 ·split at h
  ·simp at h;subst h;exact .inr ⟨_,_,_,rfl⟩
  ·simp at h
 ·simp at h
theorem adG{P:Program}{o:Oper}{x:PI}(h:pU P o=some (.p x)):cP P o=some x:=by
 unfold pU at h
 repeat' split at h
 all_goals first
  |(simp at h;subst h;assumption)
  |(simp at h;done)
  |(rename_i hc;simp at h;subst h;rcases kZ hc with⟨f,as,e⟩|⟨r,n,as,e⟩<;>simp at e)
theorem adH{P:Program}{o:Oper}{x:ROp}(h:pU P o=some (.r x)):cR P o=some x:=by
 unfold pU at h
 repeat' split at h
 all_goals first
  |(simp at h;subst h;assumption)
  |(simp at h;done)
  |(rename_i hc;simp at h;subst h;rcases kZ hc with⟨f,as,e⟩|⟨r,n,as,e⟩<;>simp at e)
theorem adI{P:Program}{o:Oper}{x:LOp}(h:pU P o=some (.l x)):cL P o=some x:=by
 unfold pU at h
 repeat' split at h
 all_goals first
  |(simp at h;subst h;assumption)
  |(simp at h;done)
  |(rename_i hc;simp at h;subst h;rcases kZ hc with⟨f,as,e⟩|⟨r,n,as,e⟩<;>simp at e)
theorem adJ{P:Program}{o:Oper}{x:SOp}(h:pU P o=some (.s x)):cS P o=some x:=by
 unfold pU at h
 repeat' split at h
 all_goals first
  |(simp at h;subst h;assumption)
  |(simp at h;done)
  |(rename_i hc;simp at h;subst h;rcases kZ hc with⟨f,as,e⟩|⟨r,n,as,e⟩<;>simp at e)
theorem adK{P:Program}{o:Oper}{x:NOp}(h:pU P o=some (.n x)):cN P o=some x:=by
 unfold pU at h
 repeat' split at h
 all_goals first
  |(simp at h;subst h;assumption)
  |(simp at h;done)
  |(rename_i hc;simp at h;subst h;rcases kZ hc with⟨f,as,e⟩|⟨r,n,as,e⟩<;>simp at e)
theorem ux{adL:List Oper}{m:T Nat}{aQ tm:T AV}{i:Nat}{o:Oper}(h:dt adL m N aQ F i o=some tm):Dy adL m N i o.dst=true:=by
 unfold dt at h;split at h
 ·assumption
 ·simp at h
theorem Rt{P:Program}{Q:Exit->Act->World->Prop}{K:Act->World->Prop}(hI:Inv ops N es F h0 ρ0 w0 a0 listed k hk ρ a w)(my:da ops.toList 0=true){aQ:T AV}(HS:TR ρ0 aQ a0.tmps)(HT:a0.tmps.size=N){i:Nat}{o:Oper}(hn:Next ops listed i o)
 {ph:Nat} {h h':H} {r:Rec} (hq:BK P ops.toList (cG ops.toList) N aQ ph F h i o=some (r,h')) (hr:F.get i=some r) (sQ:∀l:Nat,es[l]?≠some i)
 (DC:∀v,r=.read v->∀tm,dt ops.toList (cG ops.toList) N aQ F i o=some tm->mf P tm hk o=some v)
 (WX:∀v b ao p,r=.alloc v b ao p->p<=k/\h0.next<=b/\∀j v' E5 p',F.get j=some (.alloc v' b E5 p')->j=i)
 (hK:∀ρ' a' w',Inv ops N es F h0 ρ0 w0 a0 (listed.setIfInBounds i true) k hk ρ' a' w'->K a' w'):wpOp P ops Q i K a w:=by
 have Lq:∀l e,es[l]?=some e->(On listed e\/e=i↔l<k):=by
  intro l e hl;rw[←hI.yC l e hl];constructor
  ·rintro (h|rfl)
   ·exact h
   ·exact absurd hl (sQ l)
  ·exact .inl
 unfold BK at hq;split at hq
 ·rename_i tm yl;have hT:=pv hI my HS HT hn yl;have hd:=ux yl;have still:∀V,VR ρ r.val V->Inv ops N es F h0 ρ0 w0 a0 (listed.setIfInBounds i true) k hk ρ (a.put o.dst V) w:=fun V hV=>
   hI.next my hn hr hd hV (Le.refl _) hI.nx hI.fresh hI.kp Lq hI.kle (fun j v b o p hj nU _=>hI.al j v b o p hj nU)
  unfold wpOp;simp only[hn.op];split at hq
  ·rename_i hw;rw[eP hw hT,if_neg (by simp)];simp at hq;obtain⟨rfl,rfl⟩:=hq;exact hK _ _ _ (still undef (by simp only[Rec.val,VR];exact⟨[],rfl,rfl⟩))
  ·rename_i hw;rw[eP hw hT,if_pos rfl];left;have fin:∀{v:AV} {V:Value},r.val=v->VR ρ v V->(execOp a.eval o).run P w=.ok (.value V) w->o.wp P a w K Q:=by
        intro v V hv hV gf;unfold Oper.wp;rw[gf];exact hK _ _ _ (still V (by rw[hv];exact hV))
   split at hq
   ·rename_i x hc;split at hq
    ·rename_i v hv;simp at hq;obtain⟨rfl,rfl⟩:=hq;obtain⟨V,k1,k2⟩:=y9 (adG hc) hv hT;exact fin rfl k1 (k2 w)
    ·simp at hq
   ·rename_i x hc;split at hq
    ·rename_i v hv;simp at hq;obtain⟨rfl,rfl⟩:=hq;have:=DC v rfl tm yl;unfold mf at this;rw[hc]at this;obtain⟨V,k1,k2⟩:=Aa (adH hc) this hT hI.nx.rel;exact fin rfl k1 k2
    ·simp at hq
   ·rename_i x hc;split at hq
    ·rename_i v hv;simp at hq;obtain⟨rfl,rfl⟩:=hq;have:=DC v rfl tm yl;unfold mf at this;rw[hc]at this;obtain⟨V,k1,k2⟩:=Ad (adI hc) this hT hI.nx.rel;exact fin rfl k1 k2
    ·simp at hq
   ·rename_i x hc;split at hq
    ·rename_i v hv;simp at hq;obtain⟨rfl,rfl⟩:=hq;have:=DC v rfl tm yl;unfold mf at this;rw[hc]at this;obtain⟨V,k1,k2⟩:=Ah (adJ hc) this hT hI.nx.rel;exact fin rfl k1 k2
    ·simp at hq
   ·rename_i x hc;split at hq
    ·rename_i ao f hv;simp at hq;obtain⟨rfl,rfl⟩:=hq;obtain⟨m1,m2,m3⟩:=WX _ _ _ _ rfl;obtain⟨hρ,hk2⟩:=hI.al i _ _ _ _ hr hn.new;obtain⟨mD,df⟩:=hk2 m1;obtain⟨hl,obj,room,k1,k2⟩:=Ac (adK hc) hv hT;obtain⟨V,j1,j2⟩:=k1 w;have I2:=tq (g':=hk.t.get) hI.nx.rel (a:=h.next) (l:=⟨w.heap.size,0,room⟩) (o:=ao) (obj:=obj) hρ rfl (fun b=>by
      by_cases e:b=h.next
      ·rw[if_pos e,e];exact mD
      ·rw[if_neg e]) (k2 _ _ _ (lI hρ) (by show(w.heap.push _)[w.heap.size]?=_;simp))
     unfold Oper.wp;rw[j1];refine hK (lq ρ h.next ⟨w.heap.size,0,room⟩) _ _ (hI.next my hn hr hd (V:=V) (j2 _ _ (cK hρ)) (lI hρ) (hI.nx.trans I2) (fun c hc=>?_) ⟨hI.kp.1,fun c hc e=>?_⟩ Lq hI.kle (fun j v b o p hj nU Qi=>?_))
     ·rw[cj (by omega)];exact hI.fresh c hc
     ·obtain⟨e1,e2⟩:=hI.kp.2 c hc e;exact⟨by rw[cj (by omega)];exact e1,e2⟩
     ·have dB:b≠h.next:=by
             rintro rfl;exact Qi (m3 j _ _ _ hj)
      obtain⟨e1,e2⟩:=hI.al j v b o p hj nU;exact⟨by rw[cj dB];exact e1,e2⟩
    ·simp at hq
   ·simp at hq
  ·simp at hq
 ·simp at hq
theorem HR.ext{ρ:aR}{g g':Nat->Option AO}{w:World}{n:Nat}(h:HR ρ g w)(hf:cC ρ n)(hold:∀b,b<n->g' b=g b):HR ρ g' w:=by
 have key:∀a l o,g' a=some o->ρ a=some l->g a=some o:=by
  intro a l o ho hl;rcases Nat.lt_or_ge a n with df|Gr
  ·rw[←hold a df];exact ho
  ·rw[hf a Gr]at hl;simp at hl
 exact⟨fun a o l ho hv hl=>h.obj a o l (key a l o ho hl) hv hl,fun a b o p l m ha ho hb hp hl hm=>h.inj a b o p l m (key a l o ha hl) ho (key b m p hb hm) hp hl hm⟩
theorem Nx.ext{ρ ρ':aR}{g g1 g':Nat->Option AO}{w w':World}{n:Nat}(h:Nx ρ g w ρ' g1 w')(hf:cC ρ' n)(hold:∀b,b<n->g' b=g1 b):Nx ρ g w ρ' g' w':=by
 refine⟨h.rel.ext hf hold,h.le,h.env,h.size,h.frame,fun a o l ha ho hl df=>?_⟩;refine h.back a o l ?_ ho hl df;rcases Nat.lt_or_ge a n with EB|Gr
 ·rw[←hold a EB];exact ha
 ·rw[hf a Gr]at hl;simp at hl
theorem Ru{P:Program}{call:ab}(aO:bF false P call){Q:Exit->Act->World->Prop}{K:Act->World->Prop}(hI:Inv ops N es F h0 ρ0 w0 a0 listed k hk ρ a w)(my:da ops.toList 0=true){aQ:T AV}(HS:TR ρ0 aQ a0.tmps)(HT:a0.tmps.size=N){i:Nat}{o:Oper}(hn:Next ops listed i o)
 (hki:es[k]?=some i) (adM:∀l:Nat,es[l]?=some i->l=k) {v:AV} {h2 nc:H} (hr:F.get i=some (.BJ v)) (hq:MH P call ops.toList (cG ops.toList) N aQ F hk i o=some (v,h2))
 (WY:PhF P ops.toList (cG ops.toList) N aQ (k+1) F h2 nc) (Oz:LI F (k+1) h2)
 (hK:∀ρ' a' w',Inv ops N es F h0 ρ0 w0 a0 (listed.setIfInBounds i true) (k+1) nc ρ' a' w'->K a' w'):wpOp P ops Q i K a w:=by
 have df:k<es.length:=(List.getElem?_eq_some_iff.1 hki).1;have Lq:∀l e,es[l]?=some e->(On listed e\/e=i↔l<k+1):=by
  intro l e hl;rw[hI.yC l e hl];constructor
  ·rintro (h|rfl)
   ·omega
   ·have:=adM l hl;omega
  ·intro h;rcases Nat.lt_or_ge l k with h1|h1
   ·exact .inl h1
   ·have:l=k:=by omega
    subst this;rw[hki]at hl;simp at hl;exact .inr hl.symm
 unfold MH at hq;split at hq
 ·rename_i tm yl;have hT:=pv hI my HS HT hn yl;have hd:=ux yl;have fin:∀ρ' w' V,VR ρ' v V->Way ρ hk w ρ' h2 w'->K (a.put o.dst V) w':=by
   intro ρ' w' V hV hw;have I2:=(hI.nx.trans hw.nx).ext hw.fresh WY.old;refine hK _ _ _ (hI.next my hn hr hd hV hw.nx.le I2 (fun c hc=>hw.fresh c (Nat.le_trans WY.next hc)) ?_ Lq df ?_)
   ·refine⟨Nat.le_trans (hI.kp.trans hw.kp).1 WY.next,fun c hc e=>?_⟩;obtain⟨e1,e2⟩:=(hI.kp.trans hw.kp).2 c hc e;exact⟨e1,by rw[WY.old c (Nat.lt_of_lt_of_le hc (hI.kp.trans hw.kp).1)];exact e2⟩
   ·intro j v' b oj p hj nU Qi;obtain⟨e1,e2⟩:=hI.al j v' b oj p hj nU;rcases Nat.lt_or_ge k p with hp|hp
    ·have hb:=Oz j v' b oj p hj hp;refine⟨hw.fresh b hb,fun hp'=>?_⟩;have:p=k+1:=by omega
     subst this;obtain⟨_,q2,q3⟩:=WY.at_ j v' b oj hj;exact⟨q3,q2⟩
    ·obtain⟨q1,q2⟩:=e2 hp;obtain⟨r1,r2⟩:=hw.kp.2 b q2 e1;have oU:b<h2.next:=Nat.lt_of_lt_of_le q2 hw.kp.1;exact⟨r1,fun _=>⟨by rw[WY.old b oU,r2];exact q1,Nat.lt_of_lt_of_le oU WY.next⟩⟩
  unfold wpOp;simp only[hn.op];split at hq
  ·rename_i hw;rw[eP hw hT,if_neg (by simp)];simp at hq;obtain⟨rfl,rfl⟩:=hq;exact fin ρ w undef (by simp only[VR];exact⟨[],rfl,rfl⟩) (Way.refl hI.nx.rel hI.fresh)
  ·rename_i hw;rw[eP hw hT,if_pos rfl];split at hq
   ·rename_i c hc;exact .inl ((xe aO hc hq hT hI.nx.rel hI.fresh).wp fin)
   ·simp at hq
  ·simp at hq
 ·simp at hq
end
end
end Go.Proofs.YtgkjlklfjbljeaaGreat.Eo
namespace Go.Proofs.YtgkjlklfjbljeaaGreat.Eo
noncomputable section
theorem xx{P:Program}{call:ab}{ops:List Oper}{m:T Nat}{N n:Nat}{aQ:T AV}{F:T Rec}{es:List Nat}:∀{nI:List Nat} {k0:Nat} {h:H} {hs:List H},DA P call ops m N aQ F k0 (fT m es n k0 nI) h hs->
 hs.length=nI.length+1/\(∃hk,hs[0]?=some hk/\PhF P ops m N aQ k0 F h hk/\LI F k0 h)/\
 ∀l e,nI[l]?=some e->∃hk v h2 nc o,hs[l]?=some hk/\ops[e]?=some o/\F.get e=some (.BJ v)/\MH P call ops m N aQ F hk e o=some (v,h2)/\hs[l+1]?=some nc/\
  PhF P ops m N aQ (k0+l+1) F h2 nc/\LI F (k0+l+1) h2
 | [],k0,h,hs,hc=>by
   simp only[fT,DA]at hc;obtain⟨c0,h1,rfl,c2⟩:=hc;exact⟨rfl,⟨h1,rfl,c2,c0⟩,fun l e he=>by simp at he⟩
 |x::nI,k0,h,hs,hc=>by
  simp only[fT,DA]at hc;obtain⟨c0,h1,Ck,v,h2,o,rfl,c2,c3,c4,c5,c6,c7⟩:=hc;obtain⟨i1,⟨nc,i2,i3,i4⟩,i5⟩:=xx c7;refine⟨by simp[i1],⟨h1,rfl,c2,c0⟩,fun l e he=>?_⟩;cases l with
  |zero=>
   simp at he;subst he;exact⟨h1,v,h2,nc,o,rfl,c3,c4,c5,by simpa using i2,i3,i4⟩
  |succ l=>
   simp at he;obtain⟨hk,v',h3,hk2,o',j1,j2,j3,j4,j5,j6,j7⟩:=i5 l e he;exact⟨hk,v',h3,hk2,o',by simpa using j1,j2,j3,j4,by simpa using j5,by rw[show k0+(l+1)+1=k0+1+l+1 by omega];exact j6,by rw[show k0+(l+1)+1=k0+1+l+1 by omega];exact j7⟩
theorem xy:∀{hs:List H} {h:H} {n:Nat},nz hs=some h->hs.length=n+1->hs[n]?=some h
 | [],h,n,e,hl=>by simp[nz]at e
 | [x],h,n,e,hl=>by
   simp[nz]at e;subst e;simp at hl;subst hl;rfl
 |x::y::hs,h,n,e,hl=>by
  cases n with
  |zero=>simp at hl
  |succ n=>
   simp only[nz]at e;simpa using xy (hs:=y::hs) e (by simpa using hl)
theorem py{P:Program}{m:T Nat}{es:List Nat}{tm:T AV}{o:Oper}{i:Nat}{v:AV}:∀{hs:List H} {k0:Nat},sC P m es tm o i v k0 hs=true->∀l h,hs[l]?=some h->kY m i es (k0+l)=true->mf P tm h o=some v
 | [],k0,_,l,h,hl,_=>by simp at hl
 |x::hs,k0,hc,l,h,hl,hm=>by
  simp only[sC,Bool.and_eq_true]at hc;cases l with
  |zero=>
   simp at hl;subst hl;rw[Nat.add_zero]at hm;have h1:=hc.1;rw[hm]at h1;simp only[]at h1;split at h1
   ·rename_i u hu;rw[hu,xr 20 u v h1]
   ·simp at h1
  |succ l=>
   simp at hl;exact py hc.2 l h hl (by rw[show k0+1+l=k0+(l+1) by omega];exact hm)
theorem mh{P:Program}{ops:List Oper}{m:T Nat}{N:Nat}{es:List Nat}{aQ:T AV}{F:T Rec}{hs:List H}:∀{l:List Oper} {i0:Nat},xu P ops m N es aQ F hs l i0=true->∀j o,l[j]?=some o->∃r,F.get (i0+j)=some r/\
 (∀v,r=.read v->∃tm,dt ops m N aQ F (i0+j) o=some tm/\sC P m es tm o (i0+j) v 0 hs=true)/\
 (∀v a ao q,r=.alloc v a ao (q+1)->∃e,es[q]?=some e/\ss m (i0+j) e=true)/\
 (∀v,r=.BJ v->es.contains (i0+j)=true)
 | [],i0,_,j,o,h=>by simp at h
 |x::l,i0,hc,j,o,h=>by
  simp only[xu,Bool.and_eq_true]at hc;cases j with
  |zero=>
   simp at h;subst h;rw[Nat.add_zero];have h1:=hc.1;split at h1
   ·rename_i v hv;refine⟨_,hv,fun v' e=>?_,by simp,by simp⟩;simp at e;subst e;split at h1
    ·rename_i tm yl;exact⟨tm,yl,h1⟩
    ·simp at h1
   ·rename_i hv;exact⟨_,hv,by simp,by simp,by simp⟩
   ·rename_i v a ao q hv;refine⟨_,hv,by simp,fun v' a' E5 q' e=>?_,by simp⟩;simp at e;obtain⟨_,_,_,rfl⟩:=e;split at h1
    ·rename_i e' he;exact⟨e',he,h1⟩
    ·simp at h1
   ·rename_i v hv;exact⟨_,hv,by simp,by simp,fun _ _=>h1⟩
   ·rename_i v hv;exact⟨_,hv,by simp,by simp,by simp⟩
   ·simp at h1
  |succ j=>
   simp at h;have:=mh hc.2 j o h;rw[show i0+1+j=i0+(j+1) by omega]at this;exact this
theorem sF{m:T Nat}{i:Nat}:∀{es:List Nat} {k:Nat},(∀(l e:Nat),es[l]?=some e->l<k->ss m e i=false)->(∀(l e:Nat),es[l]?=some e->k<=l->ss m i e=false)->kY m i es k=true
 | [],k,_,_=>by simp[kY]
 |e::es,0,h1,h2=>by
  simp only[kY,Bool.and_eq_true,Bool.not_eq_true'];exact⟨h2 0 e rfl (Nat.le_refl _),sF (fun l e' he hl=>by omega) (fun l e' he _=>h2 (l+1) e' (by simpa using he) (by omega))⟩
 |e::es,k+1,h1,h2=>by
  simp only[kY,Bool.and_eq_true,Bool.not_eq_true'];exact⟨h1 0 e rfl (by omega),sF (fun l e' he hl=>h1 (l+1) e' (by simpa using he) (by omega)) (fun l e' he hl=>h2 (l+1) e' (by simpa using he) (by omega))⟩
theorem fG{m:T Nat}:∀{es:List Nat},kn m es=true->∀(k l e f:Nat),es[k]?=some e->es[l]?=some f->k<l->ss m f e=true
 | [],_,k,l,e,f,h,_,_=>by simp at h
 |x::es,hc,k,l,e,f,he,hf,df=>by
  simp only[kn,Bool.and_eq_true,List.all_eq_true]at hc;cases l with
  |zero=>omega
  |succ l=>
   simp at hf;cases k with
   |zero=>
    simp at he;subst he;exact hc.1 f (List.mem_of_getElem? hf)
   |succ k=>
    simp at he;exact fG hc.2 k l e f he hf (by omega)
theorem PX{P:Program}{call:ab}(aO:bF false P call){ops:Array Oper}{N:Nat}{es:List Nat}{F:T Rec}{h0:H}{ρ0:aR}{w0:World}{a0:Act}{listed:Array Bool}{k:Nat}{hk:H}{ρ:aR}{a:Act}{w:World}{aQ:T AV}{hs:List H}
 (my:da ops.toList 0=true) (A1:kn (cG ops.toList) es=true) {n:Nat} (B8:yB P call ops.toList (cG ops.toList) N aQ 0 (fT (cG ops.toList) es n 0 es) .e h0=some (F,hs))
 (BO:xu P ops.toList (cG ops.toList) N es aQ F hs ops.toList 0=true) (HS:TR ρ0 aQ a0.tmps) (HT:a0.tmps.size=N)
 (hI:Inv ops N es F h0 ρ0 w0 a0 listed k hk ρ a w) (yD:hs[k]?=some hk) {i:Nat} {o:Oper} (hn:Next ops listed i o) {Q:Exit->Act->World->Prop} {K:Act->World->Prop}
 (hK:∀k' nc ρ' a' w',hs[k']?=some nc->Inv ops N es F h0 ρ0 w0 a0 (listed.setIfInBounds i true) k' nc ρ' a' w'->K a' w'):wpOp P ops Q i K a w:=by
 obtain⟨r,hr,c1,c2,c3⟩:=mh BO i o (by simpa using hn.op);rw[Nat.zero_add]at hr c1 c2 c3;obtain⟨d1,d2,d3,d4,d5⟩:=kW B8 (by intro i v a ao p h;simp[T.di]at h);obtain⟨e1,e2,e3⟩:=xx d2;have before:∀(l e:Nat),es[l]?=some e->ss (cG ops.toList) i e=true->l<k:=fun l e hl hb=>(hI.yC l e hl).1 (hn.E6 hI.down my hb)
 rcases d3 i r hr with hh|⟨v,rfl⟩|⟨o',ph,hh,hh',ho',hq⟩
 ·simp[T.di]at hh
 ·have vV:=c3 v rfl;have:i∈es:=by simpa using vV
  obtain⟨l,hl⟩:=List.getElem?_of_mem this;have hnl:¬l<k:=fun h=>hn.new ((hI.yC l i hl).2 h)
  have Rr:l=k:=by
   rcases Nat.lt_or_ge k l with h|h
   ·obtain⟨f,hf⟩:∃f,es[k]?=some f:=⟨es[k]'(Nat.lt_trans h (List.getElem?_eq_some_iff.1 hl).1),by simp⟩;have:=before k f hf (fG A1 k l f i hf hl h);omega
   ·omega
  subst Rr;obtain⟨hk1,v',h2,nc,XY,f1,f2,f3,f4,f5,f6,f7⟩:=e3 l i hl;rw[yD]at f1;simp at f1;subst f1;have:XY=o:=by
   have:=hn.op;have I9:ops[i]?=some XY:=by simpa using f2
   rw[I9]at this;simpa using this
  subst this;rw[hr]at f3;simp at f3;subst f3;rw[Nat.zero_add]at f6 f7;refine Ru aO hI my HS HT hn hl (fun l' CR=>?_) hr f4 f6 f7 (fun ρ' a' w' HW=>hK _ _ _ _ _ f5 HW);rcases Nat.lt_trichotomy l' l with h|h|h
  ·have:=(gk my (fG A1 l' l i i CR hl h)).1;omega
  ·exact h
  ·have:=(gk my (fG A1 l l' i i hl CR h)).1;omega
 ·have:o'=o:=by
   have:=hn.op;have I9:ops[i]?=some o':=by simpa using ho'
   rw[I9]at this;simpa using this
  subst this;have dB:=(ny hq).1;have sQ:∀l:Nat,es[l]?≠some i:=by
   intro l hl;obtain⟨_,v',_,_,_,_,_,f3,_⟩:=e3 l i hl;rw[hr]at f3;simp at f3;exact dB v' f3
  refine Rt hI my HS HT hn hq hr sQ (fun v hv tm yl=>?_) (fun v b ao p hv=>?_) (fun ρ' a' w' HW=>hK _ _ _ _ _ yD HW)
  ·obtain⟨aC,g1,g2⟩:=c1 v hv;rw[yl]at g1;simp at g1;subst g1;refine py g2 k hk yD ?_
   rw[Nat.zero_add];exact sF (fun l e hl df=>hn.vL hI.down my ((hI.yC l e hl).2 df)) (fun l e hl Gr=>by
        cases hb:ss (cG ops.toList) i e with
        |false=>rfl
        |true=>have:=before l e hl hb;omega)
  ·subst hv;refine⟨?_,?_,fun j v' E5 p' hj=>?_⟩
   ·cases p with
    |zero=>omega
    |succ q=>
     obtain⟨e,he,hb⟩:=c2 _ _ _ _ rfl;exact before q e he hb
   ·rcases d4 i _ _ _ _ hr with hh|⟨_,hh⟩
    ·simp[T.di]at hh
    ·exact hh
   ·exact d5 j i _ _ _ _ _ _ _ (T.di _) hj (T.di _) hr
theorem sG:∀{l:List Oper} {i0:Nat},da l i0=true->∀j o,l[j]?=some o->∀e∈o.after.toList,Region.binds .any e=true->e.on<i0+j
 | [],i0,_,j,o,h=>by simp at h
 |x::l,i0,hc,j,o,h=>by
  rw[sy]at hc;simp only[Bool.and_eq_true,List.all_eq_true]at hc;cases j with
  |zero=>
   simp at h;subst h;intro e he hb;have:=hc.1 e he;rw[hb]at this;simpa using this
  |succ j=>
   simp at h;intro e he hb;have:=sG hc.2 j o h e he hb;omega
theorem LL{ops:Array Oper}{listed:Array Bool}(my:da ops.toList 0=true)(rn:listed.size=ops.size)(hr:Region.ready .any ops listed=[]):∀i,i<ops.size->On listed i:=by
 intro i
 induction i using Nat.strongRecOn with
 |_ i ih=>
  intro hi;apply Classical.byContradiction;intro nU;have:i∈Region.ready .any ops listed:=by
    rw[mem_ready];refine⟨?_,ops[i],by simp[hi],fun e he hb=>?_⟩
    ·have hl:i<listed.size:=by omega
     unfold On at nU;simp[hl]at nU⊢;exact nU
    ·have df:=sG my i ops[i] (by simp[hi]) e (by simpa using he) hb;exact ih e.on (by omega) (by omega)
  rw[hr]at this;simp at this
theorem nD{F:T Rec}:∀{l:List Oper} {i0:Nat} {tm:T AV} {t:Nat} {v:AV},(dI F l i0 tm).get t=some v->
 (∃j o r,l[j]?=some o/\o.dst=some t/\F.get (i0+j)=some r/\v=r.val/\∀(j':Nat) o',l[j']?=some o'->o'.dst=some t->(∃r',F.get (i0+j')=some r')->j'<=j)\/
 (tm.get t=some v/\∀(j':Nat) o',l[j']?=some o'->o'.dst=some t->F.get (i0+j')=none)
 | [],i0,tm,t,v,h=>.inr ⟨h,fun j' o' h'=>by simp at h'⟩
 |x::l,i0,tm,t,v,h=>by
  rw[sD]at h;have shift:∀j,i0+1+j=i0+(j+1):=fun j=>by omega
  split at h
  ·rename_i d r hd hr;rcases nD h with⟨j,o,r',k1,k2,k3,k4,k5⟩|⟨k1,k2⟩
   ·refine .inl ⟨j+1,o,r',by simpa using k1,k2,by rw[←shift];exact k3,k4,fun j' o' h1 h2 h3=>?_⟩;cases j' with
    |zero=>omega
    |succ j'=>
     rw[←shift]at h3;have:=k5 j' o' (by simpa using h1) h2 h3;omega
   ·rw[T.ay]at k1
    by_cases e:t=d
    ·subst e;rw[if_pos rfl]at k1;simp at k1;refine .inl ⟨0,x,r,rfl,hd,hr,k1.symm,fun j' o' h1 h2 h3=>?_⟩;cases j' with
     |zero=>omega
     |succ j'=>
      obtain⟨r',h3⟩:=h3;rw[←shift]at h3;rw[k2 j' o' (by simpa using h1) h2]at h3;simp at h3
    ·rw[if_neg e]at k1;refine .inr ⟨k1,fun j' o' h1 h2=>?_⟩;cases j' with
     |zero=>
      simp at h1;subst h1;rw[hd]at h2;simp at h2;exact absurd h2.symm e
     |succ j'=>rw[←shift];exact k2 j' o' (by simpa using h1) h2
  ·rename_i dB;have h0:x.dst=some t->F.get i0=none:=by
        intro hd;cases hF:F.get i0 with
        |none=>rfl
        |some r=>exact absurd hF (dB t r hd)
   rcases nD h with⟨j,o,r',k1,k2,k3,k4,k5⟩|⟨k1,k2⟩
   ·refine .inl ⟨j+1,o,r',by simpa using k1,k2,by rw[←shift];exact k3,k4,fun j' o' h1 h2 h3=>?_⟩;cases j' with
    |zero=>omega
    |succ j'=>
     rw[←shift]at h3;have:=k5 j' o' (by simpa using h1) h2 h3;omega
   ·refine .inr ⟨k1,fun j' o' h1 h2=>?_⟩;cases j' with
    |zero=>
     simp at h1;subst h1;simpa using h0 h2
    |succ j'=>rw[←shift];exact k2 j' o' (by simpa using h1) h2
theorem xz{p q:Nat->Bool}:∀{l:List Nat} {x:Nat},x∈l->p x=true->q x=false->(∀y,q y=true->p y=true)->l.countP q<l.countP p
 | [],x,h,_,_,_=>by simp at h
 |y::l,x,h,hp,hq,himp=>by
  have hle:l.countP q<=l.countP p:=List.countP_mono_left fun z _ hz=>himp z hz
  rw[List.countP_cons,List.countP_cons];rcases List.mem_cons.1 h with rfl|h
  ·rw[hp,hq];simp;omega
  ·have:=xz h hp hq himp
   by_cases hy:q y=true
   ·rw[hy,himp y hy];simp;omega
   ·simp only[Bool.not_eq_true]at hy;rw[hy];simp;split<;>omega
theorem LM{ops:Array Oper}{N:Nat}{es:List Nat}{F:T Rec}{h0:H}{ρ0:aR}{w0:World}{a0:Act}{listed:Array Bool}{k:Nat}{hk:H}{ρ:aR}{a:Act}{w:World}{aQ:T AV}
 (hI:Inv ops N es F h0 ρ0 w0 a0 listed k hk ρ a w) (HS:TR ρ0 aQ a0.tmps) (HT:a0.tmps.size=N) (tL:∀i,i<ops.size->On listed i) (hF:∀i o,ops[i]?=some o->∃r,F.get i=some r):TR ρ (dI F ops.toList 0 aQ) a.tmps:=by
 intro t v hv;rcases nD hv with⟨j,o,r,k1,k2,k3,k4,k5⟩|⟨k1,k2⟩
 ·rw[Nat.zero_add]at k3;have Oa:ops[j]?=some o:=by simpa using k1
  have hj:On listed j:=tL j (Array.getElem?_eq_some_iff.1 Oa).1;rcases hI.aq t with⟨j',r',oj,s1,s2,s3,s4,s5,s6,s7⟩|⟨s1,_⟩
  ·have a1:=s5 j o Oa k2 hj;have a2:=k5 j' oj (by simpa using s1) s2 ⟨r',by rw[Nat.zero_add];exact s4⟩;have:j'=j:=by omega
   subst this;rw[k3]at s4;simp at s4;subst s4;rw[k4];exact⟨by rw[hI.uv];exact s6,s7⟩
  ·exact absurd hj (s1 j o Oa k2)
 ·rcases hI.aq t with⟨j',r',oj,s1,s2,s3,s4,_⟩|⟨_,s2⟩
  ·have:=k2 j' oj (by simpa using s1) s2;rw[Nat.zero_add,s4]at this;simp at this
  ·obtain⟨z1,z2⟩:=HS t v k1;exact⟨by rw[hI.uv,←HT];exact z1,by rw[s2];exact VR.mono hI.nx.le _ _ z2⟩
theorem xB{ops:Array Oper}(h:sE ops.toList=true)(i:Nat)(o:Oper)(hi:ops[i]?=some o)(c:Call):o.op≠.defer c:=by
 intro e;unfold sE at h;have:=List.all_eq_true.1 h o (by simpa using Array.mem_of_getElem? hi);rw[e]at this;simp at this
theorem xC{r:Option Nat}{P:Program}{ops:Array Oper}{Q:Exit->Act->World->Prop}(hd:∀(i:Nat) (o:Oper),ops[i]?=some o->∀c:Call,o.op≠Op.defer c)(hL:¬LetsOut Q):∀(l:List Nat) (a:Act) (w:World),wpOps P ops Q l a w->wpOpsIn (Ds r) 0 P ops Q l a w
 | [],a,w,h=>h
 |i::l,a,w,h=>by
  rw[wpOps_cons]at h;rw[wpOpsIn_cons];unfold wpOp at h;unfold wpOpIn;have ih:=xC (r:=r) (P:=P) hd hL l;cases hi:ops[i]? with
  |none=>rw[hi]at h;exact ih _ _ h
  |some o=>
   rw[hi]at h;simp only at h⊢;split
   ·rename_i hw;rw[if_pos hw]at h;rcases h with h|⟨_,h⟩
    ·refine⟨fun _ _=>trivial,?_⟩;rw[Oper.semAt_eq _ _ _ (hd i o hi)];unfold Oper.wp at h;generalize(execOp a.eval o).run P w=res at h;cases res with
     |ok nx w'=>
      cases nx with
      |value v=>exact ih _ _ h
      |skip=>exact ih _ _ h
      |defer d=>exact ih _ _ h
      |enter f args=>
       refine⟨fun hh=>by simp[Ds,Fence.wide]at hh,uj (Calls.mono h fun e uK hh=>?_)⟩;cases e with
       |returned v=>exact ih _ _ hh
       |panicked chain=>exact hh
       |outgrown=>exact hh
      |row row args=>
       refine⟨fun hh=>by simp[Ds,Fence.wide]at hh,fun c cs _=>?_⟩;obtain⟨v,w2,k1,k2⟩:=h c cs;exact⟨v,w2,ih _ _ k1,stepsIn_wide.2 k2⟩
      |_=>exact h.elim
     |halt x w'=>
      cases x with
      |panic v=>exact h
      |_=>exact h.elim
    ·exact absurd h hL
   ·rename_i hw;rw[if_neg hw]at h;exact⟨fun _ _=>trivial,ih _ _ h⟩
theorem KU{P:Program}(hm:P.follows .mixedOrders=true):nj P (Kz P):=by
 intro call aO id ops N tm h aC h' he r B ρ0 a0 w0 fV;unfold Kz at he;split at he
 ·rename_i ue;simp only[Bool.and_eq_true]at ue;obtain⟨⟨my,A1⟩,Mg⟩:=ue;split at he
  ·rename_i F hs B8;split at he
   ·rename_i BO;split at he
    ·rename_i hl DE;simp at he;obtain⟨rfl,rfl⟩:=he;obtain⟨d1,d2,d3,d4,d5⟩:=kW B8 (by intro i v a ao p h;simp[T.di]at h);obtain⟨e1,⟨hk0,e2,yn,WZ⟩,e3⟩:=xx d2;have hF:∀i o,ops[i]?=some o->∃r,F.get i=some r:=fun i o ho=>by
      obtain⟨r,hr,_⟩:=mh BO i o (by simpa using ho);rw[Nat.zero_add]at hr;exact⟨r,hr⟩
     have main:∀fuel listed k hk ρ a w,Inv ops N (bq P ops.toList 0) F h ρ0 w0 a0 listed k hk ρ a w->hs[k]?=some hk->(List.range ops.size).countP (fun i=>!listed.getD i false)<=fuel->
      wpAny P .any ops (fun e a' w'=>e=Ex.normal.out/\∃ρ',St B N ρ' (dI F ops.toList 0 tm) hl a' w'/\Way ρ0 h w0 ρ' hl w') fuel listed a w:=by
      have done:∀listed k hk ρ a w,Inv ops N (bq P ops.toList 0) F h ρ0 w0 a0 listed k hk ρ a w->hs[k]?=some hk->(∀i,i<ops.size->On listed i)->
       Ex.normal.out=Ex.normal.out/\∃ρ',St B N ρ' (dI F ops.toList 0 tm) hl a w/\Way ρ0 h w0 ρ' hl w:=by
       intro listed k hk ρ a w hI yD tL;have Zq:k=(bq P ops.toList 0).length:=by
        rcases Nat.lt_or_ge k (bq P ops.toList 0).length with df|Gr
        ·have hx:(bq P ops.toList 0)[k]?=some ((bq P ops.toList 0)[k]):=by simp[df]
         obtain⟨_,_,_,_,o,_,f2,_⟩:=e3 k _ hx;have:=(hI.yC k _ hx).1 (tL _ (by have:=(List.getElem?_eq_some_iff.1 f2).1;simpa using this));omega
        ·have:=hI.kle;omega
       have:hl=hk:=by
        have:=xy DE e1;rw[←Zq,yD]at this;simpa using this.symm
       subst this;exact⟨rfl,ρ,⟨LM hI fV.tr fV.size tL hF,hI.nx.rel,hI.fresh,hI.uv,by rw[hI.defers];exact fV.defers.nx fV.hr hI.nx,Nat.le_trans fV.base hI.nx.size⟩,hI.nx,hI.fresh,hI.kp⟩
      intro fuel
      induction fuel with
      |zero=>
       intro listed k hk ρ a w hI yD hc;have tL:∀i,i<ops.size->On listed i:=by
        intro i hi;have h0:(List.range ops.size).countP (fun i=>!listed.getD i false)=0:=by omega
        have:=List.countP_eq_zero.1 h0 i (by simpa using hi);unfold On;cases hh:listed.getD i false with
        |true=>rfl
        |false=>rw[hh]at this;simp at this
       refine⟨?_,done _ _ _ _ _ _ hI yD tL⟩;cases hr:Region.ready .any ops listed with
       |nil=>rfl
       |cons x xs=>
        have hx:x∈Region.ready .any ops listed:=by rw[hr];simp
        obtain⟨q1,o,q2,_⟩:=mem_ready.1 hx;have:=tL x (Array.getElem?_eq_some_iff.1 q2).1;unfold On at this;have df:x<listed.size:=by rw[hI.uu];exact(Array.getElem?_eq_some_iff.1 q2).1
        simp[df]at q1 this;rw[q1]at this;simp at this
      |succ fuel ih=>
       intro listed k hk ρ a w hI yD hc;refine⟨fun hr=>done _ _ _ _ _ _ hI yD (LL my hI.uu hr),fun i hi=>?_⟩;obtain⟨q1,o,q2,q3⟩:=mem_ready.1 hi;have df:i<listed.size:=by rw[hI.uu];exact(Array.getElem?_eq_some_iff.1 q2).1
       have nU:listed.getD i false=false:=by simp[df]at q1⊢;exact q1
       refine PX (sj aO) my A1 B8 BO fV.tr fV.size hI yD ⟨q2,by unfold On;rw[nU];simp,fun e he hb=>q3 e (by simpa using he) hb⟩ fun k' nc ρ' a' w' W0 HW=>ih _ _ _ _ _ _ HW W0 ?_
       have:=xz (l:=List.range ops.size) (x:=i) (p:=fun i=>!listed.getD i false) (q:=fun j=>!(listed.setIfInBounds i true).getD j false) (by simpa using(Array.getElem?_eq_some_iff.1 q2).1) (by simp only[nU,Bool.not_false]) (by
        have:On (listed.setIfInBounds i true) i:=(xw df).2 (.inr rfl);unfold On at this;rw[this];rfl) (fun y hy=>by
        cases hh:listed.getD y false with
        |false=>rfl
        |true=>
         have:On (listed.setIfInBounds i true) y:=(xw df).2 (.inl hh);unfold On at this;rw[this]at hy;simp at hy)
       omega
     refine wpIn_region_draw fun t=>?_
     simp only[Region.schedule,hm,Bool.true_or,if_true];refine xC (xB Mg) (by rintro ⟨_,_,hh,_⟩;simp[Ex.out]at hh) _ _ _ (wpAny_sound ops.size t _ a0 _ (main ops.size (Array.replicate ops.size false) 0 hk0 ρ0 a0 _ ?_ e2 (Nat.le_trans List.countP_le_length (by simp))));have nU:∀i,¬On (Array.replicate ops.size false) i:=fun i=>by
      unfold On;rw[Array.getD_eq_getD_getElem?,Array.getElem?_replicate];split<;>simp
     have hd:=Nx.drew (w':={w0 with drawn:=w0.drawn+1}) fV.hr rfl ⟨rfl,rfl,rfl⟩;refine⟨by simp,fun i o _ hi=>absurd hi (nU i),fun l e hl=>⟨fun hh=>absurd hh (nU e),fun hh=>by omega⟩,Nat.zero_le _,hd.ext fV.fresh yn.old,fun c hc=>fV.fresh c (Nat.le_trans yn.next hc),⟨yn.next,fun c hc e=>⟨e,yn.old c hc⟩⟩,fun i v b o p hi _=>?_,fun t=>.inr ⟨fun j o _ _=>nU j,rfl⟩,fV.size,rfl⟩;refine⟨fV.fresh b (WZ i v b o p hi (Nat.zero_le _)),fun hp=>?_⟩;have:p=0:=by omega
     subst this;obtain⟨q1,q2,q3⟩:=yn.at_ i v b o hi;exact⟨q3,q2⟩
    ·simp at he
   ·simp at he
  ·simp at he
 ·simp at he
def A8(since:Nat)(l:List (AV×AV×Nat)):Bool:=l.all fun e=>Nat.ble (Nat.succ e.2.2) since
def rq(tm:T AV)(h:H)(x:cg):Option (List (AV×H)):=match cV tm x with
 |some (.ptr p 0)=>match h.t.get p with
  |some (.iter (some a) since seen last)=>match h.t.get a with
   |some (.map es clock)=>match !seen.isEmpty&&!es.isEmpty&&es.all (fun e=>Nat.ble last e.2.2)with
    |true=>none
    |false=>match kL es seen with
     |e1::e2::l=>match A8 since (e1::e2::l)with
      |true=>some ((e1::e2::l).map fun e=>(.aE [.bool true,e.1,e.2.1],⟨h.next,h.t.set p (.iter (some a) since (seen++[e.2.2]) clock)⟩))
      |false=>none
     |_=>none
   |_=>none
  |_=>none
 |_=>none
theorem ij.at{ρ:aR}:∀{es:List (AV×AV×Nat)} {ES:List MapEntry},ij ρ es ES->ES.length=es.length/\∀(i:Nat) (E:MapEntry),ES[i]?=some E->∃e,e∈es/\VR ρ e.1 E.key/\VR ρ e.2.1 E.val/\E.born=e.2.2
 | [],ES,h=>by simp only[ij]at h;subst h;simp
 |e::es,ES,h=>by
  obtain⟨E,M,h1,h2,h3,h4,rfl⟩:=h;obtain⟨k1,k2⟩:=ij.at h4;refine⟨by simp[k1],fun i E' hi=>?_⟩;cases i with
  |zero=>simp at hi;subst hi;exact⟨e,by simp,h1,h2,h3⟩
  |succ i=>
   obtain⟨e',j1,j2⟩:=k2 i E' (by simpa using hi);exact⟨e',by simp[j1],j2⟩
theorem HX{ρ:aR}{since:Nat}{es:List (AV×AV×Nat)}{ES:List MapEntry}(h:ij ρ es ES)(ho:A8 since es=true):∀E∈ES,E.born<since:=by
 intro E hE;obtain⟨i,hi⟩:=List.getElem?_of_mem hE;obtain⟨e,h1,_,_,h4⟩:=(ij.at h).2 i E hi;have:=List.all_eq_true.1 ho e h1;rw[h4];exact Nat.le_of_ble_eq_true this
theorem DF{P:Program}{o:Oper}{x:Operand}{x':cg}{tm:T AV}{h:H}{rs:List (AV×H)}{ρ:aR}{a:Act}{w:World}(ho:o.op=.next x false)(hx:aP x=some x')(he:rq tm h x'=some rs)(ht:TR ρ tm a.tmps)(hr:HR ρ h.t.get w)(hf:cC ρ h.next):
 ∃r∈rs,Dm P (execOp a.eval o) ρ h w r.1 r.2:=by
 obtain⟨dst,op,type,pos,after,guard⟩:=o;simp only at ho;subst ho;unfold rq at he;split at he
 ·rename_i p hv;have hM:=ai ht hx hv;simp only[VR]at hM;obtain⟨l,hl,hM⟩:=hM;split at he
  ·rename_i q since seen last hg;obtain⟨_,h0,M,h1,k,hk,rfl⟩:=hr.obj p _ l hg rfl hl;split at he
   ·rename_i es clock xZ;obtain⟨_,ES,h3,h4⟩:=hr.obj q _ k xZ rfl hk;split at he
    ·simp at he
    ·rename_i ue;have hE:=uh h3;have hA:=tC last h3;have BF:(!(seen.toArray).isEmpty&&!(ES.toArray).isEmpty&&(ES.toArray).all fun e=>decide (e.born>=last))=false:=by
      rw[←ue];simp[←hE,←hA]
     have hL:=ng seen h3;split at he
     ·rename_i e1 e2 l' GR;rw[GR]at hL;split at he
      ·rename_i hold;simp only[Option.some.injEq]at he;generalize sQ:e1::e2::l'=L at*;obtain⟨LS,hLS⟩:∃LS,LS=ES.filter fun e=>!seen.toArray.contains e.born:=⟨_,rfl⟩
       rw[←hLS]at hL;have hL':(ES.toArray.filter fun e=>!seen.toArray.contains e.born)=LS.toArray:=by
        rw[hLS];simp
       obtain⟨hlen,B7⟩:=ij.at hL;have hb:=HX hL hold;have adN:2<=LS.length:=by rw[hlen,←sQ];simp
       have f1:LS.toArray.filter (fun e=>decide (e.born<since))=LS.toArray:=by
        rw[Array.filter_eq_self];intro E hE;simpa using hb E (by simpa using hE)
       have f2:LS.toArray.filter (fun e=>decide (e.born>=since))= #[]:=by
        rw[Array.filter_eq_empty_iff];intro E hE;have:=hb E (by simpa using hE);simp;omega
       have dB:LS.toArray.isEmpty=false:=by
        cases LS with
        |nil=>simp at adN
        |cons x y=>rfl
       obtain⟨n,hn⟩:∃n,n=LS.length:=⟨_,rfl⟩;obtain⟨i,hi⟩:∃i,i=w.tape w.drawn (.mapNext n)%n:=⟨_,rfl⟩;have fH:i<n:=by rw[hi];exact Nat.mod_lt _ (by omega)
       obtain⟨E,hEi⟩:∃E,LS[i]?=some E:=⟨LS[i]'(by omega),by simp⟩;obtain⟨e,g1,g2,g3,g4⟩:=B7 i E hEi;refine⟨(.aE [.bool true,e.1,e.2.1],⟨h.next,h.t.set p (.iter (some q) since (seen++[e.2.2]) clock)⟩),?_,?_⟩
       ·rw[←he];exact List.mem_map.2 ⟨e,g1,rfl⟩
       ·obtain⟨w1,AI⟩:∃w1:World,w1={w with drawn:=w.drawn+1}:=⟨_,rfl⟩
        have pH:Way ρ h w ρ h w1:=Way.drew hr hf (by rw[AI]) (by rw[AI];exact⟨rfl,rfl,rfl⟩);have df:l.b9<w.heap.size:=(hr.obj p _ l hg rfl hl).1;have Cf:w1.heap[l.b9]?=some (.mapIter (some k.b9) since seen.toArray last):=by rw[AI];exact h1
        refine⟨ρ,{w1 with heap:=w1.heap.setIfInBounds l.b9 (.mapIter (some k.b9) since (seen++[e.2.2]).toArray clock)},.tuple #[.bool true,E.key,E.val],.inl ?_,?_,?_⟩
        ·simp only[execOp,Instr.next,Sem.run_bind,hM,h0,Nat.add_zero,sh h1,Result.andThen_ok,run_map h4,BF,Bool.false_eq_true,if_false,hL',f1,f2,dB];have hc:(choose (.mapNext ((#[]:Array (Option MapEntry))++(LS.toArray++ #[]).map some).size)).run P w=.ok i w1:=by
                have:((#[]:Array (Option MapEntry))++(LS.toArray++ #[]).map some).size=n:=by simp[hn]
                rw[this];have hnf:(Question.mapNext n).forced=false:=by simp[Question.forced];omega
                simp[choose,Sem.run,hnf,Question.cut,hi,AI]
         rw[hc];simp only[Result.andThen_ok];have adO:((#[]:Array (Option MapEntry))++(LS.toArray++ #[]).map some)[i]?=some (some E):=by
                simp[hEi]
         rw[adO];simp[setObj,Sem.run,Cf,g4]
        ·exact⟨[.bool true,E.key,E.val],⟨.bool true,[E.key,E.val],rfl,⟨E.key,[E.val],g2,⟨E.val,[],g3,rfl,rfl⟩,rfl⟩,rfl⟩,rfl⟩
        ·exact pH.trans (eY hf hl (lH pH.nx.rel hg rfl hl (fun b=>T.ay _ _ _ _) ⟨rfl,rfl,rfl⟩ (by simp) (fun r dB=>by simp only[Array.getElem?_setIfInBounds_ne (Ne.symm dB)]) rfl ⟨h0,some k.b9,by
                have aop:l.b9<w1.heap.size:=by rw[AI];exact df
                simp[aop],k,hk,rfl⟩))
      ·simp at he
     ·simp at he
   ·simp at he
  ·simp at he
 ·simp at he
def DG{α β:Type}(f:α->Option (List β)):List α->Option (List β)
 | []=>some []
 |a::l=>match f a with
  |some bs=>match DG f l with
   |some cs=>some (bs++cs)
   |none=>none
  |none=>none
theorem Ak{α β:Type}{f:α->Option (List β)}:∀{l:List α} {r:List β},DG f l=some r->∀a∈l,∃bs,f a=some bs/\∀b∈bs,b∈r
 | [],r,h,a,ha=>by simp at ha
 |x::l,r,h,a,ha=>by
  unfold DG at h;split at h
  ·rename_i bs hb;split at h
   ·rename_i cs hc;simp at h;subst h;rcases List.mem_cons.1 ha with rfl|ha
    ·exact⟨bs,hb,fun b hb=>by simp[hb]⟩
    ·obtain⟨ds,h1,h2⟩:=Ak hc a ha;exact⟨ds,h1,fun b hb=>by simp[h2 b hb]⟩
   ·simp at h
  ·simp at h
def xD(o:Oper):Option cg:=match o.guard with
 |none=>match o.op with
  | .next x false=>aP x
  |_=>none
 |some _=>none
def W3(N:Nat)(tm:T AV)(dst:Option Nat)(rs:List (AV×H)):Option (List (T AV×H)):=
 DG (fun r=>match tD N tm dst r.1 with
    |some aC=>some [(aC,r.2)]
    |none=>none) rs
def LN{α:Type}:Option α->Option (List α)
 |some x=>some [x]
 |none=>none
def Gy(P:Program)(call:ab)(ops:List Oper)(N:Nat)(tm:T AV)(h:H)(o:Oper):Option (List (T AV×H)):=match xD o with
 |some x=>match rq tm h x with
  |some rs=>W3 N tm o.dst rs
  |none=>LN (mr P call ops N tm h o)
 |none=>LN (mr P call ops N tm h o)
theorem HY{o:Oper}{x':cg}(h:xD o=some x'):o.guard=none/\∃x,o.op=.next x false/\aP x=some x':=by
 unfold xD at h;split at h
 ·rename_i hg;split at h
  ·rename_i x ho;exact⟨hg,x,ho,h⟩
  ·simp at h
 ·simp at h
theorem DH{r:Option Nat}{P:Program}{call:ab}(aO:bF true P call){ops:Array Oper}{B N:Nat}{tm:T AV}{h:H}{rs:List (T AV×H)}{o:Oper}(he:Gy P call ops.toList N tm h o=some rs){ρ:aR}{a:Act}{w:World}(hs:St B N ρ tm h a w)
 {i:Nat} (hi:ops[i]?=some o) {Q:Exit->Act->World->Prop} {K:Act->World->Prop} (hK:∀r∈rs,∀ρ' a' w',St B N ρ' r.1 r.2 a' w'->Way ρ h w ρ' r.2 w'->K a' w'):wpOpIn (Ds r) 0 P ops Q i K a w:=by
 have one:LN (mr P call ops.toList N tm h o)=some rs->wpOpIn (Ds r) 0 P ops Q i K a w:=by
  intro he;cases ri:mr P call ops.toList N tm h o with
  |none=>rw[ri]at he;simp[LN]at he
  |some p=>
   obtain⟨aC,h'⟩:=p;rw[ri]at he;simp[LN]at he;subst he;exact um aO ri hs hi fun ρ' a' w' k1 k2=>hK (aC,h') (by simp) ρ' a' w' k1 k2
 unfold Gy at he;split at he
 ·rename_i x' hx;split at he
  ·rename_i ns hn;obtain⟨hg,x,ho,hc⟩:=HY hx;obtain⟨q,hq,aoq⟩:=DF (P:=P) (w:=w) ho hc hn hs.tr hs.hr hs.fresh;obtain⟨bs,hb,hbs⟩:=Ak he q hq;unfold wpOpIn;simp only[hi];have hw:nh ops.toList tm o=some true:=by unfold nh;rw[hg]
   rw[eP hw hs.tr,if_pos rfl];split at hb
   ·rename_i dC hp;simp at hb;subst hb;refine(si.e (y:=true) aoq).wpIn (by rw[ho];simp) fun ρ' w' V k1 k2=>?_
    obtain⟨j1,j2,j3⟩:=pV hp hs.size (hs.tr.mono k2.nx.le) k1;exact hK (dC,q.2) (hbs _ (by simp)) ρ' _ w' ⟨j1,k2.nx.rel,k2.fresh,j2,by rw[j3];exact hs.defers.nx hs.hr k2.nx,Nat.le_trans hs.base k2.nx.size⟩ k2
   ·simp at hb
  ·exact one he
 ·exact one he
def pb(h:H):List Nat->T AO
 | []=>.e
 |k::l=>match h.t.get k with
  |some o=>(pb h l).set k o
  |none=>pb h l
theorem kN(h:H):∀(ks:List Nat) (a:Nat),(pb h ks).get a=if a∈ks then h.t.get a else none
 | [],a=>by simp[pb,T.di]
 |k::l,a=>by
  unfold pb;split
  ·rename_i o ho;rw[T.ay,kN h l a]
   by_cases e:a=k
   ·subst e;simp[ho]
   ·simp[e]
  ·rename_i ho;rw[kN h l a]
   by_cases e:a=k
   ·subst e;simp[ho]
   ·simp[e]
def BP(P:Program)(X:FuncId->Option eZ):Prop:=
 ∀f tag,X f=some tag->∃fn,P.funcs[f]?=some fn/\(fn.name== "runtime.NumGoroutine")=false/\fn.body.isNone=true/\Extern.findNext fn=none/\Extern.find fn=some tag.fn
def BQ(P:Program)(S:FuncId->H->Option Bool):Prop:=
 ∀f h b,S f h=some b->(∃fn c,P.funcs[f]?=some fn/\(fn.name== "runtime.NumGoroutine")=false/\fn.body=some c)/\
  ∀(ρ:aR) (w:World),HR ρ h.t.get w->Calls P f #[] w fun e w'=>e=.returned (.bool b)/\Env w w'/\w.heap.size<=w'.heap.size/\∀r,r<w.heap.size->w'.heap[r]?=w.heap[r]?
def xE(P:Program)(draw:eQ)(call:ab)(fuel:Nat)(fn:Func)(c:Code)(args:List AV)(h:H):Option (AV×H):=
 match iw P draw call (Nat.add args.length (Nat.sub fn.ntmps args.length)) fuel (iw P draw call (Nat.add args.length (Nat.sub fn.ntmps args.length)) fuel fun _ _ _=>none) c (aa 0 args .e) h with
 |some (ex,tm,h')=>match ex with
  | .exit _=>none
  | .goto _=>none
  |_=>match xj P tm h'.t.get fn.results.toList with
   |some vs=>some (fk vs,h')
   |none=>none
 |none=>none
def xF(N:Nat)(tm:T AV):List Nat->List AV->Option (T AV)
 | [],[]=>some tm
 |p::ps,v::vs=>cond (Nat.ble (p+1) N) (xF N (tm.set p v) ps vs) none
 |_,_=>none
def xG:Ex->Option (Option Code)
 | .normal=>some none
 | .ret=>some (some .ret)
 | .exit id=>some (some (.exit id))
 | .goto _=>none
def DI(a:Nat)(jump:Option Code)(h:H):Option (AV×H):=match h.t.get a with
 |some (.loop st fZ tm N ps x y)=>match jump with
  |none=>some (.bool true,⟨h.next,h.t.set a (.loop .ready none tm N ps x y)⟩)
  |some c=>some (.bool false,⟨h.next,h.t.set a (.loop .done (some c) tm N ps x y)⟩)
 |_=>none
def pX(P:Program)(draw:eQ)(call:ab)(a:Nat)(args:List AV)(h:H):Option (AV×H):=match h.t.get a with
 |some (.loop .ready fZ tm N ps x y)=>match xF N tm ps args with
  |some aQ=>match fX P draw call N x aQ h with
   |some (.normal,eo,h1)=>match h1.t.get a with
    |some (.loop .ready Gz Rp NL LF xL yL)=>match fX P draw call N y eo ⟨h1.next,h1.t.set a (.loop .busy Gz Rp NL LF xL yL)⟩with
     |some (ex,_,h3)=>match xG ex with
      |some jump=>DI a jump h3
      |none=>none
     |none=>none
    |_=>none
   |_=>none
  |none=>none
 |_=>none
def pA(P:Program)(draw:eQ)(X:FuncId->Option eZ)(S:FuncId->H->Option Bool)(fuel:Nat)(n:Nat):ab:=
 Nat.rec (motive:=fun _=>ab) (fun _ _ _=>none) (fun _ ih f args h=>match Nat.ble dW f with
    |true=>pX P draw ih (Nat.sub f dW) args h
    |false=>match S f h with
     |some b=>match args with
      | []=>some (.bool b,h)
      |_=>none
     |none=>match P.funcs[f]? with
      |some fn=>match fn.name== "runtime.NumGoroutine" with
       |true=>none
       |false=>match fn.body with
        |some c=>xE P draw ih fuel fn c args h
        |none=>match X f with
         |some tag=>F9 h tag args
         |none=>none
      |none=>none) n
theorem nE{P:Program}{ρ:aR}{tm:T AV}{h:H}{a:Act}{w:World}(ht:TR ρ tm a.tmps)(hr:HR ρ h.t.get w){fn:Func}{vs:List AV}(hv:xj P tm h.t.get fn.results.toList=some vs):
 ∃V,VR ρ (fk vs) V/\(results fn a.tmps).run P w=.ok V w:=by
 obtain⟨VS,k1,k2⟩:=xm ht hr hv;have hm:(fn.results.mapM (Dw a)).run P w=Result.ok VS.toArray w:=by
  rw[Array.mapM_eq_mapM_toList];simp[k2]
 have hr:(results fn a.tmps).run P w=.ok (if h:VS.toArray.size=1 then VS.toArray[0]else .tuple VS.toArray) w:=by
  have:results fn a.tmps=(do
   let vs ←fn.results.mapM (Dw a)
   pure (if h:vs.size=1 then vs[0]else .tuple vs)):=by
   unfold results;congr 1
  rw[this];simp only[Sem.run_bind,hm,Result.andThen_ok,Sem.run_pure]
 refine⟨_,?_,hr⟩;have hl:=k1.length
 match vs,VS,k1,hl with
 | [v],[V],k1,_=>
   simp only[bE]at k1;obtain⟨V',M,h1,rfl,h2⟩:=k1;simp at h2;subst h2;simpa [fk]using h1
 | [],[],k1,_=>simp only[fk,VR];exact⟨[],rfl,by simp⟩
 |v::u::l,V::U::L,k1,_=>
  simp only[fk,VR];exact⟨_,k1,by simp⟩
theorem LP{ρ0 ρ:aR}{h0 h:H}{w0 w:World}(hw:Way ρ0 h0 w0 ρ h w){D:Nat}(hD:w.heap[D]?=some (.deferred (some [])))(hb:w0.heap.size<=D):Way ρ0 h0 w0 ρ h (w.putObj D (.deferred none)):=by
 refine⟨⟨⟨fun a o l h1 h2 h3=>?_,hw.nx.rel.inj⟩,hw.nx.le,⟨hw.nx.env.os,hw.nx.env.tape,hw.nx.env.output⟩,by simpa using hw.nx.size,fun r hr hn=>?_,hw.nx.back⟩,hw.fresh,hw.kp⟩
 ·obtain⟨k1,k2⟩:=hw.nx.rel.obj a o l h1 h2 h3;exact⟨by simpa using k1,uJ.congr (World.putObj_heap_other (hw.nx.rel.not_def hD a o l h1 h2 h3)) k2⟩
 ·exact(World.putObj_heap_other (by omega)).trans (hw.nx.frame r hr hn)
theorem xH{B:Nat}{w:World}{D:Nat}:∀{ds:List Deferred},Clean B w ds->(∀e∈ds,e≠{target:=.collected D,args:= #[]})->Clean B (w.putObj D (.deferred none)) ds
 | [],_,_=>trivial
 |d::ds,h,dB=>by
  obtain⟨⟨D',h1,h2,h3,h4⟩,h5⟩:=h;refine⟨⟨D',h1,h2,?_,h4⟩,xH h5 fun e he=>dB e (by simp[he])⟩;rw[World.putObj_heap_other]
  ·exact h3
  ·rintro rfl;exact dB d (by simp) h1
theorem leaves{P:Program}{fn:Func}{tmps:Array Value}{R:Ending->World->Prop}{ρ0 ρ:aR}{h0 h:H}{w0:World}(hR:∀w,HR ρ h.t.get w->Way ρ0 h0 w0 ρ h w->∃V,(results fn tmps).run P w=.ok V w/\R (.returned V) w):
 ∀{ds:List Deferred} {w:World},Clean w0.heap.size w ds->Way ρ0 h0 w0 ρ h w->LeavesInM Fence.wide 0 P fn tmps R ds .returning w
 | [],w,_,hw=>hR w hw.nx.rel hw
 |d::ds,w,h,hw=>by
  obtain⟨⟨D,h1,h2,h3,h4⟩,h5⟩:=h;refine⟨by simp,.inl ⟨D,w.putObj D (.deferred none),by rw[h1],run_takeDeferred h3,?_⟩⟩;exact leaves hR (xH h5 fun e he=>by rw[←h1];exact h4 e he) (LP hw h3 h2)
theorem DJ{P:Program}{draw:eQ}(iv:nj P draw){call:ab}(aO:bF true P call){fuel:Nat}{f:FuncId}{fn:Func}{c:Code}(hf:P.funcs[f]?=some fn)(hb:fn.body=some c){args:List AV}{h h':H}{v:AV}
 (he:xE P draw call fuel fn c args h=some (v,h')) {ρ:aR} {w:World} {ARGS:List Value} (ha:bE ρ args ARGS) (hr:HR ρ h.t.get w) (W4:cC ρ h.next):
 Calls P f ARGS.toArray w fun e w'=>∃ρ' V,e=.returned V/\VR ρ' v V/\Way ρ h w ρ' h' w':=by
 refine callsIn_wide.1 (callsIn_of_wp_marks (n:=0) hf hb trivial ((wpIn_wide (n:=0)).2 ?_));unfold xE at he;have hl:=ha.length;have hs:St w.heap.size (Nat.add args.length (Nat.sub fn.ntmps args.length)) ρ (aa 0 args .e) h {tmps:=ARGS.toArray++Array.replicate (fn.ntmps-ARGS.toArray.size) undef,defers:=[]} w:=by
  refine⟨fun i u hi=>?_,hr,W4,by simp[hl],trivial,Nat.le_refl _⟩;rw[dm]at hi
  by_cases hh:0<=i/\i<0+args.length
  ·rw[if_pos hh]at hi;have FG:args[i]?=some u:=by simpa using hi
   obtain⟨V,k1,k2⟩:=ha.get FG;have df:i<ARGS.length:=(List.getElem?_eq_some_iff.1 k1).1;refine⟨by simp;omega,?_⟩;rw[Array.getD_eq_getD_getElem?,Array.getElem?_append_left (by simpa using df)];simpa [k1]using k2
  ·rw[if_neg hh,T.di]at hi;simp at hi
 split at he
 ·rename_i ex tm h2 h1;refine cd (ur iv aO _ _ (ur iv aO _ _ (by intros;contradiction)) _ _ _ _ _ _ h1) hs fun ρ' a' w' k1 k2=>?_
  have key:(match xj P tm h2.t.get fn.results.toList with
   |some vs=>some (fk vs,h2)
   |none=>none)=some (v,h')->LeavesInM Fence.wide 0 P fn a'.tmps (fun e w'=>∃ρ' V,e=.returned V/\VR ρ' v V/\Way ρ h w ρ' h' w') a'.defers .returning w':=by
   intro he;split at he
   ·rename_i vs Lm;simp only[Option.some.injEq,Prod.mk.injEq]at he;obtain⟨rfl,rfl⟩:=he;refine leaves (ρ:=ρ') (h:=h2) (fun uK LQ LR=>?_) k1.defers k2;obtain⟨V,j1,j2⟩:=nE k1.tr LQ Lm;exact⟨V,j2,ρ',V,rfl,j1,LR⟩
   ·simp at he
  cases ex with
  |exit id=>simp at he
  |goto l=>simp at he
  |normal=>exact key he
  |ret=>exact key he
 ·simp at he
theorem uz{N:Nat}{ρ:aR}:∀{ps:List Nat} {tm aC:T AV} {vs:List AV},xF N tm ps vs=some aC->∀{VS:List Value} {tmps:Array Value},bE ρ vs VS->tmps.size=N->TR ρ tm tmps->
 VS.length=ps.length/\TR ρ aC ((ps.zip VS).foldl (fun tmps (t,a)=>tmps.setIfInBounds t a) tmps)/\((ps.zip VS).foldl (fun tmps (t,a)=>tmps.setIfInBounds t a) tmps).size=N
 | [],tm,aC,[],h,VS,tmps,hv,hN,ht=>by
   simp[xF]at h;subst h;simp only[bE]at hv;subst hv;exact⟨rfl,ht,hN⟩
 |p::ps,tm,aC,v::vs,h,VS,tmps,hv,hN,ht=>by
  simp only[xF]at h;simp only[bE]at hv;obtain⟨V,M,h1,h2,rfl⟩:=hv;cases hb:Nat.ble (p+1) N with
  |false=>rw[hb]at h;simp at h
  |true=>
   rw[hb]at h;have df:=Nat.le_of_ble_eq_true hb;obtain⟨k1,k2,k3⟩:=uz (by simpa using h) h2 (tmps:=tmps.setIfInBounds p V) (by simpa using hN) (TR.set ht (by omega) h1);exact⟨by simp[k1],by simpa using k2,by simpa using k3⟩
 | [],tm,aC,v::vs,h,VS,tmps,_,_,_=>by simp[xF]at h
 |p::ps,tm,aC,[],h,VS,tmps,_,_,_=>by simp[xF]at h
theorem BR{P:Program}{draw:eQ}(iv:nj P draw){call:ab}(aO:bF true P call){a:Nat}{args:List AV}{h h':H}{v:AV}(he:pX P draw call a args h=some (v,h')){ρ:aR}{w:World}{ARGS:List Value}(ha:bE ρ args ARGS)(hr:HR ρ h.t.get w)(W4:cC ρ h.next)
 {l:Loc} (hl:ρ a=some l):E0 P (Instr.yield l.b9 ARGS.toArray) ρ h w v h':=by
 unfold pX at he;split at he
 ·rename_i fZ tm N ps x y mD;split at he
  ·rename_i aQ XZ;split at he
   ·rename_i eo h1 hx;split at he
    ·rename_i Gz Rp NL LF xL yL Rv;split at he
     ·rename_i ex ZL h3 hy;split at he
      ·rename_i jump hj;obtain⟨hb,tmps,fn,D,yl,hN,adP⟩:=hr.obj a _ l mD rfl hl;obtain⟨q1,q2,q3⟩:=uz XZ ha hN yl;have hy0:=run_yield (P:=P) (w:=w) (l:=l.b9) (r:={state:=.ready,pending:=fZ,fn,tmps,params:=ps.toArray,assign:=x,body:=y,defers:=D}) (args:=ARGS.toArray) adP (by simpa using q1);refine⟨_,_,_,_,_,hy0,?_⟩;have hz:(ps.toArray.zip ARGS.toArray).foldl (fun tmps (t,a)=>tmps.setIfInBounds t a) tmps=(ps.zip ARGS).foldl (fun tmps (t,a)=>tmps.setIfInBounds t a) tmps:=by simp
       simp only[hz];refine roundIn_of_wpIn (F:=Fence.wide) trivial ?_
       refine gj (r:=some l.b9) (B:=0) (uo iv aO N _ _ _ _ _ _ hx) ⟨q2,hr,W4,q3,(show Clean 0 w []from trivial),Nat.zero_le _⟩ fun ρ1 a1 w1 k1 k2=>?_
       have EB:ρ1 a=some l:=k2.nx.le _ _ hl;obtain⟨iD,Rw,fn1,D1,aor,hN1,W5⟩:=k1.hr.obj a _ l Rv rfl EB;refine⟨_,run_beginRound W5 rfl,?_⟩;obtain⟨w2,Oy⟩:∃w2,w2=w1.putObj l.b9 (.loop {state:=.busy,pending:=Gz,fn:=fn1,tmps:=Rw,params:=LF.toArray,assign:=xL,body:=yL,defers:=D1}):=⟨_,rfl⟩;have uO:Way ρ1 h1 w1 ρ1 ⟨h1.next,h1.t.set a (.loop .busy Gz Rp NL LF xL yL)⟩ w2:=by
        rw[Oy];refine eY k1.fresh EB (lH k1.hr Rv rfl EB (fun b=>T.ay _ _ _ _) ⟨rfl,rfl,rfl⟩ (by simp) (fun r hr=>World.putObj_heap_other hr) rfl ⟨Rw,fn1,D1,aor,hN1,?_⟩);exact World.putObj_heap_same iD
       rw[←Oy];refine gj (r:=some l.b9) (B:=0) (uo iv aO N _ _ _ _ _ _ hy) ⟨k1.tr.mono uO.nx.le,uO.nx.rel,uO.fresh,k1.size,k1.defers.nx k1.hr uO.nx,Nat.zero_le _⟩ fun ρ3 a3 w3 j1 j2=>?_
       have Ui:ρ3 a=some l:=j2.nx.le _ _ EB;have nm:Way ρ h w ρ3 h3 w3:=k2.trans (uO.trans j2);have fin:∃v' w',(Instr.endRound l.b9 jump).run P w3=.ok v' w'/\∃ρ' V,Ending.returned v'=.returned V/\VR ρ' v V/\Way ρ h w ρ' h' w':=by
        unfold DI at he;split at he
        ·rename_i yG asG tm4 N4 ps4 x4 y4 LU;obtain⟨hb4,Rx,fn4,D4,adQ,hN4,W6⟩:=j1.hr.obj a _ l LU rfl Ui;have gf:=run_endRound (P:=P) jump W6;refine⟨_,_,gf,ρ3,_,rfl,?_⟩;cases jump with
         |none=>
          simp at he;obtain⟨rfl,rfl⟩:=he;refine⟨by simp[VR],nm.trans (eY j1.fresh Ui (lH j1.hr LU rfl Ui (fun b=>T.ay _ _ _ _) ⟨rfl,rfl,rfl⟩ (by simp) (fun r hr=>World.putObj_heap_other hr) rfl ⟨Rx,fn4,D4,adQ,hN4,?_⟩))⟩;exact World.putObj_heap_same hb4
         |some c=>
          simp at he;obtain⟨rfl,rfl⟩:=he;refine⟨by simp[VR],nm.trans (eY j1.fresh Ui (lH j1.hr LU rfl Ui (fun b=>T.ay _ _ _ _) ⟨rfl,rfl,rfl⟩ (by simp) (fun r hr=>World.putObj_heap_other hr) rfl ⟨Rx,fn4,D4,adQ,hN4,?_⟩))⟩;exact World.putObj_heap_same hb4
        ·simp at he
       cases ex with
       |normal=>simp[xG]at hj;subst hj;exact fin
       |ret=>simp[xG]at hj;subst hj;exact fin
       |exit id=>simp[xG]at hj;subst hj;exact fin
       |goto l'=>simp[xG]at hj
      ·simp at he
     ·simp at he
    ·simp at he
   ·simp at he
  ·simp at he
 ·simp at he
theorem DK{P:Program}{draw:eQ}(iv:nj P draw){X:FuncId->Option eZ}(hX:BP P X){S:FuncId->H->Option Bool}(hS:BQ P S)(fuel:Nat):∀n,bF true P (pA P draw X S fuel n):=by
 intro n
 induction n with
 |zero=>intro f args h v h' he;simp[pA]at he
 |succ n ih=>
  intro f args h v h' he ρ w ARGS ha hr hf
  change(match(generalizing:=false) Nat.ble dW f with
   |true=>pX P draw (pA P draw X S fuel n) (Nat.sub f dW) args h
   |false=>match(generalizing:=false) S f h with
    |some b=>match(generalizing:=false) args with
     | []=>some (AV.bool b,h)
     |_=>none
    |none=>match(generalizing:=false) P.funcs[f]? with
     |some fn=>match(generalizing:=false) fn.name== "runtime.NumGoroutine" with
      |true=>none
      |false=>match(generalizing:=false) fn.body with
       |some c=>xE P draw (pA P draw X S fuel n) fuel fn c args h
       |none=>match(generalizing:=false) X f with
        |some tag=>F9 h tag args
        |none=>none
     |none=>none)=_ at he
  split at he
  ·rename_i tE;exact .inr ⟨rfl,tE,fun l hl=>BR iv ih he ha hr hf hl⟩
  ·rename_i tE;refine .inl ⟨tE,?_⟩;split at he
   ·rename_i b hb;split at he
    ·simp only[Option.some.injEq,Prod.mk.injEq]at he;obtain⟨rfl,rfl⟩:=he;simp only[bE]at ha;subst ha;obtain⟨⟨fn,c,h1,h2,h3⟩,hc⟩:=hS f h b hb;refine .inr ⟨f,#[],bm h1 h2 h3 _ _,Calls.mono (hc ρ w hr) fun e w' hh=>?_⟩;obtain⟨rfl,k1,k2,k3⟩:=hh;refine⟨ρ,_,rfl,rfl,⟨?_,Le.refl _,k1,k2,fun r hr _=>k3 r hr,fun a o l h1 h2 h3 _=>⟨a,o,l,h1,h2,h3,rfl⟩⟩,hf,Kp.refl _ _⟩;exact⟨fun a o l h1 h2 h3=>by
      obtain⟨j1,j2⟩:=hr.obj a o l h1 h2 h3;exact⟨by omega,uJ.congr (k3 _ j1) j2⟩,hr.inj⟩
    ·simp at he
   ·split at he
    ·rename_i fn hfn;split at he
     ·simp at he
     ·rename_i sm;split at he
      ·rename_i c hb;exact .inr ⟨f,ARGS.toArray,bm hfn sm hb _ _,DJ iv ih hfn hb he ha hr hf⟩
      ·rename_i hb;split at he
       ·rename_i tag ht;obtain⟨fn',h1,h2,h3,h4,h5⟩:=hX f tag ht;obtain⟨ρ',w',V,k1,k2,k3⟩:=Af (P:=P) hr hf he ha;refine .inl ⟨ρ',w',V,.inl ?_,k2,k3⟩;rw[run_callFunc_extern h1 h2 h3 h4 h5,k1];rfl
       ·simp at he
    ·simp at he
def PY:aR:=⟨fun a=>if a<eC then some ⟨a,0,0⟩else none,fun g hg=>⟨0,if_pos hg⟩⟩
theorem E7:cC PY eC:=fun a ha=>if_neg (by omega)
theorem closed{P:Program}{draw:eQ}(iv:nj P draw){X:FuncId->Option eZ}(hX:BP P X){S:FuncId->H->Option Bool}(hS:BQ P S){fuel n:Nat}{f:FuncId}{fn:Func}{c:Code}(hf:P.funcs[f]?=some fn)(sm:(fn.name== "runtime.NumGoroutine")=false)(hb:fn.body=some c){b:Bool}(tE:Nat.ble dW f=false)
 {h0:H} (hn:h0.next=eC) (W7:∀a o,h0.t.get a=some o->o.mut=false)
 (he:(match pA P draw X S fuel (n+1) f [] h0 with
   |some (.bool x,_)=>some x
   |_=>none)=some b) (w:World) (hr:HR PY h0.t.get w):
 Calls P f #[] w fun e w'=>e=.returned (.bool b)/\Env w w'/\w.heap.size<=w'.heap.size/\∀r,r<w.heap.size->w'.heap[r]?=w.heap[r]?:=by
 split at he
 ·rename_i x h' hc;simp at he;subst he;have hx:=DK iv hX hS fuel (n+1) f [] h0 _ _ hc PY w [] rfl hr (by rw[hn];exact E7);rcases hx with⟨_,⟨ρ',w',V,h1|⟨h1,_⟩,_⟩|⟨g,as,h1,h2⟩⟩|⟨_,hk,_⟩
  ·have:=bm hf sm hb #[] w;rw[this]at h1;simp at h1
  ·have:=bm hf sm hb #[] w;rw[this]at h1;simp at h1
  ·have:=bm hf sm hb #[] w;rw[this]at h1;simp at h1;obtain⟨rfl,rfl⟩:=h1;refine Calls.mono h2 fun e w' hh=>?_
   obtain⟨ρ',V,rfl,k1,k2⟩:=hh;simp only[VR]at k1;subst k1;exact⟨rfl,k2.nx.env,k2.nx.size,fun r hr=>k2.nx.frame r hr fun a o l h1 h2=>by rw[W7 a o h1]at h2;simp at h2⟩
  ·rw[tE]at hk;simp at hk
 ·simp at he
def LW(P:Program)(draw:eQ)(X:FuncId->Option eZ)(S:FuncId->H->Option Bool)(fuel n:Nat)(f:FuncId)(h0:H):Option Bool:=
 match pA P draw X S fuel n f [] h0 with
 |some (.bool x,_)=>some x
 |_=>none
theorem Dd{P:Program}{draw:eQ}(iv:nj P draw){X:FuncId->Option eZ}(hX:BP P X){S:FuncId->H->Option Bool}(hS:BQ P S){fuel n:Nat}{f:FuncId}(hf:mJ P f=true){b:Bool}(tE:Nat.ble dW f=false)
 {h0:H} (hn:h0.next=eC) (W7:∀a o,h0.t.get a=some o->o.mut=false) (he:LW P draw X S fuel (n+1) f h0=some b) (w:World) (hr:HR PY h0.t.get w):
 Calls P f #[] w fun e w'=>e=.returned (.bool b)/\Env w w'/\w.heap.size<=w'.heap.size/\∀r,r<w.heap.size->w'.heap[r]?=w.heap[r]?:=by
 obtain⟨fn,c,h1,h2,h3⟩:=mc hf;exact closed iv hX hS h1 h2 h3 tE hn W7 he w hr
def KA(l:List (Nat×eZ))(f:Nat):Option eZ:=
 List.rec none (fun p _ ih=>cond (Nat.beq p.1 f) (some p.2) ih) l
def okX(P:Program)(p:Nat×eZ):Prop:=
 (P.funcs[p.1]?).map (fun fn=>(fn.name== "runtime.NumGoroutine",fn.body.isNone,(Extern.findNext fn).isNone))=some (false,true,true)/\(P.funcs[p.1]?).bind Extern.find=some p.2.fn
theorem tY{P:Program}:∀{l:List (Nat×eZ)},(∀p∈l,okX P p)->BP P (KA l)
 | [],_,f,tag,h=>by cases h
 |p::l,hl,f,tag,h=>by
  change cond (Nat.beq p.1 f) (some p.2) (KA l f)=some tag at h
  cases hb:Nat.beq p.1 f with
  |true=>
   rw[hb]at h;simp at h;subst h;have:p.1=f:=Nat.eq_of_beq_eq_true hb;subst this;obtain⟨h1,h2⟩:=hl p (by simp);cases hf:P.funcs[p.1]? with
   |none=>rw[hf]at h1;simp at h1
   |some fn=>
    rw[hf]at h1 h2;simp only[Option.map_some,Option.some.injEq,Prod.mk.injEq]at h1;obtain⟨k1,k2,k3⟩:=h1;exact⟨fn,rfl,k1,k2,by simpa using k3,h2⟩
  |false=>
   rw[hb]at h;exact tY (fun q hq=>hl q (by simp[hq])) f tag h
def noS:FuncId->H->Option Bool:=fun _ _=>none
theorem Hs{P:Program}:BQ P noS:=fun _ _ _ h=>by cases h
abbrev Out:=Option (T AV×H)
inductive Step where
 |mk (f:ab->T AV->H->(T AV->H->Out)->Out)
def Step.run:Step->ab->T AV->H->(T AV->H->Out)->Out
 | .mk f=>f
def GA(P:Program)(d:Nat):PI->Step
 | .mv (.t n)=>.mk fun call tm h k=>Option.rec none (fun v=>k (tm.set d v) h) (tm.get n)
 | .mv (.c v)=>.mk fun call tm h k=>k (tm.set d v) h
 | .bin op t cx cy x y=>.mk fun call tm h k=>Option.rec none (fun v=>k (tm.set d v) h) (bV P tm op t cx cy x y)
 | .rp x=>.mk fun call tm h k=>Option.rec none (fun v=>k (tm.set d v) h) (aU tm x)
 | .uC off x=>.mk fun call tm h k=>Option.rec none (fun v=>k (tm.set d v) h) (bx tm off x)
 | .mj es x i=>.mk fun call tm h k=>Option.rec none (fun v=>k (tm.set d v) h) (aV tm es x i)
 | .tP len es x i=>.mk fun call tm h k=>Option.rec none (fun v=>k (tm.set d v) h) (aW tm len es x i)
 | .Iv len t es x i=>.mk fun call tm h k=>Option.rec none (fun v=>k (tm.set d v) h) (bz P tm len t es x i)
 | .GP x i=>.mk fun call tm h k=>Option.rec none (fun v=>k (tm.set d v) h) (bA tm x i)
 | .As x=>.mk fun call tm h k=>Option.rec none (fun v=>k (tm.set d v) h) (bp tm x)
 | .un op x=>.mk fun call tm h k=>Option.rec none (fun v=>k (tm.set d v) h) (cU tm op x)
 | .conv t x=>.mk fun call tm h k=>Option.rec none (fun v=>k (tm.set d v) h) (bw tm t x)
 | .Qf t off x=>.mk fun call tm h k=>Option.rec none (fun v=>k (tm.set d v) h) (bW P tm t off x)
 | .pick c a b=>.mk fun call tm h k=>Option.rec none (fun v=>k (tm.set d v) h) (bt tm c a b)
 |x=>.mk fun call tm h k=>Option.rec none (fun v=>k (tm.set d v) h) (mN P tm x)
def xI(dst:Option Nat)(N:Nat)(k:T AV->H->Out)(tm:T AV)(v:AV)(h:H):Out:=match dst with
 |none=>k tm h
 |some d=>cond (Nat.ble (d+1) N) (k (tm.set d v) h) none
def mC(P:Program)(dst:Option Nat)(N:Nat):HL->Step
 | .p x=>match dst with
   |some d=>match Nat.ble (d+1) N with
    |true=>GA P d x
    |false=>.mk fun _ _ _ _=>none
   |none=>.mk fun call tm h k=>Option.rec none (fun v=>k tm h) (mN P tm x)
 | .r x=>.mk fun call tm h k=>Option.rec none (fun v=>xI dst N k tm v h) (Iq tm h.t.get x)
 | .l x=>.mk fun call tm h k=>Option.rec none (fun v=>xI dst N k tm v h) (tS tm h.t.get x)
 | .s x=>.mk fun call tm h k=>Option.rec none (fun v=>xI dst N k tm v h) (HJ tm h.t.get x)
 | .e x=>.mk fun call tm h k=>Option.rec none (fun p=>Prod.rec (fun v h'=>xI dst N k tm v h') p) (WG tm h x)
 |c=>.mk fun call tm h k=>Option.rec none (fun p=>Prod.rec (fun v h'=>xI dst N k tm v h') p) (kx P call tm h c)
def oY(P:Program)(ops:List Oper)(N:Nat)(o:Oper):Step:=match o.guard with
 |none=>match pU P o with
  |some c=>mC P o.dst N c
  |none=>.mk fun _ _ _ _=>none
 |some _=>.mk fun call tm h k=>Option.rec none (fun p=>Prod.rec (fun aC h'=>k aC h') p) (mr P call ops N tm h o)
def DL(x:Out)(k:T AV->H->Out):Out:=match x with
 |some (tm,h)=>k tm h
 |none=>none
theorem HZ(P:Program)(d:Nat)(x:PI)(call:ab)(tm:T AV)(h:H)(k:T AV->H->Out):
 (GA P d x).run call tm h k=match mN P tm x with
   |some v=>k (tm.set d v) h
   |none=>none:=by
 cases x<;>first
  |(simp only[GA,Step.run,mN];split<;>rename_i e<;>simp[e];done)
  |(rename_i y;cases y<;>simp only[GA,Step.run,mN,cV]<;>(try split)<;>(try rename_i e)<;>(try simp[e]);done)
theorem GC(dst:Option Nat)(N:Nat)(k:T AV->H->Out)(tm:T AV)(v:AV)(h:H):
 xI dst N k tm v h=match tD N tm dst v with
  |some aC=>k aC h
  |none=>none:=by
 cases dst with
 |none=>rfl
 |some d=>
  simp only[xI,tD];cases Nat.ble (d+1) N<;>rfl
theorem H0(P:Program)(ops:List Oper)(N:Nat)(o:Oper)(call:ab)(tm:T AV)(h:H)(k:T AV->H->Out):
 (oY P ops N o).run call tm h k=DL (mr P call ops N tm h o) k:=by
 unfold oY mr;cases hg:o.guard with
 |some g=>
  simp only[Step.run];have:∀x:Out,(Option.rec none (fun p=>Prod.rec (fun aC h'=>k aC h') p) x:Out)=DL x k:=by
   intro x;cases x with
   |none=>rfl
   |some p=>rfl
  rw[this]
 |none=>
  simp only[nh,hg];cases hc:pU P o with
  |none=>simp only[Step.run];rfl
  |some c=>
   simp only;have fin:∀(x:Option (AV×H)),(Option.rec none (fun p=>Prod.rec (fun v h'=>xI o.dst N k tm v h') p) x:Out)=DL (match x with
    |some (v,h')=>match tD N tm o.dst v with
     |some aC=>some (aC,h')
     |none=>none
    |none=>none) k:=by
        intro x;cases x with
        |none=>rfl
        |some p=>
         obtain⟨v,h'⟩:=p;simp only[GC];cases tD N tm o.dst v<;>rfl
   have PZ:∀(x:Option AV),(Option.rec none (fun v=>xI o.dst N k tm v h) x:Out)=DL (match(match x with
         |some v=>some (v,h)
         |none=>none:Option (AV×H))with
    |some (v,h')=>match tD N tm o.dst v with
     |some aC=>some (aC,h')
     |none=>none
    |none=>none) k:=by
        intro x;cases x with
        |none=>rfl
        |some v=>
         simp only[GC];cases tD N tm o.dst v<;>rfl
   cases c with
   |p x=>
    simp only[mC,kx];refine Eq.trans ?_ (PZ (mN P tm x));cases hd:o.dst with
    |none=>simp only[Step.run,xI]
    |some d=>
     simp only[xI];cases hb:Nat.ble (d+1) N with
     |true=>
      simp only[HZ,cond_true];cases mN P tm x<;>rfl
     |false=>
      simp only[Step.run,cond_false];cases mN P tm x<;>rfl
   |r x=>simp only[mC,Step.run,kx];exact PZ _
   |l x=>simp only[mC,Step.run,kx];exact PZ _
   |s x=>simp only[mC,Step.run,kx];exact PZ _
   |e x=>simp only[mC,Step.run,kx];exact fin _
   |n x=>simp only[mC,Step.run];exact fin _
   |m x=>simp only[mC,Step.run];exact fin _
   |i x=>simp only[mC,Step.run];exact fin _
   |w x=>simp only[mC,Step.run];exact fin _
   |cv f as=>simp only[mC,Step.run];exact fin _
   |ci r name as=>simp only[mC,Step.run];exact fin _
def H3(P:Program)(call:ab)(ops:List Oper)(N:Nat)(l:List Oper):T AV->H->Out:=
 List.rec (fun tm h=>some (tm,h)) (fun o _ ih tm h=>Step.rec (fun f=>f call tm h ih) (oY P ops N o)) l
theorem GD(P:Program)(call:ab)(ops:List Oper)(N:Nat):∀(l:List Oper),H3 P call ops N l=ni P call ops N l
 | []=>rfl
 |o::l=>by
  funext tm h;have ih:=GD P call ops N l;have hs:∀s:Step,(Step.rec (fun f=>f call tm h (H3 P call ops N l)) s:Out)=s.run call tm h (H3 P call ops N l):=fun s=>by cases s;rfl
  change(Step.rec (fun f=>f call tm h (H3 P call ops N l)) (oY P ops N o):Out)=_
  rw[hs,H0,ih];simp only[ni,DL];cases mr P call ops N tm h o<;>rfl
abbrev P0:=ab->List Oper->Nat->List Oper->T AV->H->Out
def Ry(P:Program)(sq:P0)(draw:eQ)(call:ab)(N fuel:Nat)(HO:Code->kS)(c:Code):kS:=
 Code.rec (motive:=fun _=>kS)
    (fun tm h=>some (.normal,tm,h))
    (fun id ops d tm h=>match d with
      |false=>match sq call ops.toList N ops.toList tm h with
       |some (aC,h')=>some (.normal,aC,h')
       |none=>none
      |true=>match draw call ops.toList N tm h with
       |some (aC,h')=>some (.normal,aC,h')
       |none=>none)
    (fun a b Du HN tm h=>match Du tm h with
      |some (.normal,aC,h')=>HN aC h'
      |r=>r)
    (fun c x y uN xh tm h=>match aP c with
      |some c=>match cV tm c with
       |some (.bool true)=>uN tm h
       |some (.bool false)=>xh tm h
       |_=>none
      |none=>none)
    (fun id body ih tm h=>match ih tm h with
      |some (.exit j,aC,h')=>cond (Nat.beq j id) (some (.normal,aC,h')) (some (.exit j,aC,h'))
      |r=>r)
    (fun body ih tm h=>Dv ih fuel tm h)
    (fun f ps x y uN xh tm h=>match aP f with
      |some f=>match cV tm f with
       |some fv=>xi P call N ps.toList x y fv tm h
       |none=>none
      |none=>none)
    (fun id tm h=>some (.exit id,tm,h))
    (fun body ih tm h=>match ih tm h with
      |some (.goto l,aC,h')=>match findLabel body l with
       |some rest=>match HO rest aC h' with
        |some (.goto _,_,_)=>none
        |r=>r
       |none=>none
      |r=>r)
    (fun l tm h=>some (.normal,tm,h))
    (fun l tm h=>some (.goto l,tm,h))
    (fun tm h=>some (.ret,tm,h))
    (fun why tm h=>none)
    c
def LX(P:Program)(sq:P0)(draw:eQ)(call:ab)(fuel N:Nat)(fn:Func)(c:Code)(args:List AV)(h:H):Option (AV×H):=
 match Ry P sq draw call N fuel (Ry P sq draw call N fuel fun _ _ _=>none) c (aa 0 args .e) h with
 |some (ex,tm,h')=>match ex with
  | .exit _=>none
  | .goto _=>none
  |_=>match xj P tm h'.t.get fn.results.toList with
   |some vs=>some (fk vs,h')
   |none=>none
 |none=>none
def GF(P:Program)(sq:P0)(draw:eQ)(call:ab)(fuel:Nat)(fn:Func)(c:Code)(args:List AV)(h:H):Option (AV×H):=
 match Nat.ble args.length fn.ntmps with
 |true=>LX P sq draw call fuel fn.ntmps fn c args h
 |false=>LX P sq draw call fuel (Nat.add args.length (Nat.sub fn.ntmps args.length)) fn c args h
theorem E8(P:Program)(draw:eQ)(call:ab)(fuel:Nat)(fn:Func)(c:Code)(args:List AV)(h:H):GF P (ni P) draw call fuel fn c args h=xE P draw call fuel fn c args h:=by
 unfold GF;have key:LX P (ni P) draw call fuel (Nat.add args.length (Nat.sub fn.ntmps args.length)) fn c args h=xE P draw call fuel fn c args h:=rfl;cases hb:Nat.ble args.length fn.ntmps with
 |true=>
  have:=Nat.le_of_ble_eq_true hb;have e:Nat.add args.length (Nat.sub fn.ntmps args.length)=fn.ntmps:=by
   show args.length+(fn.ntmps-args.length)=fn.ntmps
   omega
  rw[e]at key;exact key
 |false=>exact key
def toT{α:Type}(l:List α):Nat->T α->T α:=List.rec (fun _ t=>t) (fun x _ ih i t=>ih (Nat.succ i) (t.set i x)) l
theorem GG{α:Type}:∀(l:List α) (i:Nat) (t:T α) (j:Nat),(toT l i t).get j=if i<=j/\j<i+l.length then l[j-i]? else t.get j
 | [],i,t,j=>by
   show t.get j=_
   rw[if_neg (by simp)]
 |x::l,i,t,j=>by
  show(toT l (i+1) (t.set i x)).get j=_
  rw[GG l (i+1) (t.set i x) j,T.ay]
  by_cases h1:i+1<=j/\j<i+1+l.length
  ·rw[if_pos h1,if_pos (by simp;omega)];have:j-i=(j-(i+1))+1:=by omega
   rw[this];simp
  ·rw[if_neg h1]
   by_cases h2:j=i
   ·subst h2;rw[if_pos rfl,if_pos (by simp)];simp
   ·rw[if_neg h2,if_neg (by simp;omega)]
def P1(P:Program):T Func:=toT P.funcs.toList 0 .e
theorem LY(P:Program)(f:Nat):(P1 P).get f=P.funcs[f]?:=by
 unfold P1;rw[GG]
 by_cases h:f<P.funcs.size
 ·rw[if_pos (by simp;exact h)];simp
 ·rw[if_neg (by simp;omega),T.di];simp;omega
def GH(P:Program)(sq:P0)(draw:eQ)(X:FuncId->Option eZ)(S:FuncId->H->Option Bool)(fuel:Nat)(n:Nat):ab:=
 Nat.rec (motive:=fun _=>ab) (fun _ _ _=>none) (fun _ ih f args h=>match Nat.ble dW f with
    |true=>pX P draw ih (Nat.sub f dW) args h
    |false=>match S f h with
     |some b=>match args with
      | []=>some (.bool b,h)
      |_=>none
     |none=>match(P1 P).get f with
      |some fn=>match fn.body with
       |some c=>GF P sq draw ih fuel fn c args h
       |none=>match X f with
        |some tag=>F9 h tag args
        |none=>none
      |none=>none) n
def Pv(P:Program):Bool:=P.funcs.toList.all fun fn=>!(fn.name== "runtime.NumGoroutine")
theorem P2{P:Program}(h:Pv P=true){f:Nat}{fn:Func}(hf:P.funcs[f]?=some fn):(fn.name== "runtime.NumGoroutine")=false:=by
 have:=List.all_eq_true.1 h fn (by simpa using Array.mem_of_getElem? hf);simpa using this
theorem E9{P:Program}(hNG:Pv P=true)(draw:eQ)(X:FuncId->Option eZ)(S:FuncId->H->Option Bool)(fuel:Nat)(n:Nat):GH P (ni P) draw X S fuel n=pA P draw X S fuel n:=by
 induction n with
 |zero=>rfl
 |succ n ih=>
  funext f args h
  show(match Nat.ble dW f with
   |true=>pX P draw (GH P (ni P) draw X S fuel n) (Nat.sub f dW) args h
   |false=>match S f h with
    |some b=>match args with
     | []=>some (AV.bool b,h)
     |_=>none
    |none=>match(P1 P).get f with
     |some fn=>match fn.body with
      |some c=>GF P (ni P) draw (GH P (ni P) draw X S fuel n) fuel fn c args h
      |none=>match X f with
       |some tag=>F9 h tag args
       |none=>none
     |none=>none)=(match Nat.ble dW f with
   |true=>pX P draw (pA P draw X S fuel n) (Nat.sub f dW) args h
   |false=>match S f h with
    |some b=>match args with
     | []=>some (AV.bool b,h)
     |_=>none
    |none=>match P.funcs[f]? with
     |some fn=>match fn.name== "runtime.NumGoroutine" with
      |true=>none
      |false=>match fn.body with
       |some c=>xE P draw (pA P draw X S fuel n) fuel fn c args h
       |none=>match X f with
        |some tag=>F9 h tag args
        |none=>none
     |none=>none)
  simp only[E8,ih,LY];cases hf:P.funcs[f]? with
  |none=>rfl
  |some fn=>simp only[P2 hNG hf]
def Ky(P:Program)(draw:eQ)(X:FuncId->Option eZ)(S:FuncId->H->Option Bool)(fuel n:Nat)(f:FuncId)(h0:H):Option Bool:=
 match GH P (H3 P) draw X S fuel n f [] h0 with
 |some (.bool x,_)=>some x
 |_=>none
theorem KV{P:Program}(hNG:Pv P=true)(draw:eQ)(X:FuncId->Option eZ)(S:FuncId->H->Option Bool)(fuel n:Nat)(f:FuncId)(h0:H):Ky P draw X S fuel n f h0=LW P draw X S fuel n f h0:=by
 have:H3 P=ni P:=by
  funext call ops N l;exact GD P call ops N l
 unfold Ky LW;rw[this,E9 hNG]
 all_goals (rcases pA P draw X S fuel n f [] h0 with _|⟨v,h⟩<;>first|rfl|(cases v<;>rfl))
def W8(P:Program)(ops:List Oper)(m:T Nat)(N:Nat)(es:List Nat)(aQ:T AV)(F:T Rec)(hs:List H):Prop:=
 ∀i o,ops[i]?=some o->∃r,F.get i=some r/\
  (∀v,r=.read v->∃tm,dt ops m N aQ F i o=some tm/\∀l h,hs[l]?=some h->kY m i es l=true->mf P tm h o=some v)/\
  (∀v a ao q,r=.alloc v a ao (q+1)->∃e,es[q]?=some e/\ss m i e=true)/\
  (∀v,r=.BJ v->es.contains i=true)
theorem LZ{P:Program}{call:ab}(aO:bF false P call){ops:Array Oper}{N:Nat}{es:List Nat}{F:T Rec}{h0:H}{ρ0:aR}{w0:World}{a0:Act}{listed:Array Bool}{k:Nat}{hk:H}{ρ:aR}{a:Act}{w:World}{aQ:T AV}{hs:List H}
 (my:da ops.toList 0=true) (A1:kn (cG ops.toList) es=true) {n:Nat} (B8:yB P call ops.toList (cG ops.toList) N aQ 0 (fT (cG ops.toList) es n 0 es) .e h0=some (F,hs))
 (BO:W8 P ops.toList (cG ops.toList) N es aQ F hs) (HS:TR ρ0 aQ a0.tmps) (HT:a0.tmps.size=N)
 (hI:Inv ops N es F h0 ρ0 w0 a0 listed k hk ρ a w) (yD:hs[k]?=some hk) {i:Nat} {o:Oper} (hn:Next ops listed i o) {Q:Exit->Act->World->Prop} {K:Act->World->Prop}
 (hK:∀k' nc ρ' a' w',hs[k']?=some nc->Inv ops N es F h0 ρ0 w0 a0 (listed.setIfInBounds i true) k' nc ρ' a' w'->K a' w'):wpOp P ops Q i K a w:=by
 obtain⟨r,hr,c1,c2,c3⟩:=BO i o (by simpa using hn.op);obtain⟨d1,d2,d3,d4,d5⟩:=kW B8 (by intro i v a ao p h;simp[T.di]at h);obtain⟨e1,e2,e3⟩:=xx d2;have before:∀(l e:Nat),es[l]?=some e->ss (cG ops.toList) i e=true->l<k:=fun l e hl hb=>(hI.yC l e hl).1 (hn.E6 hI.down my hb)
 rcases d3 i r hr with hh|⟨v,rfl⟩|⟨o',ph,hh,hh',ho',hq⟩
 ·simp[T.di]at hh
 ·have vV:=c3 v rfl;have:i∈es:=by simpa using vV
  obtain⟨l,hl⟩:=List.getElem?_of_mem this;have hnl:¬l<k:=fun h=>hn.new ((hI.yC l i hl).2 h)
  have Rr:l=k:=by
   rcases Nat.lt_or_ge k l with h|h
   ·obtain⟨f,hf⟩:∃f,es[k]?=some f:=⟨es[k]'(Nat.lt_trans h (List.getElem?_eq_some_iff.1 hl).1),by simp⟩;have:=before k f hf (fG A1 k l f i hf hl h);omega
   ·omega
  subst Rr;obtain⟨hk1,v',h2,nc,XY,f1,f2,f3,f4,f5,f6,f7⟩:=e3 l i hl;rw[yD]at f1;simp at f1;subst f1;have:XY=o:=by
   have:=hn.op;have I9:ops[i]?=some XY:=by simpa using f2
   rw[I9]at this;simpa using this
  subst this;rw[hr]at f3;simp at f3;subst f3;rw[Nat.zero_add]at f6 f7;refine Ru aO hI my HS HT hn hl (fun l' CR=>?_) hr f4 f6 f7 (fun ρ' a' w' HW=>hK _ _ _ _ _ f5 HW);rcases Nat.lt_trichotomy l' l with h|h|h
  ·have:=(gk my (fG A1 l' l i i CR hl h)).1;omega
  ·exact h
  ·have:=(gk my (fG A1 l l' i i hl CR h)).1;omega
 ·have:o'=o:=by
   have:=hn.op;have I9:ops[i]?=some o':=by simpa using ho'
   rw[I9]at this;simpa using this
  subst this;have dB:=(ny hq).1;have sQ:∀l:Nat,es[l]?≠some i:=by
   intro l hl;obtain⟨_,v',_,_,_,_,_,f3,_⟩:=e3 l i hl;rw[hr]at f3;simp at f3;exact dB v' f3
  refine Rt hI my HS HT hn hq hr sQ (fun v hv tm yl=>?_) (fun v b ao p hv=>?_) (fun ρ' a' w' HW=>hK _ _ _ _ _ yD HW)
  ·obtain⟨aC,g1,g2⟩:=c1 v hv;rw[yl]at g1;simp at g1;subst g1;refine g2 k hk yD ?_
   exact sF (fun l e hl df=>hn.vL hI.down my ((hI.yC l e hl).2 df)) (fun l e hl Gr=>by
        cases hb:ss (cG ops.toList) i e with
        |false=>rfl
        |true=>have:=before l e hl hb;omega)
  ·subst hv;refine⟨?_,?_,fun j v' E5 p' hj=>?_⟩
   ·cases p with
    |zero=>omega
    |succ q=>
     obtain⟨e,he,hb⟩:=c2 _ _ _ _ rfl;exact before q e he hb
   ·rcases d4 i _ _ _ _ hr with hh|⟨_,hh⟩
    ·simp[T.di]at hh
    ·exact hh
   ·exact d5 j i _ _ _ _ _ _ _ (T.di _) hj (T.di _) hr
theorem Fb{P:Program}(hm:P.follows .mixedOrders=true){call:ab}(aO:bF true P call){id:Nat}{ops:Array Oper}{N:Nat}{tm:T AV}{h:H}{F:T Rec}{hs:List H}{hl:H}
 (my:da ops.toList 0=true) (A1:kn (cG ops.toList) (bq P ops.toList 0)=true) (Mg:sE ops.toList=true)
 (B8:yB P (iF call) ops.toList (cG ops.toList) N tm 0 (fT (cG ops.toList) (bq P ops.toList 0) ops.toList.length 0 (bq P ops.toList 0)) .e h=some (F,hs))
 (BO:W8 P ops.toList (cG ops.toList) N (bq P ops.toList 0) tm F hs) (DE:nz hs=some hl):xg P (.region id ops true) N tm h .normal (dI F ops.toList 0 tm) hl:=by
 intro r B ρ0 a0 w0 fV;obtain⟨d1,d2,d3,d4,d5⟩:=kW B8 (by intro i v a ao p h;simp[T.di]at h);obtain⟨e1,⟨hk0,e2,yn,WZ⟩,e3⟩:=xx d2;have hF:∀i o,ops[i]?=some o->∃r,F.get i=some r:=fun i o ho=>by
  obtain⟨r,hr,_⟩:=BO i o (by simpa using ho);exact⟨r,hr⟩
 have main:∀fuel listed k hk ρ a w,Inv ops N (bq P ops.toList 0) F h ρ0 w0 a0 listed k hk ρ a w->hs[k]?=some hk->(List.range ops.size).countP (fun i=>!listed.getD i false)<=fuel->
  wpAny P .any ops (fun e a' w'=>e=Ex.normal.out/\∃ρ',St B N ρ' (dI F ops.toList 0 tm) hl a' w'/\Way ρ0 h w0 ρ' hl w') fuel listed a w:=by
  have done:∀listed k hk ρ a w,Inv ops N (bq P ops.toList 0) F h ρ0 w0 a0 listed k hk ρ a w->hs[k]?=some hk->(∀i,i<ops.size->On listed i)->
        Ex.normal.out=Ex.normal.out/\∃ρ',St B N ρ' (dI F ops.toList 0 tm) hl a w/\Way ρ0 h w0 ρ' hl w:=by
   intro listed k hk ρ a w hI yD tL;have Zq:k=(bq P ops.toList 0).length:=by
        rcases Nat.lt_or_ge k (bq P ops.toList 0).length with df|Gr
        ·have hx:(bq P ops.toList 0)[k]?=some ((bq P ops.toList 0)[k]):=by simp[df]
         obtain⟨_,_,_,_,o,_,f2,_⟩:=e3 k _ hx;have:=(hI.yC k _ hx).1 (tL _ (by have:=(List.getElem?_eq_some_iff.1 f2).1;simpa using this));omega
        ·have:=hI.kle;omega
   have:hl=hk:=by
        have:=xy DE e1;rw[←Zq,yD]at this;simpa using this.symm
   subst this;exact⟨rfl,ρ,⟨LM hI fV.tr fV.size tL hF,hI.nx.rel,hI.fresh,hI.uv,by rw[hI.defers];exact fV.defers.nx fV.hr hI.nx,Nat.le_trans fV.base hI.nx.size⟩,hI.nx,hI.fresh,hI.kp⟩
  intro fuel
  induction fuel with
  |zero=>
   intro listed k hk ρ a w hI yD hc;have tL:∀i,i<ops.size->On listed i:=by
        intro i hi;have h0:(List.range ops.size).countP (fun i=>!listed.getD i false)=0:=by omega
        have:=List.countP_eq_zero.1 h0 i (by simpa using hi);unfold On;cases hh:listed.getD i false with
        |true=>rfl
        |false=>rw[hh]at this;simp at this
   refine⟨?_,done _ _ _ _ _ _ hI yD tL⟩;cases hr:Region.ready .any ops listed with
   |nil=>rfl
   |cons x xs=>
    have hx:x∈Region.ready .any ops listed:=by rw[hr];simp
    obtain⟨q1,o,q2,_⟩:=mem_ready.1 hx;have:=tL x (Array.getElem?_eq_some_iff.1 q2).1;unfold On at this;have df:x<listed.size:=by rw[hI.uu];exact(Array.getElem?_eq_some_iff.1 q2).1
    simp[df]at q1 this;rw[q1]at this;simp at this
  |succ fuel ih=>
   intro listed k hk ρ a w hI yD hc;refine⟨fun hr=>done _ _ _ _ _ _ hI yD (LL my hI.uu hr),fun i hi=>?_⟩;obtain⟨q1,o,q2,q3⟩:=mem_ready.1 hi;have df:i<listed.size:=by rw[hI.uu];exact(Array.getElem?_eq_some_iff.1 q2).1
   have nU:listed.getD i false=false:=by simp[df]at q1⊢;exact q1
   refine LZ (sj aO) my A1 B8 BO fV.tr fV.size hI yD ⟨q2,by unfold On;rw[nU];simp,fun e he hb=>q3 e (by simpa using he) hb⟩ fun k' nc ρ' a' w' W0 HW=>ih _ _ _ _ _ _ HW W0 ?_
   have:=xz (l:=List.range ops.size) (x:=i) (p:=fun i=>!listed.getD i false) (q:=fun j=>!(listed.setIfInBounds i true).getD j false) (by simpa using(Array.getElem?_eq_some_iff.1 q2).1) (by simp only[nU,Bool.not_false]) (by
        have:On (listed.setIfInBounds i true) i:=(xw df).2 (.inr rfl);unfold On at this;rw[this];rfl) (fun y hy=>by
        cases hh:listed.getD y false with
        |false=>rfl
        |true=>
         have:On (listed.setIfInBounds i true) y:=(xw df).2 (.inl hh);unfold On at this;rw[this]at hy;simp at hy)
   omega
 refine wpIn_region_draw fun t=>?_
 simp only[Region.schedule,hm,Bool.true_or,if_true];refine xC (xB Mg) (by rintro ⟨_,_,hh,_⟩;simp[Ex.out]at hh) _ _ _ (wpAny_sound ops.size t _ a0 _ (main ops.size (Array.replicate ops.size false) 0 hk0 ρ0 a0 _ ?_ e2 (Nat.le_trans List.countP_le_length (by simp))));have nU:∀i,¬On (Array.replicate ops.size false) i:=fun i=>by
  unfold On;rw[Array.getD_eq_getD_getElem?,Array.getElem?_replicate];split<;>simp
 have hd:=Nx.drew (w':={w0 with drawn:=w0.drawn+1}) fV.hr rfl ⟨rfl,rfl,rfl⟩;refine⟨by simp,fun i o _ hi=>absurd hi (nU i),fun l e hl=>⟨fun hh=>absurd hh (nU e),fun hh=>by omega⟩,Nat.zero_le _,hd.ext fV.fresh yn.old,fun c hc=>fV.fresh c (Nat.le_trans yn.next hc),⟨yn.next,fun c hc e=>⟨e,yn.old c hc⟩⟩,fun i v b o p hi _=>?_,fun t=>.inr ⟨fun j o _ _=>nU j,rfl⟩,fV.size,rfl⟩;refine⟨fV.fresh b (WZ i v b o p hi (Nat.zero_le _)),fun hp=>?_⟩;have:p=0:=by omega
 subst this;obtain⟨q1,q2,q3⟩:=yn.at_ i v b o hi;exact⟨q3,q2⟩
end
end Go.Proofs.YtgkjlklfjbljeaaGreat.Eo
