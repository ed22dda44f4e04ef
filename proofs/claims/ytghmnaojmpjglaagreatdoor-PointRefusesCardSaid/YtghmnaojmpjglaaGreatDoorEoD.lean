/-
  An evaluator of Go code over relative heaps, with open values too: what it says is so in every world. No condition.
-/
import Derived.Test.YtghmnaojmpjglaaGreatDoorEoC
import Derived.Orders
set_option linter.all false
namespace Go.Proofs.YtghmnaojmpjglaaGreatDoor.Eo
noncomputable section
def Sub(F F':T Rec):Prop:=∀i r,F.get i=some r->F'.get i=some r
theorem Sub.refl(F:T Rec):Sub F F:=fun _ _ h=>h
theorem Sub.trans{F F' F'':T Rec}(h:Sub F F')(h':Sub F' F''):Sub F F'':=fun i r e=>h' i r (h i r e)
theorem Sub.set{F:T Rec}{i:Nat}{r:Rec}(h:F.get i=none):Sub F (F.set i r):=fun j s e=>by
 rw[T.get_set,if_neg]
 ·exact e
 ·rintro rfl;rw[h]at e;simp at e
theorem mkTm_mono{tm0:T AV}{F F':T Rec}(h:Sub F F'):∀{lk:List (Nat×Option Nat)} {tm:T AV},mkTm tm0 F lk=some tm->mkTm tm0 F' lk=some tm
 | [],tm,e=>e
 |(t,none)::l,tm,e=>by
  rw[mkTm_none]at e⊢
  split at e
  ·rename_i tm' h1
   rw[mkTm_mono h h1]
   exact e
  ·simp at e
 |(t,some j)::l,tm,e=>by
  rw[mkTm_some]at e⊢
  split at e
  ·rename_i tm' h1
   rw[mkTm_mono h h1]
   simp only[]
   split at e
   ·rename_i r hr
    rw[h _ _ hr]
    exact e
   ·simp at e
  ·simp at e
theorem localTm_mono{ops:List Oper}{m:T Nat}{N:Nat}{tm0:T AV}{F F':T Rec}(h:Sub F F'){i:Nat}{o:Oper}{tm:T AV}(e:localTm ops m N tm0 F i o=some tm):localTm ops m N tm0 F' i o=some tm:=by
 unfold localTm at e⊢
 split at e
 ·split at e
  ·rename_i hd lk hl
   exact mkTm_mono h e
  ·simp at e
 ·simp at e
theorem opQ_mono{P:Program}{ops:List Oper}{m:T Nat}{N:Nat}{tm0:T AV}{ph:Nat}{F F':T Rec}(h:Sub F F'){hp:H}{i:Nat}{o:Oper}{x:Rec×H}(e:opQ P ops m N tm0 ph F hp i o=some x):opQ P ops m N tm0 ph F' hp i o=some x:=by
 unfold opQ at e⊢
 split at e
 ·rename_i tm ht
  rw[localTm_mono h ht]
  exact e
 ·simp at e
theorem opF_mono{P:Program}{call:CallE}{ops:List Oper}{m:T Nat}{N:Nat}{tm0:T AV}{F F':T Rec}(h:Sub F F'){hp:H}{i:Nat}{o:Oper}{x:AV×H}(e:opF P call ops m N tm0 F hp i o=some x):opF P call ops m N tm0 F' hp i o=some x:=by
 unfold opF at e⊢
 split at e
 ·rename_i tm ht
  rw[localTm_mono h ht]
  exact e
 ·simp at e
theorem opQ_heap{P:Program}{ops:List Oper}{m:T Nat}{N:Nat}{tm0:T AV}{ph:Nat}{F:T Rec}{h h':H}{i:Nat}{o:Oper}{r:Rec}(e:opQ P ops m N tm0 ph F h i o=some (r,h')):
 (∀v,r≠.eff v)∧((h'=h∧∀v a ao p,r≠.alloc v a ao p)∨∃v ao,r=.alloc v h.next ao ph∧h'=⟨h.next+1,h.t.set h.next ao⟩):=by
 unfold opQ at e
 split at e
 ·split at e
  ·simp at e;obtain⟨rfl,rfl⟩:=e;simp
  ·split at e
   all_goals first
        |(split at e
          ·first
           |(simp at e;obtain⟨rfl,rfl⟩:=e;simp;done)
           |(simp only[Option.some.injEq,Prod.mk.injEq]at e;obtain⟨rfl,rfl⟩:=e
             exact⟨by simp,.inr ⟨_,_,rfl,rfl⟩⟩)
          ·simp at e)
        |(simp at e;done)
  ·simp at e
 ·simp at e
structure PhF(P:Program)(ops:List Oper)(m:T Nat)(N:Nat)(tm0:T AV)(ph:Nat)(F:T Rec)(h h1:H):Prop where
 next:h.next<=h1.next
 old:∀b,b<h.next->h1.t.get b=h.t.get b
 at_:∀i v a ao,F.get i=some (.alloc v a ao ph)->h.next<=a∧a<h1.next∧h1.t.get a=some ao
def QF(P:Program)(ops:List Oper)(m:T Nat)(N:Nat)(tm0:T AV)(F:T Rec)(i:Nat)(r:Rec):Prop:=
 ∃o ph h h',ops[i]?=some o∧opQ P ops m N tm0 ph F h i o=some (r,h')
theorem phE_sound{P:Program}{ops:List Oper}{m:T Nat}{N:Nat}{tm0:T AV}{ph:Nat}:∀{ids:List Nat} {F F1:T Rec} {h h1:H},phE P ops m N tm0 ph ids F h=some (F1,h1)->
 Sub F F1∧h.next<=h1.next∧(∀b,b<h.next->h1.t.get b=h.t.get b)∧
 (∀i r,F1.get i=some r->F.get i=some r∨(QF P ops m N tm0 F1 i r∧∀v a ao p,r=.alloc v a ao p->p=ph∧h.next<=a∧a<h1.next∧h1.t.get a=some ao))∧
 (∀i j v a ao p v' ao' p',F.get i=none->F1.get i=some (.alloc v a ao p)->F.get j=none->F1.get j=some (.alloc v' a ao' p')->i=j)
 | [],F,F1,h,h1,e=>by
   simp[phE]at e;obtain⟨rfl,rfl⟩:=e
   exact⟨Sub.refl _,Nat.le_refl _,fun _ _=>rfl,fun i r hr=>.inl hr,fun i j v a ao p v' ao' p' h1 h2=>by rw[h1]at h2;simp at h2⟩
 |i::l,F,F1,h,h1,e=>by
  unfold phE at e
  split at e
  ·rename_i o ho hF
   split at e
   ·rename_i r h2 hq
    obtain⟨k1,k2,k3,k4,k5⟩:=phE_sound e
    have hsub:Sub F (F.set i r):=Sub.set hF
    obtain⟨q1,q2⟩:=opQ_heap hq
    have hn:h.next<=h2.next:=by
     rcases q2 with⟨rfl,_⟩|⟨v,ao,_,rfl⟩
     ·exact Nat.le_refl _
     ·exact Nat.le_succ _
    have hold:∀b,b<h.next->h2.t.get b=h.t.get b:=by
     intro b hb
     rcases q2 with⟨rfl,_⟩|⟨v,ao,_,rfl⟩
     ·rfl
     ·show(h.t.set h.next ao).get b=_
      rw[T.get_set,if_neg (by omega)]
    have hi1:F1.get i=some r:=k1 i r (by rw[T.get_set,if_pos rfl])
    have hia:∀v a ao p,r=.alloc v a ao p->p=ph∧a=h.next∧h2.next=h.next+1∧h2.t.get a=some ao:=by
     intro v a ao p hr
     rcases q2 with⟨_,hne⟩|⟨v',ao',hr',rfl⟩
     ·exact absurd hr (hne v a ao p)
     ·rw[hr']at hr;simp at hr
      obtain⟨_,rfl,rfl,rfl⟩:=hr
      exact⟨rfl,rfl,rfl,by show(h.t.set h.next ao').get h.next=_;rw[T.get_set,if_pos rfl]⟩
    refine⟨hsub.trans k1,Nat.le_trans hn k2,fun b hb=>by rw[k3 b (by omega),hold b hb],?_,?_⟩
    ·intro j s hj
     rcases k4 j s hj with hh|⟨hh1,hh2⟩
     ·rw[T.get_set]at hh
      by_cases e:j=i
      ·subst e
       rw[if_pos rfl]at hh;simp at hh;subst hh
       refine .inr ⟨⟨o,ph,h,h2,ho,opQ_mono (hsub.trans k1) hq⟩,fun v a ao p hr=>?_⟩
       obtain⟨r1,rfl,r3,r4⟩:=hia v a ao p hr
       exact⟨r1,Nat.le_refl _,by omega,by rw[k3 _ (by omega)];exact r4⟩
      ·rw[if_neg e]at hh;exact .inl hh
     ·exact .inr ⟨hh1,fun v a ao p hr=>by
       obtain⟨r1,r2,r3,r4⟩:=hh2 v a ao p hr
       exact⟨r1,by omega,r3,r4⟩⟩
    ·have far:∀j v a ao p,j≠i->F.get j=none->F1.get j=some (.alloc v a ao p)->h2.next<=a:=by
       intro j v a ao p hji hj hj1
       rcases k4 j _ hj1 with hh|⟨_,hh⟩
       ·rw[T.get_set,if_neg hji,hj]at hh;simp at hh
       ·exact(hh v a ao p rfl).2.1
     have near:∀v a ao p,F1.get i=some (.alloc v a ao p)->a<h2.next:=by
       intro v a ao p hh
       rw[hi1]at hh;simp at hh
       obtain⟨_,rfl,r3,_⟩:=hia v a ao p hh
       omega
     intro j k v a ao p v' ao' p' hj hj1 hk hk1
     by_cases ej:j=i
     ·by_cases ek:k=i
      ·rw[ej,ek]
      ·subst ej
       have:=near _ _ _ _ hj1
       have:=far k _ _ _ _ ek hk hk1
       omega
     ·by_cases ek:k=i
      ·subst ek
       have:=near _ _ _ _ hk1
       have:=far j _ _ _ _ ej hj hj1
       omega
      ·exact k5 j k v a ao p v' ao' p' (by rw[T.get_set,if_neg ej];exact hj) hj1 (by rw[T.get_set,if_neg ek];exact hk) hk1
   ·simp at e
  ·simp at e
def LowP(F:T Rec)(ph:Nat)(h:H):Prop:=∀i v a ao p,F.get i=some (.alloc v a ao p)->ph<=p->h.next<=a
def CertP(P:Program)(call:CallE)(ops:List Oper)(m:T Nat)(N:Nat)(tm0:T AV)(F:T Rec):Nat->List (List Nat×Option Nat)->H->List H->Prop
 |_,[],_,_=>False
 |ph,(_,none)::_,h,hs=>LowP F ph h∧∃h1,hs=[h1]∧PhF P ops m N tm0 ph F h h1
 |ph,(_,some e)::rest,h,hs=>LowP F ph h∧∃h1 hs' v h2 o,hs=h1::hs'∧PhF P ops m N tm0 ph F h h1∧ops[e]?=some o∧F.get e=some (.eff v)∧opF P call ops m N tm0 F h1 e o=some (v,h2)∧h1.next<=h2.next∧
   CertP P call ops m N tm0 F (ph+1) rest h2 hs'
theorem QF.mono{P:Program}{ops:List Oper}{m:T Nat}{N:Nat}{tm0:T AV}{F F':T Rec}(hs:Sub F F'){i:Nat}{r:Rec}(h:QF P ops m N tm0 F i r):QF P ops m N tm0 F' i r:=by
 obtain⟨o,ph,h1,h2,k1,k2⟩:=h
 exact⟨o,ph,h1,h2,k1,opQ_mono hs k2⟩
theorem drE_sound{P:Program}{call:CallE}{ops:List Oper}{m:T Nat}{N:Nat}{tm0:T AV}:∀{l:List (List Nat×Option Nat)} {ph:Nat} {F0 F:T Rec} {h:H} {hs:List H},drE P call ops m N tm0 ph l F0 h=some (F,hs)->
 (∀i v a ao p,F0.get i=some (.alloc v a ao p)->p<ph)->
 Sub F0 F∧CertP P call ops m N tm0 F ph l h hs∧
 (∀i r,F.get i=some r->F0.get i=some r∨(∃v,r=.eff v)∨QF P ops m N tm0 F i r)∧
 (∀i v a ao p,F.get i=some (.alloc v a ao p)->F0.get i=some (.alloc v a ao p)∨(ph<=p∧h.next<=a))∧
 (∀i j v a ao p v' ao' p',F0.get i=none->F.get i=some (.alloc v a ao p)->F0.get j=none->F.get j=some (.alloc v' a ao' p')->i=j)
 | [],ph,F0,F,h,hs,e,_=>by simp[drE]at e
 |(ids,none)::l,ph,F0,F,h,hs,e,htag=>by
  unfold drE at e
  split at e
  ·rename_i F1 h1 hp
   simp at e;obtain⟨rfl,rfl⟩:=e
   obtain⟨k1,k2,k3,k4,k5⟩:=phE_sound hp
   refine⟨k1,⟨fun i v a ao p hi hp=>?_,h1,rfl,⟨k2,k3,fun i v a ao hi=>?_⟩⟩,fun i r hi=>?_,fun i v a ao p hi=>?_,k5⟩
   ·rcases k4 i _ hi with hh|⟨_,hh⟩
    ·have:=htag _ _ _ _ _ hh;omega
    ·exact(hh v a ao p rfl).2.1
   ·rcases k4 i _ hi with hh|⟨_,hh⟩
    ·exact absurd (htag _ _ _ _ _ hh) (Nat.lt_irrefl _)
    ·exact(hh v a ao ph rfl).2
   ·rcases k4 i _ hi with hh|⟨hh,_⟩
    ·exact .inl hh
    ·exact .inr (.inr hh)
   ·rcases k4 i _ hi with hh|⟨_,hh⟩
    ·exact .inl hh
    ·obtain⟨rfl,r2,_⟩:=hh v a ao p rfl
     exact .inr ⟨Nat.le_refl _,r2⟩
  ·simp at e
 |(ids,some x)::l,ph,F0,F,h,hs,e,htag=>by
  unfold drE at e
  split at e
  ·rename_i F1 h1 hp
   split at e
   ·rename_i o ho hFx
    split at e
    ·rename_i v h2 hv
     split at e
     ·rename_i hle
      have hle:=Nat.le_of_ble_eq_true hle
      split at e
      ·rename_i F' hs' hd
       simp at e;obtain⟨rfl,rfl⟩:=e
       obtain⟨k1,k2,k3,k4,k5⟩:=phE_sound hp
       have hset:Sub F1 (F1.set x (.eff v)):=Sub.set hFx
       have htag':∀i v' a ao p,(F1.set x (.eff v)).get i=some (.alloc v' a ao p)->p<ph+1:=by
        intro i v' a ao p hi
        rw[T.get_set]at hi
        by_cases e:i=x
        ·rw[if_pos e]at hi;simp at hi
        ·rw[if_neg e]at hi
         rcases k4 i _ hi with hh|⟨_,hh⟩
         ·have:=htag _ _ _ _ _ hh;omega
         ·have:=(hh v' a ao p rfl).1;omega
       obtain⟨j1,j2,j3,j4,j5⟩:=drE_sound hd htag'
       have hsub:Sub F1 F':=hset.trans j1
       have back:∀i v' a ao p,F'.get i=some (.alloc v' a ao p)->F1.get i=some (.alloc v' a ao p)∨(ph+1<=p∧h2.next<=a):=by
        intro i v' a ao p hi
        rcases j4 i _ _ _ _ hi with hh|hh
        ·rw[T.get_set]at hh
         by_cases e:i=x
         ·rw[if_pos e]at hh;simp at hh
         ·rw[if_neg e]at hh;exact .inl hh
        ·exact .inr hh
       refine⟨k1.trans hsub,⟨fun i v' a ao p hi hp=>?_,h1,hs',v,h2,o,rfl,⟨k2,k3,fun i v' a ao hi=>?_⟩,ho,j1 _ _ (by rw[T.get_set,if_pos rfl]),opF_mono hsub hv,hle,j2⟩,fun i r hi=>?_,fun i v' a ao p hi=>?_,?_⟩
       ·rcases back i _ _ _ _ hi with hh|hh
        ·rcases k4 i _ hh with hh|⟨_,hh⟩
         ·have:=htag _ _ _ _ _ hh;omega
         ·exact(hh v' a ao p rfl).2.1
        ·omega
       ·rcases back i _ _ _ _ hi with hh|hh
        ·rcases k4 i _ hh with hh|⟨_,hh⟩
         ·exact absurd (htag _ _ _ _ _ hh) (Nat.lt_irrefl _)
         ·exact(hh v' a ao ph rfl).2
        ·omega
       ·rcases j3 i r hi with hh|hh|hh
        ·rw[T.get_set]at hh
         by_cases e:i=x
         ·rw[if_pos e]at hh;simp at hh;exact .inr (.inl ⟨v,hh.symm⟩)
         ·rw[if_neg e]at hh
          rcases k4 i r hh with hh|⟨hh,_⟩
          ·exact .inl hh
          ·exact .inr (.inr (hh.mono hsub))
        ·exact .inr (.inl hh)
        ·exact .inr (.inr hh)
       ·rcases back i _ _ _ _ hi with hh|⟨hh,hh2⟩
        ·rcases k4 i _ hh with hh|⟨_,hh⟩
         ·exact .inl hh
         ·obtain⟨rfl,r2,_⟩:=hh v' a ao p rfl
          exact .inr ⟨Nat.le_refl _,r2⟩
        ·exact .inr ⟨by omega,by omega⟩
       ·intro i j v1 a ao p v2 ao' p' hi0 hi hj0 hj
        have lo:∀i v' ao p,F0.get i=none->F1.get i=some (.alloc v' a ao p)->a<h1.next:=by
               intro i v' ao p h0 hh
               rcases k4 i _ hh with hh|⟨_,hh⟩
               ·rw[h0]at hh;simp at hh
               ·exact(hh v' a ao p rfl).2.2.1
        have none1:∀i v' ao p,F'.get i=some (.alloc v' a ao p)->F1.get i=some (.alloc v' a ao p)∨(F1.set x (.eff v)).get i=none:=by
               intro i v' ao p hh
               cases hg:(F1.set x (.eff v)).get i with
               |none=>exact .inr rfl
               |some s=>
                have:=j1 _ _ hg
                rw[hh]at this;simp at this;subst this
                rw[T.get_set]at hg
                by_cases e:i=x
                ·rw[if_pos e]at hg;simp at hg
                ·rw[if_neg e]at hg;exact .inl hg
        rcases back i _ _ _ _ hi with bi|⟨_,bi⟩
        ·rcases back j _ _ _ _ hj with bj|⟨_,bj⟩
         ·exact k5 i j _ _ _ _ _ _ _ hi0 bi hj0 bj
         ·have:=lo i _ _ _ hi0 bi;omega
        ·rcases back j _ _ _ _ hj with bj|⟨_,bj⟩
         ·have:=lo j _ _ _ hj0 bj;omega
         ·have n1:∀i v' ao p,F0.get i=none->F'.get i=some (.alloc v' a ao p)->(F1.set x (.eff v)).get i=none:=by
              intro i v' ao p h0 hh
              rcases none1 i v' ao p hh with hh1|hh1
              ·have:=lo i _ _ _ h0 hh1;omega
              ·exact hh1
          exact j5 i j _ _ _ _ _ _ _ (n1 i _ _ _ hi0 hi) hi (n1 j _ _ _ hj0 hj) hj
      ·simp at e
     ·simp at e
    ·simp at e
   ·simp at e
  ·simp at e
def eqAV:Nat->AV->AV->Bool
 |0,_,_=>false
 |n+1,x,y=>match x,y with
  | .bool a,.bool b=>match a,b with|true,true=>true|false,false=>true|_,_=>false
  | .int k a,.int k' b=>decide (k=k')&&iEq a b
  | .str a,.str b=>strEq a b
  | .ptr a o,.ptr b p=>Nat.beq a b&&Nat.beq o p
  | .nilp,.nilp=>true
  | .sl a o l e c,.sl a' o' l' e' c'=>Nat.beq a a'&&Nat.beq o o'&&Nat.beq l l'&&Nat.beq e e'&&(match c,c' with|none,none=>true|some x,some y=>Nat.beq x y|_,_=>false)
  | .nils,.nils=>true
  | .map a,.map b=>Nat.beq a b
  | .nilm,.nilm=>true
  | .nilf,.nilf=>true
  | .fn f [] [],.fn g [] []=>decide (f=g)
  | .fn f a c,.fn g b d=>decide (f=g)&&eqAVs (eqAV n) a b&&eqAVs (eqAV n) c d
  | .ifc t v,.ifc u w=>Nat.beq t u&&eqAV n v w
  | .nili,.nili=>true
  | .agg l,.agg m=>eqAVs (eqAV n) l m
  | .tup l,.tup m=>eqAVs (eqAV n) l m
  |_,_=>false
where eqAVs (f:AV->AV->Bool):List AV->List AV->Bool
 | [],[]=>true
 |x::l,y::m=>f x y&&eqAVs f l m
 |_,_=>false
theorem eqAVs_sound{f:AV->AV->Bool}(hf:∀x y,f x y=true->x=y):∀{l m:List AV},eqAV.eqAVs f l m=true->l=m
 | [],[],_=>rfl
 |x::l,y::m,h=>by
  simp only[eqAV.eqAVs,Bool.and_eq_true]at h
  rw[hf _ _ h.1,eqAVs_sound hf h.2]
 | [],_::_,h=>by simp[eqAV.eqAVs]at h
 |_::_,[],h=>by simp[eqAV.eqAVs]at h
theorem eqAV_sound:∀(n:Nat) (x y:AV),eqAV n x y=true->x=y
 |0,x,y,h=>by simp[eqAV]at h
 |n+1,x,y,h=>by
  have ih:=eqAV_sound n
  unfold eqAV at h
  split at h
  all_goals first
   |rfl
   |(simp at h;done)
   |skip
  ·split at h<;>first|rfl|simp at h
  ·simp only[Bool.and_eq_true,decide_eq_true_eq,iEq_eq,beq_iff_eq]at h
   rw[h.1,h.2]
  ·rw[strEq_eq]at h
   rw[(Go.MapKept.bytes_beq _ _).1 h]
  ·simp only[Bool.and_eq_true]at h
   rw[Nat.eq_of_beq_eq_true h.1,Nat.eq_of_beq_eq_true h.2]
  ·simp only[Bool.and_eq_true]at h
   obtain⟨⟨⟨⟨h1,h2⟩,h3⟩,h4⟩,h5⟩:=h
   rw[Nat.eq_of_beq_eq_true h1,Nat.eq_of_beq_eq_true h2,Nat.eq_of_beq_eq_true h3,Nat.eq_of_beq_eq_true h4]
   split at h5
   ·rfl
   ·rw[Nat.eq_of_beq_eq_true h5]
   ·simp at h5
  ·rw[Nat.eq_of_beq_eq_true h]
  ·rw[of_decide_eq_true h]
  ·simp only[Bool.and_eq_true,decide_eq_true_eq]at h
   rw[h.1.1,eqAVs_sound ih h.1.2,eqAVs_sound ih h.2]
  ·simp only[Bool.and_eq_true]at h
   rw[Nat.eq_of_beq_eq_true h.1,ih _ _ h.2]
  ·rw[eqAVs_sound ih h]
  ·rw[eqAVs_sound ih h]
def mayAt(m:T Nat)(i:Nat):List Nat->Nat->Bool
 | [],_=>true
 |e::es,0=>!bef m i e&&mayAt m i es 0
 |e::es,k+1=>!bef m e i&&mayAt m i es k
def readAt(P:Program)(tm:T AV)(h:H)(o:Oper):Option AV:=match cOp P o with
 |some (.r x)=>evR tm h.t.get x
 |some (.l x)=>evL tm h.t.get x
 |some (.s x)=>evS tm h.t.get x
 |_=>none
def chkRead(P:Program)(m:T Nat)(es:List Nat)(tm:T AV)(o:Oper)(i:Nat)(v:AV):Nat->List H->Bool
 |_,[]=>true
 |k,h::hs=>(match mayAt m i es k with
  |true=>match readAt P tm h o with
   |some u=>eqAV 20 u v
   |none=>false
  |false=>true)&&chkRead P m es tm o i v (k+1) hs
def chkOps(P:Program)(ops:List Oper)(m:T Nat)(N:Nat)(es:List Nat)(tm0:T AV)(F:T Rec)(hs:List H):List Oper->Nat->Bool
 | [],_=>true
 |o::l,i=>(match F.get i with
  |some (.read v)=>match localTm ops m N tm0 F i o with
   |some tm=>chkRead P m es tm o i v 0 hs
   |none=>false
  |some (.alloc _ _ _ 0)=>true
  |some (.alloc _ _ _ (q+1))=>match es[q]? with
   |some e=>bef m i e
   |none=>false
  |some (.eff _)=>es.contains i
  |some (.quiet _)=>true
  |none=>false)&&chkOps P ops m N es tm0 F hs l (i+1)
def finalTm(F:T Rec)(l:List Oper)(i:Nat)(tm:T AV):T AV:=
 List.rec (motive:=fun _=>Nat->T AV->T AV) (fun _ tm=>tm) (fun o _ ih i tm=>Option.rec (ih (Nat.succ i) tm) (fun d=>Option.rec (ih (Nat.succ i) tm) (fun r=>ih (Nat.succ i) (tm.set d r.val)) (F.get i)) o.dst) l i tm
theorem finalTm_cons(F:T Rec)(o:Oper)(l:List Oper)(i:Nat)(tm:T AV):finalTm F (o::l) i tm=match o.dst,F.get i with
 |some d,some r=>finalTm F l (i+1) (tm.set d r.val)
 |_,_=>finalTm F l (i+1) tm:=by
 show(Option.rec (finalTm F l (i+1) tm) (fun d=>Option.rec (finalTm F l (i+1) tm) (fun r=>finalTm F l (i+1) (tm.set d r.val)) (F.get i)) o.dst:T AV)=_
 cases o.dst with
 |none=>rfl
 |some d=>cases h:F.get i<;>simp
def lastH:List H->Option H
 | []=>none
 | [h]=>some h
 |_::hs=>lastH hs
def noDefer(ops:List Oper):Bool:=ops.all fun o=>match o.op with
 | .defer _=>false
 |_=>true
def drawE(P:Program):DrawE:=fun call ops N tm h=>
 match edgesOk ops 0&&chainOk (preds ops) (effsFrom P ops 0)&&noDefer ops with
 |true=>match drE P (plainCall call) ops (preds ops) N tm 0 (phasesOf (preds ops) (effsFrom P ops 0) ops.length 0 (effsFrom P ops 0)) .e h with
  |some (F,hs)=>match chkOps P ops (preds ops) N (effsFrom P ops 0) tm F hs ops 0 with
   |true=>match lastH hs with
    |some h'=>some (finalTm F ops 0 tm,h')
    |none=>none
   |false=>none
  |none=>none
 |false=>none
end
end Go.Proofs.YtghmnaojmpjglaaGreatDoor.Eo
namespace Go.Proofs.YtghmnaojmpjglaaGreatDoor.Eo
noncomputable section
abbrev On(listed:Array Bool)(i:Nat):Prop:=listed.getD i false=true
structure Inv(ops:Array Oper)(N:Nat)(es:List Nat)(F:T Rec)(h0:H)(ρ0:Rho)(w0:World)(a0:Act)(listed:Array Bool)(k:Nat)(hk:H)(ρ:Rho)(a:Act)(w:World):Prop where
 lsize:listed.size=ops.size
 down:Down ops.toList (On listed)
 effs:∀l e,es[l]?=some e->(On listed e↔l<k)
 kle:k<=es.length
 nx:Nx ρ0 h0.t.get w0 ρ hk.t.get w
 fresh:Fresh ρ hk.next
 kp:Kp ρ0 h0 ρ hk
 al:∀i v b o p,F.get i=some (.alloc v b o p)->¬On listed i->ρ b=none∧(p<=k->hk.t.get b=some o∧b<hk.next)
 slots:∀t,(∃j r o,ops[j]?=some o∧o.dst=some t∧On listed j∧F.get j=some r∧(∀j' o',ops[j']?=some o'->o'.dst=some t->On listed j'->j'<=j)∧t<N∧VR ρ r.val (a.tmps.getD t undef))∨
  ((∀j o,ops[j]?=some o->o.dst=some t->¬On listed j)∧a.tmps.getD t undef=a0.tmps.getD t undef)
 tsize:a.tmps.size=N
 defers:a.defers=a0.defers
theorem looksOf_mem{ops:List Oper}{m:T Nat}{i:Nat}:∀{ts:List Nat} {lk:List (Nat×Option Nat)},looksOf ops m i ts=some lk->∀t r,(t,r)∈lk->lookOf ops m i t=some r
 | [],lk,h,t,r,hm=>by simp[looksOf]at h;subst h;simp at hm
 |s::ts,lk,h,t,r,hm=>by
  unfold looksOf at h
  split at h
  ·rename_i r' hr
   split at h
   ·rename_i rs hrs
    simp at h;subst h
    rcases List.mem_cons.1 hm with e|hm
    ·simp at e;obtain⟨rfl,rfl⟩:=e;exact hr
    ·exact looksOf_mem hrs t r hm
   ·simp at h
  ·simp at h
section
variable {ops:Array Oper} {N:Nat} {es:List Nat} {F:T Rec} {h0:H} {ρ0:Rho} {w0:World} {a0:Act} {listed:Array Bool} {k:Nat} {hk:H} {ρ:Rho} {a:Act} {w:World}
structure Next(ops:Array Oper)(listed:Array Bool)(i:Nat)(o:Oper):Prop where
 op:ops[i]?=some o
 new:¬On listed i
 pre:∀e∈o.after.toList,Region.binds .any e=true->On listed e.on
theorem Next.down(hd:Down ops.toList (On listed)){i:Nat}{o:Oper}(hn:Next ops listed i o):Down ops.toList (fun j=>On listed j∨j=i):=by
 intro j oj hj hS e he hb
 rcases hS with hS|rfl
 ·exact .inl (hd j oj hj hS e he hb)
 ·have:ops[j]?=some oj:=by simpa using hj
  rw[hn.op]at this;simp at this;subst this
  exact .inl (hn.pre e he hb)
theorem Next.bef_on(hd:Down ops.toList (On listed))(hok:edgesOk ops.toList 0=true){i:Nat}{o:Oper}(hn:Next ops listed i o){j:Nat}(hb:bef (preds ops.toList) i j=true):On listed j:=by
 obtain⟨h1,h2⟩:=bef_sound hok hb
 rcases h2 _ (hn.down hd) (.inr rfl)with h|h
 ·exact h
 ·omega
theorem Next.not_bef(hd:Down ops.toList (On listed))(hok:edgesOk ops.toList 0=true){i:Nat}{o:Oper}(hn:Next ops listed i o){j:Nat}(hj:On listed j):bef (preds ops.toList) j i=false:=by
 cases hb:bef (preds ops.toList) j i with
 |false=>rfl
 |true=>exact absurd ((bef_sound hok hb).2 _ hd hj) hn.new
theorem localTm_sound(hI:Inv ops N es F h0 ρ0 w0 a0 listed k hk ρ a w)(hok:edgesOk ops.toList 0=true){tm0:T AV}(ht0:TR ρ0 tm0 a0.tmps)(hN0:a0.tmps.size=N){i:Nat}{o:Oper}(hn:Next ops listed i o){tm:T AV}
 (h:localTm ops.toList (preds ops.toList) N tm0 F i o=some tm):TR ρ tm a.tmps:=by
 unfold localTm at h
 split at h
 ·split at h
  ·rename_i lk hlk
   have key:∀(lk':List (Nat×Option Nat)) tm,(∀t r,(t,r)∈lk'->lookOf ops.toList (preds ops.toList) i t=some r)->mkTm tm0 F lk'=some tm->TR ρ tm a.tmps:=by
        intro lk'
        induction lk' with
        |nil=>intro tm _ h;simp[mkTm_nil]at h;subst h;intro t v hv;simp[T.get_e]at hv
        |cons x l ih=>
         obtain⟨t,r⟩:=x
         intro tm hlk h
         have ih':=fun tm=>ih tm (fun t r hm=>hlk t r (List.mem_cons_of_mem _ hm))
         have hl:=hlk t r (List.mem_cons_self ..)
         unfold lookOf at hl
         obtain⟨c1,c2⟩:=lookGo_sound hl writersFrom_sorted (by simp)
         have wr:∀j oj,ops[j]?=some oj->oj.dst=some t->j∈writersFrom t ops.toList 0:=fun j oj hj hd=>writersFrom_mem.2 ⟨Nat.zero_le _,oj,by simpa using hj,hd⟩
         have lw:∀j oj,ops[j]?=some oj->oj.dst=some t->On listed j->j≠i∧bef (preds ops.toList) i j=true:=by
          intro j oj hj hd hon
          have hne:j≠i:=by rintro rfl;exact hn.new hon
          rcases c1 j (wr j oj hj hd)with rfl|hb|hb
          ·exact absurd rfl hne
          ·exact⟨hne,hb⟩
          ·rw[hn.not_bef hI.down hok hon]at hb;simp at hb
         cases r with
         |none=>
          rw[mkTm_none]at h
          split at h
          ·rename_i tm' h1
           have hno:∀j oj,ops[j]?=some oj->oj.dst=some t->¬On listed j:=by
            intro j oj hj hd hon
            obtain⟨l1,l2⟩:=lw j oj hj hd hon
            have:=c2.2 j (wr j oj hj hd) l1
            rw[l2]at this;simp at this
           split at h
           ·rename_i v hv
            simp at h;subst h
            have hT:=ih' tm' h1
            rcases hI.slots t with⟨j,r,oj,s1,s2,s3,_⟩|⟨_,s2⟩
            ·exact absurd s3 (hno j oj s1 s2)
            ·obtain⟨z1,z2⟩:=ht0 t v hv
             intro s u hu
             rw[T.get_set]at hu
             by_cases e:s=t
             ·subst e
              rw[if_pos rfl]at hu;simp at hu;subst hu
              exact⟨by rw[hI.tsize,←hN0];exact z1,by rw[s2];exact VR.mono hI.nx.le _ _ z2⟩
             ·rw[if_neg e]at hu;exact hT s u hu
           ·simp at h;subst h;exact ih' _ h1
          ·simp at h
         |some j=>
          rw[mkTm_some]at h
          split at h
          ·rename_i tm' h1
           split at h
           ·rename_i r hr
            simp at h;subst h
            have hT:=ih' tm' h1
            obtain⟨d1,d2,_⟩:=c2
            obtain⟨w1,w2,w3⟩:=d1.resolve_left (by simp)
            obtain⟨_,oj,w4,w5⟩:=writersFrom_mem.1 w1
            have w4':ops[j]?=some oj:=by simpa using w4
            have hjon:=hn.bef_on hI.down hok w3
            rcases hI.slots t with⟨j',r',oj',s1,s2,s3,s4,s5,s6,s7⟩|⟨s1,_⟩
            ·obtain⟨l1,l2⟩:=lw j' oj' s1 s2 s3
             have e1:=d2 j' (wr j' oj' s1 s2) l1 l2
             have e2:=s5 j oj w4' w5 hjon
             have e3:j'=j:=by omega
             subst e3
             rw[hr]at s4;simp at s4;subst s4
             intro s u hu
             rw[T.get_set]at hu
             by_cases e:s=t
             ·subst e
              rw[if_pos rfl]at hu;simp at hu;subst hu
              exact⟨by rw[hI.tsize];exact s6,s7⟩
             ·rw[if_neg e]at hu;exact hT s u hu
            ·exact absurd hjon (s1 j oj w4' w5)
           ·simp at h
          ·simp at h
   exact key lk tm (fun t r hm=>looksOf_mem hlk t r hm) h
  ·simp at h
 ·simp at h
theorem on_set{listed:Array Bool}{i j:Nat}(hi:i<listed.size):On (listed.setIfInBounds i true) j↔On listed j∨j=i:=by
 unfold On
 by_cases e:i=j
 ·subst e;simp[hi]
 ·rw[getD_set_ne false e]
  constructor
  ·exact .inl
  ·rintro (h|rfl)
   ·exact h
   ·exact absurd rfl e
theorem put_getD_ne{a:Act}{dst:Option Nat}{V:Value}{t:Nat}(h:dst≠some t):(a.put dst V).tmps.getD t undef=a.tmps.getD t undef:=by
 cases dst with
 |none=>rfl
 |some d=>
  have hne:d≠t:=fun e=>h (by rw[e])
  simp[Act.put,Array.getElem?_setIfInBounds_ne hne]
theorem Inv.next(hI:Inv ops N es F h0 ρ0 w0 a0 listed k hk ρ a w)(hok:edgesOk ops.toList 0=true){i:Nat}{o:Oper}(hn:Next ops listed i o){r:Rec}(hr:F.get i=some r)(hd:dstOk ops.toList (preds ops.toList) N i o.dst=true)
 {k':Nat} {hk':H} {ρ':Rho} {w':World} {V:Value} (hV:VR ρ' r.val V) (hle:Le ρ ρ') (nx':Nx ρ0 h0.t.get w0 ρ' hk'.t.get w') (fresh':Fresh ρ' hk'.next) (kp':Kp ρ0 h0 ρ' hk')
 (effs':∀l e,es[l]?=some e->(On listed e∨e=i↔l<k')) (kle':k'<=es.length)
 (al':∀j v b o p,F.get j=some (.alloc v b o p)->¬On listed j->j≠i->ρ' b=none∧(p<=k'->hk'.t.get b=some o∧b<hk'.next)):
 Inv ops N es F h0 ρ0 w0 a0 (listed.setIfInBounds i true) k' hk' ρ' (a.put o.dst V) w':=by
 have hi:i<listed.size:=by rw[hI.lsize];exact(Array.getElem?_eq_some_iff.1 hn.op).1
 have hon:=fun j=>on_set (j:=j) hi
 refine⟨by simp[hI.lsize],fun j oj hj hS e he hb=>?_,fun l e hl=>by rw[hon];exact effs' l e hl,kle',nx',fresh',kp',fun j v b o p hj hno=>?_,fun t=>?_,?_,?_⟩
 ·rw[hon]at hS⊢
  exact hn.down hI.down j oj hj hS e he hb
 ·have:¬(On listed j∨j=i):=fun hh=>hno ((hon j).2 hh)
  exact al' j v b o p hj (fun hh=>this (.inl hh)) (fun hh=>this (.inr hh))
 ·by_cases ht:o.dst=some t
  ·left
   unfold dstOk at hd
   rw[ht]at hd
   simp only[]at hd
   split at hd
   ·rename_i rr hlook
    have htN:=Nat.le_of_ble_eq_true hd
    unfold lookOf at hlook
    obtain⟨c1,_⟩:=lookGo_sound hlook writersFrom_sorted (by simp)
    refine⟨i,r,o,hn.op,ht,(hon i).2 (.inr rfl),hr,fun j' o' hj' hd' hon'=>?_,by omega,?_⟩
    ·rcases(hon j').1 hon' with hj1|rfl
     ·have hm:j'∈writersFrom t ops.toList 0:=writersFrom_mem.2 ⟨Nat.zero_le _,o',by simpa using hj',hd'⟩
      rcases c1 j' hm with rfl|hb|hb
      ·exact Nat.le_refl _
      ·exact Nat.le_of_lt (bef_sound hok hb).1
      ·rw[hn.not_bef hI.down hok hj1]at hb;simp at hb
     ·exact Nat.le_refl _
    ·have:(a.put o.dst V).tmps.getD t undef=V:=by
      rw[ht]
      have hlt:t<a.tmps.size:=by rw[hI.tsize];omega
      simp[Act.put,hlt]
     rw[this];exact hV
   ·simp at hd
  ·rw[put_getD_ne ht]
   rcases hI.slots t with⟨j,r',oj,s1,s2,s3,s4,s5,s6,s7⟩|⟨s1,s2⟩
   ·refine .inl ⟨j,r',oj,s1,s2,(hon j).2 (.inl s3),s4,fun j' o' hj' hd' hon'=>?_,s6,VR.mono hle _ _ s7⟩
    rcases(hon j').1 hon' with hj1|rfl
    ·exact s5 j' o' hj' hd' hj1
    ·rw[hn.op]at hj';simp at hj';subst hj';exact absurd hd' ht
   ·refine .inr ⟨fun j oj hj hd' hon'=>?_,s2⟩
    rcases(hon j).1 hon' with hj1|rfl
    ·exact s1 j oj hj hd' hj1
    ·rw[hn.op]at hj;simp at hj;subst hj;exact absurd hd' ht
 ·cases o.dst<;>simp[Act.put,hI.tsize]
 ·cases o.dst<;>simp[Act.put,hI.defers]
theorem cCall_inv{o:Oper}{c:COp}(h:cCall o=some c):(∃f as,c=.cv f as)∨∃r n as,c=.ci r n as:=by
 unfold cCall at h
 split at h
 ·split at h
  ·simp at h;subst h;exact .inl ⟨_,_,rfl⟩
  ·simp at h
 ·split at h
  ·simp at h;subst h;exact .inr ⟨_,_,_,rfl⟩
  ·simp at h
 ·simp at h
theorem cOp_p{P:Program}{o:Oper}{x:POp}(h:cOp P o=some (.p x)):cP P o=some x:=by
 unfold cOp at h
 repeat' split at h
 all_goals first
  |(simp at h;subst h;assumption)
  |(simp at h;done)
  |(rename_i hc;simp at h;subst h;rcases cCall_inv hc with⟨f,as,e⟩|⟨r,n,as,e⟩<;>simp at e)
theorem cOp_r{P:Program}{o:Oper}{x:ROp}(h:cOp P o=some (.r x)):cR P o=some x:=by
 unfold cOp at h
 repeat' split at h
 all_goals first
  |(simp at h;subst h;assumption)
  |(simp at h;done)
  |(rename_i hc;simp at h;subst h;rcases cCall_inv hc with⟨f,as,e⟩|⟨r,n,as,e⟩<;>simp at e)
theorem cOp_l{P:Program}{o:Oper}{x:LOp}(h:cOp P o=some (.l x)):cL P o=some x:=by
 unfold cOp at h
 repeat' split at h
 all_goals first
  |(simp at h;subst h;assumption)
  |(simp at h;done)
  |(rename_i hc;simp at h;subst h;rcases cCall_inv hc with⟨f,as,e⟩|⟨r,n,as,e⟩<;>simp at e)
theorem cOp_s{P:Program}{o:Oper}{x:SOp}(h:cOp P o=some (.s x)):cS P o=some x:=by
 unfold cOp at h
 repeat' split at h
 all_goals first
  |(simp at h;subst h;assumption)
  |(simp at h;done)
  |(rename_i hc;simp at h;subst h;rcases cCall_inv hc with⟨f,as,e⟩|⟨r,n,as,e⟩<;>simp at e)
theorem cOp_n{P:Program}{o:Oper}{x:NOp}(h:cOp P o=some (.n x)):cN P o=some x:=by
 unfold cOp at h
 repeat' split at h
 all_goals first
  |(simp at h;subst h;assumption)
  |(simp at h;done)
  |(rename_i hc;simp at h;subst h;rcases cCall_inv hc with⟨f,as,e⟩|⟨r,n,as,e⟩<;>simp at e)
theorem localTm_dst{ops':List Oper}{m:T Nat}{tm0 tm:T AV}{i:Nat}{o:Oper}(h:localTm ops' m N tm0 F i o=some tm):dstOk ops' m N i o.dst=true:=by
 unfold localTm at h
 split at h
 ·assumption
 ·simp at h
theorem stepQ{P:Program}{Q:Exit->Act->World->Prop}{K:Act->World->Prop}(hI:Inv ops N es F h0 ρ0 w0 a0 listed k hk ρ a w)(hok:edgesOk ops.toList 0=true){tm0:T AV}(ht0:TR ρ0 tm0 a0.tmps)(hN0:a0.tmps.size=N){i:Nat}{o:Oper}(hn:Next ops listed i o)
 {ph:Nat} {h h':H} {r:Rec} (hq:opQ P ops.toList (preds ops.toList) N tm0 ph F h i o=some (r,h')) (hr:F.get i=some r) (hes:∀l:Nat,es[l]?≠some i)
 (hread:∀v,r=.read v->∀tm,localTm ops.toList (preds ops.toList) N tm0 F i o=some tm->readAt P tm hk o=some v)
 (halloc:∀v b ao p,r=.alloc v b ao p->p<=k∧h0.next<=b∧∀j v' ao' p',F.get j=some (.alloc v' b ao' p')->j=i)
 (hK:∀ρ' a' w',Inv ops N es F h0 ρ0 w0 a0 (listed.setIfInBounds i true) k hk ρ' a' w'->K a' w'):wpOp P ops Q i K a w:=by
 have hee:∀l e,es[l]?=some e->(On listed e∨e=i↔l<k):=by
  intro l e hl
  rw[←hI.effs l e hl]
  constructor
  ·rintro (h|rfl)
   ·exact h
   ·exact absurd hl (hes l)
  ·exact .inl
 unfold opQ at hq
 split at hq
 ·rename_i tm htm
  have hT:=localTm_sound hI hok ht0 hN0 hn htm
  have hd:=localTm_dst htm
  have still:∀V,VR ρ r.val V->Inv ops N es F h0 ρ0 w0 a0 (listed.setIfInBounds i true) k hk ρ (a.put o.dst V) w:=fun V hV=>
   hI.next hok hn hr hd hV (Le.refl _) hI.nx hI.fresh hI.kp hee hI.kle (fun j v b o p hj hno _=>hI.al j v b o p hj hno)
  unfold wpOp
  simp only[hn.op]
  split at hq
  ·rename_i hw
   rw[wantA_sound hw hT,if_neg (by simp)]
   simp at hq;obtain⟨rfl,rfl⟩:=hq
   exact hK _ _ _ (still undef (by simp only[Rec.val,VR];exact⟨[],rfl,rfl⟩))
  ·rename_i hw
   rw[wantA_sound hw hT,if_pos rfl]
   left
   have fin:∀{v:AV} {V:Value},r.val=v->VR ρ v V->(execOp a.eval o).run P w=.ok (.value V) w->o.wp P a w K Q:=by
        intro v V hv hV hrun
        unfold Oper.wp
        rw[hrun]
        exact hK _ _ _ (still V (by rw[hv];exact hV))
   split at hq
   ·rename_i x hc
    split at hq
    ·rename_i v hv
     simp at hq;obtain⟨rfl,rfl⟩:=hq
     obtain⟨V,k1,k2⟩:=evP_sound (cOp_p hc) hv hT
     exact fin rfl k1 (k2 w)
    ·simp at hq
   ·rename_i x hc
    split at hq
    ·rename_i v hv
     simp at hq;obtain⟨rfl,rfl⟩:=hq
     have:=hread v rfl tm htm
     unfold readAt at this
     rw[hc]at this
     obtain⟨V,k1,k2⟩:=evR_sound (cOp_r hc) this hT hI.nx.rel
     exact fin rfl k1 k2
    ·simp at hq
   ·rename_i x hc
    split at hq
    ·rename_i v hv
     simp at hq;obtain⟨rfl,rfl⟩:=hq
     have:=hread v rfl tm htm
     unfold readAt at this
     rw[hc]at this
     obtain⟨V,k1,k2⟩:=evL_sound (cOp_l hc) this hT hI.nx.rel
     exact fin rfl k1 k2
    ·simp at hq
   ·rename_i x hc
    split at hq
    ·rename_i v hv
     simp at hq;obtain⟨rfl,rfl⟩:=hq
     have:=hread v rfl tm htm
     unfold readAt at this
     rw[hc]at this
     obtain⟨V,k1,k2⟩:=evS_sound (cOp_s hc) this hT hI.nx.rel
     exact fin rfl k1 k2
    ·simp at hq
   ·rename_i x hc
    split at hq
    ·rename_i ao f hv
     simp at hq;obtain⟨rfl,rfl⟩:=hq
     obtain⟨m1,m2,m3⟩:=halloc _ _ _ _ rfl
     obtain⟨hρ,hk2⟩:=hI.al i _ _ _ _ hr hn.new
     obtain⟨hget,hlt⟩:=hk2 m1
     obtain⟨hl,obj,room,k1,k2⟩:=evN_sound (cOp_n hc) hv hT
     obtain⟨V,j1,j2⟩:=k1 w
     have hnx:=nx_new (g':=hk.t.get) hI.nx.rel (a:=h.next) (l:=⟨w.heap.size,0,room⟩) (o:=ao) (obj:=obj) hρ rfl (fun b=>by
      by_cases e:b=h.next
      ·rw[if_pos e,e];exact hget
      ·rw[if_neg e]) (k2 _ _ _ (upd_le' hρ) (by show(w.heap.push _)[w.heap.size]?=_;simp))
     unfold Oper.wp
     rw[j1]
     refine hK (upd ρ h.next ⟨w.heap.size,0,room⟩) _ _ (hI.next hok hn hr hd (V:=V) (j2 _ _ (upd_same hρ)) (upd_le' hρ) (hI.nx.trans hnx) (fun c hc=>?_) ⟨hI.kp.1,fun c hc e=>?_⟩ hee hI.kle (fun j v b o p hj hno hji=>?_))
     ·rw[upd_other (by omega)];exact hI.fresh c hc
     ·obtain⟨e1,e2⟩:=hI.kp.2 c hc e
      exact⟨by rw[upd_other (by omega)];exact e1,e2⟩
     ·have hne:b≠h.next:=by
             rintro rfl
             exact hji (m3 j _ _ _ hj)
      obtain⟨e1,e2⟩:=hI.al j v b o p hj hno
      exact⟨by rw[upd_other hne];exact e1,e2⟩
    ·simp at hq
   ·simp at hq
  ·simp at hq
 ·simp at hq
theorem HR.ext{ρ:Rho}{g g':Nat->Option AO}{w:World}{n:Nat}(h:HR ρ g w)(hf:Fresh ρ n)(hold:∀b,b<n->g' b=g b):HR ρ g' w:=by
 have key:∀a l o,g' a=some o->ρ a=some l->g a=some o:=by
  intro a l o ho hl
  rcases Nat.lt_or_ge a n with hlt|hge
  ·rw[←hold a hlt];exact ho
  ·rw[hf a hge]at hl;simp at hl
 exact⟨fun a o l ho hv hl=>h.obj a o l (key a l o ho hl) hv hl,fun a b o p l m ha ho hb hp hl hm=>h.inj a b o p l m (key a l o ha hl) ho (key b m p hb hm) hp hl hm⟩
theorem Nx.ext{ρ ρ':Rho}{g g1 g':Nat->Option AO}{w w':World}{n:Nat}(h:Nx ρ g w ρ' g1 w')(hf:Fresh ρ' n)(hold:∀b,b<n->g' b=g1 b):Nx ρ g w ρ' g' w':=by
 refine⟨h.rel.ext hf hold,h.le,h.env,h.size,h.frame,fun a o l ha ho hl hlt=>?_⟩
 refine h.back a o l ?_ ho hl hlt
 rcases Nat.lt_or_ge a n with hl1|hge
 ·rw[←hold a hl1];exact ha
 ·rw[hf a hge]at hl;simp at hl
theorem stepF{P:Program}{call:CallE}(hcall:CallOK false P call){Q:Exit->Act->World->Prop}{K:Act->World->Prop}(hI:Inv ops N es F h0 ρ0 w0 a0 listed k hk ρ a w)(hok:edgesOk ops.toList 0=true){tm0:T AV}(ht0:TR ρ0 tm0 a0.tmps)(hN0:a0.tmps.size=N){i:Nat}{o:Oper}(hn:Next ops listed i o)
 (hki:es[k]?=some i) (huniq:∀l:Nat,es[l]?=some i->l=k) {v:AV} {h2 hk':H} (hr:F.get i=some (.eff v)) (hq:opF P call ops.toList (preds ops.toList) N tm0 F hk i o=some (v,h2))
 (hph:PhF P ops.toList (preds ops.toList) N tm0 (k+1) F h2 hk') (hlow:LowP F (k+1) h2)
 (hK:∀ρ' a' w',Inv ops N es F h0 ρ0 w0 a0 (listed.setIfInBounds i true) (k+1) hk' ρ' a' w'->K a' w'):wpOp P ops Q i K a w:=by
 have hlt:k<es.length:=(List.getElem?_eq_some_iff.1 hki).1
 have hee:∀l e,es[l]?=some e->(On listed e∨e=i↔l<k+1):=by
  intro l e hl
  rw[hI.effs l e hl]
  constructor
  ·rintro (h|rfl)
   ·omega
   ·have:=huniq l hl;omega
  ·intro h
   rcases Nat.lt_or_ge l k with h1|h1
   ·exact .inl h1
   ·have:l=k:=by omega
    subst this
    rw[hki]at hl;simp at hl
    exact .inr hl.symm
 unfold opF at hq
 split at hq
 ·rename_i tm htm
  have hT:=localTm_sound hI hok ht0 hN0 hn htm
  have hd:=localTm_dst htm
  have fin:∀ρ' w' V,VR ρ' v V->Way ρ hk w ρ' h2 w'->K (a.put o.dst V) w':=by
   intro ρ' w' V hV hw
   have hnx:=(hI.nx.trans hw.nx).ext hw.fresh hph.old
   refine hK _ _ _ (hI.next hok hn hr hd hV hw.nx.le hnx (fun c hc=>hw.fresh c (Nat.le_trans hph.next hc)) ?_ hee hlt ?_)
   ·refine⟨Nat.le_trans (hI.kp.trans hw.kp).1 hph.next,fun c hc e=>?_⟩
    obtain⟨e1,e2⟩:=(hI.kp.trans hw.kp).2 c hc e
    exact⟨e1,by rw[hph.old c (Nat.lt_of_lt_of_le hc (hI.kp.trans hw.kp).1)];exact e2⟩
   ·intro j v' b oj p hj hno hji
    obtain⟨e1,e2⟩:=hI.al j v' b oj p hj hno
    rcases Nat.lt_or_ge k p with hp|hp
    ·have hb:=hlow j v' b oj p hj hp
     refine⟨hw.fresh b hb,fun hp'=>?_⟩
     have:p=k+1:=by omega
     subst this
     obtain⟨_,q2,q3⟩:=hph.at_ j v' b oj hj
     exact⟨q3,q2⟩
    ·obtain⟨q1,q2⟩:=e2 hp
     obtain⟨r1,r2⟩:=hw.kp.2 b q2 e1
     have hb2:b<h2.next:=Nat.lt_of_lt_of_le q2 hw.kp.1
     exact⟨r1,fun _=>⟨by rw[hph.old b hb2,r2];exact q1,Nat.lt_of_lt_of_le hb2 hph.next⟩⟩
  unfold wpOp
  simp only[hn.op]
  split at hq
  ·rename_i hw
   rw[wantA_sound hw hT,if_neg (by simp)]
   simp at hq;obtain⟨rfl,rfl⟩:=hq
   exact fin ρ w undef (by simp only[VR];exact⟨[],rfl,rfl⟩) (Way.refl hI.nx.rel hI.fresh)
  ·rename_i hw
   rw[wantA_sound hw hT,if_pos rfl]
   split at hq
   ·rename_i c hc
    exact .inl ((evOp_sound hcall hc hq hT hI.nx.rel hI.fresh).wp fin)
   ·simp at hq
  ·simp at hq
 ·simp at hq
end
end
end Go.Proofs.YtghmnaojmpjglaaGreatDoor.Eo
namespace Go.Proofs.YtghmnaojmpjglaaGreatDoor.Eo
noncomputable section
theorem certAt{P:Program}{call:CallE}{ops:List Oper}{m:T Nat}{N n:Nat}{tm0:T AV}{F:T Rec}{es:List Nat}:∀{es':List Nat} {k0:Nat} {h:H} {hs:List H},CertP P call ops m N tm0 F k0 (phasesOf m es n k0 es') h hs->
 hs.length=es'.length+1∧(∃hk,hs[0]?=some hk∧PhF P ops m N tm0 k0 F h hk∧LowP F k0 h)∧
 ∀l e,es'[l]?=some e->∃hk v h2 hk' o,hs[l]?=some hk∧ops[e]?=some o∧F.get e=some (.eff v)∧opF P call ops m N tm0 F hk e o=some (v,h2)∧hs[l+1]?=some hk'∧
  PhF P ops m N tm0 (k0+l+1) F h2 hk'∧LowP F (k0+l+1) h2
 | [],k0,h,hs,hc=>by
   simp only[phasesOf,CertP]at hc
   obtain⟨c0,h1,rfl,c2⟩:=hc
   exact⟨rfl,⟨h1,rfl,c2,c0⟩,fun l e he=>by simp at he⟩
 |x::es',k0,h,hs,hc=>by
  simp only[phasesOf,CertP]at hc
  obtain⟨c0,h1,hs',v,h2,o,rfl,c2,c3,c4,c5,c6,c7⟩:=hc
  obtain⟨i1,⟨hk',i2,i3,i4⟩,i5⟩:=certAt c7
  refine⟨by simp[i1],⟨h1,rfl,c2,c0⟩,fun l e he=>?_⟩
  cases l with
  |zero=>
   simp at he;subst he
   exact⟨h1,v,h2,hk',o,rfl,c3,c4,c5,by simpa using i2,i3,i4⟩
  |succ l=>
   simp at he
   obtain⟨hk,v',h3,hk2,o',j1,j2,j3,j4,j5,j6,j7⟩:=i5 l e he
   exact⟨hk,v',h3,hk2,o',by simpa using j1,j2,j3,j4,by simpa using j5,by rw[show k0+(l+1)+1=k0+1+l+1 by omega];exact j6,by rw[show k0+(l+1)+1=k0+1+l+1 by omega];exact j7⟩
theorem lastH_at:∀{hs:List H} {h:H} {n:Nat},lastH hs=some h->hs.length=n+1->hs[n]?=some h
 | [],h,n,e,hl=>by simp[lastH]at e
 | [x],h,n,e,hl=>by
   simp[lastH]at e;subst e
   simp at hl;subst hl;rfl
 |x::y::hs,h,n,e,hl=>by
  cases n with
  |zero=>simp at hl
  |succ n=>
   simp only[lastH]at e
   simpa using lastH_at (hs:=y::hs) e (by simpa using hl)
theorem chkRead_sound{P:Program}{m:T Nat}{es:List Nat}{tm:T AV}{o:Oper}{i:Nat}{v:AV}:∀{hs:List H} {k0:Nat},chkRead P m es tm o i v k0 hs=true->∀l h,hs[l]?=some h->mayAt m i es (k0+l)=true->readAt P tm h o=some v
 | [],k0,_,l,h,hl,_=>by simp at hl
 |x::hs,k0,hc,l,h,hl,hm=>by
  simp only[chkRead,Bool.and_eq_true]at hc
  cases l with
  |zero=>
   simp at hl;subst hl
   rw[Nat.add_zero]at hm
   have h1:=hc.1
   rw[hm]at h1
   simp only[]at h1
   split at h1
   ·rename_i u hu
    rw[hu,eqAV_sound 20 u v h1]
   ·simp at h1
  |succ l=>
   simp at hl
   exact chkRead_sound hc.2 l h hl (by rw[show k0+1+l=k0+(l+1) by omega];exact hm)
theorem chkOps_sound{P:Program}{ops:List Oper}{m:T Nat}{N:Nat}{es:List Nat}{tm0:T AV}{F:T Rec}{hs:List H}:∀{l:List Oper} {i0:Nat},chkOps P ops m N es tm0 F hs l i0=true->∀j o,l[j]?=some o->∃r,F.get (i0+j)=some r∧
 (∀v,r=.read v->∃tm,localTm ops m N tm0 F (i0+j) o=some tm∧chkRead P m es tm o (i0+j) v 0 hs=true)∧
 (∀v a ao q,r=.alloc v a ao (q+1)->∃e,es[q]?=some e∧bef m (i0+j) e=true)∧
 (∀v,r=.eff v->es.contains (i0+j)=true)
 | [],i0,_,j,o,h=>by simp at h
 |x::l,i0,hc,j,o,h=>by
  simp only[chkOps,Bool.and_eq_true]at hc
  cases j with
  |zero=>
   simp at h;subst h
   rw[Nat.add_zero]
   have h1:=hc.1
   split at h1
   ·rename_i v hv
    refine⟨_,hv,fun v' e=>?_,by simp,by simp⟩
    simp at e;subst e
    split at h1
    ·rename_i tm htm;exact⟨tm,htm,h1⟩
    ·simp at h1
   ·rename_i hv;exact⟨_,hv,by simp,by simp,by simp⟩
   ·rename_i v a ao q hv
    refine⟨_,hv,by simp,fun v' a' ao' q' e=>?_,by simp⟩
    simp at e;obtain⟨_,_,_,rfl⟩:=e
    split at h1
    ·rename_i e' he;exact⟨e',he,h1⟩
    ·simp at h1
   ·rename_i v hv;exact⟨_,hv,by simp,by simp,fun _ _=>h1⟩
   ·rename_i v hv;exact⟨_,hv,by simp,by simp,by simp⟩
   ·simp at h1
  |succ j=>
   simp at h
   have:=chkOps_sound hc.2 j o h
   rw[show i0+1+j=i0+(j+1) by omega]at this
   exact this
theorem mayAt_ok{m:T Nat}{i:Nat}:∀{es:List Nat} {k:Nat},(∀(l e:Nat),es[l]?=some e->l<k->bef m e i=false)->(∀(l e:Nat),es[l]?=some e->k<=l->bef m i e=false)->mayAt m i es k=true
 | [],k,_,_=>by simp[mayAt]
 |e::es,0,h1,h2=>by
  simp only[mayAt,Bool.and_eq_true,Bool.not_eq_true']
  exact⟨h2 0 e rfl (Nat.le_refl _),mayAt_ok (fun l e' he hl=>by omega) (fun l e' he _=>h2 (l+1) e' (by simpa using he) (by omega))⟩
 |e::es,k+1,h1,h2=>by
  simp only[mayAt,Bool.and_eq_true,Bool.not_eq_true']
  exact⟨h1 0 e rfl (by omega),mayAt_ok (fun l e' he hl=>h1 (l+1) e' (by simpa using he) (by omega)) (fun l e' he hl=>h2 (l+1) e' (by simpa using he) (by omega))⟩
theorem chain_spec{m:T Nat}:∀{es:List Nat},chainOk m es=true->∀(k l e f:Nat),es[k]?=some e->es[l]?=some f->k<l->bef m f e=true
 | [],_,k,l,e,f,h,_,_=>by simp at h
 |x::es,hc,k,l,e,f,he,hf,hlt=>by
  simp only[chainOk,Bool.and_eq_true,List.all_eq_true]at hc
  cases l with
  |zero=>omega
  |succ l=>
   simp at hf
   cases k with
   |zero=>
    simp at he;subst he
    exact hc.1 f (List.mem_of_getElem? hf)
   |succ k=>
    simp at he
    exact chain_spec hc.2 k l e f he hf (by omega)
theorem stepAny{P:Program}{call:CallE}(hcall:CallOK false P call){ops:Array Oper}{N:Nat}{es:List Nat}{F:T Rec}{h0:H}{ρ0:Rho}{w0:World}{a0:Act}{listed:Array Bool}{k:Nat}{hk:H}{ρ:Rho}{a:Act}{w:World}{tm0:T AV}{hs:List H}
 (hok:edgesOk ops.toList 0=true) (hch:chainOk (preds ops.toList) es=true) {n:Nat} (hdr:drE P call ops.toList (preds ops.toList) N tm0 0 (phasesOf (preds ops.toList) es n 0 es) .e h0=some (F,hs))
 (hchk:chkOps P ops.toList (preds ops.toList) N es tm0 F hs ops.toList 0=true) (ht0:TR ρ0 tm0 a0.tmps) (hN0:a0.tmps.size=N)
 (hI:Inv ops N es F h0 ρ0 w0 a0 listed k hk ρ a w) (hhk:hs[k]?=some hk) {i:Nat} {o:Oper} (hn:Next ops listed i o) {Q:Exit->Act->World->Prop} {K:Act->World->Prop}
 (hK:∀k' hk' ρ' a' w',hs[k']?=some hk'->Inv ops N es F h0 ρ0 w0 a0 (listed.setIfInBounds i true) k' hk' ρ' a' w'->K a' w'):wpOp P ops Q i K a w:=by
 obtain⟨r,hr,c1,c2,c3⟩:=chkOps_sound hchk i o (by simpa using hn.op)
 rw[Nat.zero_add]at hr c1 c2 c3
 obtain⟨d1,d2,d3,d4,d5⟩:=drE_sound hdr (by intro i v a ao p h;simp[T.get_e]at h)
 obtain⟨e1,e2,e3⟩:=certAt d2
 have before:∀(l e:Nat),es[l]?=some e->bef (preds ops.toList) i e=true->l<k:=fun l e hl hb=>(hI.effs l e hl).1 (hn.bef_on hI.down hok hb)
 rcases d3 i r hr with hh|⟨v,rfl⟩|⟨o',ph,hh,hh',ho',hq⟩
 ·simp[T.get_e]at hh
 ·have hmem:=c3 v rfl
  have:i∈es:=by simpa using hmem
  obtain⟨l,hl⟩:=List.getElem?_of_mem this
  have hnl:¬l<k:=fun h=>hn.new ((hI.effs l i hl).2 h)
  have hlk:l=k:=by
   rcases Nat.lt_or_ge k l with h|h
   ·obtain⟨f,hf⟩:∃f,es[k]?=some f:=⟨es[k]'(Nat.lt_trans h (List.getElem?_eq_some_iff.1 hl).1),by simp⟩
    have:=before k f hf (chain_spec hch k l f i hf hl h)
    omega
   ·omega
  subst hlk
  obtain⟨hk1,v',h2,hk',o'',f1,f2,f3,f4,f5,f6,f7⟩:=e3 l i hl
  rw[hhk]at f1;simp at f1;subst f1
  have:o''=o:=by
   have:=hn.op
   have f2':ops[i]?=some o'':=by simpa using f2
   rw[f2']at this;simpa using this
  subst this
  rw[hr]at f3;simp at f3;subst f3
  rw[Nat.zero_add]at f6 f7
  refine stepF hcall hI hok ht0 hN0 hn hl (fun l' hl'=>?_) hr f4 f6 f7 (fun ρ' a' w' hI'=>hK _ _ _ _ _ f5 hI')
  rcases Nat.lt_trichotomy l' l with h|h|h
  ·have:=(bef_sound hok (chain_spec hch l' l i i hl' hl h)).1;omega
  ·exact h
  ·have:=(bef_sound hok (chain_spec hch l l' i i hl hl' h)).1;omega
 ·have:o'=o:=by
   have:=hn.op
   have f2':ops[i]?=some o':=by simpa using ho'
   rw[f2']at this;simpa using this
  subst this
  have hne:=(opQ_heap hq).1
  have hes:∀l:Nat,es[l]?≠some i:=by
   intro l hl
   obtain⟨_,v',_,_,_,_,_,f3,_⟩:=e3 l i hl
   rw[hr]at f3;simp at f3
   exact hne v' f3
  refine stepQ hI hok ht0 hN0 hn hq hr hes (fun v hv tm htm=>?_) (fun v b ao p hv=>?_) (fun ρ' a' w' hI'=>hK _ _ _ _ _ hhk hI')
  ·obtain⟨tm',g1,g2⟩:=c1 v hv
   rw[htm]at g1;simp at g1;subst g1
   refine chkRead_sound g2 k hk hhk ?_
   rw[Nat.zero_add]
   exact mayAt_ok (fun l e hl hlt=>hn.not_bef hI.down hok ((hI.effs l e hl).2 hlt)) (fun l e hl hge=>by
        cases hb:bef (preds ops.toList) i e with
        |false=>rfl
        |true=>have:=before l e hl hb;omega)
  ·subst hv
   refine⟨?_,?_,fun j v' ao' p' hj=>?_⟩
   ·cases p with
    |zero=>omega
    |succ q=>
     obtain⟨e,he,hb⟩:=c2 _ _ _ _ rfl
     exact before q e he hb
   ·rcases d4 i _ _ _ _ hr with hh|⟨_,hh⟩
    ·simp[T.get_e]at hh
    ·exact hh
   ·exact d5 j i _ _ _ _ _ _ _ (T.get_e _) hj (T.get_e _) hr
theorem edgesOk_spec:∀{l:List Oper} {i0:Nat},edgesOk l i0=true->∀j o,l[j]?=some o->∀e∈o.after.toList,Region.binds .any e=true->e.on<i0+j
 | [],i0,_,j,o,h=>by simp at h
 |x::l,i0,hc,j,o,h=>by
  rw[edgesOk_cons]at hc
  simp only[Bool.and_eq_true,List.all_eq_true]at hc
  cases j with
  |zero=>
   simp at h;subst h
   intro e he hb
   have:=hc.1 e he
   rw[hb]at this
   simpa using this
  |succ j=>
   simp at h
   intro e he hb
   have:=edgesOk_spec hc.2 j o h e he hb
   omega
theorem all_on{ops:Array Oper}{listed:Array Bool}(hok:edgesOk ops.toList 0=true)(hsz:listed.size=ops.size)(hr:Region.ready .any ops listed=[]):∀i,i<ops.size->On listed i:=by
 intro i
 induction i using Nat.strongRecOn with
 |_ i ih=>
  intro hi
  apply Classical.byContradiction
  intro hno
  have:i∈Region.ready .any ops listed:=by
    rw[mem_ready]
    refine⟨?_,ops[i],by simp[hi],fun e he hb=>?_⟩
    ·have hl:i<listed.size:=by omega
     unfold On at hno
     simp[hl]at hno⊢
     exact hno
    ·have hlt:=edgesOk_spec hok i ops[i] (by simp[hi]) e (by simpa using he) hb
     exact ih e.on (by omega) (by omega)
  rw[hr]at this
  simp at this
theorem finalTm_get{F:T Rec}:∀{l:List Oper} {i0:Nat} {tm:T AV} {t:Nat} {v:AV},(finalTm F l i0 tm).get t=some v->
 (∃j o r,l[j]?=some o∧o.dst=some t∧F.get (i0+j)=some r∧v=r.val∧∀(j':Nat) o',l[j']?=some o'->o'.dst=some t->(∃r',F.get (i0+j')=some r')->j'<=j)∨
 (tm.get t=some v∧∀(j':Nat) o',l[j']?=some o'->o'.dst=some t->F.get (i0+j')=none)
 | [],i0,tm,t,v,h=>.inr ⟨h,fun j' o' h'=>by simp at h'⟩
 |x::l,i0,tm,t,v,h=>by
  rw[finalTm_cons]at h
  have shift:∀j,i0+1+j=i0+(j+1):=fun j=>by omega
  split at h
  ·rename_i d r hd hr
   rcases finalTm_get h with⟨j,o,r',k1,k2,k3,k4,k5⟩|⟨k1,k2⟩
   ·refine .inl ⟨j+1,o,r',by simpa using k1,k2,by rw[←shift];exact k3,k4,fun j' o' h1 h2 h3=>?_⟩
    cases j' with
    |zero=>omega
    |succ j'=>
     rw[←shift]at h3
     have:=k5 j' o' (by simpa using h1) h2 h3
     omega
   ·rw[T.get_set]at k1
    by_cases e:t=d
    ·subst e
     rw[if_pos rfl]at k1;simp at k1
     refine .inl ⟨0,x,r,rfl,hd,hr,k1.symm,fun j' o' h1 h2 h3=>?_⟩
     cases j' with
     |zero=>omega
     |succ j'=>
      obtain⟨r',h3⟩:=h3
      rw[←shift]at h3
      rw[k2 j' o' (by simpa using h1) h2]at h3
      simp at h3
    ·rw[if_neg e]at k1
     refine .inr ⟨k1,fun j' o' h1 h2=>?_⟩
     cases j' with
     |zero=>
      simp at h1;subst h1
      rw[hd]at h2;simp at h2
      exact absurd h2.symm e
     |succ j'=>rw[←shift];exact k2 j' o' (by simpa using h1) h2
  ·rename_i hne
   have h0:x.dst=some t->F.get i0=none:=by
        intro hd
        cases hF:F.get i0 with
        |none=>rfl
        |some r=>exact absurd hF (hne t r hd)
   rcases finalTm_get h with⟨j,o,r',k1,k2,k3,k4,k5⟩|⟨k1,k2⟩
   ·refine .inl ⟨j+1,o,r',by simpa using k1,k2,by rw[←shift];exact k3,k4,fun j' o' h1 h2 h3=>?_⟩
    cases j' with
    |zero=>omega
    |succ j'=>
     rw[←shift]at h3
     have:=k5 j' o' (by simpa using h1) h2 h3
     omega
   ·refine .inr ⟨k1,fun j' o' h1 h2=>?_⟩
    cases j' with
    |zero=>
     simp at h1;subst h1
     simpa using h0 h2
    |succ j'=>rw[←shift];exact k2 j' o' (by simpa using h1) h2
theorem count_lt{p q:Nat->Bool}:∀{l:List Nat} {x:Nat},x∈l->p x=true->q x=false->(∀y,q y=true->p y=true)->l.countP q<l.countP p
 | [],x,h,_,_,_=>by simp at h
 |y::l,x,h,hp,hq,himp=>by
  have hle:l.countP q<=l.countP p:=List.countP_mono_left fun z _ hz=>himp z hz
  rw[List.countP_cons,List.countP_cons]
  rcases List.mem_cons.1 h with rfl|h
  ·rw[hp,hq];simp;omega
  ·have:=count_lt h hp hq himp
   by_cases hy:q y=true
   ·rw[hy,himp y hy];simp;omega
   ·simp only[Bool.not_eq_true]at hy
    rw[hy];simp;split<;>omega
theorem end_tr{ops:Array Oper}{N:Nat}{es:List Nat}{F:T Rec}{h0:H}{ρ0:Rho}{w0:World}{a0:Act}{listed:Array Bool}{k:Nat}{hk:H}{ρ:Rho}{a:Act}{w:World}{tm0:T AV}
 (hI:Inv ops N es F h0 ρ0 w0 a0 listed k hk ρ a w) (ht0:TR ρ0 tm0 a0.tmps) (hN0:a0.tmps.size=N) (hall:∀i,i<ops.size->On listed i) (hF:∀i o,ops[i]?=some o->∃r,F.get i=some r):TR ρ (finalTm F ops.toList 0 tm0) a.tmps:=by
 intro t v hv
 rcases finalTm_get hv with⟨j,o,r,k1,k2,k3,k4,k5⟩|⟨k1,k2⟩
 ·rw[Nat.zero_add]at k3
  have k1':ops[j]?=some o:=by simpa using k1
  have hj:On listed j:=hall j (Array.getElem?_eq_some_iff.1 k1').1
  rcases hI.slots t with⟨j',r',oj,s1,s2,s3,s4,s5,s6,s7⟩|⟨s1,_⟩
  ·have a1:=s5 j o k1' k2 hj
   have a2:=k5 j' oj (by simpa using s1) s2 ⟨r',by rw[Nat.zero_add];exact s4⟩
   have:j'=j:=by omega
   subst this
   rw[k3]at s4;simp at s4;subst s4
   rw[k4]
   exact⟨by rw[hI.tsize];exact s6,s7⟩
  ·exact absurd hj (s1 j o k1' k2)
 ·rcases hI.slots t with⟨j',r',oj,s1,s2,s3,s4,_⟩|⟨_,s2⟩
  ·have:=k2 j' oj (by simpa using s1) s2
   rw[Nat.zero_add,s4]at this;simp at this
  ·obtain⟨z1,z2⟩:=ht0 t v k1
   exact⟨by rw[hI.tsize,←hN0];exact z1,by rw[s2];exact VR.mono hI.nx.le _ _ z2⟩
theorem noDefer_at{ops:Array Oper}(h:noDefer ops.toList=true)(i:Nat)(o:Oper)(hi:ops[i]?=some o)(c:Call):o.op≠.defer c:=by
 intro e
 unfold noDefer at h
 have:=List.all_eq_true.1 h o (by simpa using Array.mem_of_getElem? hi)
 rw[e]at this
 simp at this
theorem wpOps_in{r:Option Nat}{P:Program}{ops:Array Oper}{Q:Exit->Act->World->Prop}(hd:∀(i:Nat) (o:Oper),ops[i]?=some o->∀c:Call,o.op≠Op.defer c)(hL:¬LetsOut Q):∀(l:List Nat) (a:Act) (w:World),wpOps P ops Q l a w->wpOpsIn (Fnc r) 0 P ops Q l a w
 | [],a,w,h=>h
 |i::l,a,w,h=>by
  rw[wpOps_cons]at h
  rw[wpOpsIn_cons]
  unfold wpOp at h
  unfold wpOpIn
  have ih:=wpOps_in (r:=r) (P:=P) hd hL l
  cases hi:ops[i]? with
  |none=>rw[hi]at h;exact ih _ _ h
  |some o=>
   rw[hi]at h
   simp only at h⊢
   split
   ·rename_i hw
    rw[if_pos hw]at h
    rcases h with h|⟨_,h⟩
    ·refine⟨fun _ _=>trivial,?_⟩
     rw[Oper.semAt_eq _ _ _ (hd i o hi)]
     unfold Oper.wp at h
     generalize(execOp a.eval o).run P w=res at h
     cases res with
     |ok nx w'=>
      cases nx with
      |value v=>exact ih _ _ h
      |skip=>exact ih _ _ h
      |defer d=>exact ih _ _ h
      |enter f args=>
       refine⟨fun hh=>by simp[Fnc,Fence.wide]at hh,callsIn_Fnc (Calls.mono h fun e w'' hh=>?_)⟩
       cases e with
       |returned v=>exact ih _ _ hh
       |panicked chain=>exact hh
       |outgrown=>exact hh
      |row row args=>
       refine⟨fun hh=>by simp[Fnc,Fence.wide]at hh,fun c cs _=>?_⟩
       obtain⟨v,w2,k1,k2⟩:=h c cs
       exact⟨v,w2,ih _ _ k1,stepsIn_wide.2 k2⟩
      |_=>exact h.elim
     |halt x w'=>
      cases x with
      |panic v=>exact h
      |_=>exact h.elim
    ·exact absurd h hL
   ·rename_i hw
    rw[if_neg hw]at h
    exact⟨fun _ _=>trivial,ih _ _ h⟩
theorem drawE_ok{P:Program}(hm:P.follows .mixedOrders=true):DrawOK P (drawE P):=by
 intro call hcall id ops N tm h tm' h' he r B ρ0 a0 w0 hs0
 unfold drawE at he
 split at he
 ·rename_i hcond
  simp only[Bool.and_eq_true]at hcond
  obtain⟨⟨hok,hch⟩,hnd⟩:=hcond
  split at he
  ·rename_i F hs hdr
   split at he
   ·rename_i hchk
    split at he
    ·rename_i hl hlast
     simp at he;obtain⟨rfl,rfl⟩:=he
     obtain⟨d1,d2,d3,d4,d5⟩:=drE_sound hdr (by intro i v a ao p h;simp[T.get_e]at h)
     obtain⟨e1,⟨hk0,e2,e2',e2''⟩,e3⟩:=certAt d2
     have hF:∀i o,ops[i]?=some o->∃r,F.get i=some r:=fun i o ho=>by
      obtain⟨r,hr,_⟩:=chkOps_sound hchk i o (by simpa using ho)
      rw[Nat.zero_add]at hr
      exact⟨r,hr⟩
     have main:∀fuel listed k hk ρ a w,Inv ops N (effsFrom P ops.toList 0) F h ρ0 w0 a0 listed k hk ρ a w->hs[k]?=some hk->(List.range ops.size).countP (fun i=>!listed.getD i false)<=fuel->
      wpAny P .any ops (fun e a' w'=>e=Ex.normal.out∧∃ρ',St B N ρ' (finalTm F ops.toList 0 tm) hl a' w'∧Way ρ0 h w0 ρ' hl w') fuel listed a w:=by
      have done:∀listed k hk ρ a w,Inv ops N (effsFrom P ops.toList 0) F h ρ0 w0 a0 listed k hk ρ a w->hs[k]?=some hk->(∀i,i<ops.size->On listed i)->
       Ex.normal.out=Ex.normal.out∧∃ρ',St B N ρ' (finalTm F ops.toList 0 tm) hl a w∧Way ρ0 h w0 ρ' hl w:=by
       intro listed k hk ρ a w hI hhk hall
       have hkl:k=(effsFrom P ops.toList 0).length:=by
        rcases Nat.lt_or_ge k (effsFrom P ops.toList 0).length with hlt|hge
        ·have hx:(effsFrom P ops.toList 0)[k]?=some ((effsFrom P ops.toList 0)[k]):=by simp[hlt]
         obtain⟨_,_,_,_,o,_,f2,_⟩:=e3 k _ hx
         have:=(hI.effs k _ hx).1 (hall _ (by have:=(List.getElem?_eq_some_iff.1 f2).1;simpa using this))
         omega
        ·have:=hI.kle;omega
       have:hl=hk:=by
        have:=lastH_at hlast e1
        rw[←hkl,hhk]at this
        simpa using this.symm
       subst this
       exact⟨rfl,ρ,⟨end_tr hI hs0.tr hs0.size hall hF,hI.nx.rel,hI.fresh,hI.tsize,by rw[hI.defers];exact hs0.defers.nx hs0.hr hI.nx,Nat.le_trans hs0.base hI.nx.size⟩,hI.nx,hI.fresh,hI.kp⟩
      intro fuel
      induction fuel with
      |zero=>
       intro listed k hk ρ a w hI hhk hc
       have hall:∀i,i<ops.size->On listed i:=by
        intro i hi
        have h0:(List.range ops.size).countP (fun i=>!listed.getD i false)=0:=by omega
        have:=List.countP_eq_zero.1 h0 i (by simpa using hi)
        unfold On
        cases hh:listed.getD i false with
        |true=>rfl
        |false=>rw[hh]at this;simp at this
       refine⟨?_,done _ _ _ _ _ _ hI hhk hall⟩
       cases hr:Region.ready .any ops listed with
       |nil=>rfl
       |cons x xs=>
        have hx:x∈Region.ready .any ops listed:=by rw[hr];simp
        obtain⟨q1,o,q2,_⟩:=mem_ready.1 hx
        have:=hall x (Array.getElem?_eq_some_iff.1 q2).1
        unfold On at this
        have hlt:x<listed.size:=by rw[hI.lsize];exact(Array.getElem?_eq_some_iff.1 q2).1
        simp[hlt]at q1 this
        rw[q1]at this;simp at this
      |succ fuel ih=>
       intro listed k hk ρ a w hI hhk hc
       refine⟨fun hr=>done _ _ _ _ _ _ hI hhk (all_on hok hI.lsize hr),fun i hi=>?_⟩
       obtain⟨q1,o,q2,q3⟩:=mem_ready.1 hi
       have hlt:i<listed.size:=by rw[hI.lsize];exact(Array.getElem?_eq_some_iff.1 q2).1
       have hno:listed.getD i false=false:=by simp[hlt]at q1⊢;exact q1
       refine stepAny (plainCall_ok hcall) hok hch hdr hchk hs0.tr hs0.size hI hhk ⟨q2,by unfold On;rw[hno];simp,fun e he hb=>q3 e (by simpa using he) hb⟩ fun k' hk' ρ' a' w' hhk' hI'=>ih _ _ _ _ _ _ hI' hhk' ?_
       have:=count_lt (l:=List.range ops.size) (x:=i) (p:=fun i=>!listed.getD i false) (q:=fun j=>!(listed.setIfInBounds i true).getD j false) (by simpa using(Array.getElem?_eq_some_iff.1 q2).1) (by simp only[hno,Bool.not_false]) (by
        have:On (listed.setIfInBounds i true) i:=(on_set hlt).2 (.inr rfl)
        unfold On at this;rw[this];rfl) (fun y hy=>by
        cases hh:listed.getD y false with
        |false=>rfl
        |true=>
         have:On (listed.setIfInBounds i true) y:=(on_set hlt).2 (.inl hh)
         unfold On at this;rw[this]at hy;simp at hy)
       omega
     refine wpIn_region_draw fun t=>?_
     simp only[Region.schedule,hm,Bool.true_or,if_true]
     refine wpOps_in (noDefer_at hnd) (by rintro ⟨_,_,hh,_⟩;simp[Ex.out]at hh) _ _ _ (wpAny_sound ops.size t _ a0 _ (main ops.size (Array.replicate ops.size false) 0 hk0 ρ0 a0 _ ?_ e2 (Nat.le_trans List.countP_le_length (by simp))))
     have hno:∀i,¬On (Array.replicate ops.size false) i:=fun i=>by
      unfold On
      rw[Array.getD_eq_getD_getElem?,Array.getElem?_replicate]
      split<;>simp
     have hd:=Nx.drew (w':={w0 with drawn:=w0.drawn+1}) hs0.hr rfl ⟨rfl,rfl,rfl⟩
     refine⟨by simp,fun i o _ hi=>absurd hi (hno i),fun l e hl=>⟨fun hh=>absurd hh (hno e),fun hh=>by omega⟩,Nat.zero_le _,hd.ext hs0.fresh e2'.old,fun c hc=>hs0.fresh c (Nat.le_trans e2'.next hc),⟨e2'.next,fun c hc e=>⟨e,e2'.old c hc⟩⟩,fun i v b o p hi _=>?_,fun t=>.inr ⟨fun j o _ _=>hno j,rfl⟩,hs0.size,rfl⟩
     refine⟨hs0.fresh b (e2'' i v b o p hi (Nat.zero_le _)),fun hp=>?_⟩
     have:p=0:=by omega
     subst this
     obtain⟨q1,q2,q3⟩:=e2'.at_ i v b o hi
     exact⟨q3,q2⟩
    ·simp at he
   ·simp at he
  ·simp at he
 ·simp at he
def KnownX(P:Program)(X:FuncId->Option ATag):Prop:=
 ∀f tag,X f=some tag->∃fn,P.funcs[f]?=some fn∧(fn.name== "runtime.NumGoroutine")=false∧fn.body.isNone=true∧Extern.findNext fn=none∧Extern.find fn=some tag.fn
def KnownS(P:Program)(S:FuncId->H->Option Bool):Prop:=
 ∀f h b,S f h=some b->(∃fn c,P.funcs[f]?=some fn∧(fn.name== "runtime.NumGoroutine")=false∧fn.body=some c)∧
  ∀(ρ:Rho) (w:World),HR ρ h.t.get w->Calls P f #[] w fun e w'=>e=.returned (.bool b)∧Env w w'∧w.heap.size<=w'.heap.size∧∀r,r<w.heap.size->w'.heap[r]?=w.heap[r]?
def bodyE(P:Program)(draw:DrawE)(call:CallE)(fuel:Nat)(fn:Func)(c:Code)(args:List AV)(h:H):Option (AV×H):=
 match codeE P draw call (Nat.add args.length (Nat.sub fn.ntmps args.length)) fuel (codeE P draw call (Nat.add args.length (Nat.sub fn.ntmps args.length)) fuel fun _ _ _=>none) c (putList 0 args .e) h with
 |some (ex,tm,h')=>match ex with
  | .exit _=>none
  | .goto _=>none
  |_=>match resA P tm h'.t.get fn.results.toList with
   |some vs=>some (packA vs,h')
   |none=>none
 |none=>none
def setPs(N:Nat)(tm:T AV):List Nat->List AV->Option (T AV)
 | [],[]=>some tm
 |p::ps,v::vs=>cond (Nat.ble (p+1) N) (setPs N (tm.set p v) ps vs) none
 |_,_=>none
def exJump:Ex->Option (Option Code)
 | .normal=>some none
 | .ret=>some (some .ret)
 | .exit id=>some (some (.exit id))
 | .goto _=>none
def yieldEnd(a:Nat)(jump:Option Code)(h:H):Option (AV×H):=match h.t.get a with
 |some (.loop st pend tm N ps x y)=>match jump with
  |none=>some (.bool true,⟨h.next,h.t.set a (.loop .ready none tm N ps x y)⟩)
  |some c=>some (.bool false,⟨h.next,h.t.set a (.loop .done (some c) tm N ps x y)⟩)
 |_=>none
def yieldE(P:Program)(draw:DrawE)(call:CallE)(a:Nat)(args:List AV)(h:H):Option (AV×H):=match h.t.get a with
 |some (.loop .ready pend tm N ps x y)=>match setPs N tm ps args with
  |some tm0=>match codeR P draw call N x tm0 h with
   |some (.normal,tm1,h1)=>match h1.t.get a with
    |some (.loop .ready pend' tmL NL psL xL yL)=>match codeR P draw call N y tm1 ⟨h1.next,h1.t.set a (.loop .busy pend' tmL NL psL xL yL)⟩with
     |some (ex,_,h3)=>match exJump ex with
      |some jump=>yieldEnd a jump h3
      |none=>none
     |none=>none
    |_=>none
   |_=>none
  |none=>none
 |_=>none
def callE(P:Program)(draw:DrawE)(X:FuncId->Option ATag)(S:FuncId->H->Option Bool)(fuel:Nat)(n:Nat):CallE:=
 Nat.rec (motive:=fun _=>CallE) (fun _ _ _=>none) (fun _ ih f args h=>match Nat.ble ykey f with
    |true=>yieldE P draw ih (Nat.sub f ykey) args h
    |false=>match S f h with
     |some b=>match args with
      | []=>some (.bool b,h)
      |_=>none
     |none=>match P.funcs[f]? with
      |some fn=>match fn.name== "runtime.NumGoroutine" with
       |true=>none
       |false=>match fn.body with
        |some c=>bodyE P draw ih fuel fn c args h
        |none=>match X f with
         |some tag=>evA h tag args
         |none=>none
      |none=>none) n
theorem run_results{P:Program}{ρ:Rho}{tm:T AV}{h:H}{a:Act}{w:World}(ht:TR ρ tm a.tmps)(hr:HR ρ h.t.get w){fn:Func}{vs:List AV}(hv:resA P tm h.t.get fn.results.toList=some vs):
 ∃V,VR ρ (packA vs) V∧(results fn a.tmps).run P w=.ok V w:=by
 obtain⟨VS,k1,k2⟩:=resA_sound ht hr hv
 have hm:(fn.results.mapM (resOf a)).run P w=Result.ok VS.toArray w:=by
  rw[Array.mapM_eq_mapM_toList]
  simp[k2]
 have hr:(results fn a.tmps).run P w=.ok (if h:VS.toArray.size=1 then VS.toArray[0]else .tuple VS.toArray) w:=by
  have:results fn a.tmps=(do
   let vs ←fn.results.mapM (resOf a)
   pure (if h:vs.size=1 then vs[0]else .tuple vs)):=by
   unfold results
   congr 1
  rw[this]
  simp only[Sem.run_bind,hm,Result.andThen_ok,Sem.run_pure]
 refine⟨_,?_,hr⟩
 have hl:=k1.length
 match vs,VS,k1,hl with
 | [v],[V],k1,_=>
   simp only[VRs]at k1
   obtain⟨V',M,h1,rfl,h2⟩:=k1
   simp at h2;subst h2
   simpa [packA]using h1
 | [],[],k1,_=>simp only[packA,VR];exact⟨[],rfl,by simp⟩
 |v::u::l,V::U::L,k1,_=>
  simp only[packA,VR]
  exact⟨_,k1,by simp⟩
theorem way_shut{ρ0 ρ:Rho}{h0 h:H}{w0 w:World}(hw:Way ρ0 h0 w0 ρ h w){D:Nat}(hD:w.heap[D]?=some (.deferred (some [])))(hb:w0.heap.size<=D):Way ρ0 h0 w0 ρ h (w.putObj D (.deferred none)):=by
 refine⟨⟨⟨fun a o l h1 h2 h3=>?_,hw.nx.rel.inj⟩,hw.nx.le,⟨hw.nx.env.os,hw.nx.env.tape,hw.nx.env.output⟩,by simpa using hw.nx.size,fun r hr hn=>?_,hw.nx.back⟩,hw.fresh,hw.kp⟩
 ·obtain⟨k1,k2⟩:=hw.nx.rel.obj a o l h1 h2 h3
  exact⟨by simpa using k1,OIn.congr (World.putObj_heap_other (hw.nx.rel.not_def hD a o l h1 h2 h3)) k2⟩
 ·exact(World.putObj_heap_other (by omega)).trans (hw.nx.frame r hr hn)
theorem clean_shut{B:Nat}{w:World}{D:Nat}:∀{ds:List Deferred},Clean B w ds->(∀e∈ds,e≠{target:=.collected D,args:= #[]})->Clean B (w.putObj D (.deferred none)) ds
 | [],_,_=>trivial
 |d::ds,h,hne=>by
  obtain⟨⟨D',h1,h2,h3,h4⟩,h5⟩:=h
  refine⟨⟨D',h1,h2,?_,h4⟩,clean_shut h5 fun e he=>hne e (by simp[he])⟩
  rw[World.putObj_heap_other]
  ·exact h3
  ·rintro rfl
   exact hne d (by simp) h1
theorem leaves{P:Program}{fn:Func}{tmps:Array Value}{R:Ending->World->Prop}{ρ0 ρ:Rho}{h0 h:H}{w0:World}(hR:∀w,HR ρ h.t.get w->Way ρ0 h0 w0 ρ h w->∃V,(results fn tmps).run P w=.ok V w∧R (.returned V) w):
 ∀{ds:List Deferred} {w:World},Clean w0.heap.size w ds->Way ρ0 h0 w0 ρ h w->LeavesInM Fence.wide 0 P fn tmps R ds .returning w
 | [],w,_,hw=>hR w hw.nx.rel hw
 |d::ds,w,h,hw=>by
  obtain⟨⟨D,h1,h2,h3,h4⟩,h5⟩:=h
  refine⟨by simp,.inl ⟨D,w.putObj D (.deferred none),by rw[h1],run_takeDeferred h3,?_⟩⟩
  exact leaves hR (clean_shut h5 fun e he=>by rw[←h1];exact h4 e he) (way_shut hw h3 h2)
theorem bodyE_sound{P:Program}{draw:DrawE}(hdraw:DrawOK P draw){call:CallE}(hcall:CallOK true P call){fuel:Nat}{f:FuncId}{fn:Func}{c:Code}(hf:P.funcs[f]?=some fn)(hb:fn.body=some c){args:List AV}{h h':H}{v:AV}
 (he:bodyE P draw call fuel fn c args h=some (v,h')) {ρ:Rho} {w:World} {ARGS:List Value} (ha:VRs ρ args ARGS) (hr:HR ρ h.t.get w) (hfr:Fresh ρ h.next):
 Calls P f ARGS.toArray w fun e w'=>∃ρ' V,e=.returned V∧VR ρ' v V∧Way ρ h w ρ' h' w':=by
 refine callsIn_wide.1 (callsIn_of_wp_marks (n:=0) hf hb trivial ((wpIn_wide (n:=0)).2 ?_))
 unfold bodyE at he
 have hl:=ha.length
 have hs:St w.heap.size (Nat.add args.length (Nat.sub fn.ntmps args.length)) ρ (putList 0 args .e) h {tmps:=ARGS.toArray++Array.replicate (fn.ntmps-ARGS.toArray.size) undef,defers:=[]} w:=by
  refine⟨fun i u hi=>?_,hr,hfr,by simp[hl],trivial,Nat.le_refl _⟩
  rw[putList_get]at hi
  by_cases hh:0<=i∧i<0+args.length
  ·rw[if_pos hh]at hi
   have hi':args[i]?=some u:=by simpa using hi
   obtain⟨V,k1,k2⟩:=ha.get hi'
   have hlt:i<ARGS.length:=(List.getElem?_eq_some_iff.1 k1).1
   refine⟨by simp;omega,?_⟩
   rw[Array.getD_eq_getD_getElem?,Array.getElem?_append_left (by simpa using hlt)]
   simpa [k1]using k2
  ·rw[if_neg hh,T.get_e]at hi;simp at hi
 split at he
 ·rename_i ex tm h2 h1
  refine wp_post (codeE_sound hdraw hcall _ _ (codeE_sound hdraw hcall _ _ (by intros;contradiction)) _ _ _ _ _ _ h1) hs fun ρ' a' w' k1 k2=>?_
  have key:(match resA P tm h2.t.get fn.results.toList with
   |some vs=>some (packA vs,h2)
   |none=>none)=some (v,h')->LeavesInM Fence.wide 0 P fn a'.tmps (fun e w'=>∃ρ' V,e=.returned V∧VR ρ' v V∧Way ρ h w ρ' h' w') a'.defers .returning w':=by
   intro he
   split at he
   ·rename_i vs hvs
    simp only[Option.some.injEq,Prod.mk.injEq]at he
    obtain⟨rfl,rfl⟩:=he
    refine leaves (ρ:=ρ') (h:=h2) (fun w'' hr'' hw''=>?_) k1.defers k2
    obtain⟨V,j1,j2⟩:=run_results k1.tr hr'' hvs
    exact⟨V,j2,ρ',V,rfl,j1,hw''⟩
   ·simp at he
  cases ex with
  |exit id=>simp at he
  |goto l=>simp at he
  |normal=>exact key he
  |ret=>exact key he
 ·simp at he
theorem setPs_sound{N:Nat}{ρ:Rho}:∀{ps:List Nat} {tm tm':T AV} {vs:List AV},setPs N tm ps vs=some tm'->∀{VS:List Value} {tmps:Array Value},VRs ρ vs VS->tmps.size=N->TR ρ tm tmps->
 VS.length=ps.length∧TR ρ tm' ((ps.zip VS).foldl (fun tmps (t,a)=>tmps.setIfInBounds t a) tmps)∧((ps.zip VS).foldl (fun tmps (t,a)=>tmps.setIfInBounds t a) tmps).size=N
 | [],tm,tm',[],h,VS,tmps,hv,hN,ht=>by
   simp[setPs]at h;subst h
   simp only[VRs]at hv;subst hv
   exact⟨rfl,ht,hN⟩
 |p::ps,tm,tm',v::vs,h,VS,tmps,hv,hN,ht=>by
  simp only[setPs]at h
  simp only[VRs]at hv
  obtain⟨V,M,h1,h2,rfl⟩:=hv
  cases hb:Nat.ble (p+1) N with
  |false=>rw[hb]at h;simp at h
  |true=>
   rw[hb]at h
   have hlt:=Nat.le_of_ble_eq_true hb
   obtain⟨k1,k2,k3⟩:=setPs_sound (by simpa using h) h2 (tmps:=tmps.setIfInBounds p V) (by simpa using hN) (TR.set ht (by omega) h1)
   exact⟨by simp[k1],by simpa using k2,by simpa using k3⟩
 | [],tm,tm',v::vs,h,VS,tmps,_,_,_=>by simp[setPs]at h
 |p::ps,tm,tm',[],h,VS,tmps,_,_,_=>by simp[setPs]at h
theorem yieldE_sound{P:Program}{draw:DrawE}(hdraw:DrawOK P draw){call:CallE}(hcall:CallOK true P call){a:Nat}{args:List AV}{h h':H}{v:AV}(he:yieldE P draw call a args h=some (v,h')){ρ:Rho}{w:World}{ARGS:List Value}(ha:VRs ρ args ARGS)(hr:HR ρ h.t.get w)(hfr:Fresh ρ h.next)
 {l:Loc} (hl:ρ a=some l):ROut P (Instr.yield l.blk ARGS.toArray) ρ h w v h':=by
 unfold yieldE at he
 split at he
 ·rename_i pend tm N ps x y hget
  split at he
  ·rename_i tm0 hps
   split at he
   ·rename_i tm1 h1 hx
    split at he
    ·rename_i pend' tmL NL psL xL yL hget1
     split at he
     ·rename_i ex tm3 h3 hy
      split at he
      ·rename_i jump hj
       obtain⟨hb,tmps,fn,D,htm,hN,hheap⟩:=hr.obj a _ l hget rfl hl
       obtain⟨q1,q2,q3⟩:=setPs_sound hps ha hN htm
       have hy0:=run_yield (P:=P) (w:=w) (l:=l.blk) (r:={state:=.ready,pending:=pend,fn,tmps,params:=ps.toArray,assign:=x,body:=y,defers:=D}) (args:=ARGS.toArray) hheap (by simpa using q1)
       refine⟨_,_,_,_,_,hy0,?_⟩
       have hz:(ps.toArray.zip ARGS.toArray).foldl (fun tmps (t,a)=>tmps.setIfInBounds t a) tmps=(ps.zip ARGS).foldl (fun tmps (t,a)=>tmps.setIfInBounds t a) tmps:=by simp
       simp only[hz]
       refine roundIn_of_wpIn (F:=Fence.wide) trivial ?_
       refine wpIn_post (r:=some l.blk) (B:=0) (codeR_sound hdraw hcall N _ _ _ _ _ _ hx) ⟨q2,hr,hfr,q3,(show Clean 0 w []from trivial),Nat.zero_le _⟩ fun ρ1 a1 w1 k1 k2=>?_
       have hl1:ρ1 a=some l:=k2.nx.le _ _ hl
       obtain⟨hb1,tmps1,fn1,D1,htm1,hN1,hheap1⟩:=k1.hr.obj a _ l hget1 rfl hl1
       refine⟨_,run_beginRound hheap1 rfl,?_⟩
       obtain⟨w2,hw2⟩:∃w2,w2=w1.putObj l.blk (.loop {state:=.busy,pending:=pend',fn:=fn1,tmps:=tmps1,params:=psL.toArray,assign:=xL,body:=yL,defers:=D1}):=⟨_,rfl⟩
       have way2:Way ρ1 h1 w1 ρ1 ⟨h1.next,h1.t.set a (.loop .busy pend' tmL NL psL xL yL)⟩ w2:=by
        rw[hw2]
        refine way_set k1.fresh hl1 (nx_set k1.hr hget1 rfl hl1 (fun b=>T.get_set _ _ _ _) ⟨rfl,rfl,rfl⟩ (by simp) (fun r hr=>World.putObj_heap_other hr) rfl ⟨tmps1,fn1,D1,htm1,hN1,?_⟩)
        exact World.putObj_heap_same hb1
       rw[←hw2]
       refine wpIn_post (r:=some l.blk) (B:=0) (codeR_sound hdraw hcall N _ _ _ _ _ _ hy) ⟨k1.tr.mono way2.nx.le,way2.nx.rel,way2.fresh,k1.size,k1.defers.nx k1.hr way2.nx,Nat.zero_le _⟩ fun ρ3 a3 w3 j1 j2=>?_
       have hl3:ρ3 a=some l:=j2.nx.le _ _ hl1
       have wayAll:Way ρ h w ρ3 h3 w3:=k2.trans (way2.trans j2)
       have fin:∃v' w',(Instr.endRound l.blk jump).run P w3=.ok v' w'∧∃ρ' V,Ending.returned v'=.returned V∧VR ρ' v V∧Way ρ h w ρ' h' w':=by
        unfold yieldEnd at he
        split at he
        ·rename_i st4 pend4 tm4 N4 ps4 x4 y4 hget4
         obtain⟨hb4,tmps4,fn4,D4,htm4,hN4,hheap4⟩:=j1.hr.obj a _ l hget4 rfl hl3
         have hrun:=run_endRound (P:=P) jump hheap4
         refine⟨_,_,hrun,ρ3,_,rfl,?_⟩
         cases jump with
         |none=>
          simp at he;obtain⟨rfl,rfl⟩:=he
          refine⟨by simp[VR],wayAll.trans (way_set j1.fresh hl3 (nx_set j1.hr hget4 rfl hl3 (fun b=>T.get_set _ _ _ _) ⟨rfl,rfl,rfl⟩ (by simp) (fun r hr=>World.putObj_heap_other hr) rfl ⟨tmps4,fn4,D4,htm4,hN4,?_⟩))⟩
          exact World.putObj_heap_same hb4
         |some c=>
          simp at he;obtain⟨rfl,rfl⟩:=he
          refine⟨by simp[VR],wayAll.trans (way_set j1.fresh hl3 (nx_set j1.hr hget4 rfl hl3 (fun b=>T.get_set _ _ _ _) ⟨rfl,rfl,rfl⟩ (by simp) (fun r hr=>World.putObj_heap_other hr) rfl ⟨tmps4,fn4,D4,htm4,hN4,?_⟩))⟩
          exact World.putObj_heap_same hb4
        ·simp at he
       cases ex with
       |normal=>simp[exJump]at hj;subst hj;exact fin
       |ret=>simp[exJump]at hj;subst hj;exact fin
       |exit id=>simp[exJump]at hj;subst hj;exact fin
       |goto l'=>simp[exJump]at hj
      ·simp at he
     ·simp at he
    ·simp at he
   ·simp at he
  ·simp at he
 ·simp at he
theorem callE_sound{P:Program}{draw:DrawE}(hdraw:DrawOK P draw){X:FuncId->Option ATag}(hX:KnownX P X){S:FuncId->H->Option Bool}(hS:KnownS P S)(fuel:Nat):∀n,CallOK true P (callE P draw X S fuel n):=by
 intro n
 induction n with
 |zero=>intro f args h v h' he;simp[callE]at he
 |succ n ih=>
  intro f args h v h' he ρ w ARGS ha hr hf
  change(match(generalizing:=false) Nat.ble ykey f with
   |true=>yieldE P draw (callE P draw X S fuel n) (Nat.sub f ykey) args h
   |false=>match(generalizing:=false) S f h with
    |some b=>match(generalizing:=false) args with
     | []=>some (AV.bool b,h)
     |_=>none
    |none=>match(generalizing:=false) P.funcs[f]? with
     |some fn=>match(generalizing:=false) fn.name== "runtime.NumGoroutine" with
      |true=>none
      |false=>match(generalizing:=false) fn.body with
       |some c=>bodyE P draw (callE P draw X S fuel n) fuel fn c args h
       |none=>match(generalizing:=false) X f with
        |some tag=>evA h tag args
        |none=>none
     |none=>none)=_ at he
  split at he
  ·rename_i hkey
   exact .inr ⟨rfl,hkey,fun l hl=>yieldE_sound hdraw ih he ha hr hf hl⟩
  ·rename_i hkey
   refine .inl ⟨hkey,?_⟩
   split at he
   ·rename_i b hb
    split at he
    ·simp only[Option.some.injEq,Prod.mk.injEq]at he
     obtain⟨rfl,rfl⟩:=he
     simp only[VRs]at ha;subst ha
     obtain⟨⟨fn,c,h1,h2,h3⟩,hc⟩:=hS f h b hb
     refine .inr ⟨f,#[],run_callFunc_enter h1 h2 h3 _ _,Calls.mono (hc ρ w hr) fun e w' hh=>?_⟩
     obtain⟨rfl,k1,k2,k3⟩:=hh
     refine⟨ρ,_,rfl,rfl,⟨?_,Le.refl _,k1,k2,fun r hr _=>k3 r hr,fun a o l h1 h2 h3 _=>⟨a,o,l,h1,h2,h3,rfl⟩⟩,hf,Kp.refl _ _⟩
     exact⟨fun a o l h1 h2 h3=>by
      obtain⟨j1,j2⟩:=hr.obj a o l h1 h2 h3
      exact⟨by omega,OIn.congr (k3 _ j1) j2⟩,hr.inj⟩
    ·simp at he
   ·split at he
    ·rename_i fn hfn
     split at he
     ·simp at he
     ·rename_i hname
      split at he
      ·rename_i c hb
       exact .inr ⟨f,ARGS.toArray,run_callFunc_enter hfn hname hb _ _,bodyE_sound hdraw ih hfn hb he ha hr hf⟩
      ·rename_i hb
       split at he
       ·rename_i tag ht
        obtain⟨fn',h1,h2,h3,h4,h5⟩:=hX f tag ht
        obtain⟨ρ',w',V,k1,k2,k3⟩:=evA_sound (P:=P) hr hf he ha
        refine .inl ⟨ρ',w',V,.inl ?_,k2,k3⟩
        rw[run_callFunc_extern h1 h2 h3 h4 h5,k1]
        rfl
       ·simp at he
    ·simp at he
def rho0:Rho:=⟨fun a=>if a<glob then some ⟨a,0,0⟩else none,fun g hg=>⟨0,if_pos hg⟩⟩
theorem rho0_fresh:Fresh rho0 glob:=fun a ha=>if_neg (by omega)
theorem closed{P:Program}{draw:DrawE}(hdraw:DrawOK P draw){X:FuncId->Option ATag}(hX:KnownX P X){S:FuncId->H->Option Bool}(hS:KnownS P S){fuel n:Nat}{f:FuncId}{fn:Func}{c:Code}(hf:P.funcs[f]?=some fn)(hname:(fn.name== "runtime.NumGoroutine")=false)(hb:fn.body=some c){b:Bool}(hkey:Nat.ble ykey f=false)
 {h0:H} (hn:h0.next=glob) (hmut:∀a o,h0.t.get a=some o->o.mut=false)
 (he:(match callE P draw X S fuel (n+1) f [] h0 with
   |some (.bool x,_)=>some x
   |_=>none)=some b) (w:World) (hr:HR rho0 h0.t.get w):
 Calls P f #[] w fun e w'=>e=.returned (.bool b)∧Env w w'∧w.heap.size<=w'.heap.size∧∀r,r<w.heap.size->w'.heap[r]?=w.heap[r]?:=by
 split at he
 ·rename_i x h' hc
  simp at he;subst he
  have hx:=callE_sound hdraw hX hS fuel (n+1) f [] h0 _ _ hc rho0 w [] rfl hr (by rw[hn];exact rho0_fresh)
  rcases hx with⟨_,⟨ρ',w',V,h1|⟨h1,_⟩,_⟩|⟨g,as,h1,h2⟩⟩|⟨_,hk,_⟩
  ·have:=run_callFunc_enter hf hname hb #[] w
   rw[this]at h1;simp at h1
  ·have:=run_callFunc_enter hf hname hb #[] w
   rw[this]at h1;simp at h1
  ·have:=run_callFunc_enter hf hname hb #[] w
   rw[this]at h1
   simp at h1
   obtain⟨rfl,rfl⟩:=h1
   refine Calls.mono h2 fun e w' hh=>?_
   obtain⟨ρ',V,rfl,k1,k2⟩:=hh
   simp only[VR]at k1;subst k1
   exact⟨rfl,k2.nx.env,k2.nx.size,fun r hr=>k2.nx.frame r hr fun a o l h1 h2=>by rw[hmut a o h1]at h2;simp at h2⟩
  ·rw[hkey]at hk;simp at hk
 ·simp at he
def TabW(g:Nat)(k:IntKind)(l:List Int)(w:World):Prop:=∃c e f,w.heap[g]?=some (.cells c e f)∧∀(i:Nat) (n:Int),l[i]?=some n->c[i]?=some (Value.int k n)
def tabH(g:Nat)(k:IntKind)(l:List Int):H:=⟨glob,T.set .e g (.tab (putList 0 (l.map (.int k)) .e))⟩
def chkTab(k:IntKind):List Int->T AV->Nat->Bool
 | [],_,_=>true
 |n::l,cells,i=>(match cells.get i with
  |some (.int k' m)=>decide (k'=k)&&iEq m n
  |_=>false)&&chkTab k l cells (i+1)
def hasTab(g:Nat)(k:IntKind)(l:List Int)(h:H):Bool:=match h.t.get g with
 |some (.tab cells)=>chkTab k l cells 0
 |_=>false
theorem chkTab_at{k:IntKind}{cells:T AV}:∀{l:List Int} {i:Nat},chkTab k l cells i=true->∀j n,l[j]?=some n->cells.get (i+j)=some (.int k n)
 | [],i,h,j,n,hj=>by simp at hj
 |m::l,i,h,j,n,hj=>by
  simp only[chkTab,Bool.and_eq_true]at h
  cases j with
  |zero=>
   simp at hj;subst hj
   have h1:=h.1
   split at h1
   ·rename_i k' x hx
    simp only[Bool.and_eq_true,decide_eq_true_eq,iEq_eq,beq_iff_eq]at h1
    rw[Nat.add_zero,hx,h1.1,h1.2]
   ·simp at h1
  |succ j=>
   have:=chkTab_at h.2 j n (by simpa using hj)
   rw[←this];congr 1;omega
theorem hasTab_w{g:Nat}{k:IntKind}{l:List Int}{h:H}(hg:g<glob)(hh:hasTab g k l h=true){ρ:Rho}{w:World}(hr:HR ρ h.t.get w):TabW g k l w:=by
 unfold hasTab at hh
 split at hh
 ·rename_i cells hc
  obtain⟨r,hl⟩:=ρ.own g hg
  obtain⟨_,c,e,f,h1,h2⟩:=hr.obj g _ _ hc rfl hl
  refine⟨c,e,f,h1,fun i n hi=>?_⟩
  have:=chkTab_at hh i n hi
  rw[Nat.zero_add]at this
  obtain⟨V,k1,_,k2⟩:=h2 i _ this
  simp only[VR]at k1;subst k1
  simpa using k2
 ·simp at hh
theorem tabH_mut{g:Nat}{k:IntKind}{l:List Int}:∀a o,(tabH g k l).t.get a=some o->o.mut=false:=by
 intro a o h
 simp only[tabH,T.get_set]at h
 by_cases e:a=g
 ·rw[if_pos e]at h;simp at h;subst h;rfl
 ·rw[if_neg e,T.get_e]at h;simp at h
theorem tabH_hr{g:Nat}{k:IntKind}{l:List Int}(hg:g<glob){w:World}(hw:TabW g k l w):HR rho0 (tabH g k l).t.get w:=by
 obtain⟨c,e,f,h1,h2⟩:=hw
 have key:∀a o,(tabH g k l).t.get a=some o->a=g∧o=.tab (putList 0 (l.map (.int k)) .e):=by
  intro a o h
  simp only[tabH,T.get_set]at h
  by_cases e:a=g
  ·rw[if_pos e]at h;simp at h;exact⟨e,h.symm⟩
  ·rw[if_neg e,T.get_e]at h;simp at h
 refine⟨fun a o m ha ho hm=>?_,fun a b o p m n ha _ hb _ _ _ _=>?_⟩
 ·obtain⟨rfl,rfl⟩:=key a o ha
  have hm':rho0 a=some ⟨a,0,0⟩:=if_pos hg
  rw[hm']at hm;simp at hm;subst hm
  refine⟨(Array.getElem?_eq_some_iff.1 h1).1,c,e,f,h1,fun i v hi=>?_⟩
  rw[putList_get]at hi
  by_cases hh:0<=i∧i<0+(l.map (AV.int k)).length
  ·rw[if_pos hh]at hi
   simp only[Nat.sub_zero,List.getElem?_map,Option.map_eq_some_iff]at hi
   obtain⟨n,hn,rfl⟩:=hi
   exact⟨.int k n,by simp[VR],rfl,by simpa using h2 i n hn⟩
  ·rw[if_neg hh,T.get_e]at hi;simp at hi
 ·rw[(key a o ha).1,(key b p hb).1]
def saysE(P:Program)(draw:DrawE)(X:FuncId->Option ATag)(S:FuncId->H->Option Bool)(fuel n:Nat)(f:FuncId)(h0:H):Option Bool:=
 match callE P draw X S fuel n f [] h0 with
 |some (.bool x,_)=>some x
 |_=>none
theorem says_closed{P:Program}{draw:DrawE}(hdraw:DrawOK P draw){X:FuncId->Option ATag}(hX:KnownX P X){S:FuncId->H->Option Bool}(hS:KnownS P S){fuel n:Nat}{f:FuncId}(hf:hasE P f=true){b:Bool}(hkey:Nat.ble ykey f=false)
 {h0:H} (hn:h0.next=glob) (hmut:∀a o,h0.t.get a=some o->o.mut=false) (he:saysE P draw X S fuel (n+1) f h0=some b) (w:World) (hr:HR rho0 h0.t.get w):
 Calls P f #[] w fun e w'=>e=.returned (.bool b)∧Env w w'∧w.heap.size<=w'.heap.size∧∀r,r<w.heap.size->w'.heap[r]?=w.heap[r]?:=by
 obtain⟨fn,c,h1,h2,h3⟩:=hasE_of hf
 exact closed hdraw hX hS h1 h2 h3 hkey hn hmut he w hr
def lookX(l:List (Nat×ATag))(f:Nat):Option ATag:=
 List.rec none (fun p _ ih=>cond (Nat.beq p.1 f) (some p.2) ih) l
def okX(P:Program)(p:Nat×ATag):Prop:=
 (P.funcs[p.1]?).map (fun fn=>(fn.name== "runtime.NumGoroutine",fn.body.isNone,(Extern.findNext fn).isNone))=some (false,true,true)∧(P.funcs[p.1]?).bind Extern.find=some p.2.fn
theorem lookX_known{P:Program}:∀{l:List (Nat×ATag)},(∀p∈l,okX P p)->KnownX P (lookX l)
 | [],_,f,tag,h=>by cases h
 |p::l,hl,f,tag,h=>by
  change cond (Nat.beq p.1 f) (some p.2) (lookX l f)=some tag at h
  cases hb:Nat.beq p.1 f with
  |true=>
   rw[hb]at h
   simp at h;subst h
   have:p.1=f:=Nat.eq_of_beq_eq_true hb
   subst this
   obtain⟨h1,h2⟩:=hl p (by simp)
   cases hf:P.funcs[p.1]? with
   |none=>rw[hf]at h1;simp at h1
   |some fn=>
    rw[hf]at h1 h2
    simp only[Option.map_some,Option.some.injEq,Prod.mk.injEq]at h1
    obtain⟨k1,k2,k3⟩:=h1
    exact⟨fn,rfl,k1,k2,by simpa using k3,h2⟩
  |false=>
   rw[hb]at h
   exact lookX_known (fun q hq=>hl q (by simp[hq])) f tag h
def noS:FuncId->H->Option Bool:=fun _ _=>none
theorem noS_known{P:Program}:KnownS P noS:=fun _ _ _ h=>by cases h
abbrev Out:=Option (T AV×H)
inductive Step where
 |mk (f:CallE->T AV->H->(T AV->H->Out)->Out)
def Step.run:Step->CallE->T AV->H->(T AV->H->Out)->Out
 | .mk f=>f
def stepP(P:Program)(d:Nat):POp->Step
 | .mv (.t n)=>.mk fun call tm h k=>Option.rec none (fun v=>k (tm.set d v) h) (tm.get n)
 | .mv (.c v)=>.mk fun call tm h k=>k (tm.set d v) h
 | .bin op t cx cy x y=>.mk fun call tm h k=>Option.rec none (fun v=>k (tm.set d v) h) (evP_bin P tm op t cx cy x y)
 | .nilck x=>.mk fun call tm h k=>Option.rec none (fun v=>k (tm.set d v) h) (evP_nilck tm x)
 | .fadr off x=>.mk fun call tm h k=>Option.rec none (fun v=>k (tm.set d v) h) (evP_fadr tm off x)
 | .iadrS es x i=>.mk fun call tm h k=>Option.rec none (fun v=>k (tm.set d v) h) (evP_iadrS tm es x i)
 | .iadrA len es x i=>.mk fun call tm h k=>Option.rec none (fun v=>k (tm.set d v) h) (evP_iadrA tm len es x i)
 | .idxA len t es x i=>.mk fun call tm h k=>Option.rec none (fun v=>k (tm.set d v) h) (evP_idxA P tm len t es x i)
 | .extr x i=>.mk fun call tm h k=>Option.rec none (fun v=>k (tm.set d v) h) (evP_extr tm x i)
 | .lenv x=>.mk fun call tm h k=>Option.rec none (fun v=>k (tm.set d v) h) (evP_lenv tm x)
 | .un op x=>.mk fun call tm h k=>Option.rec none (fun v=>k (tm.set d v) h) (evP_un tm op x)
 | .conv t x=>.mk fun call tm h k=>Option.rec none (fun v=>k (tm.set d v) h) (evP_conv tm t x)
 | .fld t off x=>.mk fun call tm h k=>Option.rec none (fun v=>k (tm.set d v) h) (evP_fld P tm t off x)
 | .pick c a b=>.mk fun call tm h k=>Option.rec none (fun v=>k (tm.set d v) h) (evP_pick tm c a b)
 |x=>.mk fun call tm h k=>Option.rec none (fun v=>k (tm.set d v) h) (evP P tm x)
def putK(dst:Option Nat)(N:Nat)(k:T AV->H->Out)(tm:T AV)(v:AV)(h:H):Out:=match dst with
 |none=>k tm h
 |some d=>cond (Nat.ble (d+1) N) (k (tm.set d v) h) none
def stepC(P:Program)(dst:Option Nat)(N:Nat):COp->Step
 | .p x=>match dst with
   |some d=>match Nat.ble (d+1) N with
    |true=>stepP P d x
    |false=>.mk fun _ _ _ _=>none
   |none=>.mk fun call tm h k=>Option.rec none (fun v=>k tm h) (evP P tm x)
 | .r x=>.mk fun call tm h k=>Option.rec none (fun v=>putK dst N k tm v h) (evR tm h.t.get x)
 | .l x=>.mk fun call tm h k=>Option.rec none (fun v=>putK dst N k tm v h) (evL tm h.t.get x)
 | .s x=>.mk fun call tm h k=>Option.rec none (fun v=>putK dst N k tm v h) (evS tm h.t.get x)
 | .e x=>.mk fun call tm h k=>Option.rec none (fun p=>Prod.rec (fun v h'=>putK dst N k tm v h') p) (evE tm h x)
 |c=>.mk fun call tm h k=>Option.rec none (fun p=>Prod.rec (fun v h'=>putK dst N k tm v h') p) (evOp P call tm h c)
def stepB(P:Program)(ops:List Oper)(N:Nat)(o:Oper):Step:=match o.guard with
 |none=>match cOp P o with
  |some c=>stepC P o.dst N c
  |none=>.mk fun _ _ _ _=>none
 |some _=>.mk fun call tm h k=>Option.rec none (fun p=>Prod.rec (fun tm' h'=>k tm' h') p) (stepE P call ops N tm h o)
def thenK(x:Out)(k:T AV->H->Out):Out:=match x with
 |some (tm,h)=>k tm h
 |none=>none
theorem stepP_run(P:Program)(d:Nat)(x:POp)(call:CallE)(tm:T AV)(h:H)(k:T AV->H->Out):
 (stepP P d x).run call tm h k=match evP P tm x with
   |some v=>k (tm.set d v) h
   |none=>none:=by
 cases x<;>first
  |(simp only[stepP,Step.run,evP];split<;>rename_i e<;>simp[e];done)
  |(rename_i y;cases y<;>simp only[stepP,Step.run,evP,evo]<;>(try split)<;>(try rename_i e)<;>(try simp[e]);done)
theorem putK_eq(dst:Option Nat)(N:Nat)(k:T AV->H->Out)(tm:T AV)(v:AV)(h:H):
 putK dst N k tm v h=match putT N tm dst v with
  |some tm'=>k tm' h
  |none=>none:=by
 cases dst with
 |none=>rfl
 |some d=>
  simp only[putK,putT]
  cases Nat.ble (d+1) N<;>rfl
theorem stepB_run(P:Program)(ops:List Oper)(N:Nat)(o:Oper)(call:CallE)(tm:T AV)(h:H)(k:T AV->H->Out):
 (stepB P ops N o).run call tm h k=thenK (stepE P call ops N tm h o) k:=by
 unfold stepB stepE
 cases hg:o.guard with
 |some g=>
  simp only[Step.run]
  have:∀x:Out,(Option.rec none (fun p=>Prod.rec (fun tm' h'=>k tm' h') p) x:Out)=thenK x k:=by
   intro x;cases x with
   |none=>rfl
   |some p=>rfl
  rw[this]
 |none=>
  simp only[wantA,hg]
  cases hc:cOp P o with
  |none=>simp only[Step.run];rfl
  |some c=>
   simp only
   have fin:∀(x:Option (AV×H)),(Option.rec none (fun p=>Prod.rec (fun v h'=>putK o.dst N k tm v h') p) x:Out)=thenK (match x with
    |some (v,h')=>match putT N tm o.dst v with
     |some tm'=>some (tm',h')
     |none=>none
    |none=>none) k:=by
        intro x
        cases x with
        |none=>rfl
        |some p=>
         obtain⟨v,h'⟩:=p
         simp only[putK_eq]
         cases putT N tm o.dst v<;>rfl
   have fin1:∀(x:Option AV),(Option.rec none (fun v=>putK o.dst N k tm v h) x:Out)=thenK (match(match x with
         |some v=>some (v,h)
         |none=>none:Option (AV×H))with
    |some (v,h')=>match putT N tm o.dst v with
     |some tm'=>some (tm',h')
     |none=>none
    |none=>none) k:=by
        intro x
        cases x with
        |none=>rfl
        |some v=>
         simp only[putK_eq]
         cases putT N tm o.dst v<;>rfl
   cases c with
   |p x=>
    simp only[stepC,evOp]
    refine Eq.trans ?_ (fin1 (evP P tm x))
    cases hd:o.dst with
    |none=>simp only[Step.run,putK]
    |some d=>
     simp only[putK]
     cases hb:Nat.ble (d+1) N with
     |true=>
      simp only[stepP_run,cond_true]
      cases evP P tm x<;>rfl
     |false=>
      simp only[Step.run,cond_false]
      cases evP P tm x<;>rfl
   |r x=>simp only[stepC,Step.run,evOp];exact fin1 _
   |l x=>simp only[stepC,Step.run,evOp];exact fin1 _
   |s x=>simp only[stepC,Step.run,evOp];exact fin1 _
   |e x=>simp only[stepC,Step.run,evOp];exact fin _
   |n x=>simp only[stepC,Step.run];exact fin _
   |m x=>simp only[stepC,Step.run];exact fin _
   |i x=>simp only[stepC,Step.run];exact fin _
   |w x=>simp only[stepC,Step.run];exact fin _
   |cv f as=>simp only[stepC,Step.run];exact fin _
   |ci r name as=>simp only[stepC,Step.run];exact fin _
def seqF(P:Program)(call:CallE)(ops:List Oper)(N:Nat)(l:List Oper):T AV->H->Out:=
 List.rec (fun tm h=>some (tm,h)) (fun o _ ih tm h=>Step.rec (fun f=>f call tm h ih) (stepB P ops N o)) l
theorem seqF_eq(P:Program)(call:CallE)(ops:List Oper)(N:Nat):∀(l:List Oper),seqF P call ops N l=seqE P call ops N l
 | []=>rfl
 |o::l=>by
  funext tm h
  have ih:=seqF_eq P call ops N l
  have hs:∀s:Step,(Step.rec (fun f=>f call tm h (seqF P call ops N l)) s:Out)=s.run call tm h (seqF P call ops N l):=fun s=>by cases s;rfl
  change(Step.rec (fun f=>f call tm h (seqF P call ops N l)) (stepB P ops N o):Out)=_
  rw[hs,stepB_run,ih]
  simp only[seqE,thenK]
  cases stepE P call ops N tm h o<;>rfl
abbrev SeqT:=CallE->List Oper->Nat->List Oper->T AV->H->Out
def codeG(P:Program)(sq:SeqT)(draw:DrawE)(call:CallE)(N fuel:Nat)(goE:Code->CodeE)(c:Code):CodeE:=
 Code.rec (motive:=fun _=>CodeE)
    (fun tm h=>some (.normal,tm,h))
    (fun id ops d tm h=>match d with
      |false=>match sq call ops.toList N ops.toList tm h with
       |some (tm',h')=>some (.normal,tm',h')
       |none=>none
      |true=>match draw call ops.toList N tm h with
       |some (tm',h')=>some (.normal,tm',h')
       |none=>none)
    (fun a b iha ihb tm h=>match iha tm h with
      |some (.normal,tm',h')=>ihb tm' h'
      |r=>r)
    (fun c x y ihx ihy tm h=>match cOpd c with
      |some c=>match evo tm c with
       |some (.bool true)=>ihx tm h
       |some (.bool false)=>ihy tm h
       |_=>none
      |none=>none)
    (fun id body ih tm h=>match ih tm h with
      |some (.exit j,tm',h')=>cond (Nat.beq j id) (some (.normal,tm',h')) (some (.exit j,tm',h'))
      |r=>r)
    (fun body ih tm h=>loopE ih fuel tm h)
    (fun f ps x y ihx ihy tm h=>match cOpd f with
      |some f=>match evo tm f with
       |some fv=>rangeE P call N ps.toList x y fv tm h
       |none=>none
      |none=>none)
    (fun id tm h=>some (.exit id,tm,h))
    (fun body ih tm h=>match ih tm h with
      |some (.goto l,tm',h')=>match findLabel body l with
       |some rest=>match goE rest tm' h' with
        |some (.goto _,_,_)=>none
        |r=>r
       |none=>none
      |r=>r)
    (fun l tm h=>some (.normal,tm,h))
    (fun l tm h=>some (.goto l,tm,h))
    (fun tm h=>some (.ret,tm,h))
    (fun why tm h=>none)
    c
def bodyN(P:Program)(sq:SeqT)(draw:DrawE)(call:CallE)(fuel N:Nat)(fn:Func)(c:Code)(args:List AV)(h:H):Option (AV×H):=
 match codeG P sq draw call N fuel (codeG P sq draw call N fuel fun _ _ _=>none) c (putList 0 args .e) h with
 |some (ex,tm,h')=>match ex with
  | .exit _=>none
  | .goto _=>none
  |_=>match resA P tm h'.t.get fn.results.toList with
   |some vs=>some (packA vs,h')
   |none=>none
 |none=>none
def bodyG(P:Program)(sq:SeqT)(draw:DrawE)(call:CallE)(fuel:Nat)(fn:Func)(c:Code)(args:List AV)(h:H):Option (AV×H):=
 match Nat.ble args.length fn.ntmps with
 |true=>bodyN P sq draw call fuel fn.ntmps fn c args h
 |false=>bodyN P sq draw call fuel (Nat.add args.length (Nat.sub fn.ntmps args.length)) fn c args h
theorem bodyG_seqE(P:Program)(draw:DrawE)(call:CallE)(fuel:Nat)(fn:Func)(c:Code)(args:List AV)(h:H):bodyG P (seqE P) draw call fuel fn c args h=bodyE P draw call fuel fn c args h:=by
 unfold bodyG
 have key:bodyN P (seqE P) draw call fuel (Nat.add args.length (Nat.sub fn.ntmps args.length)) fn c args h=bodyE P draw call fuel fn c args h:=rfl
 cases hb:Nat.ble args.length fn.ntmps with
 |true=>
  have:=Nat.le_of_ble_eq_true hb
  have e:Nat.add args.length (Nat.sub fn.ntmps args.length)=fn.ntmps:=by
   show args.length+(fn.ntmps-args.length)=fn.ntmps
   omega
  rw[e]at key
  exact key
 |false=>exact key
def toT{α:Type}(l:List α):Nat->T α->T α:=List.rec (fun _ t=>t) (fun x _ ih i t=>ih (Nat.succ i) (t.set i x)) l
theorem toT_get{α:Type}:∀(l:List α) (i:Nat) (t:T α) (j:Nat),(toT l i t).get j=if i<=j∧j<i+l.length then l[j-i]? else t.get j
 | [],i,t,j=>by
   show t.get j=_
   rw[if_neg (by simp)]
 |x::l,i,t,j=>by
  show(toT l (i+1) (t.set i x)).get j=_
  rw[toT_get l (i+1) (t.set i x) j,T.get_set]
  by_cases h1:i+1<=j∧j<i+1+l.length
  ·rw[if_pos h1,if_pos (by simp;omega)]
   have:j-i=(j-(i+1))+1:=by omega
   rw[this];simp
  ·rw[if_neg h1]
   by_cases h2:j=i
   ·subst h2
    rw[if_pos rfl,if_pos (by simp)]
    simp
   ·rw[if_neg h2,if_neg (by simp;omega)]
def funT(P:Program):T Func:=toT P.funcs.toList 0 .e
theorem funT_get(P:Program)(f:Nat):(funT P).get f=P.funcs[f]?:=by
 unfold funT
 rw[toT_get]
 by_cases h:f<P.funcs.size
 ·rw[if_pos (by simp;exact h)];simp
 ·rw[if_neg (by simp;omega),T.get_e]
  simp;omega
def callG(P:Program)(sq:SeqT)(draw:DrawE)(X:FuncId->Option ATag)(S:FuncId->H->Option Bool)(fuel:Nat)(n:Nat):CallE:=
 Nat.rec (motive:=fun _=>CallE) (fun _ _ _=>none) (fun _ ih f args h=>match Nat.ble ykey f with
    |true=>yieldE P draw ih (Nat.sub f ykey) args h
    |false=>match S f h with
     |some b=>match args with
      | []=>some (.bool b,h)
      |_=>none
     |none=>match(funT P).get f with
      |some fn=>match fn.body with
       |some c=>bodyG P sq draw ih fuel fn c args h
       |none=>match X f with
        |some tag=>evA h tag args
        |none=>none
      |none=>none) n
def noNG(P:Program):Bool:=P.funcs.toList.all fun fn=>!(fn.name== "runtime.NumGoroutine")
theorem noNG_at{P:Program}(h:noNG P=true){f:Nat}{fn:Func}(hf:P.funcs[f]?=some fn):(fn.name== "runtime.NumGoroutine")=false:=by
 have:=List.all_eq_true.1 h fn (by simpa using Array.mem_of_getElem? hf)
 simpa using this
theorem callG_seqE{P:Program}(hNG:noNG P=true)(draw:DrawE)(X:FuncId->Option ATag)(S:FuncId->H->Option Bool)(fuel:Nat)(n:Nat):callG P (seqE P) draw X S fuel n=callE P draw X S fuel n:=by
 induction n with
 |zero=>rfl
 |succ n ih=>
  funext f args h
  show(match Nat.ble ykey f with
   |true=>yieldE P draw (callG P (seqE P) draw X S fuel n) (Nat.sub f ykey) args h
   |false=>match S f h with
    |some b=>match args with
     | []=>some (AV.bool b,h)
     |_=>none
    |none=>match(funT P).get f with
     |some fn=>match fn.body with
      |some c=>bodyG P (seqE P) draw (callG P (seqE P) draw X S fuel n) fuel fn c args h
      |none=>match X f with
       |some tag=>evA h tag args
       |none=>none
     |none=>none)=(match Nat.ble ykey f with
   |true=>yieldE P draw (callE P draw X S fuel n) (Nat.sub f ykey) args h
   |false=>match S f h with
    |some b=>match args with
     | []=>some (AV.bool b,h)
     |_=>none
    |none=>match P.funcs[f]? with
     |some fn=>match fn.name== "runtime.NumGoroutine" with
      |true=>none
      |false=>match fn.body with
       |some c=>bodyE P draw (callE P draw X S fuel n) fuel fn c args h
       |none=>match X f with
        |some tag=>evA h tag args
        |none=>none
     |none=>none)
  simp only[bodyG_seqE,ih,funT_get]
  cases hf:P.funcs[f]? with
  |none=>rfl
  |some fn=>simp only[noNG_at hNG hf]
def saysF(P:Program)(draw:DrawE)(X:FuncId->Option ATag)(S:FuncId->H->Option Bool)(fuel n:Nat)(f:FuncId)(h0:H):Option Bool:=
 match callG P (seqF P) draw X S fuel n f [] h0 with
 |some (.bool x,_)=>some x
 |_=>none
theorem saysF_eq{P:Program}(hNG:noNG P=true)(draw:DrawE)(X:FuncId->Option ATag)(S:FuncId->H->Option Bool)(fuel n:Nat)(f:FuncId)(h0:H):saysF P draw X S fuel n f h0=saysE P draw X S fuel n f h0:=by
 have:seqF P=seqE P:=by
  funext call ops N l
  exact seqF_eq P call ops N l
 unfold saysF saysE
 rw[this,callG_seqE hNG]
 all_goals (rcases callE P draw X S fuel n f [] h0 with _|⟨v,h⟩<;>first|rfl|(cases v<;>rfl))
def ChkP(P:Program)(ops:List Oper)(m:T Nat)(N:Nat)(es:List Nat)(tm0:T AV)(F:T Rec)(hs:List H):Prop:=
 ∀i o,ops[i]?=some o->∃r,F.get i=some r∧
  (∀v,r=.read v->∃tm,localTm ops m N tm0 F i o=some tm∧∀l h,hs[l]?=some h->mayAt m i es l=true->readAt P tm h o=some v)∧
  (∀v a ao q,r=.alloc v a ao (q+1)->∃e,es[q]?=some e∧bef m i e=true)∧
  (∀v,r=.eff v->es.contains i=true)
theorem stepAnyP{P:Program}{call:CallE}(hcall:CallOK false P call){ops:Array Oper}{N:Nat}{es:List Nat}{F:T Rec}{h0:H}{ρ0:Rho}{w0:World}{a0:Act}{listed:Array Bool}{k:Nat}{hk:H}{ρ:Rho}{a:Act}{w:World}{tm0:T AV}{hs:List H}
 (hok:edgesOk ops.toList 0=true) (hch:chainOk (preds ops.toList) es=true) {n:Nat} (hdr:drE P call ops.toList (preds ops.toList) N tm0 0 (phasesOf (preds ops.toList) es n 0 es) .e h0=some (F,hs))
 (hchk:ChkP P ops.toList (preds ops.toList) N es tm0 F hs) (ht0:TR ρ0 tm0 a0.tmps) (hN0:a0.tmps.size=N)
 (hI:Inv ops N es F h0 ρ0 w0 a0 listed k hk ρ a w) (hhk:hs[k]?=some hk) {i:Nat} {o:Oper} (hn:Next ops listed i o) {Q:Exit->Act->World->Prop} {K:Act->World->Prop}
 (hK:∀k' hk' ρ' a' w',hs[k']?=some hk'->Inv ops N es F h0 ρ0 w0 a0 (listed.setIfInBounds i true) k' hk' ρ' a' w'->K a' w'):wpOp P ops Q i K a w:=by
 obtain⟨r,hr,c1,c2,c3⟩:=hchk i o (by simpa using hn.op)
 obtain⟨d1,d2,d3,d4,d5⟩:=drE_sound hdr (by intro i v a ao p h;simp[T.get_e]at h)
 obtain⟨e1,e2,e3⟩:=certAt d2
 have before:∀(l e:Nat),es[l]?=some e->bef (preds ops.toList) i e=true->l<k:=fun l e hl hb=>(hI.effs l e hl).1 (hn.bef_on hI.down hok hb)
 rcases d3 i r hr with hh|⟨v,rfl⟩|⟨o',ph,hh,hh',ho',hq⟩
 ·simp[T.get_e]at hh
 ·have hmem:=c3 v rfl
  have:i∈es:=by simpa using hmem
  obtain⟨l,hl⟩:=List.getElem?_of_mem this
  have hnl:¬l<k:=fun h=>hn.new ((hI.effs l i hl).2 h)
  have hlk:l=k:=by
   rcases Nat.lt_or_ge k l with h|h
   ·obtain⟨f,hf⟩:∃f,es[k]?=some f:=⟨es[k]'(Nat.lt_trans h (List.getElem?_eq_some_iff.1 hl).1),by simp⟩
    have:=before k f hf (chain_spec hch k l f i hf hl h)
    omega
   ·omega
  subst hlk
  obtain⟨hk1,v',h2,hk',o'',f1,f2,f3,f4,f5,f6,f7⟩:=e3 l i hl
  rw[hhk]at f1;simp at f1;subst f1
  have:o''=o:=by
   have:=hn.op
   have f2':ops[i]?=some o'':=by simpa using f2
   rw[f2']at this;simpa using this
  subst this
  rw[hr]at f3;simp at f3;subst f3
  rw[Nat.zero_add]at f6 f7
  refine stepF hcall hI hok ht0 hN0 hn hl (fun l' hl'=>?_) hr f4 f6 f7 (fun ρ' a' w' hI'=>hK _ _ _ _ _ f5 hI')
  rcases Nat.lt_trichotomy l' l with h|h|h
  ·have:=(bef_sound hok (chain_spec hch l' l i i hl' hl h)).1;omega
  ·exact h
  ·have:=(bef_sound hok (chain_spec hch l l' i i hl hl' h)).1;omega
 ·have:o'=o:=by
   have:=hn.op
   have f2':ops[i]?=some o':=by simpa using ho'
   rw[f2']at this;simpa using this
  subst this
  have hne:=(opQ_heap hq).1
  have hes:∀l:Nat,es[l]?≠some i:=by
   intro l hl
   obtain⟨_,v',_,_,_,_,_,f3,_⟩:=e3 l i hl
   rw[hr]at f3;simp at f3
   exact hne v' f3
  refine stepQ hI hok ht0 hN0 hn hq hr hes (fun v hv tm htm=>?_) (fun v b ao p hv=>?_) (fun ρ' a' w' hI'=>hK _ _ _ _ _ hhk hI')
  ·obtain⟨tm',g1,g2⟩:=c1 v hv
   rw[htm]at g1;simp at g1;subst g1
   refine g2 k hk hhk ?_
   exact mayAt_ok (fun l e hl hlt=>hn.not_bef hI.down hok ((hI.effs l e hl).2 hlt)) (fun l e hl hge=>by
        cases hb:bef (preds ops.toList) i e with
        |false=>rfl
        |true=>have:=before l e hl hb;omega)
  ·subst hv
   refine⟨?_,?_,fun j v' ao' p' hj=>?_⟩
   ·cases p with
    |zero=>omega
    |succ q=>
     obtain⟨e,he,hb⟩:=c2 _ _ _ _ rfl
     exact before q e he hb
   ·rcases d4 i _ _ _ _ hr with hh|⟨_,hh⟩
    ·simp[T.get_e]at hh
    ·exact hh
   ·exact d5 j i _ _ _ _ _ _ _ (T.get_e _) hj (T.get_e _) hr
theorem drawP_does{P:Program}(hm:P.follows .mixedOrders=true){call:CallE}(hcall:CallOK true P call){id:Nat}{ops:Array Oper}{N:Nat}{tm:T AV}{h:H}{F:T Rec}{hs:List H}{hl:H}
 (hok:edgesOk ops.toList 0=true) (hch:chainOk (preds ops.toList) (effsFrom P ops.toList 0)=true) (hnd:noDefer ops.toList=true)
 (hdr:drE P (plainCall call) ops.toList (preds ops.toList) N tm 0 (phasesOf (preds ops.toList) (effsFrom P ops.toList 0) ops.toList.length 0 (effsFrom P ops.toList 0)) .e h=some (F,hs))
 (hchk:ChkP P ops.toList (preds ops.toList) N (effsFrom P ops.toList 0) tm F hs) (hlast:lastH hs=some hl):DoesR P (.region id ops true) N tm h .normal (finalTm F ops.toList 0 tm) hl:=by
 intro r B ρ0 a0 w0 hs0
 obtain⟨d1,d2,d3,d4,d5⟩:=drE_sound hdr (by intro i v a ao p h;simp[T.get_e]at h)
 obtain⟨e1,⟨hk0,e2,e2',e2''⟩,e3⟩:=certAt d2
 have hF:∀i o,ops[i]?=some o->∃r,F.get i=some r:=fun i o ho=>by
  obtain⟨r,hr,_⟩:=hchk i o (by simpa using ho)
  exact⟨r,hr⟩
 have main:∀fuel listed k hk ρ a w,Inv ops N (effsFrom P ops.toList 0) F h ρ0 w0 a0 listed k hk ρ a w->hs[k]?=some hk->(List.range ops.size).countP (fun i=>!listed.getD i false)<=fuel->
  wpAny P .any ops (fun e a' w'=>e=Ex.normal.out∧∃ρ',St B N ρ' (finalTm F ops.toList 0 tm) hl a' w'∧Way ρ0 h w0 ρ' hl w') fuel listed a w:=by
  have done:∀listed k hk ρ a w,Inv ops N (effsFrom P ops.toList 0) F h ρ0 w0 a0 listed k hk ρ a w->hs[k]?=some hk->(∀i,i<ops.size->On listed i)->
        Ex.normal.out=Ex.normal.out∧∃ρ',St B N ρ' (finalTm F ops.toList 0 tm) hl a w∧Way ρ0 h w0 ρ' hl w:=by
   intro listed k hk ρ a w hI hhk hall
   have hkl:k=(effsFrom P ops.toList 0).length:=by
        rcases Nat.lt_or_ge k (effsFrom P ops.toList 0).length with hlt|hge
        ·have hx:(effsFrom P ops.toList 0)[k]?=some ((effsFrom P ops.toList 0)[k]):=by simp[hlt]
         obtain⟨_,_,_,_,o,_,f2,_⟩:=e3 k _ hx
         have:=(hI.effs k _ hx).1 (hall _ (by have:=(List.getElem?_eq_some_iff.1 f2).1;simpa using this))
         omega
        ·have:=hI.kle;omega
   have:hl=hk:=by
        have:=lastH_at hlast e1
        rw[←hkl,hhk]at this
        simpa using this.symm
   subst this
   exact⟨rfl,ρ,⟨end_tr hI hs0.tr hs0.size hall hF,hI.nx.rel,hI.fresh,hI.tsize,by rw[hI.defers];exact hs0.defers.nx hs0.hr hI.nx,Nat.le_trans hs0.base hI.nx.size⟩,hI.nx,hI.fresh,hI.kp⟩
  intro fuel
  induction fuel with
  |zero=>
   intro listed k hk ρ a w hI hhk hc
   have hall:∀i,i<ops.size->On listed i:=by
        intro i hi
        have h0:(List.range ops.size).countP (fun i=>!listed.getD i false)=0:=by omega
        have:=List.countP_eq_zero.1 h0 i (by simpa using hi)
        unfold On
        cases hh:listed.getD i false with
        |true=>rfl
        |false=>rw[hh]at this;simp at this
   refine⟨?_,done _ _ _ _ _ _ hI hhk hall⟩
   cases hr:Region.ready .any ops listed with
   |nil=>rfl
   |cons x xs=>
    have hx:x∈Region.ready .any ops listed:=by rw[hr];simp
    obtain⟨q1,o,q2,_⟩:=mem_ready.1 hx
    have:=hall x (Array.getElem?_eq_some_iff.1 q2).1
    unfold On at this
    have hlt:x<listed.size:=by rw[hI.lsize];exact(Array.getElem?_eq_some_iff.1 q2).1
    simp[hlt]at q1 this
    rw[q1]at this;simp at this
  |succ fuel ih=>
   intro listed k hk ρ a w hI hhk hc
   refine⟨fun hr=>done _ _ _ _ _ _ hI hhk (all_on hok hI.lsize hr),fun i hi=>?_⟩
   obtain⟨q1,o,q2,q3⟩:=mem_ready.1 hi
   have hlt:i<listed.size:=by rw[hI.lsize];exact(Array.getElem?_eq_some_iff.1 q2).1
   have hno:listed.getD i false=false:=by simp[hlt]at q1⊢;exact q1
   refine stepAnyP (plainCall_ok hcall) hok hch hdr hchk hs0.tr hs0.size hI hhk ⟨q2,by unfold On;rw[hno];simp,fun e he hb=>q3 e (by simpa using he) hb⟩ fun k' hk' ρ' a' w' hhk' hI'=>ih _ _ _ _ _ _ hI' hhk' ?_
   have:=count_lt (l:=List.range ops.size) (x:=i) (p:=fun i=>!listed.getD i false) (q:=fun j=>!(listed.setIfInBounds i true).getD j false) (by simpa using(Array.getElem?_eq_some_iff.1 q2).1) (by simp only[hno,Bool.not_false]) (by
        have:On (listed.setIfInBounds i true) i:=(on_set hlt).2 (.inr rfl)
        unfold On at this;rw[this];rfl) (fun y hy=>by
        cases hh:listed.getD y false with
        |false=>rfl
        |true=>
         have:On (listed.setIfInBounds i true) y:=(on_set hlt).2 (.inl hh)
         unfold On at this;rw[this]at hy;simp at hy)
   omega
 refine wpIn_region_draw fun t=>?_
 simp only[Region.schedule,hm,Bool.true_or,if_true]
 refine wpOps_in (noDefer_at hnd) (by rintro ⟨_,_,hh,_⟩;simp[Ex.out]at hh) _ _ _ (wpAny_sound ops.size t _ a0 _ (main ops.size (Array.replicate ops.size false) 0 hk0 ρ0 a0 _ ?_ e2 (Nat.le_trans List.countP_le_length (by simp))))
 have hno:∀i,¬On (Array.replicate ops.size false) i:=fun i=>by
  unfold On
  rw[Array.getD_eq_getD_getElem?,Array.getElem?_replicate]
  split<;>simp
 have hd:=Nx.drew (w':={w0 with drawn:=w0.drawn+1}) hs0.hr rfl ⟨rfl,rfl,rfl⟩
 refine⟨by simp,fun i o _ hi=>absurd hi (hno i),fun l e hl=>⟨fun hh=>absurd hh (hno e),fun hh=>by omega⟩,Nat.zero_le _,hd.ext hs0.fresh e2'.old,fun c hc=>hs0.fresh c (Nat.le_trans e2'.next hc),⟨e2'.next,fun c hc e=>⟨e,e2'.old c hc⟩⟩,fun i v b o p hi _=>?_,fun t=>.inr ⟨fun j o _ _=>hno j,rfl⟩,hs0.size,rfl⟩
 refine⟨hs0.fresh b (e2'' i v b o p hi (Nat.zero_le _)),fun hp=>?_⟩
 have:p=0:=by omega
 subst this
 obtain⟨q1,q2,q3⟩:=e2'.at_ i v b o hi
 exact⟨q3,q2⟩
end
end Go.Proofs.YtghmnaojmpjglaaGreatDoor.Eo
