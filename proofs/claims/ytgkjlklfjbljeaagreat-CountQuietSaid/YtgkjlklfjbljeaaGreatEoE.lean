/-
  An evaluator of Go code is sound. No condition.
-/
import Derived.Test.YtgkjlklfjbljeaaGreatEoD
import Derived.Below
import Derived.Test.YtgkjlklfjbljeaaGreatEoC
set_option linter.all false
namespace Go.Proofs.YtgkjlklfjbljeaaGreat.Eo
noncomputable section
class KW(α:Type) where
 k:α->Prop
class PW where
 p:Prop
def gw{α:Type}(o:Option α)[K:KW α]:Prop:=match o with
 |some x=>K.k x
 |none=>False
abbrev xJ{α:Type}(o:Option α)(K:α->Prop):Prop:=@gw α o ⟨K⟩
theorem gm{α:Type}{o:Option α}{K:α->Prop}(h:xJ o K):∃x,o=some x/\K x:=by
 cases o with
 |none=>exact h.elim
 |some x=>exact⟨x,rfl,h⟩
theorem fP{α:Type}{o:Option α}{K:α->Prop}{x:α}(h:o=some x)(k:K x):xJ o K:=by rw[h];exact k
def BU(b:Bool)[A:PW][B:PW]:Prop:=match b with
 |true=>A.p
 |false=>B.p
abbrev adR(b:Bool)(A B:Prop):Prop:=@BU b ⟨A⟩ ⟨B⟩
def GI:AV->Option Bool
 | .bool b=>some b
 |_=>none
structure SQ where
 dst:Option Nat
 gd:Option (Nat×Bool)
 c:HL
def cGd(ops:List Oper)(o:Oper):Option (Option (Nat×Bool)):=match o.guard with
 |none=>some none
 |some (j,want)=>match uk ops j with
  |some t=>some (some (t,want))
  |none=>none
def sH(tm:T AV)(g:Option (Nat×Bool)):Option Bool:=match g with
 |none=>some true
 |some (t,want)=>match tm.get t with
  |some (.bool b)=>some (match b,want with|true,true=>true|false,false=>true|_,_=>false)
  |some (.aE _)=>some false
  |_=>none
theorem DM{ops:List Oper}{o:Oper}{g:Option (Nat×Bool)}(h:cGd ops o=some g)(tm:T AV):nh ops tm o=sH tm g:=by
 unfold cGd at h;unfold nh;split at h
 ·rename_i hg;simp at h;subst h;rw[hg];rfl
 ·rename_i j want hg;split at h
  ·rename_i t ht;simp at h;subst h;rw[hg];simp only[ht];rfl
  ·simp at h
def dLt(N:Nat)(d:Option Nat):Bool:=match d with
 |none=>true
 |some d=>Nat.ble (d+1) N
def rL(tm:T AV)(d:Option Nat)(v:AV):T AV:=match d with
 |none=>tm
 |some d=>tm.set d v
theorem BX{N:Nat}{d:Option Nat}(h:dLt N d=true)(tm:T AV)(v:AV):tD N tm d v=some (rL tm d v):=by
 unfold dLt at h;unfold tD rL;split at h
 ·rfl
 ·rename_i d';simp[h]
def cSQ(P:Program)(N:Nat)(ops:List Oper)(o:Oper):Option SQ:=match cGd ops o,pU P o,dLt N o.dst with
 |some g,some c,true=>some ⟨o.dst,g,c⟩
 |_,_,_=>none
def DN(P:Program)(N:Nat)(ops:List Oper):List Oper->Option (List SQ)
 | []=>some []
 |o::l=>match cSQ P N ops o,DN P N ops l with
  |some q,some r=>some (q::r)
  |_,_=>none
def WS(P:Program)(call:ab):List SQ->(T AV->H->Prop)->T AV->H->Prop
 | [],K,tm,h=>K tm h
 |q::l,K,tm,h=>xJ (sH tm q.gd) fun b=>adR b (xJ (kx P call tm h q.c) fun r=>WS P call l K (rL tm q.dst r.1) r.2) (WS P call l K (rL tm q.dst (.aE [])) h)
theorem sI{P:Program}{call:ab}{N:Nat}{ops:List Oper}:∀{l:List Oper} {qs:List SQ},DN P N ops l=some qs->∀{K:T AV->H->Prop} {tm:T AV} {h:H},WS P call qs K tm h->∃aC h',ni P call ops N l tm h=some (aC,h')/\K aC h'
 | [],qs,hc,K,tm,h,hw=>by
   simp[DN]at hc;subst hc;exact⟨tm,h,rfl,hw⟩
 |o::l,qs,hc,K,tm,h,hw=>by
  unfold DN at hc;split at hc
  ·rename_i q r hq hr;simp at hc;subst hc;unfold cSQ at hq;split at hq
   ·rename_i g c hg hco hd;simp at hq;subst hq;unfold WS at hw;unfold ni mr;rw[DM hg,hco];obtain⟨b,Rz,hw⟩:=gm hw;simp only[]at Rz⊢;rw[Rz];cases b with
    |true=>
     obtain⟨⟨v,h'⟩,hev,hw⟩:=gm hw;simp only[]at hev⊢;rw[hev];simp only[BX hd];exact sI hr hw
    |false=>
     simp only[BX hd];exact sI hr hw
   ·simp at hq
  ·simp at hc
structure DQ where
 i:Nat
 lk:List (Nat×Option Nat)
 gd:Option (Nat×Bool)
 c:HL
def MI(P:Program)(ops:List Oper)(m:T Nat)(N i:Nat):Option DQ:=match ops[i]? with
 |some o=>match Dy ops m N i o.dst,nZ ops m i (slotsOf ops o),cGd ops o,pU P o with
  |true,some lk,some g,some c=>some ⟨i,lk,g,c⟩
  |_,_,_,_=>none
 |none=>none
def DO(P:Program)(ops:List Oper)(m:T Nat)(N:Nat):List Nat->Option (List DQ)
 | []=>some []
 |i::l=>match MI P ops m N i,DO P ops m N l with
  |some q,some r=>some (q::r)
  |_,_=>none
def xK(P:Program)(ops:List Oper)(m:T Nat)(N:Nat):List (List Nat×Option Nat)->Option (List (List DQ×Option DQ))
 | []=>some []
 |(ids,none)::l=>match DO P ops m N ids,xK P ops m N l with
  |some qs,some r=>some ((qs,none)::r)
  |_,_=>none
 |(ids,some e)::l=>match DO P ops m N ids,MI P ops m N e,xK P ops m N l with
  |some qs,some q,some r=>some ((qs,some q)::r)
  |_,_,_=>none
def adT(P:Program)(tm:T AV)(h:H)(ph:Nat):HL->Option (Rec×H)
 | .p x=>match mN P tm x with
   |some v=>some (.quiet v,h)
   |none=>none
 | .r x=>match Iq tm h.t.get x with
   |some v=>some (.read v,h)
   |none=>none
 | .l x=>match tS tm h.t.get x with
   |some v=>some (.read v,h)
   |none=>none
 | .s x=>match HJ tm h.t.get x with
   |some v=>some (.read v,h)
   |none=>none
 | .n x=>match MF tm x with
   |some (ao,f)=>some (.alloc (f h.next) h.next ao ph,⟨h.next+1,h.t.set h.next ao⟩)
   |none=>none
 |_=>none
def qGo(P:Program)(aQ:T AV)(ph:Nat)(F:T Rec)(h:H)(q:DQ):Option (Rec×H):=match kU aQ F q.lk with
 |some tm=>match sH tm q.gd with
  |some true=>adT P tm h ph q.c
  |some false=>some (.quiet (.aE []),h)
  |none=>none
 |none=>none
def X0(P:Program)(call:ab)(aQ:T AV)(F:T Rec)(h:H)(q:DQ):Option (AV×H):=match kU aQ F q.lk with
 |some tm=>match sH tm q.gd with
  |some true=>kx P call tm h q.c
  |some false=>some (.aE [],h)
  |none=>none
 |none=>none
theorem nF{P:Program}{ops:List Oper}{m:T Nat}{N i:Nat}{q:DQ}(h:MI P ops m N i=some q):∃o,ops[i]?=some o/\q.i=i/\pU P o=some q.c/\
 (∀aQ F,dt ops m N aQ F i o=kU aQ F q.lk)/\(∀tm,nh ops tm o=sH tm q.gd):=by
 unfold MI at h;split at h
 ·rename_i o ho;split at h
  ·rename_i lk g c h1 h2 h3 h4;simp at h;subst h;refine⟨o,ho,rfl,h4,fun aQ F=>?_,fun tm=>DM h3 tm⟩;unfold dt;rw[h1,h2]
  ·simp at h
 ·simp at h
theorem W9{P:Program}{ops:List Oper}{m:T Nat}{N i:Nat}{q:DQ}(h:MI P ops m N i=some q)(aQ:T AV)(ph:Nat)(F:T Rec)(hp:H){o:Oper}(ho:ops[i]?=some o):
 BK P ops m N aQ ph F hp i o=qGo P aQ ph F hp q:=by
 obtain⟨o',h1,h2,h3,h4,h5⟩:=nF h;rw[ho]at h1;simp at h1;subst h1;unfold BK qGo;rw[h4];cases kU aQ F q.lk with
 |none=>rfl
 |some tm=>
  simp only[h5,h3];cases sH tm q.gd with
  |none=>rfl
  |some b=>
   cases b with
   |false=>rfl
   |true=>simp only[];cases q.c<;>rfl
theorem Xa{P:Program}{call:ab}{ops:List Oper}{m:T Nat}{N i:Nat}{q:DQ}(h:MI P ops m N i=some q)(aQ:T AV)(F:T Rec)(hp:H){o:Oper}(ho:ops[i]?=some o):
 MH P call ops m N aQ F hp i o=X0 P call aQ F hp q:=by
 obtain⟨o',h1,h2,h3,h4,h5⟩:=nF h;rw[ho]at h1;simp at h1;subst h1;unfold MH X0;rw[h4];cases kU aQ F q.lk with
 |none=>rfl
 |some tm=>
  simp only[h5,h3];cases sH tm q.gd with
  |none=>rfl
  |some b=>cases b<;>rfl
def DP(P:Program)(aQ:T AV)(ph:Nat):List DQ->(T Rec->H->Prop)->T Rec->H->Prop
 | [],K,F,h=>K F h
 |q::l,K,F,h=>xJ (qGo P aQ ph F h q) fun r=>DP P aQ ph l K (F.set q.i r.1) r.2
def Fc(P:Program)(call:ab)(aQ:T AV):Nat->List (List DQ×Option DQ)->(T Rec->List H->Prop)->T Rec->H->Prop
 |_,[],K,F,h=>False
 |ph,(qs,none)::_,K,F,h=>DP P aQ ph qs (fun F h=>K F [h]) F h
 |ph,(qs,some e)::rest,K,F,h=>DP P aQ ph qs (fun F1 h1=>xJ (X0 P call aQ F1 h1 e) fun r=>h1.next<=r.2.next/\Fc P call aQ (ph+1) rest (fun F' hs=>K F' (h1::hs)) (F1.set e.i (.BJ r.1)) r.2) F h
theorem tM{P:Program}{ops:List Oper}{m:T Nat}{N:Nat}{aQ:T AV}{ph:Nat}:∀{ids:List Nat} {qs:List DQ},DO P ops m N ids=some qs->ids.Nodup->∀{K:T Rec->H->Prop} {F:T Rec} {h:H},(∀i∈ids,F.get i=none)->DP P aQ ph qs K F h->
 ∃F' h',HP P ops m N aQ ph ids F h=some (F',h')/\(∀i,i∉ids->F'.get i=F.get i)/\K F' h'
 | [],qs,hc,_,K,F,h,_,hw=>by
   simp[DO]at hc;subst hc;exact⟨F,h,rfl,fun _ _=>rfl,hw⟩
 |i::l,qs,hc,hn,K,F,h,hF,hw=>by
  unfold DO at hc;split at hc
  ·rename_i q r hq hr;simp at hc;subst hc;obtain⟨o,ho,hi,_⟩:=nF hq;unfold DP at hw;rw[←W9 hq aQ ph F h ho]at hw
   ·obtain⟨⟨rc,h1⟩,hgo,hw⟩:=gm hw;simp only[]at hw;rw[hi]at hw;obtain⟨hn1,hn2⟩:=List.nodup_cons.1 hn;obtain⟨F',h',k1,k2,k3⟩:=tM hr hn2 (fun j hj=>by
     rw[T.ay,if_neg (by rintro rfl;exact hn1 hj)];exact hF j (List.mem_cons_of_mem _ hj)) hw
    refine⟨F',h',?_,fun j hj=>?_,k3⟩
    ·unfold HP;rw[ho,hF i (List.mem_cons_self ..)];simp only[hgo];exact k1
    ·rw[k2 j (fun e=>hj (List.mem_cons_of_mem _ e)),T.ay,if_neg (by rintro rfl;exact hj (List.mem_cons_self ..))]
  ·simp at hc
def sJ:List (List Nat×Option Nat)->List Nat
 | []=>[]
 |(ids,none)::_=>ids
 |(ids,some e)::l=>ids++e::sJ l
theorem Am{P:Program}{call:ab}{ops:List Oper}{m:T Nat}{N:Nat}{aQ:T AV}:∀{l:List (List Nat×Option Nat)} {ps:List (List DQ×Option DQ)},xK P ops m N l=some ps->(sJ l).Nodup->∀{ph:Nat} {K:T Rec->List H->Prop} {F:T Rec} {h:H},(∀i∈sJ l,F.get i=none)->Fc P call aQ ph ps K F h->
 ∃F' hs,yB P call ops m N aQ ph l F h=some (F',hs)/\K F' hs
 | [],ps,hc,_,ph,K,F,h,_,hw=>by simp[xK]at hc;subst hc;exact hw.elim
 |(ids,none)::l,ps,hc,hn,ph,K,F,h,hF,hw=>by
  unfold xK at hc;split at hc
  ·rename_i qs r hq hr;simp at hc;subst hc;obtain⟨F',h',k1,_,k3⟩:=tM hq hn hF hw;exact⟨F',[h'],by unfold yB;rw[k1],k3⟩
  ·simp at hc
 |(ids,some e)::l,ps,hc,hn,ph,K,F,h,hF,hw=>by
  unfold xK at hc;split at hc
  ·rename_i qs q r hq he hr;simp at hc;subst hc;simp only[sJ]at hn hF;obtain⟨n1,n2,n3⟩:=List.nodup_append.1 hn;obtain⟨n4,n5⟩:=List.nodup_cons.1 n2;obtain⟨F1,h1,k1,k2,k3⟩:=tM hq n1 (fun i hi=>hF i (List.mem_append_left _ hi)) hw;obtain⟨o,ho,hie,_⟩:=nF he;rw[←Xa he aQ F1 h1 ho]at k3
   ·obtain⟨⟨v,h2⟩,hgo,hle,k4⟩:=gm k3;simp only[]at hle k4;have hFe:F1.get e=none:=by
       rw[k2 e (fun hh=>n3 e hh e (List.mem_cons_self ..) rfl)];exact hF e (List.mem_append_right _ (List.mem_cons_self ..))
    rw[hie]at k4;obtain⟨F',hs,j1,j2⟩:=Am hr n5 (fun i hi=>by
       rw[T.ay,if_neg (by rintro rfl;exact n4 hi),k2 i (fun hh=>n3 i hh i (List.mem_cons_of_mem _ hi) rfl)];exact hF i (List.mem_append_right _ (List.mem_cons_of_mem _ hi))) k4
    refine⟨F',h1::hs,?_,j2⟩;unfold yB;rw[k1];simp only[ho,hFe,hgo,Nat.ble_eq_true_of_le hle,j1]
  ·simp at hc
def X1(P:Program)(tm:T AV)(h:H):HL->Option AV
 | .r x=>Iq tm h.t.get x
 | .l x=>tS tm h.t.get x
 | .s x=>HJ tm h.t.get x
 |_=>none
def P3:HL->Bool
 | .r _=>true
 | .l _=>true
 | .s _=>true
 |_=>false
def L0:HL->Bool
 | .n _=>true
 |_=>false
def DS(P:Program)(aQ:T AV)(F:T Rec)(hs:List H):List (DQ×List Nat)->Prop
 | []=>True
 |(q,ls)::l=>(match F.get q.i with
  |some (.read v)=>match kU aQ F q.lk with
   |some tm=>∀k∈ls,match hs[k]? with
    |some h=>X1 P tm h q.c=some v
    |none=>True
   |none=>False
  |_=>True)/\DS P aQ F hs l
theorem tN{P:Program}{ops:List Oper}{m:T Nat}{N:Nat}{aQ:T AV}{ph:Nat}:∀{ids:List Nat} {F F1:T Rec} {h h1:H},HP P ops m N aQ ph ids F h=some (F1,h1)->
 (∀i∈ids,∀o c,ops[i]?=some o->pU P o=some c->L0 c=false)->h1=h/\∀i∈ids,∃o Fi r,ops[i]?=some o/\BK P ops m N aQ ph Fi h i o=some (r,h)/\F1.get i=some r/\Sub Fi F1
 | [],F,F1,h,h1,e,_=>by
   simp[HP]at e;obtain⟨rfl,rfl⟩:=e;exact⟨rfl,by simp⟩
 |i::l,F,F1,h,h1,e,MU=>by
  unfold HP at e;split at e
  ·rename_i o ho hF;split at e
   ·rename_i r h2 hq;have XW:h2=h:=by
     have Cl:=hq;unfold BK at Cl;split at Cl
     ·split at Cl
      ·simp at Cl;exact Cl.2.symm
      ·rename_i hx;split at Cl
       all_goals first
        |(split at Cl
          ·first
           |(simp at Cl;exact Cl.2.symm)
           |(rename_i hc _ _ _ _
             have:=MU i (List.mem_cons_self ..) o _ ho hc;simp[L0]at this)
          ·simp at Cl)
        |(simp at Cl;done)
      ·simp at Cl
     ·simp at Cl
    subst XW;obtain⟨k1,k2,_⟩:=fh e;obtain⟨j1,j2⟩:=tN e (fun j hj=>MU j (List.mem_cons_of_mem _ hj));refine⟨j1,fun j hj=>?_⟩;rcases List.mem_cons.1 hj with rfl|hj
    ·exact⟨o,F,r,ho,hq,k1 _ _ (by rw[T.ay,if_pos rfl]),(Sub.set hF).trans k1⟩
    ·exact j2 j hj
   ·simp at e
  ·simp at e
theorem An{P:Program}{call:ab}{ops:List Oper}{m:T Nat}{N:Nat}{aQ:T AV}:∀{l:List (List Nat×Option Nat)} {ph:Nat} {F0 F:T Rec} {h:H} {hs:List H},yB P call ops m N aQ ph l F0 h=some (F,hs)->
 Sub F0 F/\∀k ids e,l[k]?=some (ids,e)->(∀k' pY,k'<k->l[k']?=some (pY,none)->False)->(∀i∈ids,∀o c,ops[i]?=some o->pU P o=some c->L0 c=false)->
  ∃hk,hs[k]?=some hk/\∀i∈ids,∃o Fi r,ops[i]?=some o/\BK P ops m N aQ (ph+k) Fi hk i o=some (r,hk)/\F.get i=some r/\Sub Fi F
 | [],ph,F0,F,h,hs,e=>by simp[yB]at e
 |(ids,none)::l,ph,F0,F,h,hs,e=>by
  unfold yB at e;split at e
  ·rename_i F1 h1 hp;simp at e;obtain⟨rfl,rfl⟩:=e;refine⟨(fh hp).1,fun k pY e' hk L3 MU=>?_⟩;cases k with
   |zero=>
    simp at hk;obtain⟨rfl,rfl⟩:=hk;obtain⟨j1,j2⟩:=tN hp MU;subst j1;exact⟨_,rfl,j2⟩
   |succ k=>exact(L3 0 ids (Nat.succ_pos _) rfl).elim
  ·simp at e
 |(ids,some x)::l,ph,F0,F,h,hs,e=>by
  unfold yB at e;split at e
  ·rename_i F1 h1 hp;split at e
   ·rename_i o ho hFx;split at e
    ·rename_i v h2 hv;split at e
     ·split at e
      ·rename_i F' Ck hd;simp at e;obtain⟨rfl,rfl⟩:=e;obtain⟨q1,q2⟩:=An hd;have oD:Sub F1 F':=(Sub.set hFx).trans q1;refine⟨(fh hp).1.trans oD,fun k pY e' hk L3 MU=>?_⟩;cases k with
       |zero=>
        simp at hk;obtain⟨rfl,rfl⟩:=hk;obtain⟨j1,j2⟩:=tN hp MU;subst j1;refine⟨_,rfl,fun i hi=>?_⟩;obtain⟨o',Fi,r,a1,a2,a3,a4⟩:=j2 i hi;exact⟨o',Fi,r,a1,a2,oD _ _ a3,a4.trans oD⟩
       |succ k=>
        simp at hk;obtain⟨nc,a1,a2⟩:=q2 k pY e' hk (fun k' L4 df hh=>L3 (k'+1) L4 (by omega) (by simpa using hh)) MU;refine⟨nc,by simpa using a1,fun i hi=>?_⟩;have:=a2 i hi
        rwa [show ph+1+k=ph+(k+1) by omega]at this
      ·simp at e
     ·simp at e
    ·simp at e
   ·simp at e
  ·simp at e
structure DR where
 Ao:List (List DQ×Option DQ)
 fin:List (Nat×Nat)
 chk:List (DQ×List Nat)
def sK:List Oper->Nat->List (Nat×Nat)
 | [],_=>[]
 |o::l,i=>match o.dst with
  |some d=>(i,d)::sK l (i+1)
  |none=>sK l (i+1)
def uP(F:T Rec):List (Nat×Nat)->T AV->T AV
 | [],tm=>tm
 |(i,d)::l,tm=>match F.get i with
  |some r=>uP F l (tm.set d r.val)
  |none=>uP F l tm
theorem DT{P:Program}{ops:List Oper}{m:T Nat}{N:Nat}{aQ:T AV}{ph:Nat}{F:T Rec}{h h':H}{i:Nat}{o:Oper}{v:AV}(e:BK P ops m N aQ ph F h i o=some (.read v,h')):
 ∃tm c,dt ops m N aQ F i o=some tm/\pU P o=some c/\P3 c=true/\X1 P tm h c=some v:=by
 unfold BK at e;split at e
 ·rename_i tm ht;split at e
  ·simp at e
  ·split at e
   all_goals first
        |(rename_i hc
          split at e
          ·rename_i v' hv
           first
            |(simp at e;obtain⟨rfl,_⟩:=e
              exact⟨tm,_,ht,hc,rfl,hv⟩)
            |(simp at e;done)
          ·simp at e)
        |(simp at e;done)
  ·simp at e
 ·simp at e
theorem Xb{P:Program}{ops:List Oper}{m:T Nat}{N:Nat}{aQ:T AV}{ph:Nat}{F:T Rec}{h h':H}{i:Nat}{o:Oper}{v:AV}{a q:Nat}{ao:AO}(e:BK P ops m N aQ ph F h i o=some (.alloc v a ao q,h')):q=ph:=by
 rcases(ny e).2 with⟨_,hh⟩|⟨v',E5,hh,_⟩
 ·exact absurd rfl (hh v a ao q)
 ·simp at hh;exact hh.2.2.2
theorem Fe{P:Program}{ops:List Oper}{m:T Nat}{N:Nat}{aQ:T AV}{ph:Nat}:∀{ids:List Nat} {F F1:T Rec} {h h1:H},HP P ops m N aQ ph ids F h=some (F1,h1)->
 ∀i∈ids,∃o Fi hi FG r,ops[i]?=some o/\BK P ops m N aQ ph Fi hi i o=some (r,FG)/\F1.get i=some r/\Sub Fi F1
 | [],F,F1,h,h1,e=>by simp
 |i::l,F,F1,h,h1,e=>by
  unfold HP at e;split at e
  ·rename_i o ho hF;split at e
   ·rename_i r h2 hq;obtain⟨k1,k2,_⟩:=fh e;intro j hj;rcases List.mem_cons.1 hj with rfl|hj
    ·exact⟨o,F,h,h2,r,ho,hq,k1 _ _ (by rw[T.ay,if_pos rfl]),(Sub.set hF).trans k1⟩
    ·exact Fe e j hj
   ·simp at e
  ·simp at e
theorem L5{P:Program}{call:ab}{ops:List Oper}{m:T Nat}{N:Nat}{aQ:T AV}:∀{l:List (List Nat×Option Nat)} {ph:Nat} {F0 F:T Rec} {h:H} {hs:List H},yB P call ops m N aQ ph l F0 h=some (F,hs)->
 Sub F0 F/\hs.length<=l.length/\∀i∈sJ l,(∃(v:AV) (k:Nat) (ids:List Nat),l[k]?=some (ids,some i)/\F.get i=some (.BJ v))\/
  ∃(k:Nat) (ids:List Nat) (e:Option Nat),l[k]?=some (ids,e)/\(∀k' pY,k'<k->l[k']?=some (pY,none)->False)/\i∈ids/\∃o Fi hi FG r,ops[i]?=some o/\BK P ops m N aQ (ph+k) Fi hi i o=some (r,FG)/\F.get i=some r/\Sub Fi F
 | [],ph,F0,F,h,hs,e=>by simp[yB]at e
 |(ids,none)::l,ph,F0,F,h,hs,e=>by
  unfold yB at e;split at e
  ·rename_i F1 h1 hp;simp at e;obtain⟨rfl,rfl⟩:=e;refine⟨(fh hp).1,by simp,fun i hi=>.inr ⟨0,ids,none,rfl,fun k' _ h=>by omega,hi,?_⟩⟩;exact Fe hp i hi
  ·simp at e
 |(ids,some x)::l,ph,F0,F,h,hs,e=>by
  unfold yB at e;split at e
  ·rename_i F1 h1 hp;split at e
   ·rename_i o ho hFx;split at e
    ·rename_i v h2 hv;split at e
     ·split at e
      ·rename_i F' Ck hd;simp at e;obtain⟨rfl,rfl⟩:=e;obtain⟨q1,q2,q3⟩:=L5 hd;have oD:Sub F1 F':=(Sub.set hFx).trans q1;refine⟨(fh hp).1.trans oD,by simp;omega,fun i hi=>?_⟩;simp only[sJ,List.mem_append,List.mem_cons]at hi;rcases hi with hi|rfl|hi
       ·obtain⟨o',Fi,vf,H8,r,a1,a2,a3,a4⟩:=Fe hp i hi;exact .inr ⟨0,ids,some x,rfl,fun k' _ h=>by omega,hi,o',Fi,vf,H8,r,a1,a2,oD _ _ a3,a4.trans oD⟩
       ·exact .inl ⟨v,0,ids,rfl,q1 _ _ (by rw[T.ay,if_pos rfl])⟩
       ·rcases q3 i hi with⟨v',k,pY,b1,b2⟩|⟨k,pY,e',b1,b2,b3,o',Fi,vf,H8,r,a1,a2,a3,a4⟩
        ·exact .inl ⟨v',k+1,pY,by simpa using b1,b2⟩
        ·refine .inr ⟨k+1,pY,e',by simpa using b1,fun k' L4 df hh=>?_,b3,o',Fi,vf,H8,r,a1,by rwa [show ph+1+k=ph+(k+1) by omega]at a2,a3,a4⟩;cases k' with
         |zero=>simp at hh
         |succ k'=>exact b2 k' L4 (by omega) (by simpa using hh)
      ·simp at e
     ·simp at e
    ·simp at e
   ·simp at e
  ·simp at e
def xM(P:Program)(ops:List Oper)(ids:List Nat):Bool:=ids.all fun i=>match ops[i]? with
 |some o=>match pU P o with
  |some c=>!L0 c
  |none=>true
 |none=>true
def sL(P:Program)(ops:List Oper)(m:T Nat)(N:Nat)(es:List Nat)(n k:Nat)(still:Bool):List Nat->List (DQ×List Nat)
 | []=>[]
 |i::l=>match MI P ops m N i with
  |some q=>match P3 q.c,(List.range n).filter (fun j=>kY m i es j&&!(still&&Nat.beq j k))with
   |true,j::js=>(q,j::js)::sL P ops m N es n k still l
   |_,_=>sL P ops m N es n k still l
  |none=>sL P ops m N es n k still l
def xN(P:Program)(ops:List Oper)(m:T Nat)(N:Nat)(es:List Nat)(n:Nat):Nat->List (List Nat×Option Nat)->List (DQ×List Nat)
 |_,[]=>[]
 |k,(ids,_)::l=>sL P ops m N es n k (xM P ops ids) ids++xN P ops m N es n (k+1) l
def X3(m:T Nat)(es:List Nat):Nat->List (List Nat×Option Nat)->Bool
 |_,[]=>true
 |0,(ids,e)::l=>X3 m es 1 l
 |k+1,(ids,e)::l=>ids.all (fun i=>match es[k]? with
  |some x=>ss m i x
  |none=>false)&&X3 m es (k+2) l
def H4(es:List Nat):List (List Nat×Option Nat)->Bool
 | []=>true
 |(_,none)::l=>H4 es l
 |(_,some x)::l=>es.contains x&&H4 es l
def BZ:List Nat->Bool
 | []=>true
 |x::l=>!(l.any (Nat.beq x))&&BZ l
def Xc(ids:List Nat)(n:Nat):Bool:=(List.range n).all fun i=>ids.any (Nat.beq i)
def P4(P:Program)(ops:List Oper)(m:T Nat)(es:List Nat)(Ao:List (List Nat×Option Nat)):Bool:=
 da ops 0&&kn m es&&sE ops&&BZ (sJ Ao)&&Xc (sJ Ao) ops.length&&H4 es Ao&&X3 m es 0 Ao
def adW(P:Program)(ops:List Oper)(N:Nat)(m:T Nat)(es:List Nat)(Ao:List (List Nat×Option Nat)):Option DR:=match P4 P ops m es Ao with
 |true=>match xK P ops m N Ao with
  |some ps=>some ⟨ps,sK ops 0,xN P ops m N es Ao.length 0 Ao⟩
  |none=>none
 |false=>none
def cDR(P:Program)(N:Nat)(ops:List Oper):Option DR:=
 adW P ops N (cG ops) (bq P ops 0) (fT (cG ops) (bq P ops 0) ops.length 0 (bq P ops 0))
theorem uA:∀{l:List Nat},BZ l=true->l.Nodup
 | [],_=>List.nodup_nil
 |x::l,h=>by
  simp only[BZ,Bool.and_eq_true,Bool.not_eq_true',List.any_eq_false]at h;refine List.nodup_cons.2 ⟨fun hx=>?_,uA h.2⟩;exact h.1 x hx (by simp)
theorem H5{ids:List Nat}{n:Nat}(h:Xc ids n=true){i:Nat}(hi:i<n):i∈ids:=by
 unfold Xc at h;have:=List.all_eq_true.1 h i (by simpa using hi);obtain⟨j,h1,h2⟩:=List.any_eq_true.1 this;have:=Nat.eq_of_beq_eq_true h2;subst this;exact h1
theorem tO{es:List Nat}:∀{l:List (List Nat×Option Nat)},H4 es l=true->∀(k:Nat) (ids:List Nat) (x:Nat),l[k]?=some (ids,some x)->es.contains x=true
 | [],_,k,ids,x,h=>by simp at h
 |(_,none)::l,hb,k,ids,x,h=>by
  cases k with
  |zero=>simp at h
  |succ k=>exact tO (l:=l) (by simpa [H4]using hb) k ids x (by simpa using h)
 |(_,some y)::l,hb,k,ids,x,h=>by
  simp only[H4,Bool.and_eq_true]at hb;cases k with
  |zero=>simp at h;obtain⟨_,rfl⟩:=h;exact hb.1
  |succ k=>exact tO (l:=l) hb.2 k ids x (by simpa using h)
theorem xO{m:T Nat}{es:List Nat}:∀{l:List (List Nat×Option Nat)} {k0:Nat},X3 m es k0 l=true->∀(k:Nat) (ids:List Nat) (e:Option Nat) (q:Nat),l[k]?=some (ids,e)->k0+k=q+1->∀i∈ids,∃x,es[q]?=some x/\ss m i x=true
 | [],_,_,k,ids,e,q,h,_,_,_=>by simp at h
 |(pY,e')::l,0,hb,k,ids,e,q,h,hk,i,hi=>by
  cases k with
  |zero=>omega
  |succ k=>exact xO (l:=l) (k0:=1) (by simpa [X3]using hb) k ids e q (by simpa using h) (by omega) i hi
 |(pY,e')::l,k0+1,hb,k,ids,e,q,h,hk,i,hi=>by
  simp only[X3,Bool.and_eq_true]at hb;cases k with
  |zero=>
   simp at h;obtain⟨rfl,rfl⟩:=h;have:q=k0:=by omega
   subst this;have:=List.all_eq_true.1 hb.1 i hi;split at this
   ·rename_i x hx;exact⟨x,hx,this⟩
   ·simp at this
  |succ k=>exact xO (l:=l) (k0:=k0+2) hb.2 k ids e q (by simpa using h) (by omega) i hi
theorem Ap{P:Program}{ops:List Oper}{m:T Nat}{N:Nat}{es:List Nat}{n k:Nat}{still:Bool}:∀{ids:List Nat} {i:Nat} {q:DQ},i∈ids->MI P ops m N i=some q->P3 q.c=true->∀j,j<n->kY m i es j=true->¬(still=true/\j=k)->∃ls,(q,ls)∈sL P ops m N es n k still ids/\j∈ls
 | [],i,q,hi,_,_,j,_,_,_=>by simp at hi
 |x::l,i,q,hi,hq,hrd,j,hj,P5,V4=>by
  have hf:j∈(List.range n).filter (fun j=>kY m i es j&&!(still&&Nat.beq j k)):=by
   rw[List.mem_filter];refine⟨by simpa using hj,?_⟩;rw[P5];cases still with
   |false=>rfl
   |true=>
    have:¬j=k:=fun e=>V4 ⟨rfl,e⟩
    have hb:j.beq k=false:=by rw[beq_iff];simp[this]
    simp[hb]
  rcases List.mem_cons.1 hi with rfl|hi
  ·unfold sL;rw[hq];simp only[hrd];cases hl:(List.range n).filter (fun j=>kY m i es j&&!(still&&Nat.beq j k))with
   |nil=>rw[hl]at hf;simp at hf
   |cons a b=>
    rw[hl]at hf;exact⟨_,List.mem_cons_self ..,hf⟩
  ·obtain⟨ls,h1,h2⟩:=Ap (still:=still) hi hq hrd j hj P5 V4;refine⟨ls,?_,h2⟩;unfold sL;split
   ·split
    ·exact List.mem_cons_of_mem _ h1
    ·exact h1
   ·exact h1
theorem xP{P:Program}{ops:List Oper}{m:T Nat}{N:Nat}{es:List Nat}{n:Nat}:∀{l:List (List Nat×Option Nat)} {k0 k:Nat} {ids:List Nat} {e:Option Nat} {x:DQ×List Nat},l[k]?=some (ids,e)->x∈sL P ops m N es n (k0+k) (xM P ops ids) ids->x∈xN P ops m N es n k0 l
 | [],k0,k,ids,e,x,h,_=>by simp at h
 |(pY,e')::l,k0,k,ids,e,x,h,hx=>by
  unfold xN;cases k with
  |zero=>simp at h;obtain⟨rfl,rfl⟩:=h;exact List.mem_append_left _ hx
  |succ k=>exact List.mem_append_right _ (xP (l:=l) (k0:=k0+1) (k:=k) (by simpa using h) (by rwa [show k0+1+k=k0+(k+1) by omega]))
theorem DU{P:Program}{aQ:T AV}{F:T Rec}{hs:List H}:∀{l:List (DQ×List Nat)},DS P aQ F hs l->∀q ls,(q,ls)∈l->∀v,F.get q.i=some (.read v)->∃tm,kU aQ F q.lk=some tm/\∀k∈ls,∀h,hs[k]?=some h->X1 P tm h q.c=some v
 | [],_,q,ls,h,v,_=>by simp at h
 |(q',ls')::l,hc,q,ls,hm,v,hv=>by
  unfold DS at hc;rcases List.mem_cons.1 hm with e|hm
  ·simp at e;obtain⟨rfl,rfl⟩:=e;have h1:=hc.1;rw[hv]at h1;simp only[]at h1;split at h1
   ·rename_i tm yl;refine⟨tm,yl,fun k hk h hh=>?_⟩;have:=h1 k hk;rw[hh]at this;exact this
   ·exact h1.elim
  ·exact DU hc.2 q ls hm v hv
theorem DV{P:Program}{ops:List Oper}{ids:List Nat}(h:xM P ops ids=true):∀i∈ids,∀o c,ops[i]?=some o->pU P o=some c->L0 c=false:=by
 intro i hi o c ho hc;have:=List.all_eq_true.1 h i hi;rw[ho]at this;simp only[hc]at this;simpa using this
theorem xQ{P:Program}{ops:List Oper}{m:T Nat}{N:Nat}:∀{ids:List Nat} {qs:List DQ},DO P ops m N ids=some qs->∀i∈ids,∃q,MI P ops m N i=some q
 | [],qs,_,i,hi=>by simp at hi
 |x::l,qs,h,i,hi=>by
  unfold DO at h;split at h
  ·rename_i q r hq hr;rcases List.mem_cons.1 hi with rfl|hi
   ·exact⟨q,hq⟩
   ·exact xQ hr i hi
  ·simp at h
theorem xR{P:Program}{ops:List Oper}{m:T Nat}{N:Nat}:∀{l:List (List Nat×Option Nat)} {ps:List (List DQ×Option DQ)},xK P ops m N l=some ps->∀(k:Nat) (ids:List Nat) (e:Option Nat),l[k]?=some (ids,e)->∀i∈ids,∃q,MI P ops m N i=some q
 | [],ps,_,k,ids,e,h,_,_=>by simp at h
 |(pY,none)::l,ps,hc,k,ids,e,h,i,hi=>by
  unfold xK at hc;split at hc
  ·rename_i qs r hq hr;cases k with
   |zero=>simp at h;obtain⟨rfl,rfl⟩:=h;exact xQ hq i hi
   |succ k=>exact xR hr k ids e (by simpa using h) i hi
  ·simp at hc
 |(pY,some x)::l,ps,hc,k,ids,e,h,i,hi=>by
  unfold xK at hc;split at hc
  ·rename_i qs q r hq he hr;cases k with
   |zero=>simp at h;obtain⟨rfl,rfl⟩:=h;exact xQ hq i hi
   |succ k=>exact xR hr k ids e (by simpa using h) i hi
  ·simp at hc
theorem P6{P:Program}{call:ab}{ops:List Oper}{N:Nat}{aQ:T AV}{m:T Nat}{es:List Nat}{Ao:List (List Nat×Option Nat)}(L6:P4 P ops m es Ao=true)
 {ps:List (List DQ×Option DQ)} (XZ:xK P ops m N Ao=some ps) {F:T Rec} {h:H} {hs:List H} (B8:yB P call ops m N aQ 0 Ao .e h=some (F,hs)) (hw:DS P aQ F hs (xN P ops m N es Ao.length 0 Ao)):W8 P ops m N es aQ F hs:=by
 simp only[P4,Bool.and_eq_true]at L6;obtain⟨⟨⟨⟨⟨⟨c1,c2⟩,c3⟩,c4⟩,c5⟩,c6⟩,c7⟩:=L6;obtain⟨_,hlen,B7⟩:=L5 B8;intro i o ho;have hi:i∈sJ Ao:=H5 c5 (List.getElem?_eq_some_iff.1 ho).1;rcases B7 i hi with⟨v,k,ids,h1,h2⟩|⟨k,ids,e,h1,h2,h3,o',Fi,vf,H8,r,a1,a2,a3,a4⟩
 ·exact⟨_,h2,by simp,by simp,fun _ _=>tO c6 k ids i h1⟩
 ·rw[ho]at a1;simp at a1;subst a1;refine⟨r,a3,fun v hv=>?_,fun v a ao q hv=>?_,fun v hv=>absurd hv ((ny a2).1 v)⟩
  ·subst hv;obtain⟨tm,c,t1,t2,t3,t4⟩:=DT a2;refine⟨tm,fg a4 t1,fun l hl Wt P5=>?_⟩;have DC:mf P tm hl o=X1 P tm hl c:=by
     unfold mf;rw[t2];cases c<;>first|rfl|simp[P3]at t3
   rw[DC];obtain⟨q,hq⟩:=xR XZ k ids e h1 i h3;obtain⟨XY,q1,q2,q3,q4,q5⟩:=nF hq;rw[ho]at q1;simp at q1;subst q1;rw[t2]at q3;simp at q3;subst q3;have again:(∃ls,(q,ls)∈sL P ops m N es Ao.length k (xM P ops ids) ids/\l∈ls)->X1 P tm hl q.c=some v:=by
     rintro ⟨ls,b1,b2⟩;obtain⟨aC,d1,d2⟩:=DU hw q ls (xP (k0:=0) h1 (by rwa [Nat.zero_add])) v (by rw[q2];exact a3);rw[←q4,fg a4 t1]at d1;simp at d1;subst d1;exact d2 l b2 hl Wt
   have df:l<Ao.length:=Nat.lt_of_lt_of_le (List.getElem?_eq_some_iff.1 Wt).1 hlen
   by_cases ri:xM P ops ids=true/\l=k
   ·obtain⟨ri,rfl⟩:=ri;obtain⟨nc,z1,z2⟩:=(An B8).2 l ids e h1 h2 (DV ri);rw[Wt]at z1;simp at z1;subst z1;obtain⟨o2,Fi2,r2,y1,y2,y3,y4⟩:=z2 i h3;rw[ho]at y1;simp at y1;subst y1;rw[a3]at y3;simp at y3;subst y3;obtain⟨dC,c2',x1,x2,x3,x4⟩:=DT y2;rw[t2]at x2;simp at x2;subst x2;have:=fg y4 x1;rw[fg a4 t1]at this;simp at this;subst this;exact x4
   ·exact again (Ap h3 hq t3 l df P5 ri)
  ·subst hv;have:=Xb a2;exact xO c7 k ids e q h1 (by omega) i h3
theorem vM(F:T Rec):∀(l:List Oper) (i:Nat) (tm:T AV),dI F l i tm=uP F (sK l i) tm
 | [],i,tm=>rfl
 |o::l,i,tm=>by
  rw[sD];unfold sK;cases hd:o.dst with
  |none=>simp only[];exact vM F l (i+1) tm
  |some d=>
   simp only[uP];cases hF:F.get i with
   |none=>simp only[];exact vM F l (i+1) tm
   |some r=>simp only[];exact vM F l (i+1) _
def L7(P:Program)(call:ab)(d:DR)(K:T AV->H->Prop)(tm:T AV)(h:H):Prop:=
 Fc P call tm 0 d.Ao (fun F hs=>DS P tm F hs d.chk/\xJ (nz hs) fun h'=>K (uP F d.fin tm) h') .e h
def Plain(call:ab):Prop:=∀f args h,Nat.ble dW f=true->call f args h=none
theorem B0{call:ab}(h:Plain call):iF call=call:=by
 funext f args hp;unfold iF;cases hb:Nat.ble dW f with
 |true=>simp only[];exact(h f args hp hb).symm
 |false=>rfl
theorem H6{P:Program}(hm:P.follows .mixedOrders=true){call:ab}(aO:bF true P call)(nV:Plain call){id:Nat}{ops:Array Oper}{N:Nat}{d:DR}(hc:cDR P N ops.toList=some d){K:T AV->H->Prop}{tm:T AV}{h:H}(hw:L7 P call d K tm h):
 ∃aC h',xg P (.region id ops true) N tm h .normal aC h'/\K aC h':=by
 unfold cDR adW at hc;split at hc
 ·rename_i L6;split at hc
  ·rename_i ps XZ;simp at hc;subst hc;have RA:=L6;simp only[P4,Bool.and_eq_true]at RA;obtain⟨⟨⟨⟨⟨⟨c1,c2⟩,c3⟩,c4⟩,c5⟩,c6⟩,c7⟩:=RA;unfold L7 at hw;obtain⟨F,hs,k1,k2,k3⟩:=Am XZ (uA c4) (fun i _=>T.di i) hw
   ·obtain⟨h',DE,k3⟩:=gm k3;refine⟨_,h',Fb hm aO c1 c2 c3 (by rw[B0 nV];exact k1) (P6 L6 XZ k1 k2) DE,?_⟩;rw[vM];exact k3
  ·simp at hc
 ·simp at hc
inductive CC where
 |skip
 |ops (l:List SQ)
 |cn (d:DR)
 |seq (a b:CC)
 |cond (c:cg) (a b:CC)
 |block (id:Nat) (a:CC)
 |loop (a:CC)
 |exit (id:Nat)
 |ret
 |goto (l:Nat)
 |scope (a:CC) (l:Nat) (r:CC)
 |stuck
def mi:Code->Option Nat
 | .seq a b=>match mi a with
   |some l=>some l
   |none=>mi b
 | .cond _ a b=>match mi a with
   |some l=>some l
   |none=>mi b
 | .block _ a=>mi a
 | .loop a=>mi a
 | .goto l=>some l
 |_=>none
def ft(sc:Code->Option CC)(P:Program)(N:Nat):Code->Option CC
 | .skip=>some .skip
 | .region _ ops false=>match DN P N ops.toList ops.toList with
   |some l=>some (.ops l)
   |none=>some .stuck
 | .region _ ops true=>match cDR P N ops.toList with
   |some d=>some (.cn d)
   |none=>some .stuck
 | .seq a b=>match ft sc P N a,ft sc P N b with
   |some a,some b=>some (.seq a b)
   |_,_=>none
 | .cond c a b=>match aP c,ft sc P N a,ft sc P N b with
   |some c,some a,some b=>some (.cond c a b)
   |_,_,_=>none
 | .block id a=>(ft sc P N a).map (.block id)
 | .loop a=>(ft sc P N a).map .loop
 | .exit id=>some (.exit id)
 | .label _=>some .skip
 | .ret=>some .ret
 | .goto l=>some (.goto l)
 | .scope x=>sc x
 |_=>none
def scC(P:Program)(N:Nat)(x:Code):Option CC:=match mi x with
 |some l=>match findLabel x l with
  |some r=>match ft (fun _=>none) P N x,ft (fun _=>none) P N r with
   |some a,some b=>some (.scope a l b)
   |_,_=>none
  |none=>none
 |none=>none
def Xd(P:Program)(N:Nat)(c:Code):Option CC:=ft (scC P N) P N c
abbrev aZ:=Ex->T AV->H->Prop
def eh(W:aZ->T AV->H->Prop)(Q:aZ):aZ:=fun ex tm h=>match ex with
 | .normal=>W Q tm h
 | .exit j=>Q (.exit j) tm h
 | .goto l=>Q (.goto l) tm h
 | .ret=>Q .ret tm h
def oE(id:Nat)(Q:aZ):aZ:=fun ex tm h=>match ex with
 | .normal=>Q .normal tm h
 | .exit j=>if j=id then Q .normal tm h else Q (.exit j) tm h
 | .goto l=>Q (.goto l) tm h
 | .ret=>Q .ret tm h
def uQ(Q:aZ):aZ:=fun ex tm h=>match ex with
 | .normal=>Q .normal tm h
 | .exit j=>Q (.exit j) tm h
 | .goto _=>False
 | .ret=>Q .ret tm h
def dY(l:Nat)(W:aZ->T AV->H->Prop)(Q:aZ):aZ:=fun ex tm h=>match ex with
 | .normal=>Q .normal tm h
 | .exit j=>Q (.exit j) tm h
 | .goto j=>if j=l then W (uQ Q) tm h else False
 | .ret=>Q .ret tm h
def iQ(W:aZ->T AV->H->Prop):Nat->aZ->T AV->H->Prop
 |0,_,_,_=>False
 |n+1,Q,tm,h=>W (eh (iQ W n) Q) tm h
def gI{α β:Type}(o:Option α)(f:α->Option β):Option β:=match o with
 |some x=>f x
 |none=>none
def WC(P:Program)(call:ab):CC->aZ->T AV->H->Prop
 | .skip,Q,tm,h=>Q .normal tm h
 | .ops l,Q,tm,h=>WS P call l (fun tm h=>Q .normal tm h) tm h
 | .cn d,Q,tm,h=>L7 P call d (fun tm h=>Q .normal tm h) tm h
 | .seq a b,Q,tm,h=>WC P call a (eh (WC P call b) Q) tm h
 | .cond c a b,Q,tm,h=>xJ (gI (cV tm c) GI) fun t=>adR t (WC P call a Q tm h) (WC P call b Q tm h)
 | .block id a,Q,tm,h=>WC P call a (oE id Q) tm h
 | .loop a,Q,tm,h=>∃n,iQ (WC P call a) n Q tm h
 | .exit id,Q,tm,h=>Q (.exit id) tm h
 | .ret,Q,tm,h=>Q .ret tm h
 | .goto l,Q,tm,h=>Q (.goto l) tm h
 | .scope a l r,Q,tm,h=>WC P call a (dY l (WC P call r) Q) tm h
 | .stuck,_,_,_=>False
def H7(P:Program)(c:Code)(N:Nat)(tm:T AV)(h:H)(Q:aZ):Prop:=∃ex aC h',aG P c N tm h ex aC h'/\Q ex aC h'
theorem aow{P:Program}{x y:Code}{N:Nat}{tm eo dC:T AV}{h h1 h2:H}{ex:Ex}(d1:aG P x N tm h .normal eo h1)(d2:aG P y N eo h1 ex dC h2):aG P (.seq x y) N tm h ex dC h2:=by
 intro B ρ a w hs;refine wp_seq (cd d1 hs fun ρ' a' w' k1 k2=>?_);exact cd d2 k1 fun ρ'' PQ uK j1 j2=>⟨rfl,ρ'',j1,k2.trans j2⟩
theorem L8{P:Program}{x y:Code}{N:Nat}{tm eo:T AV}{h h1:H}{ex:Ex}(hex:ex≠.normal)(d1:aG P x N tm h ex eo h1):aG P (.seq x y) N tm h ex eo h1:=by
 intro B ρ a w hs;refine wp_seq (cd d1 hs fun ρ' a' w' k1 k2=>?_);cases ex with
 |normal=>exact absurd rfl hex
 |exit id=>exact⟨rfl,ρ',k1,k2⟩
 |goto l=>exact⟨rfl,ρ',k1,k2⟩
 |ret=>exact⟨rfl,ρ',k1,k2⟩
theorem Xe{P:Program}{x:Code}{id N:Nat}{tm eo:T AV}{h h1:H}{ex:Ex}(d1:aG P x N tm h ex eo h1):aG P (.block id x) N tm h (match ex with| .exit j=>if j=id then .normal else .exit j|e=>e) eo h1:=by
 intro B ρ a w hs;refine wp_block (cd d1 hs fun ρ' a' w' k1 k2=>?_);cases ex with
 |normal=>exact⟨rfl,ρ',k1,k2⟩
 |exit j=>
  by_cases hj:j=id
  ·subst hj;simp only[Ex.out,Exit.inBlock,if_true];exact⟨trivial,ρ',k1,k2⟩
  ·simp only[Ex.out,Exit.inBlock,hj,if_false];exact⟨trivial,ρ',k1,k2⟩
 |goto l=>exact⟨rfl,ρ',k1,k2⟩
 |ret=>exact⟨rfl,ρ',k1,k2⟩
def vO(P:Program)(c:Code)(N:Nat):Nat->T AV->H->Ex->T AV->H->Prop
 |0,_,_,_,_,_=>False
 |n+1,tm,h,ex,aC,h'=>(∃eo h1,aG P c N tm h .normal eo h1/\vO P c N n eo h1 ex aC h')\/(ex≠.normal/\aG P c N tm h ex aC h')
theorem sM{P:Program}{c:Code}{N:Nat}{W:aZ->T AV->H->Prop}(hW:∀Q tm h,W Q tm h->H7 P c N tm h Q):∀(n:Nat) (Q:aZ) (tm:T AV) (h:H),iQ W n Q tm h->∃ex aC h',vO P c N n tm h ex aC h'/\Q ex aC h'/\ex≠.normal
 |0,Q,tm,h,hl=>hl.elim
 |n+1,Q,tm,h,hl=>by
  obtain⟨ex,eo,h1,d1,q1⟩:=hW _ _ _ hl;cases ex with
  |normal=>
   obtain⟨ex,dC,h2,r,q,dB⟩:=sM hW n Q eo h1 q1;exact⟨ex,dC,h2,.inl ⟨eo,h1,d1,r⟩,q,dB⟩
  |exit j=>exact⟨_,eo,h1,.inr ⟨by simp,d1⟩,q1,by simp⟩
  |goto l=>exact⟨_,eo,h1,.inr ⟨by simp,d1⟩,q1,by simp⟩
  |ret=>exact⟨_,eo,h1,.inr ⟨by simp,d1⟩,q1,by simp⟩
theorem uB{P:Program}{c:Code}{Q Q':Exit->Act->World->Prop}(hq:∀e a w,Q e a w->Q' e a w):∀(m:Nat) (a:Act) (w:World),Code.rounds P c Q m a w->Code.rounds P c Q' m a w:=by
 intro m
 induction m with
 |zero=>intro a w hh;exact hh
 |succ m ih=>
  intro a w hh;refine wp_mono hh fun e a w he=>?_
  cases e<;>first
   |exact ih _ _ he
   |exact hq _ _ _ he
theorem nG{P:Program}{body:Code}{N:Nat}:∀(n:Nat) {tm aC:T AV} {h h':H} {ex:Ex},vO P body N n tm h ex aC h'->∀{B:Nat} {ρ:aR} {a:Act} {w:World},St B N ρ tm h a w->
 Code.rounds P body (fun e a' w'=>e=ex.out/\∃ρ',St B N ρ' aC h' a' w'/\Way ρ h w ρ' h' w') n a w
 |0,tm,aC,h,h',ex,hr,_,_,_,_,_=>hr.elim
 |n+1,tm,aC,h,h',ex,hr,B,ρ,a,w,hs=>by
  rcases hr with⟨eo,h1,d1,r⟩|⟨dB,d1⟩
  ·refine cd d1 hs fun ρ' a' w' k1 k2=>?_
   have:=nG n r k1;simp only[Ex.out];refine uB (fun e PQ uK hh=>?_) n _ _ this;obtain⟨rfl,ρ'',j1,j2⟩:=hh;exact⟨rfl,ρ'',j1,k2.trans j2⟩
  ·refine cd d1 hs fun ρ' a' w' k1 k2=>?_
   cases ex with
   |normal=>exact absurd rfl dB
   |exit j=>exact⟨rfl,ρ',k1,k2⟩
   |goto l=>exact⟨rfl,ρ',k1,k2⟩
   |ret=>exact⟨rfl,ρ',k1,k2⟩
theorem adX{P:Program}{c:Code}{N n:Nat}{tm aC:T AV}{h h':H}{ex:Ex}(hr:vO P c N n tm h ex aC h'):aG P (.loop c) N tm h ex aC h':=
 fun B ρ a w hs=>wp_loop_rounds n (nG n hr hs)
theorem pZ{P:Program}(hm:P.follows .mixedOrders=true){call:ab}(aO:bF true P call)(nV:Plain call){N:Nat}{sc:Code->Option CC}(hsc:∀x cc,sc x=some cc->∀{Q:aZ} {tm:T AV} {h:H},WC P call cc Q tm h->H7 P (.scope x) N tm h Q):∀(c:Code) {cc:CC},ft sc P N c=some cc->∀{Q:aZ} {tm:T AV} {h:H},WC P call cc Q tm h->H7 P c N tm h Q:=by
 intro c
 induction c with
 |skip=>
  intro cc hc Q tm h hw;simp[ft]at hc;subst hc;exact⟨.normal,tm,h,fun B ρ a w hs=>wp_skip ⟨rfl,ρ,hs,Way.refl hs.hr hs.fresh⟩,hw⟩
 |region id ops d=>
  intro cc hc Q tm h hw;cases d with
  |false=>
   simp only[ft]at hc;split at hc
   case h_2=>simp at hc;subst hc;exact hw.elim
   rename_i l hl;simp at hc;subst hc;obtain⟨aC,h',k1,k2⟩:=sI hl hw;refine⟨.normal,aC,h',fun B ρ a w hs=>?_,k2⟩;refine(wpIn_wide (n:=0)).1 (wpIn_region (F:=Ds none) ?_);rw[List.range_eq_range'];have:=iO (r:=none) (Q:=fun e a' w'=>e=Ex.normal.out/\∃ρ',St B N ρ' aC h' a' w'/\Way ρ h w ρ' h' w') aO (i:=0) (by simp) k1 hs (fun ρ' a' w' k1 k2=>⟨rfl,ρ',k1,k2⟩);simpa using this
  |true=>
   simp only[ft]at hc;split at hc
   case h_2=>simp at hc;subst hc;exact hw.elim
   rename_i d hd;simp at hc;subst hc;obtain⟨aC,h',k1,k2⟩:=H6 (id:=id) hm aO nV hd hw;exact⟨.normal,aC,h',k1.adp,k2⟩
 |seq x y uN xh=>
  intro cc hc Q tm h hw;simp only[ft]at hc;split at hc
  ·rename_i a b ha hb;simp at hc;subst hc;obtain⟨ex,eo,h1,d1,q1⟩:=uN ha hw;cases ex with
   |normal=>
    obtain⟨ex,dC,h2,d2,q2⟩:=xh hb q1;exact⟨ex,dC,h2,aow d1 d2,q2⟩
   |exit j=>exact⟨_,eo,h1,L8 (by simp) d1,q1⟩
   |goto l=>exact⟨_,eo,h1,L8 (by simp) d1,q1⟩
   |ret=>exact⟨_,eo,h1,L8 (by simp) d1,q1⟩
  ·simp at hc
 |cond c x y uN xh=>
  intro cc hc Q tm h hw;simp only[ft]at hc;split at hc
  ·rename_i c' a b xY ha hb;simp at hc;subst hc;unfold WC at hw;obtain⟨b',C0,hw⟩:=gm hw;have hv:cV tm c'=some (.bool b'):=by
        cases hh:cV tm c' with
        |none=>rw[hh]at C0;simp[gI]at C0
        |some v=>
         rw[hh]at C0;cases v<;>simp[gI,GI]at C0
         rw[C0]
   cases b' with
   |true=>
    obtain⟨ex,eo,h1,d1,q1⟩:=uN ha hw;refine⟨ex,eo,h1,fun B ρ a w hs=>?_,q1⟩;have:=ai hs.tr xY hv;simp only[VR]at this;exact wp_cond_true this (d1 B ρ a w hs)
   |false=>
    obtain⟨ex,eo,h1,d1,q1⟩:=xh hb hw;refine⟨ex,eo,h1,fun B ρ a w hs=>?_,q1⟩;have:=ai hs.tr xY hv;simp only[VR]at this;exact wp_cond_false this (d1 B ρ a w hs)
  ·simp at hc
 |block id x ih=>
  intro cc hc Q tm h hw;simp only[ft,Option.map_eq_some_iff]at hc;obtain⟨a,ha,rfl⟩:=hc;obtain⟨ex,eo,h1,d1,q1⟩:=ih ha hw;refine⟨_,eo,h1,Xe d1,?_⟩;cases ex with
  |normal=>exact q1
  |exit j=>
   simp only[oE]at q1;simp only[];split<;>rename_i hj
   ·rw[if_pos hj]at q1;exact q1
   ·rw[if_neg hj]at q1;exact q1
  |goto l=>exact q1
  |ret=>exact q1
 |loop x ih=>
  intro cc hc Q tm h hw;simp only[ft,Option.map_eq_some_iff]at hc;obtain⟨a,ha,rfl⟩:=hc;obtain⟨n,hn⟩:=hw;obtain⟨ex,eo,h1,r,q,_⟩:=sM (c:=x) (N:=N) (fun Q tm h hq=>ih ha hq) n Q tm h hn;exact⟨ex,eo,h1,adX r,q⟩
 |exit id=>
  intro cc hc Q tm h hw;simp[ft]at hc;subst hc;exact⟨.exit id,tm,h,fun B ρ a w hs=>wp_exit ⟨rfl,ρ,hs,Way.refl hs.hr hs.fresh⟩,hw⟩
 |label l=>
  intro cc hc Q tm h hw;simp[ft]at hc;subst hc;exact⟨.normal,tm,h,fun B ρ a w hs=>wp_label ⟨rfl,ρ,hs,Way.refl hs.hr hs.fresh⟩,hw⟩
 |ret=>
  intro cc hc Q tm h hw;simp[ft]at hc;subst hc;exact⟨.ret,tm,h,fun B ρ a w hs=>wp_ret ⟨rfl,ρ,hs,Way.refl hs.hr hs.fresh⟩,hw⟩
 |rangeFunc f ps x y uN xh=>intro cc hc;simp[ft]at hc
 |scope x ih=>
  intro cc hc Q tm h hw;exact hsc x cc (by simpa [ft]using hc) hw
 |goto l=>
  intro cc hc Q tm h hw;simp[ft]at hc;subst hc;exact⟨.goto l,tm,h,fun B ρ a w hs=>wp_goto ⟨rfl,ρ,hs,Way.refl hs.hr hs.fresh⟩,hw⟩
 |refuse why=>intro cc hc;simp[ft]at hc
theorem DW{P:Program}(hm:P.follows .mixedOrders=true){call:ab}(aO:bF true P call)(nV:Plain call){N:Nat}(c:Code){cc:CC}(hc:Xd P N c=some cc){Q:aZ}{tm:T AV}{h:H}(hw:WC P call cc Q tm h):H7 P c N tm h Q:=by
 refine pZ hm aO nV (fun x cc hx Q tm h hw=>?_) c hc hw;unfold scC at hx;split at hx
 ·rename_i l hl;split at hx
  ·rename_i r hr;split at hx
   ·rename_i a b ha hb;simp at hx;subst hx;obtain⟨ex,eo,h1,d1,q1⟩:=pZ hm aO nV (sc:=fun _=>none) (fun _ _ e=>by simp at e) x ha hw;have str:∀L9,ex=L9->(∀j,L9≠.goto j)->aG P (.scope x) N tm h L9 eo h1:=fun L9 e hn B ρ a w hs=>by
     refine wp_scope_straight (cd d1 hs fun ρ' a' w' k1 k2=>?_);rw[e];cases L9 with
     |normal=>exact⟨rfl,ρ',k1,k2⟩
     |exit id=>exact⟨rfl,ρ',k1,k2⟩
     |goto l=>exact absurd rfl (hn l)
     |ret=>exact⟨rfl,ρ',k1,k2⟩
    cases ex with
    |normal=>exact⟨.normal,eo,h1,str _ rfl (by simp),q1⟩
    |exit j=>exact⟨.exit j,eo,h1,str _ rfl (by simp),q1⟩
    |ret=>exact⟨.ret,eo,h1,str _ rfl (by simp),q1⟩
    |goto j=>
     simp only[dY]at q1
     by_cases hj:j=l
     ·rw[if_pos hj]at q1;subst hj;obtain⟨ex2,dC,h2,d2,q2⟩:=pZ hm aO nV (sc:=fun _=>none) (fun _ _ e=>by simp at e) r hb q1;have jmp:∀L9,ex2=L9->(∀j,L9≠.goto j)->aG P (.scope x) N tm h L9 dC h2:=fun L9 e hn B ρ a w hs=>by
       refine wp_scope_jumps j (fun a' w'=>∃ρ',St B N ρ' eo h1 a' w'/\Way ρ h w ρ' h1 w') (fun _ _=>0) hr ?_ ?_
       ·exact cd d1 hs fun ρ' a' w' k1 k2=>⟨rfl,ρ',k1,k2⟩
       ·rintro a' w' ⟨ρ',k1,k2⟩;refine cd d2 k1 fun ρ'' PQ uK j1 j2=>?_
        rw[e];cases L9 with
        |normal=>exact⟨rfl,ρ'',j1,k2.trans j2⟩
        |exit id=>exact⟨rfl,ρ'',j1,k2.trans j2⟩
        |goto l'=>exact absurd rfl (hn l')
        |ret=>exact⟨rfl,ρ'',j1,k2.trans j2⟩
      cases ex2 with
      |normal=>exact⟨.normal,dC,h2,jmp _ rfl (by simp),q2⟩
      |exit i=>exact⟨.exit i,dC,h2,jmp _ rfl (by simp),q2⟩
      |goto i=>exact q2.elim
      |ret=>exact⟨.ret,dC,h2,jmp _ rfl (by simp),q2⟩
     ·rw[if_neg hj]at q1;exact q1.elim
   ·simp at hx
  ·simp at hx
 ·simp at hx
inductive RV where
 |tmp (t:Nat)
 |cell (a:Nat) (agg:Option Nat)
def cRV(P:Program):ResultVar->Option RV
 | .tmp t=>some (.tmp t)
 | .cell a t=>(kF P t).map (.cell a)
def Ma(P:Program):List ResultVar->Option (List RV)
 | []=>some []
 |r::l=>match cRV P r,Ma P l with
  |some x,some y=>some (x::y)
  |_,_=>none
def re(tm:T AV)(g:Nat->Option AO):List RV->Option (List AV)
 | []=>some []
 |r::l=>match(match r with
   | .tmp t=>tm.get t
   | .cell a agg=>match tm.get a with
     |some (.ptr p o)=>uT g agg p o
     |_=>none)with
  |some v=>match re tm g l with
   |some vs=>some (v::vs)
   |none=>none
  |none=>none
theorem B2{P:Program}(tm:T AV)(g:Nat->Option AO):∀{l:List ResultVar} {rs:List RV},Ma P l=some rs->xj P tm g l=re tm g rs
 | [],rs,h=>by simp[Ma]at h;subst h;rfl
 |r::l,rs,h=>by
  unfold Ma at h;split at h
  ·rename_i x y hx hy;simp at h;subst h;unfold xj re;rw[B2 tm g hy];cases r with
   |tmp t=>simp[cRV]at hx;subst hx;rfl
   |cell a t=>
    simp only[cRV,Option.map_eq_some_iff]at hx;obtain⟨agg,h1,rfl⟩:=hx;simp only[h1];cases tm.get a with
    |none=>rfl
    |some v=>cases v<;>rfl
  ·simp at h
structure CF where
 n:Nat
 c:CC
 rs:List RV
def Mz(P:Program)(f:FuncId)(k:Nat):Option CF:=match P.funcs[f]? with
 |some fn=>match fn.body,Ma P fn.results.toList with
  |some c,some rs=>(Xd P (Nat.add k (Nat.sub fn.ntmps k)) c).map fun cc=>⟨k,cc,rs⟩
  |_,_=>none
 |none=>none
structure A5(P:Program)(f:FuncId)(args:List AV)(h:H)(v:AV)(h':H):Prop where
 has:mJ P f=true
 key:Nat.ble dW f=false
 ret:∀(ρ:aR) (w:World) (ARGS:List Value),bE ρ args ARGS->HR ρ h.t.get w->cC ρ h.next->Calls P f ARGS.toArray w fun e w'=>∃ρ' V,e=.returned V/\VR ρ' v V/\Way ρ h w ρ' h' w'
def DX(rs:List RV)(iB:AV->H->Prop):aZ:=fun ex tm h=>match ex with
 | .exit _=>False
 | .goto _=>False
 | .normal=>xJ (re tm h.t.get rs) fun vs=>iB (fk vs) h
 | .ret=>xJ (re tm h.t.get rs) fun vs=>iB (fk vs) h
def WF(P:Program)(call:ab)(cf:CF)(args:List AV)(h:H)(iB:AV->H->Prop):Prop:=
 WC P call cf.c (DX cf.rs iB) (aa 0 args .e) h
theorem Da{P:Program}(hm:P.follows .mixedOrders=true){call:ab}(aO:bF true P call)(nV:Plain call){f:FuncId}(E1:mJ P f=true)(tE:Nat.ble dW f=false){k:Nat}{cf:CF}(A9:Mz P f k=some cf){args:List AV}(hk:args.length=k){h:H}{iB:AV->H->Prop}(hw:WF P call cf args h iB):
 ∃v h',A5 P f args h v h'/\iB v h':=by
 obtain⟨fn,c,hf,sm,hb⟩:=mc E1;unfold Mz at A9;rw[hf]at A9;simp only[hb]at A9;split at A9
 ·rename_i c' rs xY Ow;simp at xY;subst xY;simp only[Option.map_eq_some_iff]at A9;obtain⟨cc,vI,rfl⟩:=A9;subst hk;obtain⟨ex,tm,h2,d,q⟩:=DW hm aO nV c vI hw;have key:∃vs,xj P tm h2.t.get fn.results.toList=some vs/\iB (fk vs) h2:=by
   have:xJ (re tm h2.t.get rs) fun vs=>iB (fk vs) h2:=by
        cases ex with
        |exit j=>exact q.elim
        |goto l=>exact q.elim
        |normal=>exact q
        |ret=>exact q
   obtain⟨vs,Lm,this⟩:=gm this;exact⟨vs,by rw[B2 tm _ Ow];exact Lm,this⟩
  obtain⟨vs,Lm,adY⟩:=key;refine⟨fk vs,h2,⟨E1,tE,fun ρ w ARGS ha hr W4=>?_⟩,adY⟩;refine callsIn_wide.1 (callsIn_of_wp_marks (n:=0) hf hb trivial ((wpIn_wide (n:=0)).2 ?_));have hl:=ha.length;have hs:St w.heap.size (Nat.add args.length (Nat.sub fn.ntmps args.length)) ρ (aa 0 args .e) h {tmps:=ARGS.toArray++Array.replicate (fn.ntmps-ARGS.toArray.size) undef,defers:=[]} w:=by
   refine⟨fun i u hi=>?_,hr,W4,by simp[hl],trivial,Nat.le_refl _⟩;rw[dm]at hi
   by_cases hh:0<=i/\i<0+args.length
   ·rw[if_pos hh]at hi;have FG:args[i]?=some u:=by simpa using hi
    obtain⟨V,k1,k2⟩:=ha.get FG;have df:i<ARGS.length:=(List.getElem?_eq_some_iff.1 k1).1;refine⟨by simp;omega,?_⟩;rw[Array.getD_eq_getD_getElem?,Array.getElem?_append_left (by simpa using df)];simpa [k1]using k2
   ·rw[if_neg hh,T.di]at hi;simp at hi
  refine cd d hs fun ρ' a' w' k1 k2=>?_
  have fin:LeavesInM Fence.wide 0 P fn a'.tmps (fun e w'=>∃ρ' V,e=.returned V/\VR ρ' (fk vs) V/\Way ρ h w ρ' h2 w') a'.defers .returning w':=by
   refine leaves (ρ:=ρ') (h:=h2) (fun uK LQ LR=>?_) k1.defers k2;obtain⟨V,j1,j2⟩:=nE k1.tr LQ Lm;exact⟨V,j2,ρ',V,rfl,j1,LR⟩
  cases ex with
  |exit j=>exact q.elim
  |goto l=>exact q.elim
  |normal=>exact fin
  |ret=>exact fin
 ·simp at A9
def mo(P:Program)(S:FuncId->List AV->H->AV->H->Prop):ab:=fun f args h=>
 haveI:=Classical.propDecidable (∃r:AV×H,A5 P f args h r.1 r.2/\S f args h r.1 r.2)
 if hh:∃r:AV×H,A5 P f args h r.1 r.2/\S f args h r.1 r.2 then some hh.choose else none
theorem xS{P:Program}{S:FuncId->List AV->H->AV->H->Prop}{f:FuncId}{args:List AV}{h:H}{v:AV}{h':H}(e:mo P S f args h=some (v,h')):A5 P f args h v h'/\S f args h v h':=by
 unfold mo at e;split at e
 ·rename_i hh;have:=hh.choose_spec;simp only[Option.some.injEq]at e;rw[e]at this;exact this
 ·simp at e
theorem wG{P:Program}(S:FuncId->List AV->H->AV->H->Prop):bF true P (mo P S):=by
 intro f args h v h' e ρ w ARGS ha hr hf;obtain⟨k,_⟩:=xS e;obtain⟨fn,c,h1,h2,h3⟩:=mc k.has;exact .inl ⟨k.key,.inr ⟨f,ARGS.toArray,bm h1 h2 h3 _ _,k.ret ρ w ARGS ha hr hf⟩⟩
theorem tV{P:Program}(S:FuncId->List AV->H->AV->H->Prop):Plain (mo P S):=by
 intro f args h hb;cases e:mo P S f args h with
 |none=>rfl
 |some r=>
  obtain⟨k,_⟩:=xS (v:=r.1) (h':=r.2) e;rw[k.key]at hb;simp at hb
theorem yP{P:Program}{S:FuncId->List AV->H->AV->H->Prop}{f:FuncId}{args:List AV}{h:H}(hh:∃v h',A5 P f args h v h'/\S f args h v h'):∃v h',mo P S f args h=some (v,h')/\S f args h v h':=by
 obtain⟨v,h',k1,k2⟩:=hh;have hx:∃r:AV×H,A5 P f args h r.1 r.2/\S f args h r.1 r.2:=⟨(v,h'),k1,k2⟩;refine⟨hx.choose.1,hx.choose.2,?_,hx.choose_spec.2⟩;unfold mo;rw[dif_pos hx]
end
end Go.Proofs.YtgkjlklfjbljeaaGreat.Eo
namespace Go.Proofs.YtgkjlklfjbljeaaGreat.Eo
noncomputable section
@[go_sem] theorem aAy{α:Type}(x:α)(K:α->Prop):@gw α (some x) ⟨K⟩=K x:=by unfold gw;rfl
@[go_sem] theorem asO(A B:Prop):@BU true ⟨A⟩ ⟨B⟩=A:=by unfold BU;rfl
@[go_sem] theorem asP(A B:Prop):@BU false ⟨A⟩ ⟨B⟩=B:=by unfold BU;rfl
@[go_sem] theorem RO{α β:Type}(x:α)(f:α->Option β):gI (some x) f=f x:=by unfold gI;rfl
section
variable (P:Program) (call:ab)
@[go_sem] theorem aAz(K:T AV->H->Prop)(tm:T AV)(h:H):WS P call [] K tm h=K tm h:=by rw[WS]
@[go_sem] theorem aAA(q:SQ)(l:List SQ)(K:T AV->H->Prop)(tm:T AV)(h:H):WS P call (q::l) K tm h=
 @gw _ (sH tm q.gd) ⟨fun b=>@BU b ⟨@gw _ (kx P call tm h q.c) ⟨fun r=>WS P call l K (rL tm q.dst r.1) r.2⟩⟩ ⟨WS P call l K (rL tm q.dst (.aE [])) h⟩⟩:=by rw[WS]
@[go_sem] theorem afl(Q:aZ)(tm:T AV)(h:H):WC P call .skip Q tm h=Q .normal tm h:=by rw[WC]
@[go_sem] theorem aoy(l:List SQ)(Q:aZ)(tm:T AV)(h:H):WC P call (.ops l) Q tm h=WS P call l (fun tm h=>Q .normal tm h) tm h:=by rw[WC]
@[go_sem] theorem aoz(d:DR)(Q:aZ)(tm:T AV)(h:H):WC P call (.cn d) Q tm h=L7 P call d (fun tm h=>Q .normal tm h) tm h:=by rw[WC]
@[go_sem] theorem aoA(a b:CC)(Q:aZ)(tm:T AV)(h:H):WC P call (.seq a b) Q tm h=WC P call a (eh (WC P call b) Q) tm h:=by rw[WC]
@[go_sem] theorem afm(c:cg)(a b:CC)(Q:aZ)(tm:T AV)(h:H):WC P call (.cond c a b) Q tm h=@gw _ (gI (cV tm c) GI) ⟨fun t=>@BU t ⟨WC P call a Q tm h⟩ ⟨WC P call b Q tm h⟩⟩:=by rw[WC]
@[go_sem] theorem adZ(id:Nat)(a:CC)(Q:aZ)(tm:T AV)(h:H):WC P call (.block id a) Q tm h=WC P call a (oE id Q) tm h:=by rw[WC]
@[go_sem] theorem afn(id:Nat)(Q:aZ)(tm:T AV)(h:H):WC P call (.exit id) Q tm h=Q (.exit id) tm h:=by rw[WC]
@[go_sem] theorem aoB(Q:aZ)(tm:T AV)(h:H):WC P call .ret Q tm h=Q .ret tm h:=by rw[WC]
@[go_sem] theorem SF(W:aZ->T AV->H->Prop)(Q:aZ)(tm:T AV)(h:H):eh W Q .normal tm h=W Q tm h:=by rw[eh]
@[go_sem] theorem aoC(W:aZ->T AV->H->Prop)(Q:aZ)(j:Nat)(tm:T AV)(h:H):eh W Q (.exit j) tm h=Q (.exit j) tm h:=by rw[eh]
@[go_sem] theorem aoD(W:aZ->T AV->H->Prop)(Q:aZ)(tm:T AV)(h:H):eh W Q .ret tm h=Q .ret tm h:=by rw[eh]
@[go_sem] theorem aAB(id:Nat)(Q:aZ)(tm:T AV)(h:H):oE id Q .normal tm h=Q .normal tm h:=by rw[oE]
@[go_sem] theorem aAC(id j:Nat)(Q:aZ)(tm:T AV)(h:H):oE id Q (.exit j) tm h=Q (if j=id then .normal else .exit j) tm h:=by
 rw[oE]
 by_cases hj:j=id<;>simp[hj]
@[go_sem] theorem aAD(id:Nat)(Q:aZ)(tm:T AV)(h:H):oE id Q .ret tm h=Q .ret tm h:=by rw[oE]
@[go_sem] theorem afo(l:Nat)(Q:aZ)(tm:T AV)(h:H):WC P call (.goto l) Q tm h=Q (.goto l) tm h:=by rw[WC]
@[go_sem] theorem ad0(a:CC)(l:Nat)(r:CC)(Q:aZ)(tm:T AV)(h:H):WC P call (.scope a l r) Q tm h=WC P call a (dY l (WC P call r) Q) tm h:=by rw[WC]
@[go_sem] theorem aoE(W:aZ->T AV->H->Prop)(Q:aZ)(j:Nat)(tm:T AV)(h:H):eh W Q (.goto j) tm h=Q (.goto j) tm h:=by rw[eh]
@[go_sem] theorem aAE(id j:Nat)(Q:aZ)(tm:T AV)(h:H):oE id Q (.goto j) tm h=Q (.goto j) tm h:=by rw[oE]
@[go_sem] theorem aAF(l:Nat)(W:aZ->T AV->H->Prop)(Q:aZ)(tm:T AV)(h:H):dY l W Q .normal tm h=Q .normal tm h:=by rw[dY]
@[go_sem] theorem aAG(l:Nat)(W:aZ->T AV->H->Prop)(Q:aZ)(j:Nat)(tm:T AV)(h:H):dY l W Q (.exit j) tm h=Q (.exit j) tm h:=by rw[dY]
@[go_sem] theorem aAH(l:Nat)(W:aZ->T AV->H->Prop)(Q:aZ)(tm:T AV)(h:H):dY l W Q .ret tm h=Q .ret tm h:=by rw[dY]
@[go_sem] theorem aAI(l:Nat)(W:aZ->T AV->H->Prop)(Q:aZ)(tm:T AV)(h:H):dY l W Q (.goto l) tm h=W (uQ Q) tm h:=by rw[dY,if_pos rfl]
@[go_sem] theorem aAJ(Q:aZ)(tm:T AV)(h:H):uQ Q .normal tm h=Q .normal tm h:=by rw[uQ]
@[go_sem] theorem aAK(Q:aZ)(j:Nat)(tm:T AV)(h:H):uQ Q (.exit j) tm h=Q (.exit j) tm h:=by rw[uQ]
@[go_sem] theorem aAL(Q:aZ)(tm:T AV)(h:H):uQ Q .ret tm h=Q .ret tm h:=by rw[uQ]
@[go_sem] theorem asQ(rs:List RV)(iB:AV->H->Prop)(tm:T AV)(h:H):DX rs iB .normal tm h=@gw _ (re tm h.t.get rs) ⟨fun vs=>iB (fk vs) h⟩:=by rw[DX]
@[go_sem] theorem asR(rs:List RV)(iB:AV->H->Prop)(tm:T AV)(h:H):DX rs iB .ret tm h=@gw _ (re tm h.t.get rs) ⟨fun vs=>iB (fk vs) h⟩:=by rw[DX]
@[go_sem] theorem rWF(n:Nat)(c:CC)(rs:List RV)(args:List AV)(h:H)(iB:AV->H->Prop):WF P call ⟨n,c,rs⟩ args h iB=WC P call c (DX rs iB) (aa 0 args .e) h:=by rw[WF]
@[go_sem] theorem aAM(ps:List (List DQ×Option DQ))(fin:List (Nat×Nat))(chk:List (DQ×List Nat))(K:T AV->H->Prop)(tm:T AV)(h:H):L7 P call ⟨ps,fin,chk⟩ K tm h=
 Fc P call tm 0 ps (fun F hs=>DS P tm F hs chk/\@gw _ (nz hs) ⟨fun h'=>K (uP F fin tm) h'⟩) .e h:=by rw[L7]
@[go_sem] theorem aAN(aQ:T AV)(ph:Nat)(qs:List DQ)(l:List (List DQ×Option DQ))(K:T Rec->List H->Prop)(F:T Rec)(h:H):Fc P call aQ ph ((qs,none)::l) K F h=DP P aQ ph qs (fun F h=>K F [h]) F h:=by rw[Fc]
@[go_sem] theorem aAO(aQ:T AV)(ph:Nat)(qs:List DQ)(e:DQ)(l:List (List DQ×Option DQ))(K:T Rec->List H->Prop)(F:T Rec)(h:H):Fc P call aQ ph ((qs,some e)::l) K F h=
 DP P aQ ph qs (fun F1 h1=>@gw _ (X0 P call aQ F1 h1 e) ⟨fun r=>h1.next<=r.2.next/\Fc P call aQ (ph+1) l (fun F' hs=>K F' (h1::hs)) (F1.set e.i (.BJ r.1)) r.2⟩) F h:=by rw[Fc]
@[go_sem] theorem aAP(aQ:T AV)(ph:Nat)(K:T Rec->H->Prop)(F:T Rec)(h:H):DP P aQ ph [] K F h=K F h:=by rw[DP]
@[go_sem] theorem aAQ(aQ:T AV)(ph:Nat)(q:DQ)(l:List DQ)(K:T Rec->H->Prop)(F:T Rec)(h:H):DP P aQ ph (q::l) K F h=@gw _ (qGo P aQ ph F h q) ⟨fun r=>DP P aQ ph l K (F.set q.i r.1) r.2⟩:=by rw[DP]
@[go_sem] theorem asS(F:T Rec)(tm:T AV):uP F [] tm=tm:=by rw[uP]
def Mb(tm:T AV)(d:Nat)(o:Option Rec):T AV:=match o with
 |some r=>tm.set d r.val
 |none=>tm
@[go_sem] theorem asT(tm:T AV)(d:Nat)(r:Rec):Mb tm d (some r)=tm.set d r.val:=by unfold Mb;rfl
@[go_sem] theorem aoF(tm:T AV)(d:Nat):Mb tm d none=tm:=by unfold Mb;rfl
@[go_sem] theorem asU(F:T Rec)(i d:Nat)(l:List (Nat×Nat))(tm:T AV):uP F ((i,d)::l) tm=uP F l (Mb tm d (F.get i)):=by
 rw[uP];cases F.get i<;>rfl
end
attribute [go_sem] qGo X0 adT DS X1 sH rL cV yA kx mN bt aU bV cU bw bg bG bH bx bW aV aW bz bA bI bJ cZ bB Bw ca
 Iq WG MF re fk Rec.val nz EO Gp xd Lt ky sd GI
attribute [go_sem] Dx tH tI T.ay T.di iN
attribute [go_sem] cond_true cond_false
@[go_sem] theorem ad1(a b:Nat):Nat.ble a b=decide (a<=b):=ble_eq a b
@[go_sem] theorem aoG(a b:Nat):Nat.blt a b=decide (a<b):=lJ a b
@[go_sem] theorem aAR(a b:Nat):Nat.beq a b=decide (a=b):=beq_iff a b
@[go_sem] theorem P7(a b:Int):yK a b=decide (a=b):=by rw[gJ,Bool.eq_iff_iff];simp
@[go_sem] theorem aAS(a b:Int):Int.add a b=a+b:=rfl
@[go_sem] theorem aAT(a b:Int):Int.sub a b=a-b:=rfl
@[go_sem] theorem aAU(a b:Int):Int.mul a b=a*b:=rfl
section
@[go_sem] theorem asV(b:Bool):aY (.bool b)=true:=by unfold aY;rfl
@[go_sem] theorem asW(k:IntKind)(n:Int):aY (.int k n)=true:=by unfold aY;rfl
@[go_sem] theorem asX(s:ByteArray):aY (.str s)=true:=by unfold aY;rfl
@[go_sem] theorem asY(a o:Nat):aY (.ptr a o)=true:=by unfold aY;rfl
@[go_sem] theorem asZ:aY .aJ=true:=by unfold aY;rfl
@[go_sem] theorem as0(a o l e:Nat)(c:Option Nat):aY (.sl a o l e c)=true:=by unfold aY;rfl
@[go_sem] theorem as1:aY .ax=true:=by unfold aY;rfl
@[go_sem] theorem as2(a:Nat):aY (.map a)=true:=by unfold aY;rfl
@[go_sem] theorem as3:aY .kH=true:=by unfold aY;rfl
@[go_sem] theorem as4(f:Fn)(a b:List AV):aY (.fn f a b)=true:=by unfold aY;rfl
@[go_sem] theorem as5:aY .dQ=true:=by unfold aY;rfl
@[go_sem] theorem as6(t:TypeId)(v:AV):aY (.dR t v)=true:=by unfold aY;rfl
@[go_sem] theorem as7:aY .pC=true:=by unfold aY;rfl
@[go_sem] theorem aoH(v:AV)(h:aY v=true):ik v=some [v]:=by cases v<;>first|rfl|(simp[aY]at h)
@[go_sem] theorem afp(l:List AV):ik (.agg l)=cond (l.all aY) (some l) none:=by unfold ik;rfl
end
def Gb(agg:Option Nat)(o:Nat):AO->Option AV
 | .row cells _ _=>match agg with
   |none=>cells.get o
   |some n=>gI (bh cells o n) fun l=>some (.agg l)
 | .Aw cells=>match agg with
   |none=>cells.get o
   |some n=>gI (bh cells o n) fun l=>some (.agg l)
 |_=>none
theorem Mc(g:Nat->Option AO)(agg:Option Nat)(a o:Nat):uT g agg a o=gI (g a) (Gb agg o):=by
 unfold uT gI Gb;cases g a with
 |none=>rfl
 |some x=>
  cases x with
  |row cells len e=>
   cases agg with
   |none=>rfl
   |some n=>
    simp only[Gb,gI];cases bh cells o n<;>rfl
  |Aw cells=>
   cases agg with
   |none=>rfl
   |some n=>
    simp only[Gb,gI];cases bh cells o n<;>rfl
  |map es clock=>rfl
  |iter m since seen last=>rfl
  |loop st fZ tm N ps assign body=>rfl
  |dead=>rfl
@[go_sem] theorem ko(g:Nat->Option AO)(agg:Option Nat)(a o:Nat):uT g agg a o=gI (g a) (Gb agg o):=Mc g agg a o
@[go_sem] theorem afK(o:Nat)(cells:T AV)(len:Nat)(e:TypeId):Gb none o (.row cells len e)=cells.get o:=by unfold Gb;rfl
@[go_sem] theorem as8(n o:Nat)(cells:T AV)(len:Nat)(e:TypeId):Gb (some n) o (.row cells len e)=gI (bh cells o n) (fun l=>some (.agg l)):=by unfold Gb;rfl
@[go_sem] theorem acU(o:Nat)(cells:T AV):Gb none o (.Aw cells)=cells.get o:=by unfold Gb;rfl
@[go_sem] theorem aoI(n o:Nat)(cells:T AV):Gb (some n) o (.Aw cells)=gI (bh cells o n) (fun l=>some (.agg l)):=by unfold Gb;rfl
def bR:AV->Option AV
 | .sl _ _ len _ _=>some (.int .i64 len)
 | .ax=>some (.int .i64 0)
 |_=>none
@[go_sem] theorem as9(a o len es:Nat)(c:Option Nat):bR (.sl a o len es c)=some (.int .i64 (len:Int)):=by unfold bR;rfl
@[go_sem] theorem aoJ:bR .ax=some (.int .i64 0):=by unfold bR;rfl
@[go_sem] theorem ata(tm:T AV)(x:cg):bp tm x=gI (cV tm x) bR:=by
 unfold bp gI bR;cases cV tm x with
 |none=>rfl
 |some v=>cases v<;>rfl
def Td(k:IntKind)(x y:Int):Int:=fw k (BitVec.ofInt k.bits x&&&BitVec.ofInt k.bits y).toNat
def orI(k:IntKind)(x y:Int):Int:=fw k (BitVec.ofInt k.bits x|||BitVec.ofInt k.bits y).toNat
def aoK(k:IntKind)(x y:Int):Int:=fw k (BitVec.ofInt k.bits x^^^BitVec.ofInt k.bits y).toNat
def P8(k:IntKind)(x y:Int):Int:=fw k (BitVec.ofInt k.bits x&&&~~~BitVec.ofInt k.bits y).toNat
section
variable (k:IntKind) (x y:Int)
@[go_sem] theorem rI1:cw .add k x y=some (.int k (fw k (x+y))):=by unfold cw;rfl
@[go_sem] theorem rI2:cw .sub k x y=some (.int k (fw k (x-y))):=by unfold cw;rfl
@[go_sem] theorem rI3:cw .mul k x y=some (.int k (fw k (x*y))):=by unfold cw;rfl
@[go_sem] theorem rI4:cw .quo k x y=if y=0 then none else some (.int k (fw k (Int.tdiv x y))):=by unfold cw;simp only[P7];by_cases h:y=0<;>simp[h]
@[go_sem] theorem rI5:cw .rem k x y=if y=0 then none else some (.int k (Int.tmod x y)):=by unfold cw;simp only[P7];by_cases h:y=0<;>simp[h]
@[go_sem] theorem rI6:cw .and k x y=some (.int k (Td k x y)):=by unfold cw;rfl
@[go_sem] theorem rI7:cw .or k x y=some (.int k (orI k x y)):=by unfold cw;rfl
@[go_sem] theorem rI8:cw .xor k x y=some (.int k (aoK k x y)):=by unfold cw;rfl
@[go_sem] theorem rI9:cw .andNot k x y=some (.int k (P8 k x y)):=by unfold cw;rfl
@[go_sem] theorem aAW:cw .eql k x y=some (.bool (decide (x=y))):=by unfold cw;simp only[P7]
@[go_sem] theorem aAX:cw .neq k x y=some (.bool (!decide (x=y))):=by unfold cw;simp only[P7]
@[go_sem] theorem aAY:cw .lss k x y=some (.bool (decide (x<y))):=by unfold cw;simp only[iN]
@[go_sem] theorem aAZ:cw .leq k x y=some (.bool (!decide (y<x))):=by unfold cw;simp only[iN]
@[go_sem] theorem aA0:cw .gtr k x y=some (.bool (decide (y<x))):=by unfold cw;simp only[iN]
@[go_sem] theorem aA1:cw .geq k x y=some (.bool (!decide (x<y))):=by unfold cw;simp only[iN]
end
@[go_sem] theorem aA2(len:Nat)(k:IntKind)(x:Int):wX len (.int k x)=if 0<=x/\x<len then some x.toNat else none:=by
 cases x with
 |ofNat m=>
  simp only[wX,aoG]
  by_cases h:m<len
  ·have:(0:Int)<=Int.ofNat m/\Int.ofNat m<(len:Int):=⟨Int.natCast_nonneg m,by show(m:Int)<len;omega⟩;rw[if_pos this];simp[h]
  ·have:¬((0:Int)<=Int.ofNat m/\Int.ofNat m<(len:Int)):=by show¬((0:Int)<=(m:Int)/\(m:Int)<(len:Int));omega
   rw[if_neg this];simp[h]
 |negSucc m=>
  have:¬((0:Int)<=Int.negSucc m/\Int.negSucc m<(len:Int)):=by omega
  rw[if_neg this];rfl
@[go_sem] theorem aA3(y:Nat)(k:IntKind)(x:Int):PH y (.int k x)=if 0<=x/\x<=y then some x.toNat else none:=by
 cases x with
 |ofNat m=>
  simp only[PH,ad1]
  by_cases h:m<=y
  ·have:(0:Int)<=Int.ofNat m/\Int.ofNat m<=(y:Int):=⟨Int.natCast_nonneg m,by show(m:Int)<=y;omega⟩;rw[if_pos this];simp[h]
  ·have:¬((0:Int)<=Int.ofNat m/\Int.ofNat m<=(y:Int)):=by show¬((0:Int)<=(m:Int)/\(m:Int)<=(y:Int));omega
   rw[if_neg this];simp[h]
 |negSucc m=>
  have:¬((0:Int)<=Int.negSucc m/\Int.negSucc m<=(y:Int)):=by omega
  rw[if_neg this];rfl
attribute [go_sem] rZ Ld
def aoL(s:ByteArray)(l h:Nat):ByteArray:=⟨((s.data.toList.drop l).take (h-l)).toArray⟩
def both(a b:Option AV)(f:AV->AV->Option AV):Option AV:=match a,b with
 |some a,some b=>f a b
 |_,_=>none
@[go_sem] theorem X4(a b:AV)(f:AV->AV->Option AV):both (some a) (some b) f=f a b:=rfl
def P9:AV->AV->Option AV
 | .str s,.int _ (.ofNat i)=>match s.data.toList[i]? with
   |some b=>some (.int .u8 b.toNat)
   |none=>none
 |_,_=>none
@[go_sem] theorem atb(s:ByteArray)(k:IntKind)(i:Int):P9 (.str s) (.int k i)=if h:0<=i/\i.toNat<s.size then some (.int .u8 (s[i.toNat]'h.2).toNat)else none:=by
 cases i with
 |ofNat m=>
  simp only[P9]
  by_cases h:m<s.size
  ·have h':(0:Int)<=Int.ofNat m/\(Int.ofNat m).toNat<s.size:=⟨Int.natCast_nonneg m,h⟩;rw[dif_pos h'];have:s.data.toList[m]?=some (s[m]'h):=by
    have h2:m<s.data.size:=h;rw[Array.getElem?_toList,Array.getElem?_eq_getElem h2];rfl
   rw[this];rfl
  ·have h':¬((0:Int)<=Int.ofNat m/\(Int.ofNat m).toNat<s.size):=fun hh=>h hh.2
   rw[dif_neg h'];have:s.data.toList[m]?=none:=by
    have h2:¬m<s.data.size:=h;simp;omega
   rw[this]
 |negSucc m=>
  have h':¬((0:Int)<=Int.negSucc m/\(Int.negSucc m).toNat<s.size):=fun hh=>by omega
  rw[dif_neg h'];rfl
@[go_sem] theorem atc(tm:T AV)(g:Nat->Option AO)(x ix:cg):HJ tm g (.idx x ix)=both (cV tm x) (cV tm ix) P9:=by
 show(match cV tm x,cV tm ix with
  |some (AV.str s),some (AV.int _ (Int.ofNat i))=>match s.data.toList[i]? with
   |some b=>some (AV.int .u8 b.toNat)
   |none=>none
  |_,_=>none)=_
 generalize cV tm x=a;generalize cV tm ix=b;unfold both P9;cases a with
 |none=>rfl
 |some a=>
  cases b with
  |none=>cases a<;>rfl
  |some b=>cases a<;>cases b<;>first|rfl|(rename_i n;cases n<;>rfl)
theorem RB(s:ByteArray):s.data.toList.length=s.size:=Array.length_toList
@[go_sem] theorem atd(tm:T AV)(g:Nat->Option AO)(x:cg)(lo hi:Option cg):HJ tm g (.MN x lo hi)=match cV tm x,Dq tm lo,Dq tm hi with
 |some (.str s),some lo,some hi=>match rZ s.size s.size hi with
  |some h=>match rZ h 0 lo with
   |some l=>some (.str (aoL s l h))
   |none=>none
  |none=>none
 |_,_,_=>none:=by
 unfold HJ;simp only[RB];rfl
attribute [go_sem] Dq
@[go_sem] theorem ate(P:Program)(op:BinOp)(t:TypeId)(cx cy:Bool)(k k':IntKind)(x y:Int):bT P op t cx cy (.int k x) (.int k' y)=match op with
 | .shl=>if y<0 then none else some (.int k (fw k (x*(2^(min y.toNat k.bits)))))
 | .shr=>if y<0 then none else some (.int k (x.fdiv (2^(min y.toNat k.bits))))
 |op=>if k=k' then cw op k x y else none:=by
 unfold bT;cases op<;>simp only[iN]<;>first
  |(by_cases h:y<0<;>simp[h]<;>rfl)
  |(by_cases h:k=k'<;>simp[h])
@[go_sem] theorem atf(P:Program)(op:BinOp)(t:TypeId)(cx cy:Bool)(x y:ByteArray):bT P op t cx cy (.str x) (.str y)=match op with
 | .eql=>some (.bool (decide (x=y)))
 | .neq=>some (.bool (!decide (x=y)))
 | .add=>if x.size+y.size<=9223372036854775807 then some (.str (x++y))else none
 |_=>none:=by
 have e:rY x y=decide (x=y):=by rw[lK,Bool.eq_iff_iff,beq_iff_eq,decide_eq_true_iff,ByteArray.toList_eq,ByteArray.toList_eq];exact⟨fun h=>by cases x;cases y;simp at h;rw[h],fun h=>by rw[h]⟩
 have e2:(⟨(x.data.toList++y.data.toList).toArray⟩:ByteArray)=x++y:=by
  apply ByteArray.ext;simp[ByteArray.data_append]
 unfold bT;cases op<;>simp only[e,e2,RB,ad1]
 by_cases h:x.size+y.size<=9223372036854775807<;>simp[h]
end
end Go.Proofs.YtgkjlklfjbljeaaGreat.Eo
namespace Go.Proofs.YtgkjlklfjbljeaaGreat.Eo
noncomputable section
@[go_sem] theorem natLit(n:Nat):(Nat.cast (no_index (OfNat.ofNat n)):Int)=OfNat.ofNat n:=rfl
attribute [go_sem] Nat.le_add_right Cw List.forall_mem_cons List.not_mem_nil false_implies implies_true forall_const Nat.add_assoc Nat.left_eq_add Nat.add_eq_left dW List.getElem?_cons_zero List.getElem?_cons_succ List.getElem?_nil List.set_cons_zero List.set_cons_succ List.length_cons List.length_nil List.length_set List.length_append List.take_succ_cons List.take_zero List.drop_zero List.drop_succ_cons List.nil_append List.cons_append List.append_nil
 decide_true decide_false true_and and_true false_and and_false true_or or_true false_or or_false Bool.and_self Bool.and_true Bool.true_and Bool.and_false Bool.false_and Bool.not_true Bool.not_false Int.toNat_natCast Int.toNat_zero Int.le_refl Nat.le_refl Nat.zero_add Nat.add_zero Int.natCast_nonneg eq_self not_true_eq_false not_false_eq_true
 List.all_cons List.all_nil Option.map_some Option.map_none Nat.lt_irrefl
theorem Xf{k:IntKind}{n:Int}(h:match k with| .i8=>-128<=n/\n<=127| .u8=>0<=n/\n<=255| .i16=>-32768<=n/\n<=32767| .u16=>0<=n/\n<=65535| .i32=>-2147483648<=n/\n<=2147483647| .u32=>0<=n/\n<=4294967295| .i64=>-9223372036854775808<=n/\n<=9223372036854775807| .u64=>0<=n/\n<=18446744073709551615):fw k n=n:=by
 rw[tW];exact Bt k n h
theorem aS{n:Int}(h1:-9223372036854775808<=n)(h2:n<=9223372036854775807):fw .i64 n=n:=Xf ⟨h1,h2⟩
theorem uE{n:Int}(h1:0<=n)(h2:n<=18446744073709551615):fw .u64 n=n:=Xf ⟨h1,h2⟩
theorem fwB{n:Int}(h1:0<=n)(h2:n<=255):fw .u8 n=n:=Xf ⟨h1,h2⟩
@[go_sem] theorem T.set_set{α:Type}(t:T α)(i:Nat)(x y:α):(t.set i x).set i y=t.set i y:=T.ext fun j=>by
 rw[T.ay,T.ay,T.ay]
 by_cases e:j=i<;>simp[e]
@[go_sem] theorem fA(cs:List AV)(i:Nat):(aa 0 cs T.e).get i=cs[i]?:=by
 rw[dm]
 by_cases h:0<=i/\i<0+cs.length
 ·rw[if_pos h];rfl
 ·rw[if_neg h,T.di];rw[List.getElem?_eq_none (by omega)]
@[go_sem] theorem wM(cs:List AV)(i:Nat)(v:AV)(h:i<cs.length):(aa 0 cs T.e).set i v=aa 0 (cs.set i v) T.e:=T.ext fun j=>by
 rw[T.ay,fA,fA,List.getElem?_set]
 by_cases e:j=i
 ·subst e;simp[h]
 ·rw[if_neg e,if_neg (Ne.symm e)]
theorem Kl(cs l:List AV)(o:Nat)(h:o+l.length<=cs.length):aa o l (aa 0 cs T.e)=aa 0 (cs.take o++l++cs.drop (o+l.length)) T.e:=T.ext fun j=>by
 rw[dm,fA,fA];have h1:(cs.take o).length=o:=by simp;omega
 by_cases e:o<=j/\j<o+l.length
 ·rw[if_pos e,List.append_assoc,List.getElem?_append_right (by omega),List.getElem?_append_left (by omega),h1]
 ·rw[if_neg e]
  by_cases e2:j<o
  ·rw[List.append_assoc,List.getElem?_append_left (by omega),List.getElem?_take,if_pos e2]
  ·rw[List.getElem?_append_right (by simp;omega),List.getElem?_drop];congr 1;simp;omega
@[go_sem] theorem afq(cs:List AV)(o:Nat)(v:AV)(h:o<cs.length):aa o [v] (aa 0 cs T.e)=aa 0 (cs.set o v) T.e:=by
 rw[←wM cs o v h,fa,fJ]
@[go_sem] theorem X5(cs l:List AV)(h:l.length=cs.length):aa 0 l (aa 0 cs T.e)=aa 0 l T.e:=by
 rw[Kl cs l 0 (by omega)];congr 1;rw[List.take_zero,List.nil_append,List.drop_eq_nil_of_le (by omega),List.append_nil]
theorem j8(cs:List AV):∀(n o:Nat),bh (aa 0 cs T.e) o n=if o+n<=cs.length\/n=0 then some ((cs.drop o).take n)else none
 |0,o=>by rw[dH];simp
 |n+1,o=>by
  rw[eT,fA,j8 cs n (o+1)]
  by_cases h:o<cs.length
  ·rw[List.getElem?_eq_getElem h];simp only[]
   by_cases h2:o+1+n<=cs.length
   ·rw[if_pos (.inl h2),if_pos (.inl (by omega))];simp only[];rw[List.drop_eq_getElem_cons h,List.take_succ_cons]
   ·by_cases hn:n=0
    ·omega
    ·rw[if_neg (by omega),if_neg (by omega)]
  ·rw[List.getElem?_eq_none (by omega)];simp only[];rw[if_neg (by omega)]
@[go_sem] theorem afr(cs:List AV)(o n:Nat)(h:o+n<=cs.length):bh (aa 0 cs T.e) o n=some ((cs.drop o).take n):=by
 rw[j8,if_pos (.inl h)]
abbrev ag(cs:List AV)(e:TypeId):AO:=.row (aa 0 cs T.e) cs.length e
def own:AV->Option Nat
 | .sl a _ _ _ _=>some a
 |_=>none
inductive Own(es:Nat)(e:TypeId)(h:H):AV->Nat->List AV->Prop where
 |nil:Own es e h .ax 0 []
 |sl (a len:Nat) (cs:List AV) (cap:Option Nat) (hc:cap=none\/cap=some len) (h0:0<len) (hl:cs.length=len*es) (ha:a<h.next) (hg:h.t.get a=some (ag cs e)):Own es e h (.sl a 0 len es cap) len cs
theorem Own.aF{es:Nat}{e:TypeId}{h h':H}{v:AV}{len:Nat}{cs:List AV}(o:Own es e h v len cs)(hn:h.next<=h'.next)(hk:∀b,own v=some b->h'.t.get b=h.t.get b):Own es e h' v len cs:=by
 cases o with
 |nil=>exact .nil
 |sl a len cs cap hc h0 hl ha hg=>exact .sl a len cs cap hc h0 hl (Nat.lt_of_lt_of_le ha hn) ((hk a rfl).trans hg)
theorem Own.length{es:Nat}{e:TypeId}{h:H}{v:AV}{len:Nat}{cs:List AV}(o:Own es e h v len cs):cs.length=len*es:=by
 cases o with
 |nil=>simp
 |sl a len cs cap hc h0 hl ha hg=>exact hl
theorem Own.lt{es:Nat}{e:TypeId}{h:H}{v:AV}{len:Nat}{cs:List AV}(o:Own es e h v len cs){b:Nat}(hb:own v=some b):b<h.next:=by
 cases o with
 |nil=>simp[own]at hb
 |sl a len cs cap hc h0 hl ha hg=>simp[own]at hb;omega
def mF(h:H)(es:Nat)(len:Nat):AV:=.sl h.next 0 len es none
def sR(h:H)(e:TypeId)(v:AV)(cs:List AV):H:=⟨h.next+1,(match v with
 | .sl a _ _ _ none=>h.t.set a .dead
 |_=>h.t).set h.next (ag cs e)⟩
theorem du{es bytes n:Nat}{e:TypeId}{h:H}{v:AV}{len:Nat}{cs src:List AV}(o:Own es e h v len cs)(sQ:0<es)(hn:0<n)(hb:(2*(len+n)+192)*bytes<=281474976710656)(hle:len+n<=281474976710656):
 ry h e es bytes v n src=some (mF h es (len+n),sR h e v (cs++src)):=by
 have b1:Nat.ble ((2*(len+n)+192)*bytes) 281474976710656=true:=Nat.ble_eq_true_of_le hb;have b2:Nat.ble (len+n) 281474976710656=true:=Nat.ble_eq_true_of_le hle;obtain⟨m,rfl⟩:∃m,n=m+1:=⟨n-1,by omega⟩;cases o with
 |nil=>
  rw[Nat.zero_add]at b2⊢;have b3:Nat.ble ((m+1)*bytes) 281474976710656=true:=Nat.ble_eq_true_of_le (Nat.le_trans (Nat.mul_le_mul_right _ (by omega)) hb);unfold ry;simp only[fY,Nat.zero_add,b3,b2,Bool.and_self,cond_true,List.nil_append];rfl
 |sl a len cs cap hc h0 hl ha hg=>
  unfold ry;have c1:Nat.beq es es=true:=by simp
  have c2:Nat.beq e e=true:=by simp
  have c3:Nat.ble (0+(len+(m+1))*es) cs.length=false:=by
   rw[ble_eq,decide_eq_false_iff_not,hl,Nat.add_mul];have:0<(m+1)*es:=Nat.mul_pos (Nat.succ_pos _) sQ;omega
  have c4:bh (aa 0 cs T.e) 0 (len*es)=some cs:=by
   rw[j8,if_pos (.inl (by omega))];simp[←hl]
  rcases hc with rfl|rfl
  ·simp only[c1,cond_true,hg,c2,c3,Bool.false_and,cond_false,c4,fY,b1,b2,Bool.and_self];rfl
  ·have c5:Nat.ble (len+(m+1)) len=false:=by rw[ble_eq,decide_eq_false_iff_not];omega
   simp only[c1,cond_true,hg,c2,c5,cond_false,c4,fY,b1,b2,Bool.and_self];rfl
theorem eV{es n:Nat}{e:TypeId}{h:H}{v:AV}{len:Nat}{cs src:List AV}(o:Own es e h v len cs)(hn:0<n)(hs:src.length=n*es):Own es e (sR h e v (cs++src)) (mF h es (len+n)) (len+n) (cs++src):=by
 have hl:=o.length;refine .sl _ _ _ _ (.inl rfl) (by omega) (by rw[List.length_append,hs,hl,Nat.add_mul]) (Nat.lt_succ_self _) ?_
 show(T.set _ h.next _).get h.next=_
 rw[T.ay,if_pos rfl]
theorem Own.one{es:Nat}{e:TypeId}{h:H}{v:AV}{len:Nat}{cs:List AV}(o:Own es e h v len cs):aY v=true:=by
 cases o<;>rfl
theorem Own.bR{es:Nat}{e:TypeId}{h:H}{v:AV}{len:Nat}{cs:List AV}(o:Own es e h v len cs):bR v=some (.int .i64 (len:Int)):=by
 cases o<;>rfl
theorem b8{α:Type}{o:Option α}{x:α}{K:α->Prop}(e:o=some x)(k:K x):@gw α o ⟨K⟩:=by rw[e];exact k
theorem af{o:Option (AV×H)}{K:AV×H->Prop}{S:AV->H->Prop}(ho:∃v h',o=some (v,h')/\S v h')(hk:∀v h',S v h'->K (v,h')):@gw _ o ⟨K⟩:=by
 obtain⟨v,h',e,s⟩:=ho;rw[e];exact hk v h' s
theorem iJ(h:H)(e:TypeId)(v:AV)(cs:List AV):(sR h e v cs).next=h.next+1:=rfl
theorem ez(h:H)(es len:Nat):own (mF h es len)=some h.next:=rfl
theorem cT{h:H}{e:TypeId}{v:AV}{cs:List AV}{b:Nat}(hb:b<h.next)(ho:own v≠some b):(sR h e v cs).t.get b=h.t.get b:=by
 unfold sR;simp only[T.ay,if_neg (Nat.ne_of_lt hb)];split
 ·rw[T.ay,if_neg];rintro rfl;exact ho rfl
 ·rfl
theorem iG{α:Type}{o:Option α}{K K':α->Prop}(hk:∀x,K x->K' x)(h:@gw α o ⟨K⟩):@gw α o ⟨K'⟩:=by
 cases o with
 |none=>exact h
 |some x=>exact hk x h
theorem Aq{b:Bool}{A A' B B':Prop}(ha:A->A')(hb:B->B')(h:@BU b ⟨A⟩ ⟨B⟩):@BU b ⟨A'⟩ ⟨B'⟩:=by
 cases b with
 |true=>exact ha h
 |false=>exact hb h
theorem B3{P:Program}{call:ab}:∀{l:List SQ} {K K':T AV->H->Prop} {tm:T AV} {h:H},(∀tm h,K tm h->K' tm h)->WS P call l K tm h->WS P call l K' tm h
 | [],K,K',tm,h,hk,hw=>hk _ _ hw
 |q::l,K,K',tm,h,hk,hw=>iG (fun b=>Aq (iG fun r=>B3 hk) (B3 hk)) hw
theorem xT{P:Program}{aQ:T AV}{ph:Nat}:∀{l:List DQ} {K K':T Rec->H->Prop} {F:T Rec} {h:H},(∀F h,K F h->K' F h)->DP P aQ ph l K F h->DP P aQ ph l K' F h
 | [],K,K',F,h,hk,hw=>hk _ _ hw
 |q::l,K,K',F,h,hk,hw=>iG (fun r=>xT hk) hw
theorem DY{P:Program}{call:ab}{aQ:T AV}:∀{l:List (List DQ×Option DQ)} {ph:Nat} {K K':T Rec->List H->Prop} {F:T Rec} {h:H},(∀F hs,K F hs->K' F hs)->Fc P call aQ ph l K F h->Fc P call aQ ph l K' F h
 | [],ph,K,K',F,h,hk,hw=>hw
 |(qs,none)::l,ph,K,K',F,h,hk,hw=>xT (fun F h=>hk F [h]) hw
 |(qs,some e)::l,ph,K,K',F,h,hk,hw=>xT (fun F1 h1=>iG fun r hh=>⟨hh.1,DY (fun F hs=>hk F (h1::hs)) hh.2⟩) hw
theorem Md{P:Program}{call:ab}{d:DR}{K K':T AV->H->Prop}{tm:T AV}{h:H}(hk:∀tm h,K tm h->K' tm h)(hw:L7 P call d K tm h):L7 P call d K' tm h:=
 DY (fun F hs hh=>⟨hh.1,iG (fun h'=>hk _ _) hh.2⟩) hw
theorem Ff{W:aZ->T AV->H->Prop}{Q Q':aZ}(hW:∀tm h,W Q tm h->W Q' tm h)(hq:∀ex tm h,Q ex tm h->Q' ex tm h):∀ex tm h,eh W Q ex tm h->eh W Q' ex tm h:=by
 intro ex tm h hh;cases ex with
 |normal=>exact hW _ _ hh
 |exit j=>exact hq _ _ _ hh
 |goto l=>exact hq _ _ _ hh
 |ret=>exact hq _ _ _ hh
theorem Me{id:Nat}{Q Q':aZ}(hq:∀ex tm h,Q ex tm h->Q' ex tm h):∀ex tm h,oE id Q ex tm h->oE id Q' ex tm h:=by
 intro ex tm h hh;cases ex with
 |normal=>exact hq _ _ _ hh
 |exit j=>
  simp only[oE]at hh⊢
  by_cases e:j=id
  ·rw[if_pos e]at hh⊢;exact hq _ _ _ hh
  ·rw[if_neg e]at hh⊢;exact hq _ _ _ hh
 |goto l=>exact hq _ _ _ hh
 |ret=>exact hq _ _ _ hh
theorem iR{W:aZ->T AV->H->Prop}(hW:∀Q Q' tm h,(∀ex tm h,Q ex tm h->Q' ex tm h)->W Q tm h->W Q' tm h):∀(n m:Nat),n<=m->∀Q Q' tm h,(∀ex tm h,Q ex tm h->Q' ex tm h)->iQ W n Q tm h->iQ W m Q' tm h
 |0,_,_,_,_,_,_,_,hl=>hl.elim
 |n+1,0,hle,_,_,_,_,_,_=>by omega
 |n+1,m+1,hle,Q,Q',tm,h,hq,hl=>hW _ _ _ _ (DZ (fun tm h=>iR hW n m (by omega) Q Q' tm h hq) hq) hl
where
 DZ {W W':aZ->T AV->H->Prop} {Q Q':aZ} (hW:∀tm h,W Q tm h->W' Q' tm h) (hq:∀ex tm h,Q ex tm h->Q' ex tm h):∀ex tm h,eh W Q ex tm h->eh W' Q' ex tm h:=by
  intro ex tm h hh;cases ex with
  |normal=>exact hW _ _ hh
  |exit j=>exact hq _ _ _ hh
  |goto l=>exact hq _ _ _ hh
  |ret=>exact hq _ _ _ hh
theorem vP{P:Program}{call:ab}:∀(c:CC) {Q Q':aZ} {tm:T AV} {h:H},(∀ex tm h,Q ex tm h->Q' ex tm h)->WC P call c Q tm h->WC P call c Q' tm h:=by
 intro c
 induction c with
 |skip=>intro Q Q' tm h hq hw;exact hq _ _ _ hw
 |ops l=>intro Q Q' tm h hq hw;exact B3 (fun tm h=>hq .normal tm h) hw
 |cn d=>intro Q Q' tm h hq hw;exact Md (fun tm h=>hq .normal tm h) hw
 |seq a b Du HN=>intro Q Q' tm h hq hw;exact Du (Ff (fun tm h=>HN hq) hq) hw
 |cond c a b Du HN=>intro Q Q' tm h hq hw;exact iG (fun t=>Aq (Du hq) (HN hq)) hw
 |block id a ih=>intro Q Q' tm h hq hw;exact ih (Me hq) hw
 |loop a ih=>
  intro Q Q' tm h hq hw;obtain⟨n,hn⟩:=hw;exact⟨n,iR (W:=WC P call a) (fun Q Q' tm h hq hw=>ih hq hw) n n (Nat.le_refl _) Q Q' tm h hq hn⟩
 |exit id=>intro Q Q' tm h hq hw;exact hq _ _ _ hw
 |ret=>intro Q Q' tm h hq hw;exact hq _ _ _ hw
 |goto l=>intro Q Q' tm h hq hw;exact hq _ _ _ hw
 |scope a l r Du ihr=>
  intro Q Q' tm h hq hw;refine Du (fun ex tm h hh=>?_) hw;cases ex with
  |normal=>exact hq _ _ _ hh
  |exit j=>exact hq _ _ _ hh
  |ret=>exact hq _ _ _ hh
  |goto j=>
   simp only[dY]at hh⊢
   by_cases e:j=l
   ·rw[if_pos e]at hh⊢;refine ihr (fun ex tm h hh=>?_) hh;cases ex with
    |normal=>exact hq _ _ _ hh
    |exit j=>exact hq _ _ _ hh
    |ret=>exact hq _ _ _ hh
    |goto j=>exact hh
   ·rw[if_neg e]at hh;exact hh.elim
 |stuck=>intro Q Q' tm h hq hw;exact hw.elim
def bM(id:Nat)(N R S:T AV->H->Prop):aZ:=fun ex tm h=>match ex with
 | .normal=>N tm h
 | .exit j=>j=id/\R tm h
 | .goto _=>False
 | .ret=>S tm h
@[go_sem] theorem aoN(id:Nat)(N R S:T AV->H->Prop)(tm:T AV)(h:H):bM id N R S .normal tm h=N tm h:=by unfold bM;rfl
@[go_sem] theorem aoO(id j:Nat)(N R S:T AV->H->Prop)(tm:T AV)(h:H):bM id N R S (.exit j) tm h=(j=id/\R tm h):=by unfold bM;rfl
@[go_sem] theorem aoP(id:Nat)(N R S:T AV->H->Prop)(tm:T AV)(h:H):bM id N R S .ret tm h=S tm h:=by unfold bM;rfl
theorem Fg{P:Program}{call:ab}{c:CC}{id:Nat}(I:Nat->T AV->H->Prop)(R S:T AV->H->Prop){Q:aZ}
 (pB:∀k tm h,I k tm h->WC P call c (bM id (fun tm h=>∃j,j<k/\I j tm h) R S) tm h) (hR:∀tm h,R tm h->Q .normal tm h) (hS:∀tm h,S tm h->Q .ret tm h):
 ∀k tm h,I k tm h->WC P call (.block id (.loop c)) Q tm h:=by
 intro k tm h hI;have main:∀k tm h,I k tm h->iQ (WC P call c) (k+1) (oE id Q) tm h:=by
  intro k
  induction k using Nat.strongRecOn with
  |_ k ih=>
   intro tm h hI;refine vP c (fun ex aC h' hh=>?_) (pB k tm h hI);cases ex with
   |normal=>
    obtain⟨j,hj,hIj⟩:=hh;exact iR (W:=WC P call c) (fun Q Q' tm h hq hw=>vP c hq hw) (j+1) k hj _ _ _ _ (fun _ _ _ x=>x) (ih j hj aC h' hIj)
   |exit j=>
    obtain⟨rfl,hr⟩:=hh
    show oE j Q (.exit j) aC h'
    rw[oE,if_pos rfl];exact hR _ _ hr
   |goto l=>exact hh.elim
   |ret=>exact hS _ _ hh
 exact⟨k+1,main k tm h hI⟩
theorem aT{P:Program}{call:ab}{c:CC}{id:Nat}(I:Nat->T AV->H->Prop)(R S:T AV->H->Prop){Q:aZ}
 (pB:∀k tm h,I k tm h->WC P call c (bM id (fun tm h=>∃j,j<k/\I j tm h) R S) tm h) (hR:∀tm h,R tm h->Q .normal tm h) (hS:∀tm h,S tm h->Q .ret tm h):
 ∀k tm h,I k tm h->WC P call (.loop c) (oE id Q) tm h:=fun k tm h hI=>Fg I R S pB hR hS k tm h hI
theorem kq{P:Program}{call:ab}{a:CC}{Q:aZ}{tm:T AV}{h:H}(n:Nat)(hw:iQ (WC P call a) n Q tm h):WC P call (.loop a) Q tm h:=⟨n,hw⟩
@[go_sem] theorem aoQ(W:aZ->T AV->H->Prop)(n:Nat)(Q:aZ)(tm:T AV)(h:H):iQ W (n+1) Q tm h=W (eh (iQ W n) Q) tm h:=by rw[iQ]
theorem El{P:Program}{call:ab}{a b:CC}(R:T AV->H->Prop){Q:aZ}{tm:T AV}{h:H}(ha:WC P call a (bM 1000000 R (fun _ _=>False) (fun _ _=>False)) tm h)(hb:∀tm h,R tm h->WC P call b Q tm h):WC P call (.seq a b) Q tm h:=by
 refine vP a (fun ex aC h' hh=>?_) ha;cases ex with
 |normal=>exact hb _ _ hh
 |exit j=>exact hh.2.elim
 |goto l=>exact hh.elim
 |ret=>exact hh.elim
theorem iS{α:Type}{o:Option α}{K1 K2:α->Prop}(h1:@gw α o ⟨K1⟩)(h2:@gw α o ⟨K2⟩):∃x,o=some x/\K1 x/\K2 x:=by
 cases o with
 |none=>exact h1.elim
 |some x=>exact⟨x,rfl,h1,h2⟩
theorem Fh{P:Program}{call:ab}:∀{l:List SQ} {K1 K2:T AV->H->Prop} {tm:T AV} {h:H},WS P call l K1 tm h->WS P call l K2 tm h->∃aC h',K1 aC h'/\K2 aC h'/\∀K,K aC h'->WS P call l K tm h
 | [],K1,K2,tm,h,h1,h2=>⟨tm,h,h1,h2,fun K k=>k⟩
 |q::l,K1,K2,tm,h,h1,h2=>by
  obtain⟨b,e,g1,g2⟩:=iS h1 h2;cases b with
  |true=>
   obtain⟨r,e',k1,k2⟩:=iS g1 g2;obtain⟨aC,h',a1,a2,a3⟩:=Fh k1 k2;exact⟨aC,h',a1,a2,fun K k=>fP e (fP e' (a3 K k))⟩
  |false=>
   obtain⟨aC,h',a1,a2,a3⟩:=Fh g1 g2;exact⟨aC,h',a1,a2,fun K k=>fP e (a3 K k)⟩
theorem B5{P:Program}{aQ:T AV}{ph:Nat}:∀{l:List DQ} {K1 K2:T Rec->H->Prop} {F:T Rec} {h:H},DP P aQ ph l K1 F h->DP P aQ ph l K2 F h->∃F' h',K1 F' h'/\K2 F' h'/\∀K,K F' h'->DP P aQ ph l K F h
 | [],K1,K2,F,h,h1,h2=>⟨F,h,h1,h2,fun K k=>k⟩
 |q::l,K1,K2,F,h,h1,h2=>by
  obtain⟨r,e,g1,g2⟩:=iS h1 h2;obtain⟨F',h',a1,a2,a3⟩:=B5 g1 g2;exact⟨F',h',a1,a2,fun K k=>fP e (a3 K k)⟩
theorem GJ{P:Program}{call:ab}{aQ:T AV}:∀{l:List (List DQ×Option DQ)} {ph:Nat} {K1 K2:T Rec->List H->Prop} {F:T Rec} {h:H},Fc P call aQ ph l K1 F h->Fc P call aQ ph l K2 F h->∃F' hs,K1 F' hs/\K2 F' hs/\∀K,K F' hs->Fc P call aQ ph l K F h
 | [],ph,K1,K2,F,h,h1,_=>h1.elim
 |(qs,none)::l,ph,K1,K2,F,h,h1,h2=>by
  obtain⟨F',h',a1,a2,a3⟩:=B5 h1 h2;exact⟨F',[h'],a1,a2,fun K k=>a3 (fun F h=>K F [h]) k⟩
 |(qs,some e)::l,ph,K1,K2,F,h,h1,h2=>by
  obtain⟨F1,Cf,a1,a2,a3⟩:=B5 h1 h2;obtain⟨r,er,⟨l1,g1⟩,⟨l2,g2⟩⟩:=iS a1 a2;obtain⟨F',hs,b1,b2,b3⟩:=GJ g1 g2;exact⟨F',Cf::hs,b1,b2,fun K k=>a3 (fun F1 h1=>@gw _ (X0 P call aQ F1 h1 e) ⟨fun r=>h1.next<=r.2.next/\Fc P call aQ (ph+1) l (fun F' hs=>K F' (h1::hs)) (F1.set e.i (.BJ r.1)) r.2⟩) (fP er ⟨l1,b3 (fun F' hs=>K F' (Cf::hs)) k⟩)⟩
theorem Qa{P:Program}{call:ab}{d:DR}{K1 K2:T AV->H->Prop}{tm:T AV}{h:H}(h1:L7 P call d K1 tm h)(h2:L7 P call d K2 tm h):∃aC h',K1 aC h'/\K2 aC h'/\∀K,K aC h'->L7 P call d K tm h:=by
 obtain⟨F,hs,⟨c1,g1⟩,⟨c2,g2⟩,a3⟩:=GJ h1 h2;obtain⟨h',e,k1,k2⟩:=iS g1 g2;exact⟨_,h',k1,k2,fun K k=>a3 (fun F hs=>DS P tm F hs d.chk/\@gw _ (nz hs) ⟨fun h'=>K (uP F d.fin tm) h'⟩) ⟨c1,fP e k⟩⟩
def Two(W:aZ->T AV->H->Prop):Prop:=∀Q1 Q2 tm h,W Q1 tm h->W Q2 tm h->∃ex aC h',Q1 ex aC h'/\Q2 ex aC h'/\∀Q,Q ex aC h'->W Q tm h
theorem Ar{W:aZ->T AV->H->Prop}(hW:Two W):∀n,Two (iQ W n)
 |0,Q1,Q2,tm,h,h1,_=>h1.elim
 |n+1,Q1,Q2,tm,h,h1,h2=>by
  obtain⟨ex,aC,h',a1,a2,a3⟩:=hW _ _ _ _ h1 h2;cases ex with
  |normal=>
   obtain⟨ex,dC,h2,b1,b2,b3⟩:=Ar hW n Q1 Q2 aC h' a1 a2;exact⟨ex,dC,h2,b1,b2,fun Q k=>a3 (eh (iQ W n) Q) (b3 Q k)⟩
  |exit j=>exact⟨.exit j,aC,h',a1,a2,fun Q k=>a3 (eh (iQ W n) Q) k⟩
  |goto l=>exact⟨.goto l,aC,h',a1,a2,fun Q k=>a3 (eh (iQ W n) Q) k⟩
  |ret=>exact⟨.ret,aC,h',a1,a2,fun Q k=>a3 (eh (iQ W n) Q) k⟩
theorem Xg{P:Program}{call:ab}:∀c:CC,Two (WC P call c):=by
 intro c
 induction c with
 |skip=>intro Q1 Q2 tm h h1 h2;exact⟨.normal,tm,h,h1,h2,fun Q k=>k⟩
 |ops l=>
  intro Q1 Q2 tm h h1 h2;obtain⟨aC,h',a1,a2,a3⟩:=Fh h1 h2;exact⟨.normal,aC,h',a1,a2,fun Q k=>a3 (fun tm h=>Q .normal tm h) k⟩
 |cn d=>
  intro Q1 Q2 tm h h1 h2;obtain⟨aC,h',a1,a2,a3⟩:=Qa h1 h2;exact⟨.normal,aC,h',a1,a2,fun Q k=>a3 (fun tm h=>Q .normal tm h) k⟩
 |seq a b Du HN=>
  intro Q1 Q2 tm h h1 h2;obtain⟨ex,aC,h',a1,a2,a3⟩:=Du _ _ _ _ h1 h2;cases ex with
  |normal=>
   obtain⟨ex,dC,h2,b1,b2,b3⟩:=HN _ _ _ _ a1 a2;exact⟨ex,dC,h2,b1,b2,fun Q k=>a3 (eh (WC P call b) Q) (b3 Q k)⟩
  |exit j=>exact⟨.exit j,aC,h',a1,a2,fun Q k=>a3 (eh (WC P call b) Q) k⟩
  |goto l=>exact⟨.goto l,aC,h',a1,a2,fun Q k=>a3 (eh (WC P call b) Q) k⟩
  |ret=>exact⟨.ret,aC,h',a1,a2,fun Q k=>a3 (eh (WC P call b) Q) k⟩
 |cond c a b Du HN=>
  intro Q1 Q2 tm h h1 h2;obtain⟨t,e,g1,g2⟩:=iS h1 h2;cases t with
  |true=>
   obtain⟨ex,aC,h',a1,a2,a3⟩:=Du _ _ _ _ g1 g2;exact⟨ex,aC,h',a1,a2,fun Q k=>fP e (a3 Q k)⟩
  |false=>
   obtain⟨ex,aC,h',a1,a2,a3⟩:=HN _ _ _ _ g1 g2;exact⟨ex,aC,h',a1,a2,fun Q k=>fP e (a3 Q k)⟩
 |block id a ih=>
  intro Q1 Q2 tm h h1 h2;obtain⟨ex,aC,h',a1,a2,a3⟩:=ih _ _ _ _ h1 h2;cases ex with
  |normal=>exact⟨.normal,aC,h',a1,a2,fun Q k=>a3 (oE id Q) k⟩
  |exit j=>
   by_cases hj:j=id
   ·simp only[oE,if_pos hj]at a1 a2;exact⟨.normal,aC,h',a1,a2,fun Q k=>a3 (oE id Q) (by simp only[oE,if_pos hj];exact k)⟩
   ·simp only[oE,if_neg hj]at a1 a2;exact⟨.exit j,aC,h',a1,a2,fun Q k=>a3 (oE id Q) (by simp only[oE,if_neg hj];exact k)⟩
  |goto l=>exact⟨.goto l,aC,h',a1,a2,fun Q k=>a3 (oE id Q) k⟩
  |ret=>exact⟨.ret,aC,h',a1,a2,fun Q k=>a3 (oE id Q) k⟩
 |loop a ih=>
  intro Q1 Q2 tm h h1 h2;obtain⟨n,h1⟩:=h1;obtain⟨m,h2⟩:=h2;have hm:∀Q Q' tm h,(∀ex tm h,Q ex tm h->Q' ex tm h)->WC P call a Q tm h->WC P call a Q' tm h:=fun Q Q' tm h hq hw=>vP a hq hw
  obtain⟨ex,aC,h',a1,a2,a3⟩:=Ar ih (max n m) Q1 Q2 tm h (iR hm n _ (Nat.le_max_left _ _) _ _ _ _ (fun _ _ _ x=>x) h1) (iR hm m _ (Nat.le_max_right _ _) _ _ _ _ (fun _ _ _ x=>x) h2);exact⟨ex,aC,h',a1,a2,fun Q k=>⟨_,a3 Q k⟩⟩
 |exit id=>intro Q1 Q2 tm h h1 h2;exact⟨.exit id,tm,h,h1,h2,fun Q k=>k⟩
 |ret=>intro Q1 Q2 tm h h1 h2;exact⟨.ret,tm,h,h1,h2,fun Q k=>k⟩
 |goto l=>intro Q1 Q2 tm h h1 h2;exact⟨.goto l,tm,h,h1,h2,fun Q k=>k⟩
 |scope a l r Du ihr=>
  intro Q1 Q2 tm h h1 h2;obtain⟨ex,aC,h',a1,a2,a3⟩:=Du _ _ _ _ h1 h2;cases ex with
  |normal=>exact⟨.normal,aC,h',a1,a2,fun Q k=>a3 (dY l (WC P call r) Q) k⟩
  |exit j=>exact⟨.exit j,aC,h',a1,a2,fun Q k=>a3 (dY l (WC P call r) Q) k⟩
  |ret=>exact⟨.ret,aC,h',a1,a2,fun Q k=>a3 (dY l (WC P call r) Q) k⟩
  |goto j=>
   simp only[dY]at a1 a2
   by_cases e:j=l
   ·rw[if_pos e]at a1 a2;obtain⟨ex,dC,h2,b1,b2,b3⟩:=ihr _ _ _ _ a1 a2;have k3:∀Q:aZ,WC P call r (uQ Q) aC h'->WC P call (.scope a l r) Q tm h:=fun Q k=>a3 (dY l (WC P call r) Q) (by simp only[dY];rw[if_pos e];exact k)
    cases ex with
    |normal=>exact⟨.normal,dC,h2,b1,b2,fun Q k=>k3 Q (b3 (uQ Q) k)⟩
    |exit j=>exact⟨.exit j,dC,h2,b1,b2,fun Q k=>k3 Q (b3 (uQ Q) k)⟩
    |ret=>exact⟨.ret,dC,h2,b1,b2,fun Q k=>k3 Q (b3 (uQ Q) k)⟩
    |goto j=>exact b1.elim
   ·rw[if_neg e]at a1;exact a1.elim
 |stuck=>intro Q1 Q2 tm h h1 h2;exact h1.elim
theorem Ef{P:Program}{call:ab}{cf:CF}{args:List AV}{h:H}{Q1 Q2:AV->H->Prop}(h1:WF P call cf args h Q1)(h2:WF P call cf args h Q2):∃v h',Q1 v h'/\Q2 v h'/\∀Q,Q v h'->WF P call cf args h Q:=by
 obtain⟨ex,aC,h',a1,a2,a3⟩:=Xg _ _ _ _ _ h1 h2;have key:∀{aC h'},(@gw _ (re aC h'.t.get cf.rs) ⟨fun vs=>Q1 (fk vs) h'⟩)->(@gw _ (re aC h'.t.get cf.rs) ⟨fun vs=>Q2 (fk vs) h'⟩)->∃v,Q1 v h'/\Q2 v h'/\∀Q:AV->H->Prop,Q v h'->@gw _ (re aC h'.t.get cf.rs) ⟨fun vs=>Q (fk vs) h'⟩:=by
  intro aC h' g1 g2;obtain⟨vs,e,k1,k2⟩:=iS g1 g2;exact⟨_,k1,k2,fun Q k=>fP e k⟩
 cases ex with
 |normal=>
  obtain⟨v,b1,b2,b3⟩:=key a1 a2;exact⟨v,h',b1,b2,fun Q k=>a3 (DX cf.rs Q) (b3 Q k)⟩
 |exit j=>exact a1.elim
 |goto l=>exact a1.elim
 |ret=>
  obtain⟨v,b1,b2,b3⟩:=key a1 a2;exact⟨v,h',b1,b2,fun Q k=>a3 (DX cf.rs Q) (b3 Q k)⟩
def Ran(P:Program)(call:ab)(f:FuncId)(args:List AV)(h:H)(r:AV×H):Prop:=
 mJ P f=true/\Nat.ble dW f=false/\∃cf,Mz P f args.length=some cf/\WF P call cf args h fun v h'=>v=r.1/\h'=r.2
open Go.RowKit in
theorem yO{ρ:aR}{h:H}{w w':World}(hr:HR ρ h.t.get w)(hf:cC ρ h.next)(b:Below w.heap.size w w'):Way ρ h w ρ h w':=by
 refine⟨⟨⟨fun a o l h1 h2 h3=>?_,hr.inj⟩,Le.refl _,⟨b.os,b.tape,b.output⟩,b.size,fun r hr _=>b.block r hr,fun a o l h1 h2 h3 _=>⟨a,o,l,h1,h2,h3,rfl⟩⟩,hf,Kp.refl _ _⟩;obtain⟨h4,h5⟩:=hr.obj a o l h1 h2 h3;exact⟨Nat.lt_of_lt_of_le h4 b.size,uJ.congr (b.block _ h4) h5⟩
open Go.RowKit in
theorem Ht{P:Program}{f:FuncId}{ρ:aR}{h:H}{w:World}{v:AV}{V:Value}{ARGS:Array Value}(hr:HR ρ h.t.get w)(hf:cC ρ h.next)(hv:VR ρ v V)(h1:mJ P f=true)(hc:Calls P f ARGS w fun e w'=>e=.returned V/\Below w.heap.size w w'):EZ P (callFunc f ARGS) ρ h w v h:=by
 obtain⟨fn,c,g1,g2,g3⟩:=mc h1;exact .inr ⟨f,ARGS,bm g1 g2 g3 _ _,hc.mono fun e w' hh=>⟨ρ,V,hh.1,hv,yO hr hf hh.2⟩⟩
def iu(P:Program)(base:ab):Nat->ab
 |0=>base
 |n+1=>fun f args h=>match base f args h with
  |some r=>some r
  |none=>
   haveI:=Classical.propDecidable (∃r:AV×H,Ran P (iu P base n) f args h r)
   if hh:∃r:AV×H,Ran P (iu P base n) f args h r then some hh.choose else none
theorem fD{P:Program}{base:ab}{f:FuncId}{args:List AV}{h:H}{r:AV×H}(e:base f args h=some r):∀n,iu P base n f args h=some r
 |0=>e
 |n+1=>by unfold iu;rw[e]
theorem rf{P:Program}{base:ab}{n:Nat}{f:FuncId}{args:List AV}{h:H}{r:AV×H}(e:iu P base (n+1) f args h=some r):base f args h=some r\/Ran P (iu P base n) f args h r:=by
 unfold iu at e;split at e
 ·rename_i r' hb;exact .inl (hb.trans e)
 ·split at e
  ·rename_i hh;have:=hh.choose_spec;simp only[Option.some.injEq]at e;rw[e]at this;exact .inr this
  ·simp at e
theorem tZ{P:Program}{base:ab}(hp:Plain base):∀n,Plain (iu P base n)
 |0=>hp
 |n+1=>fun f args h hb=>by
  cases e:iu P base (n+1) f args h with
  |none=>rfl
  |some r=>
   rcases rf e with h1|h1
   ·rw[hp f args h hb]at h1;cases h1
   ·have:=h1.2.1;rw[this]at hb;simp at hb
theorem De{P:Program}{base:ab}(hm:P.follows .mixedOrders=true)(hp:Plain base)(hb:bF true P base):∀n,bF true P (iu P base n)
 |0=>hb
 |n+1=>by
  intro f args h v h' e ρ w ARGS ha hr hf;rcases rf e with h0|⟨h1,h2,cf,h3,h4⟩
  ·exact hb f args h v h' h0 ρ w ARGS ha hr hf
  obtain⟨v',XQ,k,e1,e2⟩:=Da hm (De hm hp hb n) (tZ hp n) h1 h2 h3 rfl h4;simp only at e1 e2;subst e1;subst e2;obtain⟨fn,c,g1,g2,g3⟩:=mc h1;exact .inl ⟨h2,.inr ⟨f,ARGS.toArray,bm g1 g2 g3 _ _,k.ret ρ w ARGS ha hr hf⟩⟩
theorem KD{P:Program}{base:ab}{n:Nat}{f:FuncId}{args:List AV}{h:H}{cf:CF}{iB:AV->H->Prop}(h0:base f args h=none)(h1:mJ P f=true)(h2:Nat.ble dW f=false)(h3:Mz P f args.length=some cf)(hw:WF P (iu P base n) cf args h iB):
 ∃v h',iu P base (n+1) f args h=some (v,h')/\iB v h':=by
 obtain⟨v,h',p,_,k⟩:=Ef hw hw;have hx:∃r:AV×H,Ran P (iu P base n) f args h r:=⟨(v,h'),h1,h2,cf,h3,k _ ⟨rfl,rfl⟩⟩;have hc:∃r,iu P base (n+1) f args h=some r:=by
  unfold iu;rw[h0];simp only[];split
  ·exact⟨_,rfl⟩
  ·rename_i hn;exact absurd hx hn
 obtain⟨r,hc⟩:=hc;rcases rf hc with h5|⟨_,_,cf',h3',iY⟩
 ·rw[h0]at h5;cases h5
 rw[h3]at h3';simp at h3';subst h3';obtain⟨v2,Fw,⟨e1,e2⟩,p2,_⟩:=Ef iY hw;exact⟨r.1,r.2,hc,by rw[←e1,←e2];exact p2⟩
def KC(P:Program)(X:FuncId->Option eZ):Prop:=
 ∀f tag,X f=some tag->Nat.ble dW f=false/\∃fn,P.funcs[f]?=some fn/\(fn.name== "runtime.NumGoroutine")=false/\fn.body.isNone=true/\Extern.findNext fn=none/\Extern.find fn=some tag.fn
def tX(X:FuncId->Option eZ):ab:=fun f args h=>match X f with
 |some tag=>F9 h tag args
 |none=>none
theorem Pw{P:Program}{X:FuncId->Option eZ}(hX:KC P X):bF true P (tX X):=by
 intro f args h v h' he ρ w ARGS ha hr hf;unfold tX at he;split at he
 ·rename_i tag ht;obtain⟨hk,fn',h1,h2,h3,h4,h5⟩:=hX f tag ht;obtain⟨ρ',w',V,k1,k2,k3⟩:=Af (P:=P) hr hf he ha;refine .inl ⟨hk,.inl ⟨ρ',w',V,.inl ?_,k2,k3⟩⟩;rw[run_callFunc_extern h1 h2 h3 h4 h5,k1];rfl
 ·cases he
theorem EM{P:Program}{X:FuncId->Option eZ}(hX:KC P X):Plain (tX X):=fun f args h hb=>by
 unfold tX;cases hx:X f with
 |none=>rfl
 |some tag=>
  have:=(hX f tag hx).1;rw[this]at hb;cases hb
end
end Go.Proofs.YtgkjlklfjbljeaaGreat.Eo
namespace Go.Proofs.YtgkjlklfjbljeaaGreat.Eo
noncomputable section
def lh(P:Program)(c:Code)(N:Nat)(tm:T AV)(h:H)(Q:aZ):Prop:=
 ∀B ρ a w,St B N ρ tm h a w->c.wp P (fun e a' w'=>∃ex aC h' ρ',e=ex.out/\Q ex aC h'/\St B N ρ' aC h' a' w'/\Way ρ h w ρ' h' w') a w
section
variable {P:Program} {c x y:Code} {N:Nat} {tm:T AV} {h:H} {Q Q1:aZ}
theorem H7.n(g:H7 P c N tm h Q):lh P c N tm h Q:=by
 obtain⟨ex,aC,h',d,q⟩:=g;intro B ρ a w hs;exact cd d hs fun ρ' a' w' k1 k2=>⟨ex,aC,h',ρ',rfl,q,k1,k2⟩
theorem lh.post(g:lh P c N tm h Q){B:Nat}{ρ:aR}{a:Act}{w:World}(hs:St B N ρ tm h a w){R:Exit->Act->World->Prop}(hQ:∀ex aC h',Q ex aC h'->∀ρ' a' w',St B N ρ' aC h' a' w'->Way ρ h w ρ' h' w'->R ex.out a' w'):c.wp P R a w:=
 wp_mono (g B ρ a w hs) fun e a' w' hh=>by
  obtain⟨ex,aC,h',ρ',rfl,q,k1,k2⟩:=hh;exact hQ ex aC h' q ρ' a' w' k1 k2
theorem aoS(d1:lh P x N tm h Q1)(d2:∀eo h1,Q1 .normal eo h1->lh P y N eo h1 Q)(hn:∀ex eo h1,ex≠.normal->Q1 ex eo h1->Q ex eo h1):lh P (.seq x y) N tm h Q:=by
 intro B ρ a w hs;refine wp_seq (d1.post hs fun ex eo h1 q ρ' a' w' k1 k2=>?_);cases ex with
 |normal=>
  refine(d2 eo h1 q).post k1 fun ex dC h2 q2 ρ'' PQ uK j1 j2=>?_
  exact⟨ex,dC,h2,ρ'',rfl,q2,j1,k2.trans j2⟩
 |exit id=>exact⟨_,eo,h1,ρ',rfl,hn _ _ _ (by simp) q,k1,k2⟩
 |goto l=>exact⟨_,eo,h1,ρ',rfl,hn _ _ _ (by simp) q,k1,k2⟩
 |ret=>exact⟨_,eo,h1,ρ',rfl,hn _ _ _ (by simp) q,k1,k2⟩
theorem Xh{id:Nat}(d:lh P x N tm h (oE id Q)):lh P (.block id x) N tm h Q:=by
 intro B ρ a w hs;refine wp_block (d.post hs fun ex eo h1 q ρ' a' w' k1 k2=>?_);cases ex with
 |normal=>exact⟨.normal,eo,h1,ρ',rfl,q,k1,k2⟩
 |exit j=>
  simp only[oE]at q
  by_cases hj:j=id
  ·rw[if_pos hj]at q;subst hj;simp only[Ex.out,Exit.inBlock,if_true];exact⟨.normal,eo,h1,ρ',rfl,q,k1,k2⟩
  ·rw[if_neg hj]at q;simp only[Ex.out,Exit.inBlock,hj,if_false];exact⟨.exit j,eo,h1,ρ',rfl,q,k1,k2⟩
 |goto l=>exact⟨.goto l,eo,h1,ρ',rfl,q,k1,k2⟩
 |ret=>exact⟨.ret,eo,h1,ρ',rfl,q,k1,k2⟩
theorem GK(I:Nat->T AV->H->Prop)(pB:∀k tm h,I k tm h->lh P x N tm h (fun ex aC h'=>(ex=.normal->∃j,j<k/\I j aC h')/\(ex≠.normal->Q ex aC h'))):
 ∀(n k:Nat),k<n->∀{tm:T AV} {h:H},I k tm h->∀{B:Nat} {ρ:aR} {a:Act} {w:World},St B N ρ tm h a w->Code.rounds P x (fun e a' w'=>∃ex aC h' ρ',e=ex.out/\Q ex aC h'/\St B N ρ' aC h' a' w'/\Way ρ h w ρ' h' w') n a w
 |0,k,hk,_,_,_,_,_,_,_,_=>absurd hk (Nat.not_lt_zero _)
 |n+1,k,hk,tm,h,hI,B,ρ,a,w,hs=>by
  refine(pB k tm h hI).post hs fun ex eo h1 q ρ' a' w' k1 k2=>?_
  cases ex with
  |normal=>
   obtain⟨j,hj,HW⟩:=q.1 rfl;have:=GK I pB n j (by omega) HW k1;simp only[Ex.out];refine uB (fun e PQ uK hh=>?_) n _ _ this;obtain⟨ex,dC,h2,ρ'',rfl,q2,j1,j2⟩:=hh;exact⟨ex,dC,h2,ρ'',rfl,q2,j1,k2.trans j2⟩
  |exit j=>exact⟨_,eo,h1,ρ',rfl,q.2 (by simp),k1,k2⟩
  |goto l=>exact⟨_,eo,h1,ρ',rfl,q.2 (by simp),k1,k2⟩
  |ret=>exact⟨_,eo,h1,ρ',rfl,q.2 (by simp),k1,k2⟩
theorem ad2(I:Nat->T AV->H->Prop)(pB:∀k tm h,I k tm h->lh P x N tm h (fun ex aC h'=>(ex=.normal->∃j,j<k/\I j aC h')/\(ex≠.normal->Q ex aC h'))){k:Nat}(hI:I k tm h):lh P (.loop x) N tm h Q:=
 fun B ρ a w hs=>wp_loop_rounds (k+1) (GK I pB (k+1) k (Nat.lt_succ_self k) hI hs)
theorem GL{d:Option Nat}(hd:dLt N d=true):∀rs:List (AV×H),W3 N tm d rs=some (rs.map fun r=>(rL tm d r.1,r.2))
 | []=>rfl
 |r::rs=>by
  have ih:=GL hd rs;unfold W3 at ih⊢;unfold DG;rw[BX hd];simp only[ih];rfl
theorem ad3{o:Oper}{i:IOp}(h:pU P o=some (.i i)):cI P o=some i:=by
 unfold pU at h;split at h
 ·rename_i c hc;simp only[Option.some.injEq]at h;subst h;unfold Ai at hc
  repeat' split at hc
  all_goals simp at hc
 repeat' split at h
 all_goals simp at h
 subst h;assumption
theorem Qb{o:Oper}{x':cg}(h:cI P o=some (.next x')):∃y,o.op=.next y false/\aP y=some x':=by
 unfold cI at h;split at h
 ·split at h
  ·simp only[Option.map_eq_some_iff]at h;obtain⟨_,_,e⟩:=h;cases e
  ·cases h
 ·rename_i y hy;simp only[Option.map_eq_some_iff]at h;obtain⟨z,h1,e⟩:=h;cases e;exact⟨y,hy,h1⟩
 ·simp only[Option.map_eq_some_iff]at h;obtain⟨_,_,e⟩:=h;cases e
 ·cases h
theorem Qc{call:ab}(aO:bF true P call){id:Nat}{ops:Array Oper}{d:Option Nat}{x':cg}{qs:List SQ}(hc:DN P N ops.toList ops.toList=some (⟨d,none,.i (.next x')⟩::qs)){rs:List (AV×H)}(hn:rq tm h x'=some rs)(hw:∀r∈rs,WS P call qs (fun tm h=>Q .normal tm h) (rL tm d r.1) r.2):lh P (.region id ops false) N tm h Q:=by
 cases hl:ops.toList with
 |nil=>rw[hl]at hc;simp[DN]at hc
 |cons o l=>
  generalize aoT:ops.toList=ol at hc;have Rn:ol=o::l:=aoT.symm.trans hl;rw[Rn]at hc;unfold DN at hc;split at hc
  ·rename_i q r hq hr;simp only[Option.some.injEq,List.cons.injEq]at hc;obtain⟨rfl,rfl⟩:=hc;unfold cSQ at hq;split at hq
   ·rename_i g c hg hco hd;simp only[Option.some.injEq,SQ.mk.injEq]at hq;obtain⟨rfl,rfl,rfl⟩:=hq;obtain⟨y,hy,hx⟩:=Qb (ad3 hco);have hgd:o.guard=none:=by
     unfold cGd at hg;split at hg
     ·assumption
     ·split at hg<;>simp at hg
    have I2:xD o=some x':=by
     unfold xD;simp only[hgd,hy,hx]
    have ri:Gy P call (o::l) N tm h o=some (rs.map fun r=>(rL tm o.dst r.1,r.2)):=by
     unfold Gy;rw[I2];simp only[hn];exact GL hd rs
    intro B ρ a w hs;refine(wpIn_wide (n:=0)).1 (wpIn_region (F:=Ds none) ?_);have rn:ops.size=(o::l).length:=by rw[←hl];simp
    rw[List.range_eq_range',rn,List.length_cons,List.range'_succ,wpOpsIn_cons];have hi:ops[0]?=some o:=by
     have:ops.toList[0]?=some o:=by rw[hl];rfl
     simpa using this
    refine DH (r:=none) aO (by rw[hl];exact ri) hs hi fun q hq ρ' a' w' k1 k2=>?_
    obtain⟨p,hp,rfl⟩:=List.mem_map.1 hq;obtain⟨aC,h',e1,q1⟩:=sI hr (hw p hp);have CR:ops.toList.drop 1=l:=by rw[hl];rfl
    rw[←hl]at e1;exact iO (r:=none) aO CR e1 k1 fun ρ'' PQ uK j1 j2=>⟨.normal,aC,h',ρ'',rfl,q1,j1,k2.trans j2⟩
   ·simp at hq
  ·simp at hc
end
def WN(P:Program)(N:Nat)(cc:CC)(Q:aZ)(tm:T AV)(h:H):Prop:=∀c,Xd P N c=some cc->lh P c N tm h Q
section
variable {P:Program} {N:Nat} {a b:CC} {Q Q1:aZ} {tm:T AV} {h:H} {call:ab}
theorem B6{x:Code}{cc:CC}(e:scC P N x=some cc):∃a l b,cc=.scope a l b:=by
 unfold scC at e
 repeat' split at e
 all_goals simp at e
 exact⟨_,_,_,e.symm⟩
theorem WN.of(hm:P.follows .mixedOrders=true)(aO:bF true P call)(nV:Plain call)(hw:WC P call a Q tm h):WN P N a Q tm h:=fun c hc=>(DW hm aO nV c hc hw).n
theorem WN.seq(d1:WN P N a Q1 tm h)(d2:∀eo h1,Q1 .normal eo h1->WN P N b Q eo h1)(hn:∀ex eo h1,ex≠.normal->Q1 ex eo h1->Q ex eo h1):WN P N (.seq a b) Q tm h:=by
 intro c hc;unfold Xd at hc;cases c<;>try simp only[ft]at hc
 case seq x y=>
  split at hc
  ·rename_i a' b' h1 h2;simp only[Option.some.injEq,CC.seq.injEq]at hc;obtain⟨rfl,rfl⟩:=hc;exact aoS (d1 x h1) (fun eo h3 q=>d2 eo h3 q y h2) hn
  ·simp at hc
 case region id ops d=>cases d<;>simp only[ft]at hc<;>split at hc<;>simp at hc
 case scope x=>
  obtain⟨_,_,_,e⟩:=B6 hc;cases e
 all_goals first|(cases hc;done)|(simp at hc;done)|(split at hc<;>simp at hc;done)
theorem WN.block{id:Nat}(d:WN P N a (oE id Q) tm h):WN P N (.block id a) Q tm h:=by
 intro c hc;unfold Xd at hc;cases c<;>try simp only[ft]at hc
 case block j x=>
  simp only[Option.map_eq_some_iff,CC.block.injEq]at hc;obtain⟨a',h1,rfl,rfl⟩:=hc;exact Xh (d x h1)
 case region id ops d=>cases d<;>simp only[ft]at hc<;>split at hc<;>simp at hc
 case scope x=>
  obtain⟨_,_,_,e⟩:=B6 hc;cases e
 all_goals first|(cases hc;done)|(simp at hc;done)|(split at hc<;>simp at hc;done)
theorem WN.loop(I:Nat->T AV->H->Prop)(pB:∀k tm h,I k tm h->WN P N a (fun ex aC h'=>(ex=.normal->∃j,j<k/\I j aC h')/\(ex≠.normal->Q ex aC h')) tm h){k:Nat}(hI:I k tm h):WN P N (.loop a) Q tm h:=by
 intro c hc;unfold Xd at hc;cases c<;>try simp only[ft]at hc
 case loop x=>
  simp only[Option.map_eq_some_iff,CC.loop.injEq]at hc;obtain⟨a',h1,rfl⟩:=hc;exact ad2 I (fun k tm h hI=>pB k tm h hI x h1) hI
 case region id ops d=>cases d<;>simp only[ft]at hc<;>split at hc<;>simp at hc
 case scope x=>
  obtain⟨_,_,_,e⟩:=B6 hc;cases e
 all_goals first|(cases hc;done)|(simp at hc;done)|(split at hc<;>simp at hc;done)
theorem WN.next(aO:bF true P call){d:Option Nat}{x':cg}{qs:List SQ}{rs:List (AV×H)}(hn:rq tm h x'=some rs)(hw:∀r∈rs,WS P call qs (fun tm h=>Q .normal tm h) (rL tm d r.1) r.2):WN P N (.ops (⟨d,none,.i (.next x')⟩::qs)) Q tm h:=by
 intro c hc;unfold Xd at hc;cases c<;>try simp only[ft]at hc
 case region id ops d=>
  cases d<;>simp only[ft]at hc<;>split at hc<;>simp at hc
  rename_i l hl;subst hc;exact Qc aO hl hn hw
 case scope x=>
  obtain⟨_,_,_,e⟩:=B6 hc;cases e
 all_goals first|(cases hc;done)|(simp at hc;done)|(split at hc<;>simp at hc;done)
end
structure Qd(h h1 h0:H):Prop where
 next:h1.next<=h0.next
 sub:∀a o,h0.t.get a=some o->h1.t.get a=some o
 old:∀a,a<h.next->h0.t.get a=h1.t.get a
theorem Mf{ρ ρ':aR}{h h1 h0:H}{w w':World}(k:Way ρ h w ρ' h1 w')(q:Qd h h1 h0):Way ρ h w ρ' h0 w' where
 nx:=⟨⟨fun a o l h1 h2 h3=>k.nx.rel.obj a o l (q.sub a o h1) h2 h3,fun a b o p l m h1 h2 h3 h4 h5 h6 e=>k.nx.rel.inj a b o p l m (q.sub a o h1) h2 (q.sub b p h3) h4 h5 h6 e⟩,k.nx.le,k.nx.env,k.nx.size,k.nx.frame,fun a o l h1 h2 h3 h4=>k.nx.back a o l (q.sub a o h1) h2 h3 h4⟩
 fresh:=fun a ha=>k.fresh a (Nat.le_trans q.next ha)
 kp:=⟨Nat.le_trans k.kp.1 q.next,fun a ha e=>⟨(k.kp.2 a ha e).1,(q.old a ha).trans (k.kp.2 a ha e).2⟩⟩
def aaT(rs:List RV)(v0:AV)(h h0:H):aZ:=fun ex tm h1=>match ex with
 | .exit _=>False
 | .goto _=>False
 | .normal=>∃vs,re tm h1.t.get rs=some vs/\fk vs=v0/\Qd h h1 h0
 | .ret=>∃vs,re tm h1.t.get rs=some vs/\fk vs=v0/\Qd h h1 h0
theorem akF{P:Program}{f:FuncId}(E1:mJ P f=true)(tE:Nat.ble dW f=false){k:Nat}{cf:CF}(A9:Mz P f k=some cf){args:List AV}(hk:args.length=k){h:H}{v0:AV}{h0:H}(hw:∀N,WN P N cf.c (aaT cf.rs v0 h h0) (aa 0 args .e) h):
 A5 P f args h v0 h0:=by
 obtain⟨fn,c,hf,sm,hb⟩:=mc E1;unfold Mz at A9;rw[hf]at A9;simp only[hb]at A9;split at A9
 ·rename_i c' rs xY Ow;simp at xY;subst xY;simp only[Option.map_eq_some_iff]at A9;obtain⟨cc,vI,rfl⟩:=A9;subst hk;refine⟨E1,tE,fun ρ w ARGS ha hr W4=>?_⟩;refine callsIn_wide.1 (callsIn_of_wp_marks (n:=0) hf hb trivial ((wpIn_wide (n:=0)).2 ?_));have hl:=ha.length;have hs:St w.heap.size (Nat.add args.length (Nat.sub fn.ntmps args.length)) ρ (aa 0 args .e) h {tmps:=ARGS.toArray++Array.replicate (fn.ntmps-ARGS.toArray.size) undef,defers:=[]} w:=by
   refine⟨fun i u hi=>?_,hr,W4,by simp[hl],trivial,Nat.le_refl _⟩;rw[dm]at hi
   by_cases hh:0<=i/\i<0+args.length
   ·rw[if_pos hh]at hi;have FG:args[i]?=some u:=by simpa using hi
    obtain⟨V,k1,k2⟩:=ha.get FG;have df:i<ARGS.length:=(List.getElem?_eq_some_iff.1 k1).1;refine⟨by simp;omega,?_⟩;rw[Array.getD_eq_getD_getElem?,Array.getElem?_append_left (by simpa using df)];simpa [k1]using k2
   ·rw[if_neg hh,T.di]at hi;simp at hi
  refine(hw _ c vI).post hs fun ex dC h2 q ρ' a' w' k1 k2=>?_
  have fin:(∃vs,re dC h2.t.get rs=some vs/\fk vs=v0/\Qd h h2 h0)->LeavesInM Fence.wide 0 P fn a'.tmps (fun e w'=>∃ρ' V,e=.returned V/\VR ρ' v0 V/\Way ρ h w ρ' h0 w') a'.defers .returning w':=by
   rintro ⟨vs,Lm,rfl,Eu⟩;refine leaves (ρ:=ρ') (h:=h2) (fun uK LQ LR=>?_) k1.defers k2;obtain⟨V,j1,j2⟩:=nE k1.tr LQ ((B2 dC _ Ow).trans Lm);exact⟨V,j2,ρ',V,rfl,j1,Mf LR Eu⟩
  cases ex with
  |exit j=>exact q.elim
  |goto l=>exact q.elim
  |normal=>exact fin q
  |ret=>exact fin q
 ·simp at A9
end
end Go.Proofs.YtgkjlklfjbljeaaGreat.Eo
