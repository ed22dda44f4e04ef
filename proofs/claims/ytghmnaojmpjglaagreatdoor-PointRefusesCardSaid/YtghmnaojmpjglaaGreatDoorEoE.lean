/-
  An evaluator of Go code over relative heaps, with open values too: what it says is so in every world. No condition.
-/
import Derived.Test.YtghmnaojmpjglaaGreatDoorEoD
import Derived.Below
import Derived.Test.YtghmnaojmpjglaaGreatDoorEoC
set_option linter.all false
namespace Go.Proofs.YtghmnaojmpjglaaGreatDoor.Eo
noncomputable section
class KW(α:Type) where
 k:α->Prop
class PW where
 p:Prop
def optI{α:Type}(o:Option α)[K:KW α]:Prop:=match o with
 |some x=>K.k x
 |none=>False
abbrev optW{α:Type}(o:Option α)(K:α->Prop):Prop:=@optI α o ⟨K⟩
theorem optI_some{α:Type}(x:α)(K:α->Prop):@optI α (some x) ⟨K⟩=K x:=rfl
theorem optW_elim{α:Type}{o:Option α}{K:α->Prop}(h:optW o K):∃x,o=some x∧K x:=by
 cases o with
 |none=>exact h.elim
 |some x=>exact⟨x,rfl,h⟩
theorem optW_of{α:Type}{o:Option α}{K:α->Prop}{x:α}(h:o=some x)(k:K x):optW o K:=by rw[h];exact k
def selI(b:Bool)[A:PW][B:PW]:Prop:=match b with
 |true=>A.p
 |false=>B.p
abbrev selW(b:Bool)(A B:Prop):Prop:=@selI b ⟨A⟩ ⟨B⟩
theorem selI_true(A B:Prop):@selI true ⟨A⟩ ⟨B⟩=A:=rfl
theorem selI_false(A B:Prop):@selI false ⟨A⟩ ⟨B⟩=B:=rfl
def boolA:AV->Option Bool
 | .bool b=>some b
 |_=>none
structure SQ where
 dst:Option Nat
 gd:Option (Nat×Bool)
 c:COp
def cGd(ops:List Oper)(o:Oper):Option (Option (Nat×Bool)):=match o.guard with
 |none=>some none
 |some (j,want)=>match gslot ops j with
  |some t=>some (some (t,want))
  |none=>none
def wantQ(tm:T AV)(g:Option (Nat×Bool)):Option Bool:=match g with
 |none=>some true
 |some (t,want)=>match tm.get t with
  |some (.bool b)=>some (match b,want with|true,true=>true|false,false=>true|_,_=>false)
  |some (.tup _)=>some false
  |_=>none
theorem wantQ_eq{ops:List Oper}{o:Oper}{g:Option (Nat×Bool)}(h:cGd ops o=some g)(tm:T AV):wantA ops tm o=wantQ tm g:=by
 unfold cGd at h
 unfold wantA
 split at h
 ·rename_i hg
  simp at h;subst h
  rw[hg];rfl
 ·rename_i j want hg
  split at h
  ·rename_i t ht
   simp at h;subst h
   rw[hg]
   simp only[ht]
   rfl
  ·simp at h
def dLt(N:Nat)(d:Option Nat):Bool:=match d with
 |none=>true
 |some d=>Nat.ble (d+1) N
def setO(tm:T AV)(d:Option Nat)(v:AV):T AV:=match d with
 |none=>tm
 |some d=>tm.set d v
theorem putT_eq{N:Nat}{d:Option Nat}(h:dLt N d=true)(tm:T AV)(v:AV):putT N tm d v=some (setO tm d v):=by
 unfold dLt at h
 unfold putT setO
 split at h
 ·rfl
 ·rename_i d';simp[h]
def cSQ(P:Program)(N:Nat)(ops:List Oper)(o:Oper):Option SQ:=match cGd ops o,cOp P o,dLt N o.dst with
 |some g,some c,true=>some ⟨o.dst,g,c⟩
 |_,_,_=>none
def cSQs(P:Program)(N:Nat)(ops:List Oper):List Oper->Option (List SQ)
 | []=>some []
 |o::l=>match cSQ P N ops o,cSQs P N ops l with
  |some q,some r=>some (q::r)
  |_,_=>none
def WS(P:Program)(call:CallE):List SQ->(T AV->H->Prop)->T AV->H->Prop
 | [],K,tm,h=>K tm h
 |q::l,K,tm,h=>optW (wantQ tm q.gd) fun b=>selW b (optW (evOp P call tm h q.c) fun r=>WS P call l K (setO tm q.dst r.1) r.2) (WS P call l K (setO tm q.dst (.tup [])) h)
theorem WS_sound{P:Program}{call:CallE}{N:Nat}{ops:List Oper}:∀{l:List Oper} {qs:List SQ},cSQs P N ops l=some qs->∀{K:T AV->H->Prop} {tm:T AV} {h:H},WS P call qs K tm h->∃tm' h',seqE P call ops N l tm h=some (tm',h')∧K tm' h'
 | [],qs,hc,K,tm,h,hw=>by
   simp[cSQs]at hc;subst hc
   exact⟨tm,h,rfl,hw⟩
 |o::l,qs,hc,K,tm,h,hw=>by
  unfold cSQs at hc
  split at hc
  ·rename_i q r hq hr
   simp at hc;subst hc
   unfold cSQ at hq
   split at hq
   ·rename_i g c hg hco hd
    simp at hq;subst hq
    unfold WS at hw
    unfold seqE stepE
    rw[wantQ_eq hg,hco]
    obtain⟨b,hwant,hw⟩:=optW_elim hw
    simp only[]at hwant⊢
    rw[hwant]
    cases b with
    |true=>
     obtain⟨⟨v,h'⟩,hev,hw⟩:=optW_elim hw
     simp only[]at hev⊢
     rw[hev]
     simp only[putT_eq hd]
     exact WS_sound hr hw
    |false=>
     simp only[putT_eq hd]
     exact WS_sound hr hw
   ·simp at hq
  ·simp at hc
structure DQ where
 i:Nat
 lk:List (Nat×Option Nat)
 gd:Option (Nat×Bool)
 c:COp
def cDQ(P:Program)(ops:List Oper)(m:T Nat)(N i:Nat):Option DQ:=match ops[i]? with
 |some o=>match dstOk ops m N i o.dst,looksOf ops m i (slotsOf ops o),cGd ops o,cOp P o with
  |true,some lk,some g,some c=>some ⟨i,lk,g,c⟩
  |_,_,_,_=>none
 |none=>none
def cDQs(P:Program)(ops:List Oper)(m:T Nat)(N:Nat):List Nat->Option (List DQ)
 | []=>some []
 |i::l=>match cDQ P ops m N i,cDQs P ops m N l with
  |some q,some r=>some (q::r)
  |_,_=>none
def cPhs(P:Program)(ops:List Oper)(m:T Nat)(N:Nat):List (List Nat×Option Nat)->Option (List (List DQ×Option DQ))
 | []=>some []
 |(ids,none)::l=>match cDQs P ops m N ids,cPhs P ops m N l with
  |some qs,some r=>some ((qs,none)::r)
  |_,_=>none
 |(ids,some e)::l=>match cDQs P ops m N ids,cDQ P ops m N e,cPhs P ops m N l with
  |some qs,some q,some r=>some ((qs,some q)::r)
  |_,_,_=>none
def qRec(P:Program)(tm:T AV)(h:H)(ph:Nat):COp->Option (Rec×H)
 | .p x=>match evP P tm x with
   |some v=>some (.quiet v,h)
   |none=>none
 | .r x=>match evR tm h.t.get x with
   |some v=>some (.read v,h)
   |none=>none
 | .l x=>match evL tm h.t.get x with
   |some v=>some (.read v,h)
   |none=>none
 | .s x=>match evS tm h.t.get x with
   |some v=>some (.read v,h)
   |none=>none
 | .n x=>match evN tm x with
   |some (ao,f)=>some (.alloc (f h.next) h.next ao ph,⟨h.next+1,h.t.set h.next ao⟩)
   |none=>none
 |_=>none
def qGo(P:Program)(tm0:T AV)(ph:Nat)(F:T Rec)(h:H)(q:DQ):Option (Rec×H):=match mkTm tm0 F q.lk with
 |some tm=>match wantQ tm q.gd with
  |some true=>qRec P tm h ph q.c
  |some false=>some (.quiet (.tup []),h)
  |none=>none
 |none=>none
def fGo(P:Program)(call:CallE)(tm0:T AV)(F:T Rec)(h:H)(q:DQ):Option (AV×H):=match mkTm tm0 F q.lk with
 |some tm=>match wantQ tm q.gd with
  |some true=>evOp P call tm h q.c
  |some false=>some (.tup [],h)
  |none=>none
 |none=>none
theorem cDQ_spec{P:Program}{ops:List Oper}{m:T Nat}{N i:Nat}{q:DQ}(h:cDQ P ops m N i=some q):∃o,ops[i]?=some o∧q.i=i∧cOp P o=some q.c∧
 (∀tm0 F,localTm ops m N tm0 F i o=mkTm tm0 F q.lk)∧(∀tm,wantA ops tm o=wantQ tm q.gd):=by
 unfold cDQ at h
 split at h
 ·rename_i o ho
  split at h
  ·rename_i lk g c h1 h2 h3 h4
   simp at h;subst h
   refine⟨o,ho,rfl,h4,fun tm0 F=>?_,fun tm=>wantQ_eq h3 tm⟩
   unfold localTm
   rw[h1,h2]
  ·simp at h
 ·simp at h
theorem qGo_eq{P:Program}{ops:List Oper}{m:T Nat}{N i:Nat}{q:DQ}(h:cDQ P ops m N i=some q)(tm0:T AV)(ph:Nat)(F:T Rec)(hp:H){o:Oper}(ho:ops[i]?=some o):
 opQ P ops m N tm0 ph F hp i o=qGo P tm0 ph F hp q:=by
 obtain⟨o',h1,h2,h3,h4,h5⟩:=cDQ_spec h
 rw[ho]at h1;simp at h1;subst h1
 unfold opQ qGo
 rw[h4]
 cases mkTm tm0 F q.lk with
 |none=>rfl
 |some tm=>
  simp only[h5,h3]
  cases wantQ tm q.gd with
  |none=>rfl
  |some b=>
   cases b with
   |false=>rfl
   |true=>simp only[];cases q.c<;>rfl
theorem fGo_eq{P:Program}{call:CallE}{ops:List Oper}{m:T Nat}{N i:Nat}{q:DQ}(h:cDQ P ops m N i=some q)(tm0:T AV)(F:T Rec)(hp:H){o:Oper}(ho:ops[i]?=some o):
 opF P call ops m N tm0 F hp i o=fGo P call tm0 F hp q:=by
 obtain⟨o',h1,h2,h3,h4,h5⟩:=cDQ_spec h
 rw[ho]at h1;simp at h1;subst h1
 unfold opF fGo
 rw[h4]
 cases mkTm tm0 F q.lk with
 |none=>rfl
 |some tm=>
  simp only[h5,h3]
  cases wantQ tm q.gd with
  |none=>rfl
  |some b=>cases b<;>rfl
def phW(P:Program)(tm0:T AV)(ph:Nat):List DQ->(T Rec->H->Prop)->T Rec->H->Prop
 | [],K,F,h=>K F h
 |q::l,K,F,h=>optW (qGo P tm0 ph F h q) fun r=>phW P tm0 ph l K (F.set q.i r.1) r.2
def drW(P:Program)(call:CallE)(tm0:T AV):Nat->List (List DQ×Option DQ)->(T Rec->List H->Prop)->T Rec->H->Prop
 |_,[],K,F,h=>False
 |ph,(qs,none)::_,K,F,h=>phW P tm0 ph qs (fun F h=>K F [h]) F h
 |ph,(qs,some e)::rest,K,F,h=>phW P tm0 ph qs (fun F1 h1=>optW (fGo P call tm0 F1 h1 e) fun r=>h1.next<=r.2.next∧drW P call tm0 (ph+1) rest (fun F' hs=>K F' (h1::hs)) (F1.set e.i (.eff r.1)) r.2) F h
theorem phW_sound{P:Program}{ops:List Oper}{m:T Nat}{N:Nat}{tm0:T AV}{ph:Nat}:∀{ids:List Nat} {qs:List DQ},cDQs P ops m N ids=some qs->ids.Nodup->∀{K:T Rec->H->Prop} {F:T Rec} {h:H},(∀i∈ids,F.get i=none)->phW P tm0 ph qs K F h->
 ∃F' h',phE P ops m N tm0 ph ids F h=some (F',h')∧(∀i,i∉ids->F'.get i=F.get i)∧K F' h'
 | [],qs,hc,_,K,F,h,_,hw=>by
   simp[cDQs]at hc;subst hc
   exact⟨F,h,rfl,fun _ _=>rfl,hw⟩
 |i::l,qs,hc,hn,K,F,h,hF,hw=>by
  unfold cDQs at hc
  split at hc
  ·rename_i q r hq hr
   simp at hc;subst hc
   obtain⟨o,ho,hi,_⟩:=cDQ_spec hq
   unfold phW at hw
   rw[←qGo_eq hq tm0 ph F h ho]at hw
   ·obtain⟨⟨rc,h1⟩,hgo,hw⟩:=optW_elim hw
    simp only[]at hw
    rw[hi]at hw
    obtain⟨hn1,hn2⟩:=List.nodup_cons.1 hn
    obtain⟨F',h',k1,k2,k3⟩:=phW_sound hr hn2 (fun j hj=>by
     rw[T.get_set,if_neg (by rintro rfl;exact hn1 hj)]
     exact hF j (List.mem_cons_of_mem _ hj)) hw
    refine⟨F',h',?_,fun j hj=>?_,k3⟩
    ·unfold phE
     rw[ho,hF i (List.mem_cons_self ..)]
     simp only[hgo]
     exact k1
    ·rw[k2 j (fun e=>hj (List.mem_cons_of_mem _ e)),T.get_set,if_neg (by rintro rfl;exact hj (List.mem_cons_self ..))]
  ·simp at hc
def idsOf:List (List Nat×Option Nat)->List Nat
 | []=>[]
 |(ids,none)::_=>ids
 |(ids,some e)::l=>ids++e::idsOf l
theorem drW_sound{P:Program}{call:CallE}{ops:List Oper}{m:T Nat}{N:Nat}{tm0:T AV}:∀{l:List (List Nat×Option Nat)} {ps:List (List DQ×Option DQ)},cPhs P ops m N l=some ps->(idsOf l).Nodup->∀{ph:Nat} {K:T Rec->List H->Prop} {F:T Rec} {h:H},(∀i∈idsOf l,F.get i=none)->drW P call tm0 ph ps K F h->
 ∃F' hs,drE P call ops m N tm0 ph l F h=some (F',hs)∧K F' hs
 | [],ps,hc,_,ph,K,F,h,_,hw=>by simp[cPhs]at hc;subst hc;exact hw.elim
 |(ids,none)::l,ps,hc,hn,ph,K,F,h,hF,hw=>by
  unfold cPhs at hc
  split at hc
  ·rename_i qs r hq hr
   simp at hc;subst hc
   obtain⟨F',h',k1,_,k3⟩:=phW_sound hq hn hF hw
   exact⟨F',[h'],by unfold drE;rw[k1],k3⟩
  ·simp at hc
 |(ids,some e)::l,ps,hc,hn,ph,K,F,h,hF,hw=>by
  unfold cPhs at hc
  split at hc
  ·rename_i qs q r hq he hr
   simp at hc;subst hc
   simp only[idsOf]at hn hF
   obtain⟨n1,n2,n3⟩:=List.nodup_append.1 hn
   obtain⟨n4,n5⟩:=List.nodup_cons.1 n2
   obtain⟨F1,h1,k1,k2,k3⟩:=phW_sound hq n1 (fun i hi=>hF i (List.mem_append_left _ hi)) hw
   obtain⟨o,ho,hie,_⟩:=cDQ_spec he
   rw[←fGo_eq he tm0 F1 h1 ho]at k3
   ·obtain⟨⟨v,h2⟩,hgo,hle,k4⟩:=optW_elim k3
    simp only[]at hle k4
    have hFe:F1.get e=none:=by
       rw[k2 e (fun hh=>n3 e hh e (List.mem_cons_self ..) rfl)]
       exact hF e (List.mem_append_right _ (List.mem_cons_self ..))
    rw[hie]at k4
    obtain⟨F',hs,j1,j2⟩:=drW_sound hr n5 (fun i hi=>by
       rw[T.get_set,if_neg (by rintro rfl;exact n4 hi),k2 i (fun hh=>n3 i hh i (List.mem_cons_of_mem _ hi) rfl)]
       exact hF i (List.mem_append_right _ (List.mem_cons_of_mem _ hi))) k4
    refine⟨F',h1::hs,?_,j2⟩
    unfold drE
    rw[k1]
    simp only[ho,hFe,hgo,Nat.ble_eq_true_of_le hle,j1]
  ·simp at hc
def rdQ(P:Program)(tm:T AV)(h:H):COp->Option AV
 | .r x=>evR tm h.t.get x
 | .l x=>evL tm h.t.get x
 | .s x=>evS tm h.t.get x
 |_=>none
def isRd:COp->Bool
 | .r _=>true
 | .l _=>true
 | .s _=>true
 |_=>false
def isAl:COp->Bool
 | .n _=>true
 |_=>false
def chkW(P:Program)(tm0:T AV)(F:T Rec)(hs:List H):List (DQ×List Nat)->Prop
 | []=>True
 |(q,ls)::l=>(match F.get q.i with
  |some (.read v)=>match mkTm tm0 F q.lk with
   |some tm=>∀k∈ls,match hs[k]? with
    |some h=>rdQ P tm h q.c=some v
    |none=>True
   |none=>False
  |_=>True)∧chkW P tm0 F hs l
theorem phE_still{P:Program}{ops:List Oper}{m:T Nat}{N:Nat}{tm0:T AV}{ph:Nat}:∀{ids:List Nat} {F F1:T Rec} {h h1:H},phE P ops m N tm0 ph ids F h=some (F1,h1)->
 (∀i∈ids,∀o c,ops[i]?=some o->cOp P o=some c->isAl c=false)->h1=h∧∀i∈ids,∃o Fi r,ops[i]?=some o∧opQ P ops m N tm0 ph Fi h i o=some (r,h)∧F1.get i=some r∧Sub Fi F1
 | [],F,F1,h,h1,e,_=>by
   simp[phE]at e;obtain⟨rfl,rfl⟩:=e
   exact⟨rfl,by simp⟩
 |i::l,F,F1,h,h1,e,hal=>by
  unfold phE at e
  split at e
  ·rename_i o ho hF
   split at e
   ·rename_i r h2 hq
    have hh2:h2=h:=by
     have hq':=hq
     unfold opQ at hq'
     split at hq'
     ·split at hq'
      ·simp at hq';exact hq'.2.symm
      ·rename_i hx
       split at hq'
       all_goals first
        |(split at hq'
          ·first
           |(simp at hq';exact hq'.2.symm)
           |(rename_i hc _ _ _ _
             have:=hal i (List.mem_cons_self ..) o _ ho hc
             simp[isAl]at this)
          ·simp at hq')
        |(simp at hq';done)
      ·simp at hq'
     ·simp at hq'
    subst hh2
    obtain⟨k1,k2,_⟩:=phE_sound e
    obtain⟨j1,j2⟩:=phE_still e (fun j hj=>hal j (List.mem_cons_of_mem _ hj))
    refine⟨j1,fun j hj=>?_⟩
    rcases List.mem_cons.1 hj with rfl|hj
    ·exact⟨o,F,r,ho,hq,k1 _ _ (by rw[T.get_set,if_pos rfl]),(Sub.set hF).trans k1⟩
    ·exact j2 j hj
   ·simp at e
  ·simp at e
theorem drE_still{P:Program}{call:CallE}{ops:List Oper}{m:T Nat}{N:Nat}{tm0:T AV}:∀{l:List (List Nat×Option Nat)} {ph:Nat} {F0 F:T Rec} {h:H} {hs:List H},drE P call ops m N tm0 ph l F0 h=some (F,hs)->
 Sub F0 F∧∀k ids e,l[k]?=some (ids,e)->(∀k' ids',k'<k->l[k']?=some (ids',none)->False)->(∀i∈ids,∀o c,ops[i]?=some o->cOp P o=some c->isAl c=false)->
  ∃hk,hs[k]?=some hk∧∀i∈ids,∃o Fi r,ops[i]?=some o∧opQ P ops m N tm0 (ph+k) Fi hk i o=some (r,hk)∧F.get i=some r∧Sub Fi F
 | [],ph,F0,F,h,hs,e=>by simp[drE]at e
 |(ids,none)::l,ph,F0,F,h,hs,e=>by
  unfold drE at e
  split at e
  ·rename_i F1 h1 hp
   simp at e;obtain⟨rfl,rfl⟩:=e
   refine⟨(phE_sound hp).1,fun k ids' e' hk hnone hal=>?_⟩
   cases k with
   |zero=>
    simp at hk;obtain⟨rfl,rfl⟩:=hk
    obtain⟨j1,j2⟩:=phE_still hp hal
    subst j1
    exact⟨_,rfl,j2⟩
   |succ k=>exact(hnone 0 ids (Nat.succ_pos _) rfl).elim
  ·simp at e
 |(ids,some x)::l,ph,F0,F,h,hs,e=>by
  unfold drE at e
  split at e
  ·rename_i F1 h1 hp
   split at e
   ·rename_i o ho hFx
    split at e
    ·rename_i v h2 hv
     split at e
     ·split at e
      ·rename_i F' hs' hd
       simp at e;obtain⟨rfl,rfl⟩:=e
       obtain⟨q1,q2⟩:=drE_still hd
       have hsub:Sub F1 F':=(Sub.set hFx).trans q1
       refine⟨(phE_sound hp).1.trans hsub,fun k ids' e' hk hnone hal=>?_⟩
       cases k with
       |zero=>
        simp at hk;obtain⟨rfl,rfl⟩:=hk
        obtain⟨j1,j2⟩:=phE_still hp hal
        subst j1
        refine⟨_,rfl,fun i hi=>?_⟩
        obtain⟨o',Fi,r,a1,a2,a3,a4⟩:=j2 i hi
        exact⟨o',Fi,r,a1,a2,hsub _ _ a3,a4.trans hsub⟩
       |succ k=>
        simp at hk
        obtain⟨hk',a1,a2⟩:=q2 k ids' e' hk (fun k' ids'' hlt hh=>hnone (k'+1) ids'' (by omega) (by simpa using hh)) hal
        refine⟨hk',by simpa using a1,fun i hi=>?_⟩
        have:=a2 i hi
        rwa [show ph+1+k=ph+(k+1) by omega]at this
      ·simp at e
     ·simp at e
    ·simp at e
   ·simp at e
  ·simp at e
structure DR where
 phs:List (List DQ×Option DQ)
 fin:List (Nat×Nat)
 chk:List (DQ×List Nat)
def finFrom:List Oper->Nat->List (Nat×Nat)
 | [],_=>[]
 |o::l,i=>match o.dst with
  |some d=>(i,d)::finFrom l (i+1)
  |none=>finFrom l (i+1)
def finW(F:T Rec):List (Nat×Nat)->T AV->T AV
 | [],tm=>tm
 |(i,d)::l,tm=>match F.get i with
  |some r=>finW F l (tm.set d r.val)
  |none=>finW F l tm
theorem opQ_read{P:Program}{ops:List Oper}{m:T Nat}{N:Nat}{tm0:T AV}{ph:Nat}{F:T Rec}{h h':H}{i:Nat}{o:Oper}{v:AV}(e:opQ P ops m N tm0 ph F h i o=some (.read v,h')):
 ∃tm c,localTm ops m N tm0 F i o=some tm∧cOp P o=some c∧isRd c=true∧rdQ P tm h c=some v:=by
 unfold opQ at e
 split at e
 ·rename_i tm ht
  split at e
  ·simp at e
  ·split at e
   all_goals first
        |(rename_i hc
          split at e
          ·rename_i v' hv
           first
            |(simp at e;obtain⟨rfl,_⟩:=e
              exact⟨tm,_,ht,hc,rfl,hv⟩)
            |(simp at e;done)
          ·simp at e)
        |(simp at e;done)
  ·simp at e
 ·simp at e
theorem opQ_al{P:Program}{ops:List Oper}{m:T Nat}{N:Nat}{tm0:T AV}{ph:Nat}{F:T Rec}{h h':H}{i:Nat}{o:Oper}{v:AV}{a q:Nat}{ao:AO}(e:opQ P ops m N tm0 ph F h i o=some (.alloc v a ao q,h')):q=ph:=by
 rcases(opQ_heap e).2 with⟨_,hh⟩|⟨v',ao',hh,_⟩
 ·exact absurd rfl (hh v a ao q)
 ·simp at hh;exact hh.2.2.2
theorem phE_at{P:Program}{ops:List Oper}{m:T Nat}{N:Nat}{tm0:T AV}{ph:Nat}:∀{ids:List Nat} {F F1:T Rec} {h h1:H},phE P ops m N tm0 ph ids F h=some (F1,h1)->
 ∀i∈ids,∃o Fi hi hi' r,ops[i]?=some o∧opQ P ops m N tm0 ph Fi hi i o=some (r,hi')∧F1.get i=some r∧Sub Fi F1
 | [],F,F1,h,h1,e=>by simp
 |i::l,F,F1,h,h1,e=>by
  unfold phE at e
  split at e
  ·rename_i o ho hF
   split at e
   ·rename_i r h2 hq
    obtain⟨k1,k2,_⟩:=phE_sound e
    intro j hj
    rcases List.mem_cons.1 hj with rfl|hj
    ·exact⟨o,F,h,h2,r,ho,hq,k1 _ _ (by rw[T.get_set,if_pos rfl]),(Sub.set hF).trans k1⟩
    ·exact phE_at e j hj
   ·simp at e
  ·simp at e
theorem drE_at{P:Program}{call:CallE}{ops:List Oper}{m:T Nat}{N:Nat}{tm0:T AV}:∀{l:List (List Nat×Option Nat)} {ph:Nat} {F0 F:T Rec} {h:H} {hs:List H},drE P call ops m N tm0 ph l F0 h=some (F,hs)->
 Sub F0 F∧hs.length<=l.length∧∀i∈idsOf l,(∃(v:AV) (k:Nat) (ids:List Nat),l[k]?=some (ids,some i)∧F.get i=some (.eff v))∨
  ∃(k:Nat) (ids:List Nat) (e:Option Nat),l[k]?=some (ids,e)∧(∀k' ids',k'<k->l[k']?=some (ids',none)->False)∧i∈ids∧∃o Fi hi hi' r,ops[i]?=some o∧opQ P ops m N tm0 (ph+k) Fi hi i o=some (r,hi')∧F.get i=some r∧Sub Fi F
 | [],ph,F0,F,h,hs,e=>by simp[drE]at e
 |(ids,none)::l,ph,F0,F,h,hs,e=>by
  unfold drE at e
  split at e
  ·rename_i F1 h1 hp
   simp at e;obtain⟨rfl,rfl⟩:=e
   refine⟨(phE_sound hp).1,by simp,fun i hi=>.inr ⟨0,ids,none,rfl,fun k' _ h=>by omega,hi,?_⟩⟩
   exact phE_at hp i hi
  ·simp at e
 |(ids,some x)::l,ph,F0,F,h,hs,e=>by
  unfold drE at e
  split at e
  ·rename_i F1 h1 hp
   split at e
   ·rename_i o ho hFx
    split at e
    ·rename_i v h2 hv
     split at e
     ·split at e
      ·rename_i F' hs' hd
       simp at e;obtain⟨rfl,rfl⟩:=e
       obtain⟨q1,q2,q3⟩:=drE_at hd
       have hsub:Sub F1 F':=(Sub.set hFx).trans q1
       refine⟨(phE_sound hp).1.trans hsub,by simp;omega,fun i hi=>?_⟩
       simp only[idsOf,List.mem_append,List.mem_cons]at hi
       rcases hi with hi|rfl|hi
       ·obtain⟨o',Fi,hi1,hi2,r,a1,a2,a3,a4⟩:=phE_at hp i hi
        exact .inr ⟨0,ids,some x,rfl,fun k' _ h=>by omega,hi,o',Fi,hi1,hi2,r,a1,a2,hsub _ _ a3,a4.trans hsub⟩
       ·exact .inl ⟨v,0,ids,rfl,q1 _ _ (by rw[T.get_set,if_pos rfl])⟩
       ·rcases q3 i hi with⟨v',k,ids',b1,b2⟩|⟨k,ids',e',b1,b2,b3,o',Fi,hi1,hi2,r,a1,a2,a3,a4⟩
        ·exact .inl ⟨v',k+1,ids',by simpa using b1,b2⟩
        ·refine .inr ⟨k+1,ids',e',by simpa using b1,fun k' ids'' hlt hh=>?_,b3,o',Fi,hi1,hi2,r,a1,by rwa [show ph+1+k=ph+(k+1) by omega]at a2,a3,a4⟩
         cases k' with
         |zero=>simp at hh
         |succ k'=>exact b2 k' ids'' (by omega) (by simpa using hh)
      ·simp at e
     ·simp at e
    ·simp at e
   ·simp at e
  ·simp at e
def stillB(P:Program)(ops:List Oper)(ids:List Nat):Bool:=ids.all fun i=>match ops[i]? with
 |some o=>match cOp P o with
  |some c=>!isAl c
  |none=>true
 |none=>true
def chkPh(P:Program)(ops:List Oper)(m:T Nat)(N:Nat)(es:List Nat)(n k:Nat)(still:Bool):List Nat->List (DQ×List Nat)
 | []=>[]
 |i::l=>match cDQ P ops m N i with
  |some q=>match isRd q.c,(List.range n).filter (fun j=>mayAt m i es j&&!(still&&Nat.beq j k))with
   |true,j::js=>(q,j::js)::chkPh P ops m N es n k still l
   |_,_=>chkPh P ops m N es n k still l
  |none=>chkPh P ops m N es n k still l
def chkAll(P:Program)(ops:List Oper)(m:T Nat)(N:Nat)(es:List Nat)(n:Nat):Nat->List (List Nat×Option Nat)->List (DQ×List Nat)
 |_,[]=>[]
 |k,(ids,_)::l=>chkPh P ops m N es n k (stillB P ops ids) ids++chkAll P ops m N es n (k+1) l
def alB(m:T Nat)(es:List Nat):Nat->List (List Nat×Option Nat)->Bool
 |_,[]=>true
 |0,(ids,e)::l=>alB m es 1 l
 |k+1,(ids,e)::l=>ids.all (fun i=>match es[k]? with
  |some x=>bef m i x
  |none=>false)&&alB m es (k+2) l
def effB(es:List Nat):List (List Nat×Option Nat)->Bool
 | []=>true
 |(_,none)::l=>effB es l
 |(_,some x)::l=>es.contains x&&effB es l
def nodupB:List Nat->Bool
 | []=>true
 |x::l=>!(l.any (Nat.beq x))&&nodupB l
def covB(ids:List Nat)(n:Nat):Bool:=(List.range n).all fun i=>ids.any (Nat.beq i)
def regB(P:Program)(ops:List Oper)(m:T Nat)(es:List Nat)(phs:List (List Nat×Option Nat)):Bool:=
 edgesOk ops 0&&chainOk m es&&noDefer ops&&nodupB (idsOf phs)&&covB (idsOf phs) ops.length&&effB es phs&&alB m es 0 phs
def cDR0(P:Program)(ops:List Oper)(N:Nat)(m:T Nat)(es:List Nat)(phs:List (List Nat×Option Nat)):Option DR:=match regB P ops m es phs with
 |true=>match cPhs P ops m N phs with
  |some ps=>some ⟨ps,finFrom ops 0,chkAll P ops m N es phs.length 0 phs⟩
  |none=>none
 |false=>none
def cDR(P:Program)(N:Nat)(ops:List Oper):Option DR:=
 cDR0 P ops N (preds ops) (effsFrom P ops 0) (phasesOf (preds ops) (effsFrom P ops 0) ops.length 0 (effsFrom P ops 0))
theorem nodupB_spec:∀{l:List Nat},nodupB l=true->l.Nodup
 | [],_=>List.nodup_nil
 |x::l,h=>by
  simp only[nodupB,Bool.and_eq_true,Bool.not_eq_true',List.any_eq_false]at h
  refine List.nodup_cons.2 ⟨fun hx=>?_,nodupB_spec h.2⟩
  exact h.1 x hx (by simp)
theorem covB_spec{ids:List Nat}{n:Nat}(h:covB ids n=true){i:Nat}(hi:i<n):i∈ids:=by
 unfold covB at h
 have:=List.all_eq_true.1 h i (by simpa using hi)
 obtain⟨j,h1,h2⟩:=List.any_eq_true.1 this
 have:=Nat.eq_of_beq_eq_true h2
 subst this
 exact h1
theorem effB_spec{es:List Nat}:∀{l:List (List Nat×Option Nat)},effB es l=true->∀(k:Nat) (ids:List Nat) (x:Nat),l[k]?=some (ids,some x)->es.contains x=true
 | [],_,k,ids,x,h=>by simp at h
 |(_,none)::l,hb,k,ids,x,h=>by
  cases k with
  |zero=>simp at h
  |succ k=>exact effB_spec (l:=l) (by simpa [effB]using hb) k ids x (by simpa using h)
 |(_,some y)::l,hb,k,ids,x,h=>by
  simp only[effB,Bool.and_eq_true]at hb
  cases k with
  |zero=>simp at h;obtain⟨_,rfl⟩:=h;exact hb.1
  |succ k=>exact effB_spec (l:=l) hb.2 k ids x (by simpa using h)
theorem alB_spec{m:T Nat}{es:List Nat}:∀{l:List (List Nat×Option Nat)} {k0:Nat},alB m es k0 l=true->∀(k:Nat) (ids:List Nat) (e:Option Nat) (q:Nat),l[k]?=some (ids,e)->k0+k=q+1->∀i∈ids,∃x,es[q]?=some x∧bef m i x=true
 | [],_,_,k,ids,e,q,h,_,_,_=>by simp at h
 |(ids',e')::l,0,hb,k,ids,e,q,h,hk,i,hi=>by
  cases k with
  |zero=>omega
  |succ k=>exact alB_spec (l:=l) (k0:=1) (by simpa [alB]using hb) k ids e q (by simpa using h) (by omega) i hi
 |(ids',e')::l,k0+1,hb,k,ids,e,q,h,hk,i,hi=>by
  simp only[alB,Bool.and_eq_true]at hb
  cases k with
  |zero=>
   simp at h;obtain⟨rfl,rfl⟩:=h
   have:q=k0:=by omega
   subst this
   have:=List.all_eq_true.1 hb.1 i hi
   split at this
   ·rename_i x hx;exact⟨x,hx,this⟩
   ·simp at this
  |succ k=>exact alB_spec (l:=l) (k0:=k0+2) hb.2 k ids e q (by simpa using h) (by omega) i hi
theorem chkPh_mem{P:Program}{ops:List Oper}{m:T Nat}{N:Nat}{es:List Nat}{n k:Nat}{still:Bool}:∀{ids:List Nat} {i:Nat} {q:DQ},i∈ids->cDQ P ops m N i=some q->isRd q.c=true->∀j,j<n->mayAt m i es j=true->¬(still=true∧j=k)->∃ls,(q,ls)∈chkPh P ops m N es n k still ids∧j∈ls
 | [],i,q,hi,_,_,j,_,_,_=>by simp at hi
 |x::l,i,q,hi,hq,hrd,j,hj,hmay,hns=>by
  have hf:j∈(List.range n).filter (fun j=>mayAt m i es j&&!(still&&Nat.beq j k)):=by
   rw[List.mem_filter]
   refine⟨by simpa using hj,?_⟩
   rw[hmay]
   cases still with
   |false=>rfl
   |true=>
    have:¬j=k:=fun e=>hns ⟨rfl,e⟩
    have hb:j.beq k=false:=by rw[beq_iff];simp[this]
    simp[hb]
  rcases List.mem_cons.1 hi with rfl|hi
  ·unfold chkPh
   rw[hq]
   simp only[hrd]
   cases hl:(List.range n).filter (fun j=>mayAt m i es j&&!(still&&Nat.beq j k))with
   |nil=>rw[hl]at hf;simp at hf
   |cons a b=>
    rw[hl]at hf
    exact⟨_,List.mem_cons_self ..,hf⟩
  ·obtain⟨ls,h1,h2⟩:=chkPh_mem (still:=still) hi hq hrd j hj hmay hns
   refine⟨ls,?_,h2⟩
   unfold chkPh
   split
   ·split
    ·exact List.mem_cons_of_mem _ h1
    ·exact h1
   ·exact h1
theorem chkAll_mem{P:Program}{ops:List Oper}{m:T Nat}{N:Nat}{es:List Nat}{n:Nat}:∀{l:List (List Nat×Option Nat)} {k0 k:Nat} {ids:List Nat} {e:Option Nat} {x:DQ×List Nat},l[k]?=some (ids,e)->x∈chkPh P ops m N es n (k0+k) (stillB P ops ids) ids->x∈chkAll P ops m N es n k0 l
 | [],k0,k,ids,e,x,h,_=>by simp at h
 |(ids',e')::l,k0,k,ids,e,x,h,hx=>by
  unfold chkAll
  cases k with
  |zero=>simp at h;obtain⟨rfl,rfl⟩:=h;exact List.mem_append_left _ hx
  |succ k=>exact List.mem_append_right _ (chkAll_mem (l:=l) (k0:=k0+1) (k:=k) (by simpa using h) (by rwa [show k0+1+k=k0+(k+1) by omega]))
theorem chkW_mem{P:Program}{tm0:T AV}{F:T Rec}{hs:List H}:∀{l:List (DQ×List Nat)},chkW P tm0 F hs l->∀q ls,(q,ls)∈l->∀v,F.get q.i=some (.read v)->∃tm,mkTm tm0 F q.lk=some tm∧∀k∈ls,∀h,hs[k]?=some h->rdQ P tm h q.c=some v
 | [],_,q,ls,h,v,_=>by simp at h
 |(q',ls')::l,hc,q,ls,hm,v,hv=>by
  unfold chkW at hc
  rcases List.mem_cons.1 hm with e|hm
  ·simp at e;obtain⟨rfl,rfl⟩:=e
   have h1:=hc.1
   rw[hv]at h1
   simp only[]at h1
   split at h1
   ·rename_i tm htm
    refine⟨tm,htm,fun k hk h hh=>?_⟩
    have:=h1 k hk
    rw[hh]at this
    exact this
   ·exact h1.elim
  ·exact chkW_mem hc.2 q ls hm v hv
theorem stillB_spec{P:Program}{ops:List Oper}{ids:List Nat}(h:stillB P ops ids=true):∀i∈ids,∀o c,ops[i]?=some o->cOp P o=some c->isAl c=false:=by
 intro i hi o c ho hc
 have:=List.all_eq_true.1 h i hi
 rw[ho]at this
 simp only[hc]at this
 simpa using this
theorem cDQs_mem{P:Program}{ops:List Oper}{m:T Nat}{N:Nat}:∀{ids:List Nat} {qs:List DQ},cDQs P ops m N ids=some qs->∀i∈ids,∃q,cDQ P ops m N i=some q
 | [],qs,_,i,hi=>by simp at hi
 |x::l,qs,h,i,hi=>by
  unfold cDQs at h
  split at h
  ·rename_i q r hq hr
   rcases List.mem_cons.1 hi with rfl|hi
   ·exact⟨q,hq⟩
   ·exact cDQs_mem hr i hi
  ·simp at h
theorem cPhs_mem{P:Program}{ops:List Oper}{m:T Nat}{N:Nat}:∀{l:List (List Nat×Option Nat)} {ps:List (List DQ×Option DQ)},cPhs P ops m N l=some ps->∀(k:Nat) (ids:List Nat) (e:Option Nat),l[k]?=some (ids,e)->∀i∈ids,∃q,cDQ P ops m N i=some q
 | [],ps,_,k,ids,e,h,_,_=>by simp at h
 |(ids',none)::l,ps,hc,k,ids,e,h,i,hi=>by
  unfold cPhs at hc
  split at hc
  ·rename_i qs r hq hr
   cases k with
   |zero=>simp at h;obtain⟨rfl,rfl⟩:=h;exact cDQs_mem hq i hi
   |succ k=>exact cPhs_mem hr k ids e (by simpa using h) i hi
  ·simp at hc
 |(ids',some x)::l,ps,hc,k,ids,e,h,i,hi=>by
  unfold cPhs at hc
  split at hc
  ·rename_i qs q r hq he hr
   cases k with
   |zero=>simp at h;obtain⟨rfl,rfl⟩:=h;exact cDQs_mem hq i hi
   |succ k=>exact cPhs_mem hr k ids e (by simpa using h) i hi
  ·simp at hc
theorem chkP_of{P:Program}{call:CallE}{ops:List Oper}{N:Nat}{tm0:T AV}{m:T Nat}{es:List Nat}{phs:List (List Nat×Option Nat)}(hreg:regB P ops m es phs=true)
 {ps:List (List DQ×Option DQ)} (hps:cPhs P ops m N phs=some ps) {F:T Rec} {h:H} {hs:List H} (hdr:drE P call ops m N tm0 0 phs .e h=some (F,hs)) (hw:chkW P tm0 F hs (chkAll P ops m N es phs.length 0 phs)):ChkP P ops m N es tm0 F hs:=by
 simp only[regB,Bool.and_eq_true]at hreg
 obtain⟨⟨⟨⟨⟨⟨c1,c2⟩,c3⟩,c4⟩,c5⟩,c6⟩,c7⟩:=hreg
 obtain⟨_,hlen,hat⟩:=drE_at hdr
 intro i o ho
 have hi:i∈idsOf phs:=covB_spec c5 (List.getElem?_eq_some_iff.1 ho).1
 rcases hat i hi with⟨v,k,ids,h1,h2⟩|⟨k,ids,e,h1,h2,h3,o',Fi,hi1,hi2,r,a1,a2,a3,a4⟩
 ·exact⟨_,h2,by simp,by simp,fun _ _=>effB_spec c6 k ids i h1⟩
 ·rw[ho]at a1;simp at a1;subst a1
  refine⟨r,a3,fun v hv=>?_,fun v a ao q hv=>?_,fun v hv=>absurd hv ((opQ_heap a2).1 v)⟩
  ·subst hv
   obtain⟨tm,c,t1,t2,t3,t4⟩:=opQ_read a2
   refine⟨tm,localTm_mono a4 t1,fun l hl hhl hmay=>?_⟩
   have hread:readAt P tm hl o=rdQ P tm hl c:=by
     unfold readAt;rw[t2]
     cases c<;>first|rfl|simp[isRd]at t3
   rw[hread]
   obtain⟨q,hq⟩:=cPhs_mem hps k ids e h1 i h3
   obtain⟨o'',q1,q2,q3,q4,q5⟩:=cDQ_spec hq
   rw[ho]at q1;simp at q1;subst q1
   rw[t2]at q3;simp at q3;subst q3
   have again:(∃ls,(q,ls)∈chkPh P ops m N es phs.length k (stillB P ops ids) ids∧l∈ls)->rdQ P tm hl q.c=some v:=by
     rintro ⟨ls,b1,b2⟩
     obtain⟨tm',d1,d2⟩:=chkW_mem hw q ls (chkAll_mem (k0:=0) h1 (by rwa [Nat.zero_add])) v (by rw[q2];exact a3)
     rw[←q4,localTm_mono a4 t1]at d1
     simp at d1;subst d1
     exact d2 l b2 hl hhl
   have hlt:l<phs.length:=Nat.lt_of_lt_of_le (List.getElem?_eq_some_iff.1 hhl).1 hlen
   by_cases hst:stillB P ops ids=true∧l=k
   ·obtain⟨hst,rfl⟩:=hst
    obtain⟨hk',z1,z2⟩:=(drE_still hdr).2 l ids e h1 h2 (stillB_spec hst)
    rw[hhl]at z1;simp at z1;subst z1
    obtain⟨o2,Fi2,r2,y1,y2,y3,y4⟩:=z2 i h3
    rw[ho]at y1;simp at y1;subst y1
    rw[a3]at y3;simp at y3;subst y3
    obtain⟨tm2,c2',x1,x2,x3,x4⟩:=opQ_read y2
    rw[t2]at x2;simp at x2;subst x2
    have:=localTm_mono y4 x1
    rw[localTm_mono a4 t1]at this
    simp at this;subst this
    exact x4
   ·exact again (chkPh_mem h3 hq t3 l hlt hmay hst)
  ·subst hv
   have:=opQ_al a2
   exact alB_spec c7 k ids e q h1 (by omega) i h3
theorem finW_eq(F:T Rec):∀(l:List Oper) (i:Nat) (tm:T AV),finalTm F l i tm=finW F (finFrom l i) tm
 | [],i,tm=>rfl
 |o::l,i,tm=>by
  rw[finalTm_cons]
  unfold finFrom
  cases hd:o.dst with
  |none=>simp only[];exact finW_eq F l (i+1) tm
  |some d=>
   simp only[finW]
   cases hF:F.get i with
   |none=>simp only[];exact finW_eq F l (i+1) tm
   |some r=>simp only[];exact finW_eq F l (i+1) _
def WDr(P:Program)(call:CallE)(d:DR)(K:T AV->H->Prop)(tm:T AV)(h:H):Prop:=
 drW P call tm 0 d.phs (fun F hs=>chkW P tm F hs d.chk∧optW (lastH hs) fun h'=>K (finW F d.fin tm) h') .e h
def Plain(call:CallE):Prop:=∀f args h,Nat.ble ykey f=true->call f args h=none
theorem plainCall_eq{call:CallE}(h:Plain call):plainCall call=call:=by
 funext f args hp
 unfold plainCall
 cases hb:Nat.ble ykey f with
 |true=>simp only[];exact(h f args hp hb).symm
 |false=>rfl
theorem WDr_sound{P:Program}(hm:P.follows .mixedOrders=true){call:CallE}(hcall:CallOK true P call)(hpl:Plain call){id:Nat}{ops:Array Oper}{N:Nat}{d:DR}(hc:cDR P N ops.toList=some d){K:T AV->H->Prop}{tm:T AV}{h:H}(hw:WDr P call d K tm h):
 ∃tm' h',DoesR P (.region id ops true) N tm h .normal tm' h'∧K tm' h':=by
 unfold cDR cDR0 at hc
 split at hc
 ·rename_i hreg
  split at hc
  ·rename_i ps hps
   simp at hc;subst hc
   have hreg':=hreg
   simp only[regB,Bool.and_eq_true]at hreg'
   obtain⟨⟨⟨⟨⟨⟨c1,c2⟩,c3⟩,c4⟩,c5⟩,c6⟩,c7⟩:=hreg'
   unfold WDr at hw
   obtain⟨F,hs,k1,k2,k3⟩:=drW_sound hps (nodupB_spec c4) (fun i _=>T.get_e i) hw
   ·obtain⟨h',hlast,k3⟩:=optW_elim k3
    refine⟨_,h',drawP_does hm hcall c1 c2 c3 (by rw[plainCall_eq hpl];exact k1) (chkP_of hreg hps k1 k2) hlast,?_⟩
    rw[finW_eq]
    exact k3
  ·simp at hc
 ·simp at hc
inductive CC where
 |skip
 |ops (l:List SQ)
 |drw (d:DR)
 |seq (a b:CC)
 |cond (c:Opd) (a b:CC)
 |block (id:Nat) (a:CC)
 |loop (a:CC)
 |exit (id:Nat)
 |ret
 |stuck
def cCC(P:Program)(N:Nat):Code->Option CC
 | .skip=>some .skip
 | .region _ ops false=>match cSQs P N ops.toList ops.toList with
   |some l=>some (.ops l)
   |none=>some .stuck
 | .region _ ops true=>match cDR P N ops.toList with
   |some d=>some (.drw d)
   |none=>some .stuck
 | .seq a b=>match cCC P N a,cCC P N b with
   |some a,some b=>some (.seq a b)
   |_,_=>none
 | .cond c a b=>match cOpd c,cCC P N a,cCC P N b with
   |some c,some a,some b=>some (.cond c a b)
   |_,_,_=>none
 | .block id a=>(cCC P N a).map (.block id)
 | .loop a=>(cCC P N a).map .loop
 | .exit id=>some (.exit id)
 | .label _=>some .skip
 | .ret=>some .ret
 |_=>none
abbrev Cont:=Ex->T AV->H->Prop
def thenW(W:Cont->T AV->H->Prop)(Q:Cont):Cont:=fun ex tm h=>match ex with
 | .normal=>W Q tm h
 | .exit j=>Q (.exit j) tm h
 | .goto l=>Q (.goto l) tm h
 | .ret=>Q .ret tm h
def inW(id:Nat)(Q:Cont):Cont:=fun ex tm h=>match ex with
 | .normal=>Q .normal tm h
 | .exit j=>if j=id then Q .normal tm h else Q (.exit j) tm h
 | .goto l=>Q (.goto l) tm h
 | .ret=>Q .ret tm h
def loopW(W:Cont->T AV->H->Prop):Nat->Cont->T AV->H->Prop
 |0,_,_,_=>False
 |n+1,Q,tm,h=>W (thenW (loopW W n) Q) tm h
def both1{α β:Type}(o:Option α)(f:α->Option β):Option β:=match o with
 |some x=>f x
 |none=>none
theorem both1_some{α β:Type}(x:α)(f:α->Option β):both1 (some x) f=f x:=rfl
def WC(P:Program)(call:CallE):CC->Cont->T AV->H->Prop
 | .skip,Q,tm,h=>Q .normal tm h
 | .ops l,Q,tm,h=>WS P call l (fun tm h=>Q .normal tm h) tm h
 | .drw d,Q,tm,h=>WDr P call d (fun tm h=>Q .normal tm h) tm h
 | .seq a b,Q,tm,h=>WC P call a (thenW (WC P call b) Q) tm h
 | .cond c a b,Q,tm,h=>optW (both1 (evo tm c) boolA) fun t=>selW t (WC P call a Q tm h) (WC P call b Q tm h)
 | .block id a,Q,tm,h=>WC P call a (inW id Q) tm h
 | .loop a,Q,tm,h=>∃n,loopW (WC P call a) n Q tm h
 | .exit id,Q,tm,h=>Q (.exit id) tm h
 | .ret,Q,tm,h=>Q .ret tm h
 | .stuck,_,_,_=>False
def Goes(P:Program)(c:Code)(N:Nat)(tm:T AV)(h:H)(Q:Cont):Prop:=∃ex tm' h',Does P c N tm h ex tm' h'∧Q ex tm' h'
theorem Goes.mono{P:Program}{c:Code}{N:Nat}{tm:T AV}{h:H}{Q Q':Cont}(g:Goes P c N tm h Q)(hq:∀ex tm h,Q ex tm h->Q' ex tm h):Goes P c N tm h Q':=
 let⟨ex,tm',h',k1,k2⟩:=g;⟨ex,tm',h',k1,hq _ _ _ k2⟩
theorem seqD{P:Program}{x y:Code}{N:Nat}{tm tm1 tm2:T AV}{h h1 h2:H}{ex:Ex}(d1:Does P x N tm h .normal tm1 h1)(d2:Does P y N tm1 h1 ex tm2 h2):Does P (.seq x y) N tm h ex tm2 h2:=by
 intro B ρ a w hs
 refine wp_seq (wp_post d1 hs fun ρ' a' w' k1 k2=>?_)
 exact wp_post d2 k1 fun ρ'' a'' w'' j1 j2=>⟨rfl,ρ'',j1,k2.trans j2⟩
theorem seqD'{P:Program}{x y:Code}{N:Nat}{tm tm1:T AV}{h h1:H}{ex:Ex}(hex:ex≠.normal)(d1:Does P x N tm h ex tm1 h1):Does P (.seq x y) N tm h ex tm1 h1:=by
 intro B ρ a w hs
 refine wp_seq (wp_post d1 hs fun ρ' a' w' k1 k2=>?_)
 cases ex with
 |normal=>exact absurd rfl hex
 |exit id=>exact⟨rfl,ρ',k1,k2⟩
 |goto l=>exact⟨rfl,ρ',k1,k2⟩
 |ret=>exact⟨rfl,ρ',k1,k2⟩
theorem blockD{P:Program}{x:Code}{id N:Nat}{tm tm1:T AV}{h h1:H}{ex:Ex}(d1:Does P x N tm h ex tm1 h1):Does P (.block id x) N tm h (match ex with| .exit j=>if j=id then .normal else .exit j|e=>e) tm1 h1:=by
 intro B ρ a w hs
 refine wp_block (wp_post d1 hs fun ρ' a' w' k1 k2=>?_)
 cases ex with
 |normal=>exact⟨rfl,ρ',k1,k2⟩
 |exit j=>
  by_cases hj:j=id
  ·subst hj
   simp only[Ex.out,Exit.inBlock,if_true]
   exact⟨trivial,ρ',k1,k2⟩
  ·simp only[Ex.out,Exit.inBlock,hj,if_false]
   exact⟨trivial,ρ',k1,k2⟩
 |goto l=>exact⟨rfl,ρ',k1,k2⟩
 |ret=>exact⟨rfl,ρ',k1,k2⟩
def RoundsD(P:Program)(c:Code)(N:Nat):Nat->T AV->H->Ex->T AV->H->Prop
 |0,_,_,_,_,_=>False
 |n+1,tm,h,ex,tm',h'=>(∃tm1 h1,Does P c N tm h .normal tm1 h1∧RoundsD P c N n tm1 h1 ex tm' h')∨(ex≠.normal∧Does P c N tm h ex tm' h')
theorem loopW_rounds{P:Program}{c:Code}{N:Nat}{W:Cont->T AV->H->Prop}(hW:∀Q tm h,W Q tm h->Goes P c N tm h Q):∀(n:Nat) (Q:Cont) (tm:T AV) (h:H),loopW W n Q tm h->∃ex tm' h',RoundsD P c N n tm h ex tm' h'∧Q ex tm' h'∧ex≠.normal
 |0,Q,tm,h,hl=>hl.elim
 |n+1,Q,tm,h,hl=>by
  obtain⟨ex,tm1,h1,d1,q1⟩:=hW _ _ _ hl
  cases ex with
  |normal=>
   obtain⟨ex,tm2,h2,r,q,hne⟩:=loopW_rounds hW n Q tm1 h1 q1
   exact⟨ex,tm2,h2,.inl ⟨tm1,h1,d1,r⟩,q,hne⟩
  |exit j=>exact⟨_,tm1,h1,.inr ⟨by simp,d1⟩,q1,by simp⟩
  |goto l=>exact⟨_,tm1,h1,.inr ⟨by simp,d1⟩,q1,by simp⟩
  |ret=>exact⟨_,tm1,h1,.inr ⟨by simp,d1⟩,q1,by simp⟩
theorem rounds_mono{P:Program}{c:Code}{Q Q':Exit->Act->World->Prop}(hq:∀e a w,Q e a w->Q' e a w):∀(m:Nat) (a:Act) (w:World),Code.rounds P c Q m a w->Code.rounds P c Q' m a w:=by
 intro m
 induction m with
 |zero=>intro a w hh;exact hh
 |succ m ih=>
  intro a w hh
  refine wp_mono hh fun e a w he=>?_
  cases e<;>first
   |exact ih _ _ he
   |exact hq _ _ _ he
theorem roundsD_rounds{P:Program}{body:Code}{N:Nat}:∀(n:Nat) {tm tm':T AV} {h h':H} {ex:Ex},RoundsD P body N n tm h ex tm' h'->∀{B:Nat} {ρ:Rho} {a:Act} {w:World},St B N ρ tm h a w->
 Code.rounds P body (fun e a' w'=>e=ex.out∧∃ρ',St B N ρ' tm' h' a' w'∧Way ρ h w ρ' h' w') n a w
 |0,tm,tm',h,h',ex,hr,_,_,_,_,_=>hr.elim
 |n+1,tm,tm',h,h',ex,hr,B,ρ,a,w,hs=>by
  rcases hr with⟨tm1,h1,d1,r⟩|⟨hne,d1⟩
  ·refine wp_post d1 hs fun ρ' a' w' k1 k2=>?_
   have:=roundsD_rounds n r k1
   simp only[Ex.out]
   refine rounds_mono (fun e a'' w'' hh=>?_) n _ _ this
   obtain⟨rfl,ρ'',j1,j2⟩:=hh
   exact⟨rfl,ρ'',j1,k2.trans j2⟩
  ·refine wp_post d1 hs fun ρ' a' w' k1 k2=>?_
   cases ex with
   |normal=>exact absurd rfl hne
   |exit j=>exact⟨rfl,ρ',k1,k2⟩
   |goto l=>exact⟨rfl,ρ',k1,k2⟩
   |ret=>exact⟨rfl,ρ',k1,k2⟩
theorem loopD{P:Program}{c:Code}{N n:Nat}{tm tm':T AV}{h h':H}{ex:Ex}(hr:RoundsD P c N n tm h ex tm' h'):Does P (.loop c) N tm h ex tm' h':=
 fun B ρ a w hs=>wp_loop_rounds n (roundsD_rounds n hr hs)
theorem WC_sound{P:Program}(hm:P.follows .mixedOrders=true){call:CallE}(hcall:CallOK true P call)(hpl:Plain call){N:Nat}:∀(c:Code) {cc:CC},cCC P N c=some cc->∀{Q:Cont} {tm:T AV} {h:H},WC P call cc Q tm h->Goes P c N tm h Q:=by
 intro c
 induction c with
 |skip=>
  intro cc hc Q tm h hw
  simp[cCC]at hc;subst hc
  exact⟨.normal,tm,h,fun B ρ a w hs=>wp_skip ⟨rfl,ρ,hs,Way.refl hs.hr hs.fresh⟩,hw⟩
 |region id ops d=>
  intro cc hc Q tm h hw
  cases d with
  |false=>
   simp only[cCC]at hc
   split at hc
   case h_2=>simp at hc;subst hc;exact hw.elim
   rename_i l hl
   simp at hc;subst hc
   obtain⟨tm',h',k1,k2⟩:=WS_sound hl hw
   refine⟨.normal,tm',h',fun B ρ a w hs=>?_,k2⟩
   refine(wpIn_wide (n:=0)).1 (wpIn_region (F:=Fnc none) ?_)
   rw[List.range_eq_range']
   have:=seqE_sound (r:=none) (Q:=fun e a' w'=>e=Ex.normal.out∧∃ρ',St B N ρ' tm' h' a' w'∧Way ρ h w ρ' h' w') hcall (i:=0) (by simp) k1 hs (fun ρ' a' w' k1 k2=>⟨rfl,ρ',k1,k2⟩)
   simpa using this
  |true=>
   simp only[cCC]at hc
   split at hc
   case h_2=>simp at hc;subst hc;exact hw.elim
   rename_i d hd
   simp at hc;subst hc
   obtain⟨tm',h',k1,k2⟩:=WDr_sound (id:=id) hm hcall hpl hd hw
   exact⟨.normal,tm',h',k1.does,k2⟩
 |seq x y ihx ihy=>
  intro cc hc Q tm h hw
  simp only[cCC]at hc
  split at hc
  ·rename_i a b ha hb
   simp at hc;subst hc
   obtain⟨ex,tm1,h1,d1,q1⟩:=ihx ha hw
   cases ex with
   |normal=>
    obtain⟨ex,tm2,h2,d2,q2⟩:=ihy hb q1
    exact⟨ex,tm2,h2,seqD d1 d2,q2⟩
   |exit j=>exact⟨_,tm1,h1,seqD' (by simp) d1,q1⟩
   |goto l=>exact⟨_,tm1,h1,seqD' (by simp) d1,q1⟩
   |ret=>exact⟨_,tm1,h1,seqD' (by simp) d1,q1⟩
  ·simp at hc
 |cond c x y ihx ihy=>
  intro cc hc Q tm h hw
  simp only[cCC]at hc
  split at hc
  ·rename_i c' a b hc' ha hb
   simp at hc;subst hc
   unfold WC at hw
   obtain⟨b',hb',hw⟩:=optW_elim hw
   have hv:evo tm c'=some (.bool b'):=by
        cases hh:evo tm c' with
        |none=>rw[hh]at hb';simp[both1]at hb'
        |some v=>
         rw[hh]at hb'
         cases v<;>simp[both1,boolA]at hb'
         rw[hb']
   cases b' with
   |true=>
    obtain⟨ex,tm1,h1,d1,q1⟩:=ihx ha hw
    refine⟨ex,tm1,h1,fun B ρ a w hs=>?_,q1⟩
    have:=evo_sound hs.tr hc' hv
    simp only[VR]at this
    exact wp_cond_true this (d1 B ρ a w hs)
   |false=>
    obtain⟨ex,tm1,h1,d1,q1⟩:=ihy hb hw
    refine⟨ex,tm1,h1,fun B ρ a w hs=>?_,q1⟩
    have:=evo_sound hs.tr hc' hv
    simp only[VR]at this
    exact wp_cond_false this (d1 B ρ a w hs)
  ·simp at hc
 |block id x ih=>
  intro cc hc Q tm h hw
  simp only[cCC,Option.map_eq_some_iff]at hc
  obtain⟨a,ha,rfl⟩:=hc
  obtain⟨ex,tm1,h1,d1,q1⟩:=ih ha hw
  refine⟨_,tm1,h1,blockD d1,?_⟩
  cases ex with
  |normal=>exact q1
  |exit j=>
   simp only[inW]at q1
   simp only[]
   split<;>rename_i hj
   ·rw[if_pos hj]at q1;exact q1
   ·rw[if_neg hj]at q1;exact q1
  |goto l=>exact q1
  |ret=>exact q1
 |loop x ih=>
  intro cc hc Q tm h hw
  simp only[cCC,Option.map_eq_some_iff]at hc
  obtain⟨a,ha,rfl⟩:=hc
  obtain⟨n,hn⟩:=hw
  obtain⟨ex,tm1,h1,r,q,_⟩:=loopW_rounds (c:=x) (N:=N) (fun Q tm h hq=>ih ha hq) n Q tm h hn
  exact⟨ex,tm1,h1,loopD r,q⟩
 |exit id=>
  intro cc hc Q tm h hw
  simp[cCC]at hc;subst hc
  exact⟨.exit id,tm,h,fun B ρ a w hs=>wp_exit ⟨rfl,ρ,hs,Way.refl hs.hr hs.fresh⟩,hw⟩
 |label l=>
  intro cc hc Q tm h hw
  simp[cCC]at hc;subst hc
  exact⟨.normal,tm,h,fun B ρ a w hs=>wp_label ⟨rfl,ρ,hs,Way.refl hs.hr hs.fresh⟩,hw⟩
 |ret=>
  intro cc hc Q tm h hw
  simp[cCC]at hc;subst hc
  exact⟨.ret,tm,h,fun B ρ a w hs=>wp_ret ⟨rfl,ρ,hs,Way.refl hs.hr hs.fresh⟩,hw⟩
 |rangeFunc f ps x y ihx ihy=>intro cc hc;simp[cCC]at hc
 |scope x ih=>intro cc hc;simp[cCC]at hc
 |goto l=>intro cc hc;simp[cCC]at hc
 |refuse why=>intro cc hc;simp[cCC]at hc
inductive RV where
 |tmp (t:Nat)
 |cell (a:Nat) (agg:Option Nat)
def cRV(P:Program):ResultVar->Option RV
 | .tmp t=>some (.tmp t)
 | .cell a t=>(aggOf P t).map (.cell a)
def cRVs(P:Program):List ResultVar->Option (List RV)
 | []=>some []
 |r::l=>match cRV P r,cRVs P l with
  |some x,some y=>some (x::y)
  |_,_=>none
def resW(tm:T AV)(g:Nat->Option AO):List RV->Option (List AV)
 | []=>some []
 |r::l=>match(match r with
   | .tmp t=>tm.get t
   | .cell a agg=>match tm.get a with
     |some (.ptr p o)=>ldA g agg p o
     |_=>none)with
  |some v=>match resW tm g l with
   |some vs=>some (v::vs)
   |none=>none
  |none=>none
theorem resW_eq{P:Program}(tm:T AV)(g:Nat->Option AO):∀{l:List ResultVar} {rs:List RV},cRVs P l=some rs->resA P tm g l=resW tm g rs
 | [],rs,h=>by simp[cRVs]at h;subst h;rfl
 |r::l,rs,h=>by
  unfold cRVs at h
  split at h
  ·rename_i x y hx hy
   simp at h;subst h
   unfold resA resW
   rw[resW_eq tm g hy]
   cases r with
   |tmp t=>simp[cRV]at hx;subst hx;rfl
   |cell a t=>
    simp only[cRV,Option.map_eq_some_iff]at hx
    obtain⟨agg,h1,rfl⟩:=hx
    simp only[h1]
    cases tm.get a with
    |none=>rfl
    |some v=>cases v<;>rfl
  ·simp at h
structure CF where
 n:Nat
 c:CC
 rs:List RV
def cCF(P:Program)(f:FuncId)(k:Nat):Option CF:=match P.funcs[f]? with
 |some fn=>match fn.body,cRVs P fn.results.toList with
  |some c,some rs=>(cCC P (Nat.add k (Nat.sub fn.ntmps k)) c).map fun cc=>⟨k,cc,rs⟩
  |_,_=>none
 |none=>none
structure RetC(P:Program)(f:FuncId)(args:List AV)(h:H)(v:AV)(h':H):Prop where
 has:hasE P f=true
 key:Nat.ble ykey f=false
 ret:∀(ρ:Rho) (w:World) (ARGS:List Value),VRs ρ args ARGS->HR ρ h.t.get w->Fresh ρ h.next->Calls P f ARGS.toArray w fun e w'=>∃ρ' V,e=.returned V∧VR ρ' v V∧Way ρ h w ρ' h' w'
def endW(rs:List RV)(Post:AV->H->Prop):Cont:=fun ex tm h=>match ex with
 | .exit _=>False
 | .goto _=>False
 | .normal=>optW (resW tm h.t.get rs) fun vs=>Post (packA vs) h
 | .ret=>optW (resW tm h.t.get rs) fun vs=>Post (packA vs) h
def WF(P:Program)(call:CallE)(cf:CF)(args:List AV)(h:H)(Post:AV->H->Prop):Prop:=
 WC P call cf.c (endW cf.rs Post) (putList 0 args .e) h
theorem WF_sound{P:Program}(hm:P.follows .mixedOrders=true){call:CallE}(hcall:CallOK true P call)(hpl:Plain call){f:FuncId}(hhas:hasE P f=true)(hkey:Nat.ble ykey f=false){k:Nat}{cf:CF}(hcf:cCF P f k=some cf){args:List AV}(hk:args.length=k){h:H}{Post:AV->H->Prop}(hw:WF P call cf args h Post):
 ∃v h',RetC P f args h v h'∧Post v h':=by
 obtain⟨fn,c,hf,hname,hb⟩:=hasE_of hhas
 unfold cCF at hcf
 rw[hf]at hcf
 simp only[hb]at hcf
 split at hcf
 ·rename_i c' rs hc' hrs
  simp at hc';subst hc'
  simp only[Option.map_eq_some_iff]at hcf
  obtain⟨cc,hcc,rfl⟩:=hcf
  subst hk
  obtain⟨ex,tm,h2,d,q⟩:=WC_sound hm hcall hpl c hcc hw
  have key:∃vs,resA P tm h2.t.get fn.results.toList=some vs∧Post (packA vs) h2:=by
   have:optW (resW tm h2.t.get rs) fun vs=>Post (packA vs) h2:=by
        cases ex with
        |exit j=>exact q.elim
        |goto l=>exact q.elim
        |normal=>exact q
        |ret=>exact q
   obtain⟨vs,hvs,this⟩:=optW_elim this
   exact⟨vs,by rw[resW_eq tm _ hrs];exact hvs,this⟩
  obtain⟨vs,hvs,hpost⟩:=key
  refine⟨packA vs,h2,⟨hhas,hkey,fun ρ w ARGS ha hr hfr=>?_⟩,hpost⟩
  refine callsIn_wide.1 (callsIn_of_wp_marks (n:=0) hf hb trivial ((wpIn_wide (n:=0)).2 ?_))
  have hl:=ha.length
  have hs:St w.heap.size (Nat.add args.length (Nat.sub fn.ntmps args.length)) ρ (putList 0 args .e) h {tmps:=ARGS.toArray++Array.replicate (fn.ntmps-ARGS.toArray.size) undef,defers:=[]} w:=by
   refine⟨fun i u hi=>?_,hr,hfr,by simp[hl],trivial,Nat.le_refl _⟩
   rw[putList_get]at hi
   by_cases hh:0<=i∧i<0+args.length
   ·rw[if_pos hh]at hi
    have hi':args[i]?=some u:=by simpa using hi
    obtain⟨V,k1,k2⟩:=ha.get hi'
    have hlt:i<ARGS.length:=(List.getElem?_eq_some_iff.1 k1).1
    refine⟨by simp;omega,?_⟩
    rw[Array.getD_eq_getD_getElem?,Array.getElem?_append_left (by simpa using hlt)]
    simpa [k1]using k2
   ·rw[if_neg hh,T.get_e]at hi;simp at hi
  refine wp_post d hs fun ρ' a' w' k1 k2=>?_
  have fin:LeavesInM Fence.wide 0 P fn a'.tmps (fun e w'=>∃ρ' V,e=.returned V∧VR ρ' (packA vs) V∧Way ρ h w ρ' h2 w') a'.defers .returning w':=by
   refine leaves (ρ:=ρ') (h:=h2) (fun w'' hr'' hw''=>?_) k1.defers k2
   obtain⟨V,j1,j2⟩:=run_results k1.tr hr'' hvs
   exact⟨V,j2,ρ',V,rfl,j1,hw''⟩
  cases ex with
  |exit j=>exact q.elim
  |goto l=>exact q.elim
  |normal=>exact fin
  |ret=>exact fin
 ·simp at hcf
end
end Go.Proofs.YtghmnaojmpjglaaGreatDoor.Eo
namespace Go.Proofs.YtghmnaojmpjglaaGreatDoor.Eo
noncomputable section
@[go_sem] theorem rOpt{α:Type}(x:α)(K:α->Prop):@optI α (some x) ⟨K⟩=K x:=by unfold optI;rfl
@[go_sem] theorem rSelT(A B:Prop):@selI true ⟨A⟩ ⟨B⟩=A:=by unfold selI;rfl
@[go_sem] theorem rSelF(A B:Prop):@selI false ⟨A⟩ ⟨B⟩=B:=by unfold selI;rfl
@[go_sem] theorem rBoth1{α β:Type}(x:α)(f:α->Option β):both1 (some x) f=f x:=by unfold both1;rfl
section
variable (P:Program) (call:CallE)
@[go_sem] theorem rWS0(K:T AV->H->Prop)(tm:T AV)(h:H):WS P call [] K tm h=K tm h:=by rw[WS]
@[go_sem] theorem rWS1(q:SQ)(l:List SQ)(K:T AV->H->Prop)(tm:T AV)(h:H):WS P call (q::l) K tm h=
 @optI _ (wantQ tm q.gd) ⟨fun b=>@selI b ⟨@optI _ (evOp P call tm h q.c) ⟨fun r=>WS P call l K (setO tm q.dst r.1) r.2⟩⟩ ⟨WS P call l K (setO tm q.dst (.tup [])) h⟩⟩:=by rw[WS]
@[go_sem] theorem rWCskip(Q:Cont)(tm:T AV)(h:H):WC P call .skip Q tm h=Q .normal tm h:=by rw[WC]
@[go_sem] theorem rWCops(l:List SQ)(Q:Cont)(tm:T AV)(h:H):WC P call (.ops l) Q tm h=WS P call l (fun tm h=>Q .normal tm h) tm h:=by rw[WC]
@[go_sem] theorem rWCdrw(d:DR)(Q:Cont)(tm:T AV)(h:H):WC P call (.drw d) Q tm h=WDr P call d (fun tm h=>Q .normal tm h) tm h:=by rw[WC]
@[go_sem] theorem rWCseq(a b:CC)(Q:Cont)(tm:T AV)(h:H):WC P call (.seq a b) Q tm h=WC P call a (thenW (WC P call b) Q) tm h:=by rw[WC]
@[go_sem] theorem rWCcond(c:Opd)(a b:CC)(Q:Cont)(tm:T AV)(h:H):WC P call (.cond c a b) Q tm h=@optI _ (both1 (evo tm c) boolA) ⟨fun t=>@selI t ⟨WC P call a Q tm h⟩ ⟨WC P call b Q tm h⟩⟩:=by rw[WC]
@[go_sem] theorem rWCblock(id:Nat)(a:CC)(Q:Cont)(tm:T AV)(h:H):WC P call (.block id a) Q tm h=WC P call a (inW id Q) tm h:=by rw[WC]
@[go_sem] theorem rWCexit(id:Nat)(Q:Cont)(tm:T AV)(h:H):WC P call (.exit id) Q tm h=Q (.exit id) tm h:=by rw[WC]
@[go_sem] theorem rWCret(Q:Cont)(tm:T AV)(h:H):WC P call .ret Q tm h=Q .ret tm h:=by rw[WC]
@[go_sem] theorem rThenN(W:Cont->T AV->H->Prop)(Q:Cont)(tm:T AV)(h:H):thenW W Q .normal tm h=W Q tm h:=by rw[thenW]
@[go_sem] theorem rThenE(W:Cont->T AV->H->Prop)(Q:Cont)(j:Nat)(tm:T AV)(h:H):thenW W Q (.exit j) tm h=Q (.exit j) tm h:=by rw[thenW]
@[go_sem] theorem rThenR(W:Cont->T AV->H->Prop)(Q:Cont)(tm:T AV)(h:H):thenW W Q .ret tm h=Q .ret tm h:=by rw[thenW]
@[go_sem] theorem rInN(id:Nat)(Q:Cont)(tm:T AV)(h:H):inW id Q .normal tm h=Q .normal tm h:=by rw[inW]
@[go_sem] theorem rInE(id j:Nat)(Q:Cont)(tm:T AV)(h:H):inW id Q (.exit j) tm h=Q (if j=id then .normal else .exit j) tm h:=by
 rw[inW]
 by_cases hj:j=id<;>simp[hj]
@[go_sem] theorem rInR(id:Nat)(Q:Cont)(tm:T AV)(h:H):inW id Q .ret tm h=Q .ret tm h:=by rw[inW]
@[go_sem] theorem rEndN(rs:List RV)(Post:AV->H->Prop)(tm:T AV)(h:H):endW rs Post .normal tm h=@optI _ (resW tm h.t.get rs) ⟨fun vs=>Post (packA vs) h⟩:=by rw[endW]
@[go_sem] theorem rEndR(rs:List RV)(Post:AV->H->Prop)(tm:T AV)(h:H):endW rs Post .ret tm h=@optI _ (resW tm h.t.get rs) ⟨fun vs=>Post (packA vs) h⟩:=by rw[endW]
@[go_sem] theorem rWF(n:Nat)(c:CC)(rs:List RV)(args:List AV)(h:H)(Post:AV->H->Prop):WF P call ⟨n,c,rs⟩ args h Post=WC P call c (endW rs Post) (putList 0 args .e) h:=by rw[WF]
@[go_sem] theorem rWDr(ps:List (List DQ×Option DQ))(fin:List (Nat×Nat))(chk:List (DQ×List Nat))(K:T AV->H->Prop)(tm:T AV)(h:H):WDr P call ⟨ps,fin,chk⟩ K tm h=
 drW P call tm 0 ps (fun F hs=>chkW P tm F hs chk∧@optI _ (lastH hs) ⟨fun h'=>K (finW F fin tm) h'⟩) .e h:=by rw[WDr]
@[go_sem] theorem rDrN(tm0:T AV)(ph:Nat)(qs:List DQ)(l:List (List DQ×Option DQ))(K:T Rec->List H->Prop)(F:T Rec)(h:H):drW P call tm0 ph ((qs,none)::l) K F h=phW P tm0 ph qs (fun F h=>K F [h]) F h:=by rw[drW]
@[go_sem] theorem rDrS(tm0:T AV)(ph:Nat)(qs:List DQ)(e:DQ)(l:List (List DQ×Option DQ))(K:T Rec->List H->Prop)(F:T Rec)(h:H):drW P call tm0 ph ((qs,some e)::l) K F h=
 phW P tm0 ph qs (fun F1 h1=>@optI _ (fGo P call tm0 F1 h1 e) ⟨fun r=>h1.next<=r.2.next∧drW P call tm0 (ph+1) l (fun F' hs=>K F' (h1::hs)) (F1.set e.i (.eff r.1)) r.2⟩) F h:=by rw[drW]
@[go_sem] theorem rPh0(tm0:T AV)(ph:Nat)(K:T Rec->H->Prop)(F:T Rec)(h:H):phW P tm0 ph [] K F h=K F h:=by rw[phW]
@[go_sem] theorem rPh1(tm0:T AV)(ph:Nat)(q:DQ)(l:List DQ)(K:T Rec->H->Prop)(F:T Rec)(h:H):phW P tm0 ph (q::l) K F h=@optI _ (qGo P tm0 ph F h q) ⟨fun r=>phW P tm0 ph l K (F.set q.i r.1) r.2⟩:=by rw[phW]
@[go_sem] theorem rFin0(F:T Rec)(tm:T AV):finW F [] tm=tm:=by rw[finW]
def setR(tm:T AV)(d:Nat)(o:Option Rec):T AV:=match o with
 |some r=>tm.set d r.val
 |none=>tm
@[go_sem] theorem rSetR(tm:T AV)(d:Nat)(r:Rec):setR tm d (some r)=tm.set d r.val:=by unfold setR;rfl
@[go_sem] theorem rFin1(F:T Rec)(i d:Nat)(l:List (Nat×Nat))(tm:T AV):finW F ((i,d)::l) tm=finW F l (setR tm d (F.get i)):=by
 rw[finW]
 cases F.get i<;>rfl
end
attribute [go_sem] qGo fGo qRec chkW rdQ wantQ setO evo evos evOp evP evP_pick evP_nilck evP_bin evP_un evP_conv evP_convs evP_mkif evP_mkfn evP_fadr evP_fld evP_iadrS evP_iadrA evP_idxA evP_extr evP_lens evP_lenm evP_mm evP_capv evP_tas evP_slc
 evR evE evN resW packA Rec.val lastH evoO evSlc evCall tgtA layAll layAt boolA
attribute [go_sem] mkTm_nil mkTm_none mkTm_some T.get_set T.get_e iLt_eq
attribute [go_sem] cond_true cond_false
@[go_sem] theorem rBle(a b:Nat):Nat.ble a b=decide (a<=b):=ble_eq a b
@[go_sem] theorem rBlt(a b:Nat):Nat.blt a b=decide (a<b):=blt_iff a b
@[go_sem] theorem rBeq(a b:Nat):Nat.beq a b=decide (a=b):=beq_iff a b
@[go_sem] theorem rIEq(a b:Int):iEq a b=decide (a=b):=by rw[iEq_eq,Bool.eq_iff_iff];simp
@[go_sem] theorem rAdd(a b:Int):Int.add a b=a+b:=rfl
@[go_sem] theorem rSub(a b:Int):Int.sub a b=a-b:=rfl
@[go_sem] theorem rMul(a b:Int):Int.mul a b=a*b:=rfl
section
@[go_sem] theorem rOne1(b:Bool):oneA (.bool b)=true:=by unfold oneA;rfl
@[go_sem] theorem rOne2(k:IntKind)(n:Int):oneA (.int k n)=true:=by unfold oneA;rfl
@[go_sem] theorem rOne4(a o:Nat):oneA (.ptr a o)=true:=by unfold oneA;rfl
@[go_sem] theorem rOne5:oneA .nilp=true:=by unfold oneA;rfl
@[go_sem] theorem rOne6(a o l e:Nat)(c:Option Nat):oneA (.sl a o l e c)=true:=by unfold oneA;rfl
@[go_sem] theorem rOne7:oneA .nils=true:=by unfold oneA;rfl
@[go_sem] theorem rOne8(a:Nat):oneA (.map a)=true:=by unfold oneA;rfl
@[go_sem] theorem rOne9:oneA .nilm=true:=by unfold oneA;rfl
@[go_sem] theorem rOneA(f:Fn)(a b:List AV):oneA (.fn f a b)=true:=by unfold oneA;rfl
@[go_sem] theorem rOneB:oneA .nilf=true:=by unfold oneA;rfl
@[go_sem] theorem rOneC(t:TypeId)(v:AV):oneA (.ifc t v)=true:=by unfold oneA;rfl
@[go_sem] theorem rOneD:oneA .nili=true:=by unfold oneA;rfl
@[go_sem] theorem rCells(v:AV)(h:oneA v=true):cellsA v=some [v]:=by cases v<;>first|rfl|(simp[oneA]at h)
@[go_sem] theorem rCellsA(l:List AV):cellsA (.agg l)=cond (l.all oneA) (some l) none:=by unfold cellsA;rfl
end
def ldO(agg:Option Nat)(o:Nat):AO->Option AV
 | .row cells _ _=>match agg with
   |none=>cells.get o
   |some n=>both1 (getList cells o n) fun l=>some (.agg l)
 | .tab cells=>match agg with
   |none=>cells.get o
   |some n=>both1 (getList cells o n) fun l=>some (.agg l)
 |_=>none
theorem ldA_both(g:Nat->Option AO)(agg:Option Nat)(a o:Nat):ldA g agg a o=both1 (g a) (ldO agg o):=by
 unfold ldA both1 ldO
 cases g a with
 |none=>rfl
 |some x=>
  cases x with
  |row cells len e=>
   cases agg with
   |none=>rfl
   |some n=>
    simp only[ldO,both1]
    cases getList cells o n<;>rfl
  |tab cells=>
   cases agg with
   |none=>rfl
   |some n=>
    simp only[ldO,both1]
    cases getList cells o n<;>rfl
  |map es clock=>rfl
  |iter m since seen last=>rfl
  |loop st pend tm N ps assign body=>rfl
  |dead=>rfl
@[go_sem] theorem rLdA(g:Nat->Option AO)(agg:Option Nat)(a o:Nat):ldA g agg a o=both1 (g a) (ldO agg o):=ldA_both g agg a o
@[go_sem] theorem rLdO(o:Nat)(cells:T AV)(len:Nat)(e:TypeId):ldO none o (.row cells len e)=cells.get o:=by unfold ldO;rfl
@[go_sem] theorem rLdOn(n o:Nat)(cells:T AV)(len:Nat)(e:TypeId):ldO (some n) o (.row cells len e)=both1 (getList cells o n) (fun l=>some (.agg l)):=by unfold ldO;rfl
@[go_sem] theorem rLdOt(o:Nat)(cells:T AV):ldO none o (.tab cells)=cells.get o:=by unfold ldO;rfl
def lenA:AV->Option AV
 | .sl _ _ len _ _=>some (.int .i64 len)
 | .nils=>some (.int .i64 0)
 |_=>none
@[go_sem] theorem rLenA(a o len es:Nat)(c:Option Nat):lenA (.sl a o len es c)=some (.int .i64 (len:Int)):=by unfold lenA;rfl
@[go_sem] theorem rLenA0:lenA .nils=some (.int .i64 0):=by unfold lenA;rfl
@[go_sem] theorem rLenv(tm:T AV)(x:Opd):evP_lenv tm x=both1 (evo tm x) lenA:=by
 unfold evP_lenv both1 lenA
 cases evo tm x with
 |none=>rfl
 |some v=>cases v<;>rfl
section
variable (k:IntKind) (x y:Int)
@[go_sem] theorem rI1:evInt .add k x y=some (.int k (fw k (x+y))):=by unfold evInt;rfl
@[go_sem] theorem rI2:evInt .sub k x y=some (.int k (fw k (x-y))):=by unfold evInt;rfl
@[go_sem] theorem rI3:evInt .mul k x y=some (.int k (fw k (x*y))):=by unfold evInt;rfl
@[go_sem] theorem rI4:evInt .quo k x y=if y=0 then none else some (.int k (fw k (Int.tdiv x y))):=by unfold evInt;simp only[rIEq];by_cases h:y=0<;>simp[h]
@[go_sem] theorem rI5:evInt .rem k x y=if y=0 then none else some (.int k (Int.tmod x y)):=by unfold evInt;simp only[rIEq];by_cases h:y=0<;>simp[h]
@[go_sem] theorem rI10:evInt .eql k x y=some (.bool (decide (x=y))):=by unfold evInt;simp only[rIEq]
@[go_sem] theorem rI11:evInt .neq k x y=some (.bool (!decide (x=y))):=by unfold evInt;simp only[rIEq]
@[go_sem] theorem rI12:evInt .lss k x y=some (.bool (decide (x<y))):=by unfold evInt;simp only[iLt_eq]
@[go_sem] theorem rI13:evInt .leq k x y=some (.bool (!decide (y<x))):=by unfold evInt;simp only[iLt_eq]
@[go_sem] theorem rI14:evInt .gtr k x y=some (.bool (decide (y<x))):=by unfold evInt;simp only[iLt_eq]
@[go_sem] theorem rI15:evInt .geq k x y=some (.bool (!decide (x<y))):=by unfold evInt;simp only[iLt_eq]
end
@[go_sem] theorem rIdx(len:Nat)(k:IntKind)(x:Int):evIdx len (.int k x)=if 0<=x∧x<len then some x.toNat else none:=by
 cases x with
 |ofNat m=>
  simp only[evIdx,rBlt]
  by_cases h:m<len
  ·have:(0:Int)<=Int.ofNat m∧Int.ofNat m<(len:Int):=⟨Int.natCast_nonneg m,by show(m:Int)<len;omega⟩
   rw[if_pos this];simp[h]
  ·have:¬((0:Int)<=Int.ofNat m∧Int.ofNat m<(len:Int)):=by show¬((0:Int)<=(m:Int)∧(m:Int)<(len:Int));omega
   rw[if_neg this];simp[h]
 |negSucc m=>
  have:¬((0:Int)<=Int.negSucc m∧Int.negSucc m<(len:Int)):=by omega
  rw[if_neg this];rfl
@[go_sem] theorem rBnd(y:Nat)(k:IntKind)(x:Int):bnd y (.int k x)=if 0<=x∧x<=y then some x.toNat else none:=by
 cases x with
 |ofNat m=>
  simp only[bnd,rBle]
  by_cases h:m<=y
  ·have:(0:Int)<=Int.ofNat m∧Int.ofNat m<=(y:Int):=⟨Int.natCast_nonneg m,by show(m:Int)<=y;omega⟩
   rw[if_pos this];simp[h]
  ·have:¬((0:Int)<=Int.ofNat m∧Int.ofNat m<=(y:Int)):=by show¬((0:Int)<=(m:Int)∧(m:Int)<=(y:Int));omega
   rw[if_neg this];simp[h]
 |negSucc m=>
  have:¬((0:Int)<=Int.negSucc m∧Int.negSucc m<=(y:Int)):=by omega
  rw[if_neg this];rfl
attribute [go_sem] bndo bnds
def both(a b:Option AV)(f:AV->AV->Option AV):Option AV:=match a,b with
 |some a,some b=>f a b
 |_,_=>none
@[go_sem] theorem both_some(a b:AV)(f:AV->AV->Option AV):both (some a) (some b) f=f a b:=rfl
def idxV:AV->AV->Option AV
 | .str s,.int _ (.ofNat i)=>match s.data.toList[i]? with
   |some b=>some (.int .u8 b.toNat)
   |none=>none
 |_,_=>none
@[go_sem] theorem rIdxV(s:ByteArray)(k:IntKind)(i:Int):idxV (.str s) (.int k i)=if h:0<=i∧i.toNat<s.size then some (.int .u8 (s[i.toNat]'h.2).toNat)else none:=by
 cases i with
 |ofNat m=>
  simp only[idxV]
  by_cases h:m<s.size
  ·have h':(0:Int)<=Int.ofNat m∧(Int.ofNat m).toNat<s.size:=⟨Int.natCast_nonneg m,h⟩
   rw[dif_pos h']
   have:s.data.toList[m]?=some (s[m]'h):=by
    have h2:m<s.data.size:=h
    rw[Array.getElem?_toList,Array.getElem?_eq_getElem h2];rfl
   rw[this];rfl
  ·have h':¬((0:Int)<=Int.ofNat m∧(Int.ofNat m).toNat<s.size):=fun hh=>h hh.2
   rw[dif_neg h']
   have:s.data.toList[m]?=none:=by
    have h2:¬m<s.data.size:=h
    simp;omega
   rw[this]
 |negSucc m=>
  have h':¬((0:Int)<=Int.negSucc m∧(Int.negSucc m).toNat<s.size):=fun hh=>by omega
  rw[dif_neg h'];rfl
@[go_sem] theorem rIdxS(tm:T AV)(g:Nat->Option AO)(x ix:Opd):evS tm g (.idx x ix)=both (evo tm x) (evo tm ix) idxV:=by
 show(match evo tm x,evo tm ix with
  |some (AV.str s),some (AV.int _ (Int.ofNat i))=>match s.data.toList[i]? with
   |some b=>some (AV.int .u8 b.toNat)
   |none=>none
  |_,_=>none)=_
 generalize evo tm x=a
 generalize evo tm ix=b
 unfold both idxV
 cases a with
 |none=>rfl
 |some a=>
  cases b with
  |none=>cases a<;>rfl
  |some b=>cases a<;>cases b<;>first|rfl|(rename_i n;cases n<;>rfl)
attribute [go_sem] evoS
@[go_sem] theorem rBinI(P:Program)(op:BinOp)(t:TypeId)(cx cy:Bool)(k k':IntKind)(x y:Int):evBin P op t cx cy (.int k x) (.int k' y)=match op with
 | .shl=>if y<0 then none else some (.int k (fw k (x*(2^(min y.toNat k.bits)))))
 | .shr=>if y<0 then none else some (.int k (x.fdiv (2^(min y.toNat k.bits))))
 |op=>if k=k' then evInt op k x y else none:=by
 unfold evBin
 cases op<;>simp only[iLt_eq]<;>first
  |(by_cases h:y<0<;>simp[h]<;>rfl)
  |(by_cases h:k=k'<;>simp[h])
end
end Go.Proofs.YtghmnaojmpjglaaGreatDoor.Eo
namespace Go.Proofs.YtghmnaojmpjglaaGreatDoor.Eo
noncomputable section
@[go_sem] theorem natLit(n:Nat):(Nat.cast (no_index (OfNat.ofNat n)):Int)=OfNat.ofNat n:=rfl
attribute [go_sem] Nat.le_add_right srcA List.forall_mem_cons List.not_mem_nil false_implies implies_true forall_const Nat.add_assoc Nat.left_eq_add Nat.add_eq_left ykey List.getElem?_cons_zero List.getElem?_cons_succ List.getElem?_nil List.set_cons_zero List.set_cons_succ List.length_cons List.length_nil List.length_set List.length_append List.take_succ_cons List.take_zero List.drop_zero List.drop_succ_cons List.nil_append List.cons_append List.append_nil
 decide_true decide_false true_and and_true false_and and_false true_or or_true false_or or_false Bool.and_self Bool.and_true Bool.true_and Bool.and_false Bool.false_and Bool.not_true Bool.not_false Int.toNat_natCast Int.toNat_zero Int.le_refl Nat.le_refl Nat.zero_add Nat.add_zero Int.natCast_nonneg eq_self not_true_eq_false not_false_eq_true
 List.all_cons List.all_nil Option.map_some Option.map_none Nat.lt_irrefl
theorem fwIn{k:IntKind}{n:Int}(h:match k with| .i8=>-128<=n∧n<=127| .u8=>0<=n∧n<=255| .i16=>-32768<=n∧n<=32767| .u16=>0<=n∧n<=65535| .i32=>-2147483648<=n∧n<=2147483647| .u32=>0<=n∧n<=4294967295| .i64=>-9223372036854775808<=n∧n<=9223372036854775807| .u64=>0<=n∧n<=18446744073709551615):fw k n=n:=by
 rw[fw_eq];exact wrap_in k n h
theorem fwI{n:Int}(h1:-9223372036854775808<=n)(h2:n<=9223372036854775807):fw .i64 n=n:=fwIn ⟨h1,h2⟩
theorem fwU{n:Int}(h1:0<=n)(h2:n<=18446744073709551615):fw .u64 n=n:=fwIn ⟨h1,h2⟩
theorem fwB{n:Int}(h1:0<=n)(h2:n<=255):fw .u8 n=n:=fwIn ⟨h1,h2⟩
def Has(call:CallE)(f:FuncId)(K:List AV->H->Option (AV×H)):Prop:=∀args h v h',K args h=some (v,h')->call f args h=some (v,h')
theorem Has.eq{call:CallE}{f:FuncId}{K:List AV->H->Option (AV×H)}(hK:Has call f K){args:List AV}{h:H}(hs:(K args h).isSome=true):call f args h=K args h:=by
 cases e:K args h with
 |none=>rw[e]at hs;simp at hs
 |some r=>rw[hK args h r.1 r.2 e]
@[go_sem] theorem T.set_set{α:Type}(t:T α)(i:Nat)(x y:α):(t.set i x).set i y=t.set i y:=T.ext fun j=>by
 rw[T.get_set,T.get_set,T.get_set]
 by_cases e:j=i<;>simp[e]
@[go_sem] theorem rowGet(cs:List AV)(i:Nat):(putList 0 cs T.e).get i=cs[i]?:=by
 rw[putList_get]
 by_cases h:0<=i∧i<0+cs.length
 ·rw[if_pos h];rfl
 ·rw[if_neg h,T.get_e]
  rw[List.getElem?_eq_none (by omega)]
@[go_sem] theorem rowSet(cs:List AV)(i:Nat)(v:AV)(h:i<cs.length):(putList 0 cs T.e).set i v=putList 0 (cs.set i v) T.e:=T.ext fun j=>by
 rw[T.get_set,rowGet,rowGet,List.getElem?_set]
 by_cases e:j=i
 ·subst e;simp[h]
 ·rw[if_neg e,if_neg (Ne.symm e)]
theorem rowPut(cs l:List AV)(o:Nat)(h:o+l.length<=cs.length):putList o l (putList 0 cs T.e)=putList 0 (cs.take o++l++cs.drop (o+l.length)) T.e:=T.ext fun j=>by
 rw[putList_get,rowGet,rowGet]
 have h1:(cs.take o).length=o:=by simp;omega
 by_cases e:o<=j∧j<o+l.length
 ·rw[if_pos e,List.append_assoc,List.getElem?_append_right (by omega),List.getElem?_append_left (by omega),h1]
 ·rw[if_neg e]
  by_cases e2:j<o
  ·rw[List.append_assoc,List.getElem?_append_left (by omega),List.getElem?_take,if_pos e2]
  ·rw[List.getElem?_append_right (by simp;omega),List.getElem?_drop]
   congr 1
   simp;omega
@[go_sem] theorem rowPut1(cs:List AV)(o:Nat)(v:AV)(h:o<cs.length):putList o [v] (putList 0 cs T.e)=putList 0 (cs.set o v) T.e:=by
 rw[←rowSet cs o v h,putList_cons,putList_nil]
@[go_sem] theorem rowPutAll(cs l:List AV)(h:l.length=cs.length):putList 0 l (putList 0 cs T.e)=putList 0 l T.e:=by
 rw[rowPut cs l 0 (by omega)]
 congr 1
 rw[List.take_zero,List.nil_append,List.drop_eq_nil_of_le (by omega),List.append_nil]
theorem getList_row(cs:List AV):∀(n o:Nat),getList (putList 0 cs T.e) o n=if o+n<=cs.length∨n=0 then some ((cs.drop o).take n)else none
 |0,o=>by rw[getList_zero];simp
 |n+1,o=>by
  rw[getList_succ,rowGet,getList_row cs n (o+1)]
  by_cases h:o<cs.length
  ·rw[List.getElem?_eq_getElem h]
   simp only[]
   by_cases h2:o+1+n<=cs.length
   ·rw[if_pos (.inl h2),if_pos (.inl (by omega))]
    simp only[]
    rw[List.drop_eq_getElem_cons h,List.take_succ_cons]
   ·by_cases hn:n=0
    ·omega
    ·rw[if_neg (by omega),if_neg (by omega)]
  ·rw[List.getElem?_eq_none (by omega)]
   simp only[]
   rw[if_neg (by omega)]
@[go_sem] theorem rowList(cs:List AV)(o n:Nat)(h:o+n<=cs.length):getList (putList 0 cs T.e) o n=some ((cs.drop o).take n):=by
 rw[getList_row,if_pos (.inl h)]
abbrev rowL(cs:List AV)(e:TypeId):AO:=.row (putList 0 cs T.e) cs.length e
def own:AV->Option Nat
 | .sl a _ _ _ _=>some a
 |_=>none
inductive Own(es:Nat)(e:TypeId)(h:H):AV->Nat->List AV->Prop where
 |nil:Own es e h .nils 0 []
 |sl (a len:Nat) (cs:List AV) (cap:Option Nat) (hc:cap=none∨cap=some len) (h0:0<len) (hl:cs.length=len*es) (ha:a<h.next) (hg:h.t.get a=some (rowL cs e)):Own es e h (.sl a 0 len es cap) len cs
theorem Own.keep{es:Nat}{e:TypeId}{h h':H}{v:AV}{len:Nat}{cs:List AV}(o:Own es e h v len cs)(hn:h.next<=h'.next)(hk:∀b,own v=some b->h'.t.get b=h.t.get b):Own es e h' v len cs:=by
 cases o with
 |nil=>exact .nil
 |sl a len cs cap hc h0 hl ha hg=>exact .sl a len cs cap hc h0 hl (Nat.lt_of_lt_of_le ha hn) ((hk a rfl).trans hg)
theorem Own.length{es:Nat}{e:TypeId}{h:H}{v:AV}{len:Nat}{cs:List AV}(o:Own es e h v len cs):cs.length=len*es:=by
 cases o with
 |nil=>simp
 |sl a len cs cap hc h0 hl ha hg=>exact hl
theorem Own.lt{es:Nat}{e:TypeId}{h:H}{v:AV}{len:Nat}{cs:List AV}(o:Own es e h v len cs){b:Nat}(hb:own v=some b):b<h.next:=by
 cases o with
 |nil=>simp[own]at hb
 |sl a len cs cap hc h0 hl ha hg=>simp[own]at hb;omega
def appV(h:H)(es:Nat)(len:Nat):AV:=.sl h.next 0 len es none
def appT(h:H)(e:TypeId)(v:AV)(cs:List AV):H:=⟨h.next+1,(match v with
 | .sl a _ _ _ none=>h.t.set a .dead
 |_=>h.t).set h.next (rowL cs e)⟩
theorem appA_own{es bytes n:Nat}{e:TypeId}{h:H}{v:AV}{len:Nat}{cs src:List AV}(o:Own es e h v len cs)(hes:0<es)(hn:0<n)(hb:(2*(len+n)+192)*bytes<=281474976710656)(hle:len+n<=281474976710656):
 appA h e es bytes v n src=some (appV h es (len+n),appT h e v (cs++src)):=by
 have b1:Nat.ble ((2*(len+n)+192)*bytes) 281474976710656=true:=Nat.ble_eq_true_of_le hb
 have b2:Nat.ble (len+n) 281474976710656=true:=Nat.ble_eq_true_of_le hle
 obtain⟨m,rfl⟩:∃m,n=m+1:=⟨n-1,by omega⟩
 cases o with
 |nil=>
  rw[Nat.zero_add]at b2⊢
  have b3:Nat.ble ((m+1)*bytes) 281474976710656=true:=Nat.ble_eq_true_of_le (Nat.le_trans (Nat.mul_le_mul_right _ (by omega)) hb)
  unfold appA
  simp only[appNew,Nat.zero_add,b3,b2,Bool.and_self,cond_true,List.nil_append]
  rfl
 |sl a len cs cap hc h0 hl ha hg=>
  unfold appA
  have c1:Nat.beq es es=true:=by simp
  have c2:Nat.beq e e=true:=by simp
  have c3:Nat.ble (0+(len+(m+1))*es) cs.length=false:=by
   rw[ble_eq,decide_eq_false_iff_not,hl,Nat.add_mul]
   have:0<(m+1)*es:=Nat.mul_pos (Nat.succ_pos _) hes
   omega
  have c4:getList (putList 0 cs T.e) 0 (len*es)=some cs:=by
   rw[getList_row,if_pos (.inl (by omega))]
   simp[←hl]
  rcases hc with rfl|rfl
  ·simp only[c1,cond_true,hg,c2,c3,Bool.false_and,cond_false,c4,appNew,b1,b2,Bool.and_self]
   rfl
  ·have c5:Nat.ble (len+(m+1)) len=false:=by rw[ble_eq,decide_eq_false_iff_not];omega
   simp only[c1,cond_true,hg,c2,c5,cond_false,c4,appNew,b1,b2,Bool.and_self]
   rfl
theorem own_app{es n:Nat}{e:TypeId}{h:H}{v:AV}{len:Nat}{cs src:List AV}(o:Own es e h v len cs)(hn:0<n)(hs:src.length=n*es):Own es e (appT h e v (cs++src)) (appV h es (len+n)) (len+n) (cs++src):=by
 have hl:=o.length
 refine .sl _ _ _ _ (.inl rfl) (by omega) (by rw[List.length_append,hs,hl,Nat.add_mul]) (Nat.lt_succ_self _) ?_
 show(T.set _ h.next _).get h.next=_
 rw[T.get_set,if_pos rfl]
theorem Own.one{es:Nat}{e:TypeId}{h:H}{v:AV}{len:Nat}{cs:List AV}(o:Own es e h v len cs):oneA v=true:=by
 cases o<;>rfl
theorem Own.lenA{es:Nat}{e:TypeId}{h:H}{v:AV}{len:Nat}{cs:List AV}(o:Own es e h v len cs):lenA v=some (.int .i64 (len:Int)):=by
 cases o<;>rfl
theorem opt_some{α:Type}{o:Option α}{x:α}{K:α->Prop}(e:o=some x)(k:K x):@optI α o ⟨K⟩:=by rw[e];exact k
theorem opt_by{o:Option (AV×H)}{K:AV×H->Prop}{S:AV->H->Prop}(ho:∃v h',o=some (v,h')∧S v h')(hk:∀v h',S v h'->K (v,h')):@optI _ o ⟨K⟩:=by
 obtain⟨v,h',e,s⟩:=ho
 rw[e]
 exact hk v h' s
theorem app_next(h:H)(e:TypeId)(v:AV)(cs:List AV):(appT h e v cs).next=h.next+1:=rfl
theorem own_appV(h:H)(es len:Nat):own (appV h es len)=some h.next:=rfl
theorem app_get{h:H}{e:TypeId}{v:AV}{cs:List AV}{b:Nat}(hb:b<h.next)(ho:own v≠some b):(appT h e v cs).t.get b=h.t.get b:=by
 unfold appT
 simp only[T.get_set,if_neg (Nat.ne_of_lt hb)]
 split
 ·rw[T.get_set,if_neg]
  rintro rfl
  exact ho rfl
 ·rfl
theorem optW_mono{α:Type}{o:Option α}{K K':α->Prop}(hk:∀x,K x->K' x)(h:@optI α o ⟨K⟩):@optI α o ⟨K'⟩:=by
 cases o with
 |none=>exact h
 |some x=>exact hk x h
theorem selW_mono{b:Bool}{A A' B B':Prop}(ha:A->A')(hb:B->B')(h:@selI b ⟨A⟩ ⟨B⟩):@selI b ⟨A'⟩ ⟨B'⟩:=by
 cases b with
 |true=>exact ha h
 |false=>exact hb h
theorem WS_mono{P:Program}{call:CallE}:∀{l:List SQ} {K K':T AV->H->Prop} {tm:T AV} {h:H},(∀tm h,K tm h->K' tm h)->WS P call l K tm h->WS P call l K' tm h
 | [],K,K',tm,h,hk,hw=>hk _ _ hw
 |q::l,K,K',tm,h,hk,hw=>optW_mono (fun b=>selW_mono (optW_mono fun r=>WS_mono hk) (WS_mono hk)) hw
theorem phW_mono{P:Program}{tm0:T AV}{ph:Nat}:∀{l:List DQ} {K K':T Rec->H->Prop} {F:T Rec} {h:H},(∀F h,K F h->K' F h)->phW P tm0 ph l K F h->phW P tm0 ph l K' F h
 | [],K,K',F,h,hk,hw=>hk _ _ hw
 |q::l,K,K',F,h,hk,hw=>optW_mono (fun r=>phW_mono hk) hw
theorem drW_mono{P:Program}{call:CallE}{tm0:T AV}:∀{l:List (List DQ×Option DQ)} {ph:Nat} {K K':T Rec->List H->Prop} {F:T Rec} {h:H},(∀F hs,K F hs->K' F hs)->drW P call tm0 ph l K F h->drW P call tm0 ph l K' F h
 | [],ph,K,K',F,h,hk,hw=>hw
 |(qs,none)::l,ph,K,K',F,h,hk,hw=>phW_mono (fun F h=>hk F [h]) hw
 |(qs,some e)::l,ph,K,K',F,h,hk,hw=>phW_mono (fun F1 h1=>optW_mono fun r hh=>⟨hh.1,drW_mono (fun F hs=>hk F (h1::hs)) hh.2⟩) hw
theorem WDr_mono{P:Program}{call:CallE}{d:DR}{K K':T AV->H->Prop}{tm:T AV}{h:H}(hk:∀tm h,K tm h->K' tm h)(hw:WDr P call d K tm h):WDr P call d K' tm h:=
 drW_mono (fun F hs hh=>⟨hh.1,optW_mono (fun h'=>hk _ _) hh.2⟩) hw
theorem thenW_mono{W:Cont->T AV->H->Prop}{Q Q':Cont}(hW:∀tm h,W Q tm h->W Q' tm h)(hq:∀ex tm h,Q ex tm h->Q' ex tm h):∀ex tm h,thenW W Q ex tm h->thenW W Q' ex tm h:=by
 intro ex tm h hh
 cases ex with
 |normal=>exact hW _ _ hh
 |exit j=>exact hq _ _ _ hh
 |goto l=>exact hq _ _ _ hh
 |ret=>exact hq _ _ _ hh
theorem inW_mono{id:Nat}{Q Q':Cont}(hq:∀ex tm h,Q ex tm h->Q' ex tm h):∀ex tm h,inW id Q ex tm h->inW id Q' ex tm h:=by
 intro ex tm h hh
 cases ex with
 |normal=>exact hq _ _ _ hh
 |exit j=>
  simp only[inW]at hh⊢
  by_cases e:j=id
  ·rw[if_pos e]at hh⊢;exact hq _ _ _ hh
  ·rw[if_neg e]at hh⊢;exact hq _ _ _ hh
 |goto l=>exact hq _ _ _ hh
 |ret=>exact hq _ _ _ hh
theorem loopW_mono{W:Cont->T AV->H->Prop}(hW:∀Q Q' tm h,(∀ex tm h,Q ex tm h->Q' ex tm h)->W Q tm h->W Q' tm h):∀(n m:Nat),n<=m->∀Q Q' tm h,(∀ex tm h,Q ex tm h->Q' ex tm h)->loopW W n Q tm h->loopW W m Q' tm h
 |0,_,_,_,_,_,_,_,hl=>hl.elim
 |n+1,0,hle,_,_,_,_,_,_=>by omega
 |n+1,m+1,hle,Q,Q',tm,h,hq,hl=>hW _ _ _ _ (thenW_mono' (fun tm h=>loopW_mono hW n m (by omega) Q Q' tm h hq) hq) hl
where
 thenW_mono' {W W':Cont->T AV->H->Prop} {Q Q':Cont} (hW:∀tm h,W Q tm h->W' Q' tm h) (hq:∀ex tm h,Q ex tm h->Q' ex tm h):∀ex tm h,thenW W Q ex tm h->thenW W' Q' ex tm h:=by
  intro ex tm h hh
  cases ex with
  |normal=>exact hW _ _ hh
  |exit j=>exact hq _ _ _ hh
  |goto l=>exact hq _ _ _ hh
  |ret=>exact hq _ _ _ hh
theorem WC_mono{P:Program}{call:CallE}:∀(c:CC) {Q Q':Cont} {tm:T AV} {h:H},(∀ex tm h,Q ex tm h->Q' ex tm h)->WC P call c Q tm h->WC P call c Q' tm h:=by
 intro c
 induction c with
 |skip=>intro Q Q' tm h hq hw;exact hq _ _ _ hw
 |ops l=>intro Q Q' tm h hq hw;exact WS_mono (fun tm h=>hq .normal tm h) hw
 |drw d=>intro Q Q' tm h hq hw;exact WDr_mono (fun tm h=>hq .normal tm h) hw
 |seq a b iha ihb=>intro Q Q' tm h hq hw;exact iha (thenW_mono (fun tm h=>ihb hq) hq) hw
 |cond c a b iha ihb=>intro Q Q' tm h hq hw;exact optW_mono (fun t=>selW_mono (iha hq) (ihb hq)) hw
 |block id a ih=>intro Q Q' tm h hq hw;exact ih (inW_mono hq) hw
 |loop a ih=>
  intro Q Q' tm h hq hw
  obtain⟨n,hn⟩:=hw
  exact⟨n,loopW_mono (W:=WC P call a) (fun Q Q' tm h hq hw=>ih hq hw) n n (Nat.le_refl _) Q Q' tm h hq hn⟩
 |exit id=>intro Q Q' tm h hq hw;exact hq _ _ _ hw
 |ret=>intro Q Q' tm h hq hw;exact hq _ _ _ hw
 |stuck=>intro Q Q' tm h hq hw;exact hw.elim
def loopQ(id:Nat)(N R S:T AV->H->Prop):Cont:=fun ex tm h=>match ex with
 | .normal=>N tm h
 | .exit j=>j=id∧R tm h
 | .goto _=>False
 | .ret=>S tm h
@[go_sem] theorem rLoopN(id:Nat)(N R S:T AV->H->Prop)(tm:T AV)(h:H):loopQ id N R S .normal tm h=N tm h:=by unfold loopQ;rfl
@[go_sem] theorem rLoopE(id j:Nat)(N R S:T AV->H->Prop)(tm:T AV)(h:H):loopQ id N R S (.exit j) tm h=(j=id∧R tm h):=by unfold loopQ;rfl
@[go_sem] theorem rLoopR(id:Nat)(N R S:T AV->H->Prop)(tm:T AV)(h:H):loopQ id N R S .ret tm h=S tm h:=by unfold loopQ;rfl
theorem loop_block{P:Program}{call:CallE}{c:CC}{id:Nat}(I:Nat->T AV->H->Prop)(R S:T AV->H->Prop){Q:Cont}
 (hstep:∀k tm h,I k tm h->WC P call c (loopQ id (fun tm h=>∃j,j<k∧I j tm h) R S) tm h) (hR:∀tm h,R tm h->Q .normal tm h) (hS:∀tm h,S tm h->Q .ret tm h):
 ∀k tm h,I k tm h->WC P call (.block id (.loop c)) Q tm h:=by
 intro k tm h hI
 have main:∀k tm h,I k tm h->loopW (WC P call c) (k+1) (inW id Q) tm h:=by
  intro k
  induction k using Nat.strongRecOn with
  |_ k ih=>
   intro tm h hI
   refine WC_mono c (fun ex tm' h' hh=>?_) (hstep k tm h hI)
   cases ex with
   |normal=>
    obtain⟨j,hj,hIj⟩:=hh
    exact loopW_mono (W:=WC P call c) (fun Q Q' tm h hq hw=>WC_mono c hq hw) (j+1) k hj _ _ _ _ (fun _ _ _ x=>x) (ih j hj tm' h' hIj)
   |exit j=>
    obtain⟨rfl,hr⟩:=hh
    show inW j Q (.exit j) tm' h'
    rw[inW,if_pos rfl]
    exact hR _ _ hr
   |goto l=>exact hh.elim
   |ret=>exact hS _ _ hh
 exact⟨k+1,main k tm h hI⟩
theorem loop_in{P:Program}{call:CallE}{c:CC}{id:Nat}(I:Nat->T AV->H->Prop)(R S:T AV->H->Prop){Q:Cont}
 (hstep:∀k tm h,I k tm h->WC P call c (loopQ id (fun tm h=>∃j,j<k∧I j tm h) R S) tm h) (hR:∀tm h,R tm h->Q .normal tm h) (hS:∀tm h,S tm h->Q .ret tm h):
 ∀k tm h,I k tm h->WC P call (.loop c) (inW id Q) tm h:=fun k tm h hI=>loop_block I R S hstep hR hS k tm h hI
theorem unroll{P:Program}{call:CallE}{a:CC}{Q:Cont}{tm:T AV}{h:H}(n:Nat)(hw:loopW (WC P call a) n Q tm h):WC P call (.loop a) Q tm h:=⟨n,hw⟩
@[go_sem] theorem rLoopS(W:Cont->T AV->H->Prop)(n:Nat)(Q:Cont)(tm:T AV)(h:H):loopW W (n+1) Q tm h=W (thenW (loopW W n) Q) tm h:=by rw[loopW]
theorem seq_by{P:Program}{call:CallE}{a b:CC}(R:T AV->H->Prop){Q:Cont}{tm:T AV}{h:H}(ha:WC P call a (loopQ 1000000 R (fun _ _=>False) (fun _ _=>False)) tm h)(hb:∀tm h,R tm h->WC P call b Q tm h):WC P call (.seq a b) Q tm h:=by
 refine WC_mono a (fun ex tm' h' hh=>?_) ha
 cases ex with
 |normal=>exact hb _ _ hh
 |exit j=>exact hh.2.elim
 |goto l=>exact hh.elim
 |ret=>exact hh.elim
theorem optI_two{α:Type}{o:Option α}{K1 K2:α->Prop}(h1:@optI α o ⟨K1⟩)(h2:@optI α o ⟨K2⟩):∃x,o=some x∧K1 x∧K2 x:=by
 cases o with
 |none=>exact h1.elim
 |some x=>exact⟨x,rfl,h1,h2⟩
theorem WS_two{P:Program}{call:CallE}:∀{l:List SQ} {K1 K2:T AV->H->Prop} {tm:T AV} {h:H},WS P call l K1 tm h->WS P call l K2 tm h->∃tm' h',K1 tm' h'∧K2 tm' h'∧∀K,K tm' h'->WS P call l K tm h
 | [],K1,K2,tm,h,h1,h2=>⟨tm,h,h1,h2,fun K k=>k⟩
 |q::l,K1,K2,tm,h,h1,h2=>by
  obtain⟨b,e,g1,g2⟩:=optI_two h1 h2
  cases b with
  |true=>
   obtain⟨r,e',k1,k2⟩:=optI_two g1 g2
   obtain⟨tm',h',a1,a2,a3⟩:=WS_two k1 k2
   exact⟨tm',h',a1,a2,fun K k=>optW_of e (optW_of e' (a3 K k))⟩
  |false=>
   obtain⟨tm',h',a1,a2,a3⟩:=WS_two g1 g2
   exact⟨tm',h',a1,a2,fun K k=>optW_of e (a3 K k)⟩
theorem phW_two{P:Program}{tm0:T AV}{ph:Nat}:∀{l:List DQ} {K1 K2:T Rec->H->Prop} {F:T Rec} {h:H},phW P tm0 ph l K1 F h->phW P tm0 ph l K2 F h->∃F' h',K1 F' h'∧K2 F' h'∧∀K,K F' h'->phW P tm0 ph l K F h
 | [],K1,K2,F,h,h1,h2=>⟨F,h,h1,h2,fun K k=>k⟩
 |q::l,K1,K2,F,h,h1,h2=>by
  obtain⟨r,e,g1,g2⟩:=optI_two h1 h2
  obtain⟨F',h',a1,a2,a3⟩:=phW_two g1 g2
  exact⟨F',h',a1,a2,fun K k=>optW_of e (a3 K k)⟩
theorem drW_two{P:Program}{call:CallE}{tm0:T AV}:∀{l:List (List DQ×Option DQ)} {ph:Nat} {K1 K2:T Rec->List H->Prop} {F:T Rec} {h:H},drW P call tm0 ph l K1 F h->drW P call tm0 ph l K2 F h->∃F' hs,K1 F' hs∧K2 F' hs∧∀K,K F' hs->drW P call tm0 ph l K F h
 | [],ph,K1,K2,F,h,h1,_=>h1.elim
 |(qs,none)::l,ph,K1,K2,F,h,h1,h2=>by
  obtain⟨F',h',a1,a2,a3⟩:=phW_two h1 h2
  exact⟨F',[h'],a1,a2,fun K k=>a3 (fun F h=>K F [h]) k⟩
 |(qs,some e)::l,ph,K1,K2,F,h,h1,h2=>by
  obtain⟨F1,h1',a1,a2,a3⟩:=phW_two h1 h2
  obtain⟨r,er,⟨l1,g1⟩,⟨l2,g2⟩⟩:=optI_two a1 a2
  obtain⟨F',hs,b1,b2,b3⟩:=drW_two g1 g2
  exact⟨F',h1'::hs,b1,b2,fun K k=>a3 (fun F1 h1=>@optI _ (fGo P call tm0 F1 h1 e) ⟨fun r=>h1.next<=r.2.next∧drW P call tm0 (ph+1) l (fun F' hs=>K F' (h1::hs)) (F1.set e.i (.eff r.1)) r.2⟩) (optW_of er ⟨l1,b3 (fun F' hs=>K F' (h1'::hs)) k⟩)⟩
theorem WDr_two{P:Program}{call:CallE}{d:DR}{K1 K2:T AV->H->Prop}{tm:T AV}{h:H}(h1:WDr P call d K1 tm h)(h2:WDr P call d K2 tm h):∃tm' h',K1 tm' h'∧K2 tm' h'∧∀K,K tm' h'->WDr P call d K tm h:=by
 obtain⟨F,hs,⟨c1,g1⟩,⟨c2,g2⟩,a3⟩:=drW_two h1 h2
 obtain⟨h',e,k1,k2⟩:=optI_two g1 g2
 exact⟨_,h',k1,k2,fun K k=>a3 (fun F hs=>chkW P tm F hs d.chk∧@optI _ (lastH hs) ⟨fun h'=>K (finW F d.fin tm) h'⟩) ⟨c1,optW_of e k⟩⟩
def Two(W:Cont->T AV->H->Prop):Prop:=∀Q1 Q2 tm h,W Q1 tm h->W Q2 tm h->∃ex tm' h',Q1 ex tm' h'∧Q2 ex tm' h'∧∀Q,Q ex tm' h'->W Q tm h
theorem loopW_two{W:Cont->T AV->H->Prop}(hW:Two W):∀n,Two (loopW W n)
 |0,Q1,Q2,tm,h,h1,_=>h1.elim
 |n+1,Q1,Q2,tm,h,h1,h2=>by
  obtain⟨ex,tm',h',a1,a2,a3⟩:=hW _ _ _ _ h1 h2
  cases ex with
  |normal=>
   obtain⟨ex,tm2,h2,b1,b2,b3⟩:=loopW_two hW n Q1 Q2 tm' h' a1 a2
   exact⟨ex,tm2,h2,b1,b2,fun Q k=>a3 (thenW (loopW W n) Q) (b3 Q k)⟩
  |exit j=>exact⟨.exit j,tm',h',a1,a2,fun Q k=>a3 (thenW (loopW W n) Q) k⟩
  |goto l=>exact⟨.goto l,tm',h',a1,a2,fun Q k=>a3 (thenW (loopW W n) Q) k⟩
  |ret=>exact⟨.ret,tm',h',a1,a2,fun Q k=>a3 (thenW (loopW W n) Q) k⟩
theorem WC_two{P:Program}{call:CallE}:∀c:CC,Two (WC P call c):=by
 intro c
 induction c with
 |skip=>intro Q1 Q2 tm h h1 h2;exact⟨.normal,tm,h,h1,h2,fun Q k=>k⟩
 |ops l=>
  intro Q1 Q2 tm h h1 h2
  obtain⟨tm',h',a1,a2,a3⟩:=WS_two h1 h2
  exact⟨.normal,tm',h',a1,a2,fun Q k=>a3 (fun tm h=>Q .normal tm h) k⟩
 |drw d=>
  intro Q1 Q2 tm h h1 h2
  obtain⟨tm',h',a1,a2,a3⟩:=WDr_two h1 h2
  exact⟨.normal,tm',h',a1,a2,fun Q k=>a3 (fun tm h=>Q .normal tm h) k⟩
 |seq a b iha ihb=>
  intro Q1 Q2 tm h h1 h2
  obtain⟨ex,tm',h',a1,a2,a3⟩:=iha _ _ _ _ h1 h2
  cases ex with
  |normal=>
   obtain⟨ex,tm2,h2,b1,b2,b3⟩:=ihb _ _ _ _ a1 a2
   exact⟨ex,tm2,h2,b1,b2,fun Q k=>a3 (thenW (WC P call b) Q) (b3 Q k)⟩
  |exit j=>exact⟨.exit j,tm',h',a1,a2,fun Q k=>a3 (thenW (WC P call b) Q) k⟩
  |goto l=>exact⟨.goto l,tm',h',a1,a2,fun Q k=>a3 (thenW (WC P call b) Q) k⟩
  |ret=>exact⟨.ret,tm',h',a1,a2,fun Q k=>a3 (thenW (WC P call b) Q) k⟩
 |cond c a b iha ihb=>
  intro Q1 Q2 tm h h1 h2
  obtain⟨t,e,g1,g2⟩:=optI_two h1 h2
  cases t with
  |true=>
   obtain⟨ex,tm',h',a1,a2,a3⟩:=iha _ _ _ _ g1 g2
   exact⟨ex,tm',h',a1,a2,fun Q k=>optW_of e (a3 Q k)⟩
  |false=>
   obtain⟨ex,tm',h',a1,a2,a3⟩:=ihb _ _ _ _ g1 g2
   exact⟨ex,tm',h',a1,a2,fun Q k=>optW_of e (a3 Q k)⟩
 |block id a ih=>
  intro Q1 Q2 tm h h1 h2
  obtain⟨ex,tm',h',a1,a2,a3⟩:=ih _ _ _ _ h1 h2
  cases ex with
  |normal=>exact⟨.normal,tm',h',a1,a2,fun Q k=>a3 (inW id Q) k⟩
  |exit j=>
   by_cases hj:j=id
   ·simp only[inW,if_pos hj]at a1 a2
    exact⟨.normal,tm',h',a1,a2,fun Q k=>a3 (inW id Q) (by simp only[inW,if_pos hj];exact k)⟩
   ·simp only[inW,if_neg hj]at a1 a2
    exact⟨.exit j,tm',h',a1,a2,fun Q k=>a3 (inW id Q) (by simp only[inW,if_neg hj];exact k)⟩
  |goto l=>exact⟨.goto l,tm',h',a1,a2,fun Q k=>a3 (inW id Q) k⟩
  |ret=>exact⟨.ret,tm',h',a1,a2,fun Q k=>a3 (inW id Q) k⟩
 |loop a ih=>
  intro Q1 Q2 tm h h1 h2
  obtain⟨n,h1⟩:=h1
  obtain⟨m,h2⟩:=h2
  have hm:∀Q Q' tm h,(∀ex tm h,Q ex tm h->Q' ex tm h)->WC P call a Q tm h->WC P call a Q' tm h:=fun Q Q' tm h hq hw=>WC_mono a hq hw
  obtain⟨ex,tm',h',a1,a2,a3⟩:=loopW_two ih (max n m) Q1 Q2 tm h (loopW_mono hm n _ (Nat.le_max_left _ _) _ _ _ _ (fun _ _ _ x=>x) h1) (loopW_mono hm m _ (Nat.le_max_right _ _) _ _ _ _ (fun _ _ _ x=>x) h2)
  exact⟨ex,tm',h',a1,a2,fun Q k=>⟨_,a3 Q k⟩⟩
 |exit id=>intro Q1 Q2 tm h h1 h2;exact⟨.exit id,tm,h,h1,h2,fun Q k=>k⟩
 |ret=>intro Q1 Q2 tm h h1 h2;exact⟨.ret,tm,h,h1,h2,fun Q k=>k⟩
 |stuck=>intro Q1 Q2 tm h h1 h2;exact h1.elim
theorem WF_two{P:Program}{call:CallE}{cf:CF}{args:List AV}{h:H}{Q1 Q2:AV->H->Prop}(h1:WF P call cf args h Q1)(h2:WF P call cf args h Q2):∃v h',Q1 v h'∧Q2 v h'∧∀Q,Q v h'->WF P call cf args h Q:=by
 obtain⟨ex,tm',h',a1,a2,a3⟩:=WC_two _ _ _ _ _ h1 h2
 have key:∀{tm' h'},(@optI _ (resW tm' h'.t.get cf.rs) ⟨fun vs=>Q1 (packA vs) h'⟩)->(@optI _ (resW tm' h'.t.get cf.rs) ⟨fun vs=>Q2 (packA vs) h'⟩)->∃v,Q1 v h'∧Q2 v h'∧∀Q:AV->H->Prop,Q v h'->@optI _ (resW tm' h'.t.get cf.rs) ⟨fun vs=>Q (packA vs) h'⟩:=by
  intro tm' h' g1 g2
  obtain⟨vs,e,k1,k2⟩:=optI_two g1 g2
  exact⟨_,k1,k2,fun Q k=>optW_of e k⟩
 cases ex with
 |normal=>
  obtain⟨v,b1,b2,b3⟩:=key a1 a2
  exact⟨v,h',b1,b2,fun Q k=>a3 (endW cf.rs Q) (b3 Q k)⟩
 |exit j=>exact a1.elim
 |goto l=>exact a1.elim
 |ret=>
  obtain⟨v,b1,b2,b3⟩:=key a1 a2
  exact⟨v,h',b1,b2,fun Q k=>a3 (endW cf.rs Q) (b3 Q k)⟩
def Ran(P:Program)(call:CallE)(f:FuncId)(args:List AV)(h:H)(r:AV×H):Prop:=
 hasE P f=true∧Nat.ble ykey f=false∧∃cf,cCF P f args.length=some cf∧WF P call cf args h fun v h'=>v=r.1∧h'=r.2
open Go.RowKit in
theorem way_below{ρ:Rho}{h:H}{w w':World}(hr:HR ρ h.t.get w)(hf:Fresh ρ h.next)(b:Below w.heap.size w w'):Way ρ h w ρ h w':=by
 refine⟨⟨⟨fun a o l h1 h2 h3=>?_,hr.inj⟩,Le.refl _,⟨b.os,b.tape,b.output⟩,b.size,fun r hr _=>b.block r hr,fun a o l h1 h2 h3 _=>⟨a,o,l,h1,h2,h3,rfl⟩⟩,hf,Kp.refl _ _⟩
 obtain⟨h4,h5⟩:=hr.obj a o l h1 h2 h3
 exact⟨Nat.lt_of_lt_of_le h4 b.size,OIn.congr (b.block _ h4) h5⟩
open Go.RowKit in
theorem known_out{P:Program}{f:FuncId}{ρ:Rho}{h:H}{w:World}{v:AV}{V:Value}{ARGS:Array Value}(hr:HR ρ h.t.get w)(hf:Fresh ρ h.next)(hv:VR ρ v V)(h1:hasE P f=true)(hc:Calls P f ARGS w fun e w'=>e=.returned V∧Below w.heap.size w w'):POut P (callFunc f ARGS) ρ h w v h:=by
 obtain⟨fn,c,g1,g2,g3⟩:=hasE_of h1
 exact .inr ⟨f,ARGS,run_callFunc_enter g1 g2 g3 _ _,hc.mono fun e w' hh=>⟨ρ,V,hh.1,hv,way_below hr hf hh.2⟩⟩
def callX(P:Program)(base:CallE):Nat->CallE
 |0=>base
 |n+1=>fun f args h=>match base f args h with
  |some r=>some r
  |none=>
   haveI:=Classical.propDecidable (∃r:AV×H,Ran P (callX P base n) f args h r)
   if hh:∃r:AV×H,Ran P (callX P base n) f args h r then some hh.choose else none
theorem callX_base{P:Program}{base:CallE}{f:FuncId}{args:List AV}{h:H}{r:AV×H}(e:base f args h=some r):∀n,callX P base n f args h=some r
 |0=>e
 |n+1=>by unfold callX;rw[e]
theorem callX_some{P:Program}{base:CallE}{n:Nat}{f:FuncId}{args:List AV}{h:H}{r:AV×H}(e:callX P base (n+1) f args h=some r):base f args h=some r∨Ran P (callX P base n) f args h r:=by
 unfold callX at e
 split at e
 ·rename_i r' hb
  exact .inl (hb.trans e)
 ·split at e
  ·rename_i hh
   have:=hh.choose_spec
   simp only[Option.some.injEq]at e
   rw[e]at this
   exact .inr this
  ·simp at e
theorem callX_plain{P:Program}{base:CallE}(hp:Plain base):∀n,Plain (callX P base n)
 |0=>hp
 |n+1=>fun f args h hb=>by
  cases e:callX P base (n+1) f args h with
  |none=>rfl
  |some r=>
   rcases callX_some e with h1|h1
   ·rw[hp f args h hb]at h1;cases h1
   ·have:=h1.2.1
    rw[this]at hb;simp at hb
theorem callX_ok{P:Program}{base:CallE}(hm:P.follows .mixedOrders=true)(hp:Plain base)(hb:CallOK true P base):∀n,CallOK true P (callX P base n)
 |0=>hb
 |n+1=>by
  intro f args h v h' e ρ w ARGS ha hr hf
  rcases callX_some e with h0|⟨h1,h2,cf,h3,h4⟩
  ·exact hb f args h v h' h0 ρ w ARGS ha hr hf
  obtain⟨v',h'',k,e1,e2⟩:=WF_sound hm (callX_ok hm hp hb n) (callX_plain hp n) h1 h2 h3 rfl h4
  simp only at e1 e2
  subst e1;subst e2
  obtain⟨fn,c,g1,g2,g3⟩:=hasE_of h1
  exact .inl ⟨h2,.inr ⟨f,ARGS.toArray,run_callFunc_enter g1 g2 g3 _ _,k.ret ρ w ARGS ha hr hf⟩⟩
theorem callX_of{P:Program}{base:CallE}{n:Nat}{f:FuncId}{args:List AV}{h:H}{cf:CF}{Post:AV->H->Prop}(h0:base f args h=none)(h1:hasE P f=true)(h2:Nat.ble ykey f=false)(h3:cCF P f args.length=some cf)(hw:WF P (callX P base n) cf args h Post):
 ∃v h',callX P base (n+1) f args h=some (v,h')∧Post v h':=by
 obtain⟨v,h',p,_,k⟩:=WF_two hw hw
 have hx:∃r:AV×H,Ran P (callX P base n) f args h r:=⟨(v,h'),h1,h2,cf,h3,k _ ⟨rfl,rfl⟩⟩
 have hc:∃r,callX P base (n+1) f args h=some r:=by
  unfold callX
  rw[h0]
  simp only[]
  split
  ·exact⟨_,rfl⟩
  ·rename_i hn;exact absurd hx hn
 obtain⟨r,hc⟩:=hc
 rcases callX_some hc with h5|⟨_,_,cf',h3',hw'⟩
 ·rw[h0]at h5;cases h5
 rw[h3]at h3';simp at h3';subst h3'
 obtain⟨v2,h2',⟨e1,e2⟩,p2,_⟩:=WF_two hw' hw
 exact⟨r.1,r.2,hc,by rw[←e1,←e2];exact p2⟩
def AtomX(P:Program)(X:FuncId->Option ATag):Prop:=
 ∀f tag,X f=some tag->Nat.ble ykey f=false∧∃fn,P.funcs[f]?=some fn∧(fn.name== "runtime.NumGoroutine")=false∧fn.body.isNone=true∧Extern.findNext fn=none∧Extern.find fn=some tag.fn
def atomE(X:FuncId->Option ATag):CallE:=fun f args h=>match X f with
 |some tag=>evA h tag args
 |none=>none
theorem atom_ok{P:Program}{X:FuncId->Option ATag}(hX:AtomX P X):CallOK true P (atomE X):=by
 intro f args h v h' he ρ w ARGS ha hr hf
 unfold atomE at he
 split at he
 ·rename_i tag ht
  obtain⟨hk,fn',h1,h2,h3,h4,h5⟩:=hX f tag ht
  obtain⟨ρ',w',V,k1,k2,k3⟩:=evA_sound (P:=P) hr hf he ha
  refine .inl ⟨hk,.inl ⟨ρ',w',V,.inl ?_,k2,k3⟩⟩
  rw[run_callFunc_extern h1 h2 h3 h4 h5,k1]
  rfl
 ·cases he
theorem atom_plain{P:Program}{X:FuncId->Option ATag}(hX:AtomX P X):Plain (atomE X):=fun f args h hb=>by
 unfold atomE
 cases hx:X f with
 |none=>rfl
 |some tag=>
  have:=(hX f tag hx).1
  rw[this]at hb
  cases hb
end
end Go.Proofs.YtghmnaojmpjglaaGreatDoor.Eo
