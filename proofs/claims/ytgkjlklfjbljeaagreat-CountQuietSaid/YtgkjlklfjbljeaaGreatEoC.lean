/-
  An evaluator of Go code is sound. No condition.
-/
import Derived.Test.YtgkjlklfjbljeaaGreatEoB
import Derived.Laws.Externs
import Derived.Laws.BytesString
import Derived.RangeFuncLeaves
import Derived.RangeFuncRecord
import Derived.LoopN
import Derived.ScopeJumps
set_option linter.all false
namespace Go.Proofs.YtgkjlklfjbljeaaGreat.Eo
noncomputable section
inductive MG where
 |val (v:AV)
 |var (a o:Nat)
def PR(ρ:aR):MG->Place->Prop
 | .val v,x=>∃V,VR ρ v V/\x=.val V
 | .var a o,x=>∃l,ρ a=some l/\x=.var ⟨l.b9,l.off+o,none⟩
def EY(P:Program)(g:Nat->Option AO)(t:TypeId):MG->Option AV
 | .val v=>some v
 | .var a o=>match kF P t with
   |some agg=>uT g agg a o
   |none=>none
theorem lZ{P:Program}{ρ:aR}{g:Nat->Option AO}{w:World}(hr:HR ρ g w){t:TypeId}{p:MG}{x:Place}{v:AV}(h:EY P g t p=some v)(hp:PR ρ p x):
 ∃V,VR ρ v V/\(x.get t).run P w=.ok V w:=by
 cases p with
 |val u=>
  simp[EY]at h;subst h;obtain⟨V,h1,rfl⟩:=hp;exact⟨V,h1,by simp[Place.get]⟩
 |var a o=>
  obtain⟨l,h1,rfl⟩:=hp;simp only[EY]at h;split at h
  ·rename_i agg ha;obtain⟨V,k1,k2⟩:=tA (P:=P) hr ha h h1;exact⟨V,k1,by simpa [Place.get]using k2⟩
  ·simp at h
def BD(P:Program)(f:Field)(a o:Nat):Option MG:=
 match sz P f.type with
 |some (_+1)=>some (.var a (o+f.offset))
 |_=>none
theorem sg{P:Program}{ρ:aR}{f:Field}{a o:Nat}{p:MG}(h:BD P f a o=some p){l:Loc}(hl:ρ a=some l):∃b:Addr,PR ρ p (.var b)/\∀w,(fieldPlace ⟨l.b9,l.off+o,none⟩ f).run P w=.ok b w:=by
 unfold BD at h;split at h
 ·rename_i n hs;simp at h;subst h;refine⟨⟨l.b9,l.off+(o+f.offset),none⟩,⟨l,hl,rfl⟩,fun w=>?_⟩;simp[fieldPlace,run_sizeOf hs,fo,Nat.add_assoc]
 ·simp at h
def kj(P:Program)(g:Nat->Option AO):List FieldStep->TypeId->MG->Option (TypeId×MG)
 | [],t,x=>some (t,x)
 |s::rest,t,x=>match P.underlying s.struct with
  |some (.struct fields)=>match fields[s.index]? with
   |some f=>match s.deref with
    |true=>match EY P g t x with
     |some (.ptr a o)=>match BD P f a o with
      |some p=>kj P g rest f.type p
      |none=>none
     |_=>none
    |false=>match x with
     | .var a o=>match BD P f a o with
       |some p=>kj P g rest f.type p
       |none=>none
     | .val (.agg cs)=>match iH P f.type cs f.offset with
       |some v=>kj P g rest f.type (.val v)
       |none=>none
     |_=>none
   |none=>none
  |_=>none
theorem fr{P:Program}{ρ:aR}{g:Nat->Option AO}{w:World}(hr:HR ρ g w):∀{l:List FieldStep} {t t':TypeId} {p p':MG} {x:Place},kj P g l t p=some (t',p')->PR ρ p x->
 ∃x',PR ρ p' x'/\(follow l t x).run P w=.ok (t',x') w
 | [],t,t',p,p',x,h,hp=>by
   simp[kj]at h;obtain⟨rfl,rfl⟩:=h;exact⟨x,hp,by simp[follow]⟩
 |s::rest,t,t',p,p',x,h,hp=>by
  unfold kj at h;split at h
  ·rename_i fields hu;split at h
   ·rename_i f hf;unfold follow;simp only[Sem.run_bind,Go.Proofs.YtgkjlklfjbljeaaGreat.Eo.run_underlying hu,Result.andThen_ok,hf];split at h
    ·rename_i hd;split at h
     ·rename_i a o hg;split at h
      ·rename_i q hq;obtain⟨V,k1,k2⟩:=lZ (P:=P) hr hg hp;simp only[VR]at k1;obtain⟨l,hl,rfl⟩:=k1;obtain⟨b,j1,j2⟩:=sg (P:=P) hq hl;obtain⟨x',m1,m2⟩:=fr hr h j1;refine⟨x',m1,?_⟩;simp[hd,k2,asAddr,j2,m2]
      ·simp at h
     ·simp at h
    ·rename_i hd;simp only[hd,Bool.false_eq_true,if_false];split at h
     ·rename_i a o;split at h
      ·rename_i q hq;obtain⟨l,hl,rfl⟩:=hp;obtain⟨b,j1,j2⟩:=sg (P:=P) hq hl;obtain⟨x',m1,m2⟩:=fr hr h j1;exact⟨x',m1,by simp[j2,m2]⟩
      ·simp at h
     ·rename_i cs;split at h
      ·rename_i v hv;obtain⟨V,h1,rfl⟩:=hp;simp only[VR]at h1;obtain⟨L,h2,rfl⟩:=h1;obtain⟨U,j1,j2⟩:=eI (P:=P) hv h2;obtain⟨x',m1,m2⟩:=fr hr h (p:=.val v) (x:=.val U) ⟨U,j1,rfl⟩;exact⟨x',m1,by simp[j2,m2]⟩
      ·simp at h
     ·simp at h
   ·simp at h
  ·simp at h
def Gs(P:Program)(g:Nat->Option AO)(xt:TypeId)(x:MG)(pr:Bool):Option AV:=
 match P.underlying xt with
 |some (.pointer _)=>match pr with
  |true=>EY P g xt x
  |false=>none
 |some _=>match pr with
  |true=>match x with
   | .var a o=>some (.ptr a o)
   | .val _=>none
  |false=>EY P g xt x
 |none=>none
theorem uf{P:Program}{ρ:aR}{g:Nat->Option AO}{w:World}(hr:HR ρ g w){xt:TypeId}{p:MG}{pr:Bool}{v:AV}{x:Place}(h:Gs P g xt p pr=some v)(hp:PR ρ p x)(wr:Option String):
 ∃V,VR ρ v V/\(receiverAt xt x pr wr).run P w=.ok V w:=by
 unfold Gs at h;split at h
 ·rename_i e hu;split at h
  ·obtain⟨V,k1,k2⟩:=lZ (P:=P) hr h hp;refine⟨V,k1,?_⟩;unfold receiverAt;simp only[Sem.run_bind,Go.Proofs.YtgkjlklfjbljeaaGreat.Eo.run_underlying hu,Result.andThen_ok];exact k2
  ·simp at h
 ·rename_i d hu dB;split at h
  ·split at h
   ·simp at h;subst h;obtain⟨l,hl,rfl⟩:=hp;refine⟨_,⟨l,hl,rfl⟩,?_⟩;unfold receiverAt;simp only[Sem.run_bind,Go.Proofs.YtgkjlklfjbljeaaGreat.Eo.run_underlying dB,Result.andThen_ok];cases d<;>first
     |(exact absurd rfl (hu _))
     |rfl
   ·simp at h
  ·obtain⟨V,k1,k2⟩:=lZ (P:=P) hr h hp;refine⟨V,k1,?_⟩;unfold receiverAt;simp only[Sem.run_bind,Go.Proofs.YtgkjlklfjbljeaaGreat.Eo.run_underlying dB,Result.andThen_ok];cases d<;>first
        |(exact absurd rfl (hu _))
        |(cases x<;>exact k2)
 ·simp at h
def cH(P:Program)(g:Nat->Option AO):Nat->TypeId->AV->String->Option (FuncId×AV)
 |0,_,_,_=>none
 |n+1,t,v,name=>match P.info? t with
  |some i=>match i.methods.find? (·.name==name)with
   |some m=>match kj P g m.path.toList t (.val v)with
    |some (xt,x)=>match m.func with
     |none=>match EY P g xt x with
      |some (.dR t' v')=>cH P g n t' v' name
      |_=>none
     |some (f,pr)=>match Gs P g xt x pr with
      |some r=>some (f,r)
      |none=>none
    |none=>none
   |none=>none
  |none=>none
theorem ug{P:Program}{ρ:aR}{g:Nat->Option AO}{w:World}(hr:HR ρ g w):∀{n N:Nat} {t:TypeId} {v:AV} {name:String} {f:FuncId} {r:AV} {V:Value},cH P g n t v name=some (f,r)->n<=N->VR ρ v V->
 ∃R,VR ρ r R/\(method N t V name).run P w=.ok (f,R) w
 |0,N,t,v,name,f,r,V,h,hn,hv=>by simp[cH]at h
 |n+1,0,t,v,name,f,r,V,h,hn,hv=>by omega
 |n+1,N+1,t,v,name,f,r,V,h,hn,hv=>by
  unfold cH at h;split at h
  ·rename_i i hi;split at h
   ·rename_i m hm;split at h
    ·rename_i xt x hx;obtain⟨x',k1,k2⟩:=fr hr hx (x:=.val V) ⟨V,hv,rfl⟩;unfold method;simp only[Sem.run_bind,run_typeInfo hi,Result.andThen_ok,hm,k2];split at h
     ·rename_i hf;split at h
      ·rename_i t' v' hg;obtain⟨U,j1,j2⟩:=lZ (P:=P) hr hg k1;simp only[VR]at j1;obtain⟨W,j3,rfl⟩:=j1;obtain⟨R,q1,q2⟩:=ug hr h (by omega:n<=N) j3;exact⟨R,q1,by simp[hf,j2,q2]⟩
      ·simp at h
     ·rename_i f' pr hf;split at h
      ·rename_i r' WR;simp at h;obtain⟨rfl,rfl⟩:=h;obtain⟨R,q1,q2⟩:=uf (P:=P) hr WR k1 (if m.path.isEmpty then some ((name.splitOn ".").getLastD name)else none);refine⟨R,q1,?_⟩;simp only[hf,Sem.run_bind,q2,Result.andThen_ok,Sem.run_pure]
      ·simp at h
    ·simp at h
   ·simp at h
  ·simp at h
def Lt(P:Program)(g:Nat->Option AO)(fn:Fn)(args captured:List AV):Option (FuncId×List AV):=
 match fn with
 | .func f=>some (f,args++captured)
 | .method name=>match args with
   | .dR t v::rest=>match cH P g 8 t v name with
     |some (f,r)=>some (f,r::rest)
     |none=>none
   |_=>none
 | .methodOf t name=>match args with
   |x::rest=>match P.underlying t with
    |some (.interface _)=>match x with
     | .dR t v=>match cH P g 8 t v name with
       |some (f,r)=>some (f,r::rest)
       |none=>none
     |_=>none
    |some _=>match cH P g 8 t x name with
     |some (f,r)=>some (f,r::rest)
     |none=>none
    |none=>none
   |_=>none
 | .via t path f pr=>match args with
   |x::rest=>match kj P g path.toList t (.val x)with
    |some (xt,p)=>match Gs P g xt p pr with
     |some r=>some (f,r::rest)
     |none=>none
    |none=>none
   |_=>none
 | .yield _=>none
theorem xa{P:Program}{ρ:aR}{g:Nat->Option AO}{w:World}(hr:HR ρ g w){fn:Fn}{args captured as:List AV}{f:FuncId}(h:Lt P g fn args captured=some (f,as)){ARGS CAP:List Value}(ha:bE ρ args ARGS)(hc:bE ρ captured CAP):
 ∃AS,bE ρ as AS/\(invoke (.fn fn CAP.toArray) ARGS.toArray).run P w=(callFunc f AS.toArray).run P w:=by
 have h8:8<=P.types.size+Made.depth:=by unfold Made.depth;omega
 have key:∀{t:TypeId} {v:AV} {V:Value} {name:String} {r:AV} {f:FuncId} {rest:List AV} {tB:List Value},cH P g 8 t v name=some (f,r)->VR ρ v V->bE ρ rest tB->
  ∃AS,bE ρ (r::rest) AS/\(callMethod (.iface t V) name (({toList:=V::tB}:Array Value).extract 1 ({toList:=V::tB}:Array Value).size)).run P w=(callFunc f AS.toArray).run P w/\
   (callMethod (.iface t V) name (({toList:=.iface t V::tB}:Array Value).extract 1 ({toList:=.iface t V::tB}:Array Value).size)).run P w=(callFunc f AS.toArray).run P w:=by
  intro t v V name r f rest tB hm hv Cz;obtain⟨R,k1,k2⟩:=ug (P:=P) hr hm h8 hv;refine⟨R::tB,⟨R,tB,k1,Cz,rfl⟩,?_,?_⟩
  all_goals
   simp only[callMethod,Sem.run_bind,run_program,Result.andThen_ok,k2];congr 2;simp
 unfold Lt at h;split at h
 ·simp at h;obtain⟨rfl,rfl⟩:=h;exact⟨ARGS++CAP,bE.append ha hc,by simp[invoke]⟩
 ·rename_i name;split at h
  ·rename_i t v rest;split at h
   ·rename_i f' r hm;simp at h;obtain⟨rfl,rfl⟩:=h;simp only[bE]at ha;obtain⟨V,tB,h1,h2,rfl⟩:=ha;simp only[VR]at h1;obtain⟨U,h3,rfl⟩:=h1;obtain⟨AS,k1,_,k2⟩:=key hm h3 h2;exact⟨AS,k1,by simpa [invoke]using k2⟩
   ·simp at h
  ·simp at h
 ·rename_i t name;split at h
  ·rename_i x rest;simp only[bE]at ha;obtain⟨V,tB,h1,h2,rfl⟩:=ha;split at h
   ·rename_i ms hu;split at h
    ·rename_i t v;split at h
     ·rename_i f' r hm;simp at h;obtain⟨rfl,rfl⟩:=h;simp only[VR]at h1;obtain⟨U,h3,rfl⟩:=h1;obtain⟨AS,k1,_,k2⟩:=key hm h3 h2;refine⟨AS,k1,?_⟩;simp only[invoke,List.getElem?_toArray,List.getElem?_cons_zero,Sem.run_bind,Go.Proofs.YtgkjlklfjbljeaaGreat.Eo.run_underlying hu,Result.andThen_ok,Sem.run_pure];exact k2
     ·simp at h
    ·simp at h
   ·rename_i d hu dB;split at h
    ·rename_i f' r hm;simp at h;obtain⟨rfl,rfl⟩:=h;obtain⟨AS,k1,k2,_⟩:=key hm h1 h2;refine⟨AS,k1,?_⟩;simp only[invoke,List.getElem?_toArray,List.getElem?_cons_zero,Sem.run_bind,Go.Proofs.YtgkjlklfjbljeaaGreat.Eo.run_underlying dB,Result.andThen_ok];cases d<;>first
      |(exact absurd rfl (hu _))
      |exact k2
    ·simp at h
   ·simp at h
  ·simp at h
 ·rename_i t path f' pr;split at h
  ·rename_i x rest;simp only[bE]at ha;obtain⟨V,tB,h1,h2,rfl⟩:=ha;split at h
   ·rename_i xt p hp;split at h
    ·rename_i r WR;simp at h;obtain⟨rfl,rfl⟩:=h;obtain⟨x',k1,k2⟩:=fr (P:=P) hr hp (x:=.val V) ⟨V,h1,rfl⟩;obtain⟨R,q1,q2⟩:=uf (P:=P) hr WR k1 none;refine⟨R::tB,⟨R,tB,q1,h2,rfl⟩,?_⟩;simp only[invoke,List.getElem?_toArray,List.getElem?_cons_zero,Sem.run_bind,receiverVia,k2,Result.andThen_ok,q2];congr 2;simp
    ·simp at h
   ·simp at h
  ·simp at h
 ·simp at h
inductive eZ where
 |load|store|swap|Uw|add
def eZ.fn:eZ->Array Value->Sem Value
 | .load=>Extern.Atomic.loadT (.int .u64)
 | .store=>Extern.Atomic.storeT
 | .swap=>Extern.Atomic.swapT (.int .u64)
 | .Uw=>Extern.Atomic.casT (.int .u64)
 | .add=>Extern.Atomic.update (Op.intArith .add) .u64 true
def pj(h:H)(p o:Nat):Option Int:=match h.t.get p with
 |some (.row cells len e)=>match cells.get o with
  |some (.int .u64 n)=>some n
  |_=>none
 |_=>none
def yv(h:H)(p o:Nat)(v:AV):Option H:=match h.t.get p with
 |some (.row cells len e)=>cond (Nat.ble (o+1) len&&aY v) (some ⟨h.next,h.t.set p (.row (aa o [v] cells) len e)⟩) none
 |_=>none
def F9(h:H):eZ->List AV->Option (AV×H)
 | .load,[.ptr p o]=>match pj h p o with
   |some n=>some (.int .u64 n,h)
   |none=>none
 | .store,[.ptr p o,v]=>match yv h p o v with
   |some h'=>some (.aE [],h')
   |none=>none
 | .swap,[.ptr p o,v]=>match pj h p o,yv h p o v with
   |some n,some h'=>some (.int .u64 n,h')
   |_,_=>none
 | .Uw,[.ptr p o,.int k x,.int k' y]=>match pj h p o with
   |some n=>match yK n x with
    |true=>match yv h p o (.int k' y)with
     |some h'=>some (.bool true,h')
     |none=>none
    |false=>some (.bool false,h)
   |none=>none
 | .add,[.ptr p o,.int .u64 x]=>match pj h p o with
   |some n=>match yv h p o (.int .u64 (fw .u64 (n+x)))with
    |some h'=>some (.int .u64 (fw .u64 (n+x)),h')
    |none=>none
   |none=>none
 |_,_=>none
def an1(P:Program)(s:Sem Value)(ρ:aR)(h:H)(w:World)(v:AV)(h':H):Prop:=
 ∃ρ' w' V,s.run P w=.ok V w'/\VR ρ' v V/\Way ρ h w ρ' h' w'
theorem Lu(t:Extern.Atomic.T)(x:Value):Extern.Atomic.loadT t #[x]=(do Extern.Atomic.read t (←asAddr x)):=rfl
theorem HE(x y:Value):Extern.Atomic.storeT #[x,y]=(do store (←asAddr x) y .atomic;pure Extern.Atomic.none_):=rfl
theorem Lz(t:Extern.Atomic.T)(x y:Value):Extern.Atomic.swapT t #[x,y]=(do
 let a ←asAddr x
 let old ←Extern.Atomic.read t a
 store a y .atomic
 pure old):=rfl
theorem HF(op:IntKind->Int->Int->Sem Value)(k:IntKind)(b:Bool)(x y:Value):Extern.Atomic.update op k b #[x,y]=(do
 let a ←asAddr x
 let old ←Extern.Atomic.read (.int k) a
 let new ←op k (←asInt old) (←asInt y)
 store a new .atomic
 pure (if b then new else old)):=rfl
theorem Gt(x y:Int)(k k':IntKind)(p:Value):Extern.Atomic.casT (.int .u64) #[p,.int k x,.int k' y]=(do
 let a ←asAddr p
 if←Extern.Atomic.touchesFrozen a then unsupported (.unsafePointer "a write to bytes that a string shares")
 let eq ←match(Extern.Atomic.T.int .u64),←Extern.Atomic.read (.int .u64) a,(Value.int k x)with
  |_,.int _ x,.int _ y=>pure (x==y)
  | .ptr,.pointer x,.pointer y=>samePointer x y
  | .int _,.pointer (some _),.int _ 0| .int _,.int _ 0,.pointer (some _)=>pure false
  | .int _,.pointer (some _),_| .int _,_,.pointer (some _)=>unsupported .addressObserved
  |_,_,_=>stuck "atomic.CompareAndSwap: old is no T"
 if eq then store a (.int k' y) .atomic
 pure (.bool eq)):=rfl
theorem km{P:Program}{ρ:aR}{h:H}{w:World}(hr:HR ρ h.t.get w){p o:Nat}{n:Int}(hw:pj h p o=some n){l:Loc}(hl:ρ p=some l):
 w.cell? ⟨l.b9,l.off+o,none⟩=some (.int .u64 n)/\w.frozen? ⟨l.b9,l.off+o,none⟩=false/\(w.shape? l.b9).isSome=true:=by
 unfold pj at hw;split at hw
 ·rename_i cells len e hg;split at hw
  ·rename_i m hm;simp at hw;subst hw;obtain⟨V,k1,k2,k3⟩:=cell_of hr hg hl hm;simp only[VR]at k1;subst k1;obtain⟨_,_,c,hc,_⟩:=hr.row hg hl;exact⟨k3,by simp[World.frozen?,hc],by simp[World.shape?,hc]⟩
  ·simp at hw
 ·simp at hw
theorem BE{P:Program}{w:World}{a:Addr}{V u:Value}(h:w.cell? a=some u):(store a V .atomic).run P w=(store a V .plain).run P w:=by
 cases V<;>simp[store,Sem.run,h]
theorem l8{P:Program}{ρ:aR}{h h':H}{w:World}(hr:HR ρ h.t.get w)(hf:cC ρ h.next){p o:Nat}{v:AV}{V:Value}(hp:yv h p o v=some h'){l:Loc}(hl:ρ p=some l)(hv:VR ρ v V):
 ∃w',(store ⟨l.b9,l.off+o,none⟩ V .atomic).run P w=.ok () w'/\Way ρ h w ρ h' w':=by
 unfold yv at hp;split at hp
 ·rename_i cells len e hg;cases hk:(Nat.ble (o+1) len&&aY v)
  ·rw[hk]at hp;simp at hp
  ·rw[hk,cond_true]at hp;simp only[Bool.and_eq_true]at hk;have k1:=Nat.le_of_ble_eq_true hk.1;simp at hp;subst hp;have hV:bE ρ [v] [V]:=⟨V,[],hv,rfl,rfl⟩;have h1:∀U∈[V],one U=true:=sf hV (by simp[hk.2]);obtain⟨w',j1,j2⟩:=rW hr hg hl hV h1 (o:=o) (by simpa using k1) P;refine⟨w',?_,eY hf hl j2⟩;obtain⟨_,hlen,c,hc,CU,_⟩:=hr.row hg hl;have iq:∃u,w.cell? ⟨l.b9,l.off+o,none⟩=some u:=by
        have df:l.off+o<c.size:=by omega
        exact⟨c[l.off+o],by simp[World.cell?,hc,df]⟩
   obtain⟨u,hu⟩:=iq;rw[BE hu];simpa [storeCells,fo]using j1
 ·simp at hp
theorem Af{P:Program}{ρ:aR}{h h':H}{w:World}(hr:HR ρ h.t.get w)(hf:cC ρ h.next){tag:eZ}{args:List AV}{v:AV}(he:F9 h tag args=some (v,h')){ARGS:List Value}(ha:bE ρ args ARGS):
 an1 P (tag.fn ARGS.toArray) ρ h w v h':=by
 unfold F9 at he;split at he
 ·rename_i p o;split at he
  ·rename_i n hn;simp at he;obtain⟨rfl,rfl⟩:=he;simp only[bE,VR]at ha;obtain⟨V,M,⟨l,hl,rfl⟩,rfl,rfl⟩:=ha;obtain⟨k1,_⟩:=km (P:=P) hr hn hl;exact⟨ρ,w,_,by simp[eZ.fn,Lu,Extern.Atomic.read,asAddr,k1],rfl,Way.refl hr hf⟩
  ·simp at he
 ·rename_i p o v';split at he
  ·rename_i h2 hp;simp at he;obtain⟨rfl,rfl⟩:=he;simp only[bE,VR]at ha;obtain⟨V,M,⟨l,hl,rfl⟩,⟨U,M',hU,rfl,rfl⟩,rfl⟩:=ha;obtain⟨w',j1,j2⟩:=l8 (P:=P) hr hf hp hl hU;exact⟨ρ,w',_,by simp[eZ.fn,HE,Extern.Atomic.none_,asAddr,j1],⟨[],rfl,rfl⟩,j2⟩
  ·simp at he
 ·rename_i p o v';split at he
  ·rename_i n h2 hn hp;simp at he;obtain⟨rfl,rfl⟩:=he;simp only[bE,VR]at ha;obtain⟨V,M,⟨l,hl,rfl⟩,⟨U,M',hU,rfl,rfl⟩,rfl⟩:=ha;obtain⟨k1,_⟩:=km (P:=P) hr hn hl;obtain⟨w',j1,j2⟩:=l8 (P:=P) hr hf hp hl hU;exact⟨ρ,w',_,by simp[eZ.fn,Lz,Extern.Atomic.read,asAddr,k1,j1],rfl,j2⟩
  ·simp at he
 ·rename_i p o k x k' y;split at he
  ·rename_i n hn;simp only[bE,VR]at ha;obtain⟨V,M,⟨l,hl,rfl⟩,⟨U,M',rfl,⟨U',M'',rfl,rfl,rfl⟩,rfl⟩,rfl⟩:=ha;obtain⟨k1,k2,hsh⟩:=km (P:=P) hr hn hl;split at he
   ·rename_i hq;rw[gJ]at hq;have Cl:n=x:=by simpa using hq
    subst Cl;split at he
    ·rename_i h2 hp;simp at he;obtain⟨rfl,rfl⟩:=he;obtain⟨w',j1,j2⟩:=l8 (P:=P) hr hf hp hl (V:=.int k' y) rfl;exact⟨ρ,w',_,by simp[eZ.fn,Gt,Extern.Atomic.touchesFrozen,Extern.Atomic.read,asAddr,viewAt,hsh,k1,k2,j1],rfl,j2⟩
    ·simp at he
   ·rename_i hq;rw[gJ]at hq;have Cl:¬n=x:=by simpa using hq
    simp at he;obtain⟨rfl,rfl⟩:=he;exact⟨ρ,w,_,by simp[eZ.fn,Gt,Extern.Atomic.touchesFrozen,Extern.Atomic.read,asAddr,viewAt,hsh,k1,k2,Cl],rfl,Way.refl hr hf⟩
  ·simp at he
 ·rename_i p o x;split at he
  ·rename_i n hn;simp only[bE,VR]at ha;obtain⟨V,M,⟨l,hl,rfl⟩,⟨U,M',rfl,rfl,rfl⟩,rfl⟩:=ha;obtain⟨k1,k2⟩:=km (P:=P) hr hn hl;split at he
   ·rename_i h2 hp;simp at he;obtain⟨rfl,rfl⟩:=he;obtain⟨w',j1,j2⟩:=l8 (P:=P) hr hf hp hl (V:=.int .u64 (fw .u64 (n+x))) rfl;refine⟨ρ,w',_,?_,rfl,j2⟩;rw[tW]at j1⊢;simp[eZ.fn,HF,Extern.Atomic.read,asAddr,k1,asInt,asIntOf,Op.intArith,j1]
   ·simp at he
  ·simp at he
 ·simp at he
inductive IOp where
 |range (x:cg)
 |next (x:cg)
 |entry (x:cg)
def kL(es:List (AV×AV×Nat))(seen:List Nat):List (AV×AV×Nat):=es.filter fun e=>!seen.contains e.2.2
def tU(b:Nat):List (AV×AV×Nat)->Option (AV×AV)
 | []=>none
 |e::l=>match Nat.beq e.2.2 b with
  |true=>some (e.1,e.2.1)
  |false=>tU b l
def mY:List Nat->Option Nat
 | []=>none
 | [x]=>some x
 |_::l=>mY l
def Im(tm:T AV)(h:H):IOp->Option (AV×H)
 | .range x=>match cV tm x with
   |some .kH=>some (.ptr h.next 0,⟨h.next+1,h.t.set h.next (.iter none 0 [] 0)⟩)
   |some (.map a)=>match h.t.get a with
    |some (.map _ clock)=>some (.ptr h.next 0,⟨h.next+1,h.t.set h.next (.iter (some a) clock [] clock)⟩)
    |_=>none
   |_=>none
 | .next x=>match cV tm x with
   |some (.ptr p 0)=>match h.t.get p with
    |some (.iter none _ _ _)=>some (.aE [.bool false],h)
    |some (.iter (some a) since seen last)=>match h.t.get a with
     |some (.map es clock)=>match !seen.isEmpty&&!es.isEmpty&&es.all (fun e=>Nat.ble last e.2.2)with
      |true=>none
      |false=>match kL es seen with
       | []=>some (.aE [.bool false],h)
       | [e]=>match Nat.ble since e.2.2 with
         |true=>none
         |false=>some (.aE [.bool true,e.1,e.2.1],⟨h.next,h.t.set p (.iter (some a) since (seen++[e.2.2]) clock)⟩)
       |_=>none
     |_=>none
    |_=>none
   |_=>none
 | .entry x=>match cV tm x with
   |some (.ptr p 0)=>match h.t.get p with
    |some (.iter (some a) _ seen Gu)=>match mY seen,h.t.get a with
     |some LC,some (.map es clock)=>match Nat.beq clock Gu,tU LC es with
      |true,some (k,v)=>some (.aE [k,v],h)
      |_,_=>none
     |_,_=>none
    |_=>none
   |_=>none
def cI(P:Program)(o:Oper):Option IOp:=match o.op with
 | .range t x=>match P.underlying t with
   |some (.map _ _)=>(aP x).map .range
   |_=>none
 | .next x false=>(aP x).map .next
 | .entry x=>(aP x).map .entry
 |_=>none
theorem ng{ρ:aR}(seen:List Nat):∀{es:List (AV×AV×Nat)} {ES:List MapEntry},ij ρ es ES->ij ρ (kL es seen) (ES.filter fun e=>!seen.toArray.contains e.born)
 | [],ES,h=>by simp only[ij]at h;subst h;simp[kL,ij]
 |e::es,ES,h=>by
  obtain⟨E,M,h1,h2,h3,h4,rfl⟩:=h;have ih:=ng seen h4;unfold kL at ih⊢;simp only[List.filter_cons,h3,List.contains_toArray]at ih⊢;cases hc:seen.contains e.2.2
  ·simp only[Bool.not_false,if_true];exact⟨E,_,h1,h2,h3,ih,rfl⟩
  ·simpa using ih
theorem tC{ρ:aR}(last:Nat):∀{es:List (AV×AV×Nat)} {ES:List MapEntry},ij ρ es ES->(ES.all fun e=>decide (e.born>=last))=es.all (fun e=>Nat.ble last e.2.2)
 | [],ES,h=>by simp only[ij]at h;subst h;rfl
 |e::es,ES,h=>by
  obtain⟨E,M,h1,h2,h3,h4,rfl⟩:=h;simp only[List.all_cons,tC last h4,h3];congr 1;rw[Bool.eq_iff_iff];simp[Nat.ble_eq]
theorem uh{ρ:aR}:∀{es:List (AV×AV×Nat)} {ES:List MapEntry},ij ρ es ES->ES.isEmpty=es.isEmpty
 | [],ES,h=>by simp only[ij]at h;subst h;rfl
 |e::es,ES,h=>by
  obtain⟨E,M,h1,h2,h3,h4,rfl⟩:=h;rfl
theorem ui{ρ:aR}(b:Nat):∀{es:List (AV×AV×Nat)} {ES:List MapEntry} {k v:AV},ij ρ es ES->tU b es=some (k,v)->∃E,ES.find? (fun e=>e.born==b)=some E/\VR ρ k E.key/\VR ρ v E.val
 | [],ES,k,v,h,hf=>by simp[tU]at hf
 |e::es,ES,k,v,h,hf=>by
  obtain⟨E,M,h1,h2,h3,h4,rfl⟩:=h;unfold tU at hf;split at hf
  ·rename_i hb;have hb:=Nat.eq_of_beq_eq_true hb;simp at hf;obtain⟨rfl,rfl⟩:=hf;exact⟨E,by simp[h3,hb],h1,h2⟩
  ·rename_i hb;have C0:¬E.born=b:=by
        rw[h3];intro e;rw[e]at hb;simp at hb
   obtain⟨E',k1,k2⟩:=ui b h4 hf;exact⟨E',by simp[C0,k1],k2⟩
theorem Ag:∀l:List Nat,mY l=l.toArray.back?
 | []=>rfl
 | [x]=>by simp[mY]
 |x::y::l=>by
  rw[mY,Ag (y::l)]
  ·simp
  ·simp
theorem sh{P:Program}{w:World}{r:Nat}{M:Option Nat}{since last:Nat}{seen:Array Nat}(h:w.heap[r]?=some (.mapIter M since seen last)):(getObj r).run P w=.ok (.mapIter M since seen last) w:=by simp[getObj,Sem.run,h]
theorem run_map{P:Program}{w:World}{r:Nat}{es:Array MapEntry}{clock:Nat}(h:w.heap[r]?=some (.map es clock)):(getObj r).run P w=.ok (.map es clock) w:=by simp[getObj,Sem.run,h]
theorem HG{P:Program}{o:Oper}{c:IOp}{tm:T AV}{h h':H}{v:AV}{ρ:aR}{a:Act}{w:World}(hc:cI P o=some c)(he:Im tm h c=some (v,h'))(ht:TR ρ tm a.tmps)(hr:HR ρ h.t.get w)(hf:cC ρ h.next):
 Dm P (execOp a.eval o) ρ h w v h':=by
 obtain⟨dst,op,type,pos,after,guard⟩:=o;unfold cI at hc;simp only[]at hc;have new:∀(M:Option Nat) (m:Option Nat) (since last:Nat),(match m with
  |none=>M=none
  |some a=>∃k,ρ a=some k/\M=some k.b9)->Way ρ h w (lq ρ h.next ⟨w.heap.size,0,0⟩) ⟨h.next+1,h.t.set h.next (.iter m since [] last)⟩ (w.alloc (.mapIter M since #[] last)):=by
  intro M m since last hm;refine rX hf (tq hr (hf _ (Nat.le_refl _)) rfl (fun b=>T.ay _ _ _ _) ?_);refine uJ.mono (o:=.iter m since [] last) (Bs hf (Nat.le_refl _)) ⟨rfl,M,by show(w.heap.push _)[w.heap.size]?=_;simp,hm⟩
 split at hc
 ·rename_i t x;split at hc
  ·rename_i kt e hu;simp only[Option.map_eq_some_iff]at hc;obtain⟨y,hy,rfl⟩:=hc;simp only[Im]at he;split at he
   ·rename_i hv;have hM:=ai ht hy hv;simp only[VR]at hM;simp at he;obtain⟨rfl,rfl⟩:=he;refine⟨_,_,.pointer (some ⟨w.heap.size,0,none⟩),.inl ?_,⟨_,cK (hf _ (Nat.le_refl _)),rfl⟩,new none none 0 0 rfl⟩;simp[execOp,Instr.range,Go.Proofs.YtgkjlklfjbljeaaGreat.Eo.run_underlying hu,hM]
   ·rename_i p hv;split at he
    ·rename_i es clock hg;have hM:=ai ht hy hv;simp only[VR]at hM;obtain⟨l,hl,hM⟩:=hM;obtain⟨_,ES,h1,h2⟩:=hr.obj p _ l hg rfl hl;simp at he;obtain⟨rfl,rfl⟩:=he;refine⟨_,_,.pointer (some ⟨w.heap.size,0,none⟩),.inl ?_,⟨_,cK (hf _ (Nat.le_refl _)),rfl⟩,new (some l.b9) (some p) clock clock ⟨l,hl,rfl⟩⟩;simp only[execOp,Instr.range,Sem.run_bind,Go.Proofs.YtgkjlklfjbljeaaGreat.Eo.run_underlying hu,Result.andThen_ok,hM,getObj,Sem.run,h2,Sem.run_pure];simp[newObj,Sem.run]
    ·simp at he
   ·simp at he
  ·simp at hc
 ·rename_i x;simp only[Option.map_eq_some_iff]at hc;obtain⟨y,hy,rfl⟩:=hc;simp only[Im]at he;split at he
  ·rename_i p hv;have hM:=ai ht hy hv;simp only[VR]at hM;obtain⟨l,hl,hM⟩:=hM;split at he
   ·rename_i since seen last hg;obtain⟨_,h0,M,h1,h2⟩:=hr.obj p _ l hg rfl hl;simp only[]at h2;subst h2;simp at he;obtain⟨rfl,rfl⟩:=he;refine⟨ρ,w,.tuple #[.bool false],.inl ?_,⟨[.bool false],⟨.bool false,[],rfl,rfl,rfl⟩,rfl⟩,Way.refl hr hf⟩;simp[execOp,Instr.next,hM,h0,getObj,Sem.run,h1]
   ·rename_i q since seen last hg;obtain⟨_,h0,M,h1,k,hk,rfl⟩:=hr.obj p _ l hg rfl hl;split at he
    ·rename_i es clock xZ;obtain⟨_,ES,h3,h4⟩:=hr.obj q _ k xZ rfl hk;split at he
     ·simp at he
     ·rename_i ue;have hE:=uh h3;have hA:=tC last h3;have BF:(!(seen.toArray).isEmpty&&!(ES.toArray).isEmpty&&(ES.toArray).all fun e=>decide (e.born>=last))=false:=by
       rw[←ue];simp[←hE,←hA]
      have hL:=ng seen h3;split at he
      ·rename_i hl0;rw[hl0]at hL;simp only[ij]at hL;simp at he;obtain⟨rfl,rfl⟩:=he;refine⟨ρ,w,.tuple #[.bool false],.inl ?_,⟨[.bool false],⟨.bool false,[],rfl,rfl,rfl⟩,rfl⟩,Way.refl hr hf⟩;have hL':(ES.toArray.filter fun e=>!seen.toArray.contains e.born)= #[]:=by
        have:=congrArg List.toArray hL;simpa using this
       simp only[execOp,Instr.next,Sem.run_bind,hM,h0,Nat.add_zero,sh h1,Result.andThen_ok,run_map h4,BF,Bool.false_eq_true,if_false,hL'];simp[choose,Sem.run,Question.forced]
      ·rename_i e EB;split at he
       ·simp at he
       ·rename_i hold;rw[EB]at hL;obtain⟨E,M',e1,e2,e3,e4,e5⟩:=hL;simp only[ij]at e4;subst e4;simp at he;obtain⟨rfl,rfl⟩:=he;have hL':(ES.toArray.filter fun e=>!seen.toArray.contains e.born)= #[E]:=by
                 have:=congrArg List.toArray e5;simpa using this
        have hb:E.born<since:=by
                 rw[e3];rcases Nat.lt_or_ge e.2.2 since with df|Gr
                 ·exact df
                 ·rw[Nat.ble_eq_true_of_le Gr]at hold;simp at hold
        have df:l.b9<w.heap.size:=(hr.obj p _ l hg rfl hl).1;refine⟨ρ,{w with heap:=w.heap.setIfInBounds l.b9 (.mapIter (some k.b9) since (seen++[e.2.2]).toArray clock)},.tuple #[.bool true,E.key,E.val],.inl ?_,?_,eY hf hl (lH hr hg rfl hl (fun b=>T.ay _ _ _ _) ⟨rfl,rfl,rfl⟩ (by simp) (fun r dB=>?_) rfl ⟨h0,some k.b9,by simp[df],k,hk,rfl⟩)⟩
        ·simp only[execOp,Instr.next,Sem.run_bind,hM,h0,Nat.add_zero,sh h1,Result.andThen_ok,run_map h4,BF,Bool.false_eq_true,if_false,hL'];have hnl:¬since<=E.born:=by omega
         have f1:(#[E]:Array MapEntry).filter (fun e=>decide (e.born<since))= #[E]:=by simp[hb]
         have f2:(#[E]:Array MapEntry).filter (fun e=>decide (e.born>=since))= #[]:=by
          simp[show E.born<since from hb]
         rw[f1,f2];simp[choose,Sem.run,Question.forced,setObj,h1,e3]
        ·exact⟨[.bool true,E.key,E.val],⟨.bool true,[E.key,E.val],rfl,⟨E.key,[E.val],e1,⟨E.val,[],e2,rfl,rfl⟩,rfl⟩,rfl⟩,rfl⟩
        ·simp only[Array.getElem?_setIfInBounds_ne (Ne.symm dB)]
      ·simp at he
    ·simp at he
   ·simp at he
  ·simp at he
 ·rename_i x;simp only[Option.map_eq_some_iff]at hc;obtain⟨y,hy,rfl⟩:=hc;simp only[Im]at he;split at he
  ·rename_i p hv;have hM:=ai ht hy hv;simp only[VR]at hM;obtain⟨l,hl,hM⟩:=hM;split at he
   ·rename_i q since seen Gu hg;obtain⟨_,h0,M,h1,k,hk,rfl⟩:=hr.obj p _ l hg rfl hl;split at he
    ·rename_i LC es clock ri xZ;obtain⟨_,ES,h3,h4⟩:=hr.obj q _ k xZ rfl hk;split at he
     ·rename_i kk vv D8 hfb;have D8:=Nat.eq_of_beq_eq_true D8;subst D8;obtain⟨E,f1,f2,f3⟩:=ui LC h3 hfb;simp at he;obtain⟨rfl,rfl⟩:=he;rw[Ag]at ri;refine⟨ρ,w,.tuple #[E.key,E.val],.inl ?_,⟨[E.key,E.val],⟨E.key,[E.val],f2,⟨E.val,[],f3,rfl,rfl⟩,rfl⟩,rfl⟩,Way.refl hr hf⟩;simp only[execOp,Instr.entry,Sem.run_bind,hM,h0,Nat.add_zero,sh h1,Result.andThen_ok,ri,run_map h4];simp[f1]
     ·simp at he
    ·simp at he
   ·simp at he
  ·simp at he
 ·simp at hc
inductive SOp where
 |idx (x ix:cg)
 |MN (x:cg) (lo hi:Option cg)
 |b2s (x:cg)
def bytesOf:List AV->Option (List Int)
 | []=>some []
 | .int .u8 n::l=>match bytesOf l with
   |some ns=>some (n::ns)
   |none=>none
 |_::_=>none
def Dq(tm:T AV):Option cg->Option (Option AV)
 |none=>some none
 |some x=>match cV tm x with
  |some v=>some (some v)
  |none=>none
def HJ(tm:T AV)(g:Nat->Option AO):SOp->Option AV
 | .idx x ix=>match cV tm x,cV tm ix with
   |some (.str s),some (.int _ (.ofNat i))=>match s.data.toList[i]? with
    |some b=>some (.int .u8 b.toNat)
    |none=>none
   |_,_=>none
 | .MN x lo hi=>match cV tm x,Dq tm lo,Dq tm hi with
   |some (.str s),some lo,some hi=>match rZ s.data.toList.length s.data.toList.length hi with
    |some h=>match rZ h 0 lo with
     |some l=>some (.str ⟨((s.data.toList.drop l).take (h-l)).toArray⟩)
     |none=>none
    |none=>none
   |_,_,_=>none
 | .b2s x=>match cV tm x with
   |some .ax=>some (.str .empty)
   |some (.sl a o len 1 _)=>match g a with
    |some (.row cells _ _)=>match bh cells o len with
     |some l=>match bytesOf l with
      |some ns=>some (.str (ns.foldl (fun r n=>r.push (UInt8.ofNat n.toNat)) ByteArray.empty))
      |none=>none
     |none=>none
    |_=>none
   |_=>none
def cSO:Option Operand->Option (Option cg)
 |none=>some none
 |some x=>match aP x with
  |some y=>some (some y)
  |none=>none
def cS(P:Program)(o:Oper):Option SOp:=match o.op with
 | .index t x ix=>match P.underlying t,aP x,aP ix with
   |some .string,some x,some ix=>some (.idx x ix)
   |_,_,_=>none
 | .slice t x lo hi none=>match P.underlying t,aP x,cSO lo,cSO hi with
   |some .string,some x,some lo,some hi=>some (.MN x lo hi)
   |_,_,_,_=>none
 | .convert src dst x=>match P.underlying src,P.underlying dst,aP x with
   |some (.slice e),some .string,some x=>match P.underlying e,sz P e with
    |some (.int .u8),some 1=>some (.b2s x)
    |_,_=>none
   |_,_,_=>none
 |_=>none
theorem pq{ρ:aR}:∀{l:List AV} {ns:List Int} {L:List Value},bytesOf l=some ns->bE ρ l L->L=ns.map (Value.int .u8)
 | [],ns,L,h,hl=>by
   simp[bytesOf]at h;subst h;simp only[bE]at hl;simp[hl]
 |v::l,ns,L,h,hl=>by
  unfold bytesOf at h;split at h
  ·rename_i h0;simp at h0
  ·rename_i n l' heq;simp at heq;obtain⟨rfl,rfl⟩:=heq;split at h
   ·rename_i ms hm;simp at h;subst h;simp only[bE,VR]at hl;obtain⟨V,M,rfl,h2,rfl⟩:=hl;simp[pq hm h2]
   ·simp at h
  ·simp at h
theorem xc{ρ:aR}{tm:T AV}{a:Act}(ht:TR ρ tm a.tmps){x:Option Operand}{y:Option cg}{v:Option AV}(hc:cSO x=some y)(hv:Dq tm y=some v):Hw ρ v (x.map a.eval):=by
 cases x with
 |none=>
  simp[cSO]at hc;subst hc;simp[Dq]at hv;subst hv
  trivial
 |some x=>
  simp only[cSO]at hc;split at hc
  ·rename_i y' hy;simp at hc;subst hc;simp only[Dq]at hv;split at hv
   ·rename_i u hu;simp at hv;subst hv;exact ai ht hy hu
   ·simp at hv
  ·simp at hc
theorem Dr(s:ByteArray):s.size=s.data.toList.length:=by
 obtain⟨⟨l⟩⟩:=s;rfl
theorem an2(s:ByteArray)(i:Nat):s[i]?=s.data.toList[i]?:=by
 obtain⟨⟨l⟩⟩:=s;simp only[getElem?_def];rfl
theorem extract_eq(s:ByteArray)(l h:Nat):s.extract l h=⟨((s.data.toList.drop l).take (h-l)).toArray⟩:=by
 obtain⟨⟨x⟩⟩:=s;apply ByteArray.ext;simp[ByteArray.data_extract,List.extract_toArray,List.extract_eq_take_drop]
theorem Ah{P:Program}{o:Oper}{c:SOp}{tm:T AV}{v:AV}{ρ:aR}{a:Act}{g:Nat->Option AO}{w:World}(hc:cS P o=some c)(h:HJ tm g c=some v)(ht:TR ρ tm a.tmps)(hr:HR ρ g w):
 ∃V,VR ρ v V/\(execOp a.eval o).run P w=.ok (.value V) w:=by
 obtain⟨dst,op,type,pos,after,guard⟩:=o;unfold cS at hc;simp only[]at hc;split at hc
 ·rename_i t x ix;split at hc
  ·rename_i x' ix' hu hx hix;simp at hc;subst hc;simp only[HJ]at h;split at h
   ·rename_i s k i WJ hiv;split at h
    ·rename_i b hb;simp at h;subst h;have hX:=ai ht hx WJ;have hI:=ai ht hix hiv;simp only[VR]at hX hI;refine⟨.int .u8 b.toNat,rfl,?_⟩;simp only[execOp,Instr.index,Sem.run_bind,hX,hI,asIntOf,Sem.run_pure,Result.andThen_ok,Go.Proofs.YtgkjlklfjbljeaaGreat.Eo.run_underlying hu];have hp:(0:Int)<=Int.ofNat i:=by simp
     rw[if_pos hp];simp only[Int.ofNat_eq_natCast,Int.toNat_natCast,an2,hb];rfl
    ·simp at h
   ·simp at h
  ·simp at hc
 ·rename_i t x lo hi;split at hc
  ·rename_i x' Zj FG hu hx Eh hhi;simp at hc;subst hc;simp only[HJ]at h;split at h
   ·rename_i s lov hiv WJ hl hh;split at h
    ·rename_i hb hbh;split at h
     ·rename_i lb hlb;simp at h;subst h;have hX:=ai ht hx WJ;simp only[VR]at hX;have h1:=xc ht Eh hl;have h2:=xc ht hhi hh;refine⟨.string (s.extract lb hb),by simp only[VR];rw[extract_eq],?_⟩;have hle:s.data.toList.length<=s.size:=Nat.le_of_eq (Dr s).symm;have k2:∀w',(match hi.map a.eval with|some v=>Instr.sliceBound v s.size .sliceAlen|none=>pure s.size:Sem Nat).run P w'=.ok hb w':=by
       intro w';cases hi with
       |none=>cases hiv with
        |none=>
         have:hb=s.size:=by simp only[rZ,Option.some.injEq]at hbh;rw[←hbh,Dr]
         subst this;rfl
        |some u=>simp[Hw]at h2
       |some y=>cases hiv with
        |none=>simp[Hw]at h2
        |some u=>exact kR (ρ:=ρ) h2 hbh hle _ w'
      have k1:∀w',(match lo.map a.eval with|some v=>Instr.sliceBound v hb .sliceB|none=>pure 0:Sem Nat).run P w'=.ok lb w':=by
       intro w';cases lo with
       |none=>cases lov with
        |none=>simp[rZ]at hlb;simp[hlb]
        |some u=>simp[Hw]at h1
       |some y=>cases lov with
        |none=>simp[Hw]at h1
        |some u=>exact kR (ρ:=ρ) h1 hlb (Nat.le_refl _) _ w'
      have C0:(Instr.sliceBounds false s.size s.size (lo.map a.eval) (hi.map a.eval) none).run P w=.ok (lb,hb,s.size) w:=by
       unfold Instr.sliceBounds;cases hi with
       |none=>
        have Ch:=k2 w;simp only[Option.map_none,Sem.run_pure,Result.ok.injEq,and_true]at Ch;subst Ch;have:=k1 w;cases lo<;>simp_all
       |some y=>
        have Ch:=k2 w;simp only[Option.map_some]at Ch;have:=k1 w;cases lo<;>simp_all
      simp[execOp,Instr.sliceAt,Instr.slice,hX,Go.Proofs.YtgkjlklfjbljeaaGreat.Eo.run_underlying hu,C0]
     ·simp at h
    ·simp at h
   ·simp at h
  ·simp at hc
 ·rename_i src an5 x;split at hc
  ·rename_i e x' hs hd hx;split at hc
   ·rename_i he rn;simp at hc;subst hc;simp only[HJ]at h;have Wy:∀(p:Option Addr) (len cap:Nat),a.eval x=.slice p len cap->(convert src an5 (a.eval x)).run P w=(Conv.bytesToString (.slice p len cap)).run P w:=by
     intro p len cap hX;rw[hX];simp[convert,Go.Proofs.YtgkjlklfjbljeaaGreat.Eo.run_underlying hs,Go.Proofs.YtgkjlklfjbljeaaGreat.Eo.run_underlying hd,Go.Proofs.YtgkjlklfjbljeaaGreat.Eo.run_underlying he]
    split at h
    ·rename_i hv;simp at h;subst h;have hX:=ai ht hx hv;simp only[VR]at hX;refine⟨.string .empty,rfl,?_⟩;simp only[execOp,Sem.run_bind,Wy _ _ _ hX];simp[Conv.bytesToString]
    ·rename_i p o len cap hv;split at h
     ·rename_i cells bl e' hg;split at h
      ·rename_i l hl;split at h
       ·rename_i ns V4;simp at h;subst h;have hX:=ai ht hx hv;have key:(∃lc c,ρ p=some lc/\a.eval x=.slice (some ⟨lc.b9,lc.off+o,none⟩) len c)\/(len=0/\∃q,a.eval x=.slice (some q) 0 0):=by
                 cases cap with
                 |some c=>simp only[VR]at hX;obtain⟨lc,h1,_,h2⟩:=hX;exact .inl ⟨lc,_,h1,h2⟩
                 |none=>
                  simp only[VR]at hX;obtain⟨lc,h1,_,_,h2|⟨h0,q,h2⟩⟩:=hX
                  ·exact .inl ⟨lc,_,h1,h2⟩
                  ·exact .inr ⟨h0,q,h2⟩
        rcases key with⟨lc,cp,h1,h2⟩|⟨rfl,q,h2⟩
        ·obtain⟨Vs,k1,k2,k3,k4⟩:=gE (P:=P) hr h1 hg hl;have:=pq V4 k1;subst this;refine⟨_,rfl,?_⟩;simp only[execOp,Sem.run_bind,Wy _ _ _ h2,run_bytesToString w _ len cp ns (k4 w rfl)];rfl
        ·simp[dH,eT]at hl;subst hl;simp[bytesOf]at V4;subst V4;refine⟨_,rfl,?_⟩;simp only[execOp,Sem.run_bind,Wy _ _ _ h2,run_bytesToString w q 0 0 [] (by simp[loadCells,loadCellsFrom])];rfl
       ·simp at h
      ·simp at h
     ·simp at h
    ·simp at h
   ·simp at hc
  ·simp at hc
 ·simp at hc
structure WOp where
 es:Nat
 d:cg
 s:cg
def LD:AV->Option Nat
 | .ax=>some 0
 | .sl _ _ len _ _=>some len
 |_=>none
def evW(tm:T AV)(h:H)(c:WOp):Option (AV×H):=match cV tm c.d,cV tm c.s with
 |some d,some s=>match LD d,LD s with
  |some m,some n=>match Nat.ble n m with
   |b=>match(match b with|true=>n|false=>m)with
    |0=>some (.int .i64 0,h)
    |k+1=>match d,s with
     | .sl a o _ es _,.sl b p _ nI _=>match Nat.beq es c.es&&Nat.beq nI c.es with
       |true=>match h.t.get b,h.t.get a with
        |some (.row cs _ _),some (.row cells oJ e)=>match bh cs p ((k+1)*c.es)with
         |some l=>match Nat.ble (o+(k+1)*c.es) oJ with
          |true=>some (.int .i64 (Int.ofNat (k+1)),⟨h.next,h.t.set a (.row (aa o l cells) oJ e)⟩)
          |false=>none
         |none=>none
        |_,_=>none
       |false=>none
     |_,_=>none
  |_,_=>none
 |_,_=>none
def cW(P:Program)(o:Oper):Option WOp:=match o.op with
 | .call {callee:=.builtin .copy,args,argTypes}=>match args.toList,argTypes[0]? with
   | [d,s],some t=>match P.underlying t with
     |some (.slice e)=>match sz P e,aP d,aP s with
      |some es,some d,some s=>some ⟨es,d,s⟩
      |_,_,_=>none
     |_=>none
   |_,_=>none
 |_=>none
theorem Gw{ρ:aR}{s:AV}{S:Value}{n:Nat}(hl:LD s=some n)(hs:VR ρ s S):∃p c,S=.slice p n c/\
 (∀a o len es cap,s=.sl a o len es cap->(∃l,ρ a=some l/\p=some ⟨l.b9,l.off+o,none⟩)\/n=0):=by
 cases s<;>simp only[LD]at hl<;>try(simp at hl;done)
 case sl a o len es cap=>
  simp at hl;subst hl;cases cap with
  |some c=>
   simp only[VR]at hs;obtain⟨l,h1,_,rfl⟩:=hs;exact⟨_,_,rfl,fun a' o' an7 nI Ko e=>by cases e;exact .inl ⟨l,h1,rfl⟩⟩
  |none=>
   simp only[VR]at hs;obtain⟨l,h1,_,_,rfl|⟨rfl,x,rfl⟩⟩:=hs
   ·exact⟨_,_,rfl,fun a' o' an7 nI Ko e=>by cases e;exact .inl ⟨l,h1,rfl⟩⟩
   ·exact⟨_,_,rfl,fun _ _ _ _ _ _=>.inr rfl⟩
 case ax=>
  simp at hl;subst hl;simp only[VR]at hs;subst hs;exact⟨_,_,rfl,fun _ _ _ _ _ e=>by cases e⟩
theorem HK{P:Program}{o:Oper}{c:WOp}{tm:T AV}{h h':H}{v:AV}{ρ:aR}{a:Act}{w:World}(hc:cW P o=some c)(he:evW tm h c=some (v,h'))(ht:TR ρ tm a.tmps)(hr:HR ρ h.t.get w)(hf:cC ρ h.next):
 Dm P (execOp a.eval o) ρ h w v h':=by
 obtain⟨dst,op,type,pos,after,guard⟩:=o;unfold cW at hc;simp only[]at hc;split at hc
 ·rename_i args ats;split at hc
  ·rename_i d s t fL h0;have gh:args= #[d,s]:=by rw[←Array.toArray_toList (xs:=args),fL]
   subst gh;split at hc
   ·rename_i e hu;split at hc
    ·rename_i es d' s' hs hd hss;simp at hc;subst hc;unfold evW at he;split at he
     ·rename_i dv sv hdv hsv;split at he
      ·rename_i m n hm hn;have hD:=ai ht hd hdv;have hS:=ai ht hss hsv;obtain⟨p,cp,hD',hDl⟩:=Gw hm hD;obtain⟨q,cq,hS',hSl⟩:=Gw hn hS;obtain⟨cs,Cp⟩:=bU (P:=P) (ρ:=a.eval) (b:=.copy) (args:= #[d,s]) (ats:=ats) (dst:=dst) (type:=type) (pos:=pos) (after:=after) (guard:=guard);simp only[]at he;have an8:(match Nat.ble n m with|true=>n|false=>m)=Nat.min n m:=by
        have:Nat.min n m=if n<=m then n else m:=rfl
        rw[this];cases hb:Nat.ble n m
        ·simp only[];rw[if_neg];intro hle;rw[Nat.ble_eq_true_of_le hle]at hb;simp at hb
        ·rw[if_pos (Nat.le_of_ble_eq_true hb)]
       rw[an8]at he;have run:∀{SRC:List Value} {w':World},(Builtin.firstCells es (Nat.min n m) (.slice q n cq)).run P w=.ok SRC.toArray w->(match p with|some a=>storeCells a SRC|none=>pure ():Sem Unit).run P w=.ok () w'->
                (execOp a.eval {dst:=dst,op:=.call {callee:=.builtin .copy,args:= #[d,s],argTypes:=ats},type:=type,pos:=pos,after:=after,guard:=guard}).run P w=.ok (.value (.int .i64 (Nat.min n m:Nat))) w':=by
        intro SRC w' h1 h2;rw[Cp];simp only[builtin,Builtin.copy_,h0,List.map_toArray,List.map_cons,List.map_nil,List.getElem?_toArray,List.getElem?_cons_zero,List.getElem?_cons_succ,hD',hS',Sem.run_bind,Go.Proofs.YtgkjlklfjbljeaaGreat.Eo.run_underlying hu,Result.andThen_ok,Builtin.lenOf,Sem.run_pure,run_sizeOf hs,h1];cases p with
        |none=>simp at h2⊢;subst h2;simp[goInt]
        |some x=>simp only[]at h2;simp[h2,goInt]
       split at he
       ·rename_i hk;simp at he;obtain⟨rfl,rfl⟩:=he;have:=run (SRC:=[]) (w':=w) (by rw[hk];cases q<;>simp[Builtin.firstCells,loadCells,loadCellsFrom]) (by cases p<;>simp[storeCells])
        rw[hk]at this;exact⟨ρ,w,_,.inl this,by simp[VR],Way.refl hr hf⟩
       ·rename_i k hk;split at he
        ·rename_i a1 o1 l1 es1 c1 b1 p1 l2 es2 c2;split at he
         ·rename_i sQ;split at he
          ·rename_i cs' bl1 e1 cells oJ e2 Ii xZ;split at he
           ·rename_i l hl;split at he
            ·rename_i WT;have WT:=Nat.le_of_ble_eq_true WT;simp at he;obtain⟨rfl,rfl⟩:=he;simp only[LD,Option.some.injEq]at hm hn;have eA:0<Nat.min n m:=by rw[hk];omega
             have xV:n≠0:=by rintro rfl;simp at eA
             have hm0:m≠0:=by rintro rfl;simp at eA
             obtain⟨la,ha,rfl⟩:=(hDl _ _ _ _ _ rfl).resolve_right hm0;obtain⟨lb,hb,rfl⟩:=(hSl _ _ _ _ _ rfl).resolve_right xV;obtain⟨Vs,k1,k2,k3,k4⟩:=gE (P:=P) hr hb Ii hl;have hlen:l.length=(k+1)*es:=by have:=k1.length;omega
             obtain⟨w',j1,j2⟩:=rW hr xZ ha k1 k3 (o:=o1) (by rw[hlen];exact WT) P;have:=run (SRC:=Vs) (w':=w') (by rw[hk];simpa [Builtin.firstCells]using k4 w rfl) (by simpa using j1);rw[hk]at this;exact⟨ρ,w',_,.inl this,by simp[VR],eY hf ha j2⟩
            ·simp at he
           ·simp at he
          ·simp at he
         ·simp at he
        ·simp at he
      ·simp at he
     ·simp at he
    ·simp at hc
   ·simp at hc
  ·simp at hc
 ·simp at hc
def EZ(P:Program)(s:Sem Next)(ρ:aR)(h:H)(w:World)(v:AV)(h':H):Prop:=
 Dm P s ρ h w v h'\/∃f args,s.run P w=.ok (.enter f args) w/\Calls P f args w fun e w'=>∃ρ' V,e=.returned V/\VR ρ' v V/\Way ρ h w ρ' h' w'
def E0(P:Program)(s:Sem Next)(ρ:aR)(h:H)(w:World)(v:AV)(h':H):Prop:=
 ∃l fn tmps assign body,s.run P w=.ok (.round l fn tmps assign body) w/\RoundIn Fence.wide 0 P l fn tmps assign body w fun e w'=>∃ρ' V,e=.returned V/\VR ρ' v V/\Way ρ h w ρ' h' w'
def si(y:Bool)(P:Program)(s:Sem Next)(ρ:aR)(h:H)(w:World)(v:AV)(h':H):Prop:=
 EZ P s ρ h w v h'\/y=true/\E0 P s ρ h w v h'
theorem EZ.congr{P:Program}{s s':Sem Next}{ρ:aR}{h:H}{w:World}{v:AV}{h':H}(e:s'.run P w=s.run P w)(x:EZ P s ρ h w v h'):EZ P s' ρ h w v h':=by
 unfold EZ Dm at*;rw[e];exact x
theorem E0.congr{P:Program}{s s':Sem Next}{ρ:aR}{h:H}{w:World}{v:AV}{h':H}(e:s'.run P w=s.run P w)(x:E0 P s ρ h w v h'):E0 P s' ρ h w v h':=by
 unfold E0 at*;rw[e];exact x
theorem si.congr{y:Bool}{P:Program}{s s':Sem Next}{ρ:aR}{h:H}{w:World}{v:AV}{h':H}(e:s'.run P w=s.run P w)(x:si y P s ρ h w v h'):si y P s' ρ h w v h':=by
 rcases x with x|⟨hy,x⟩
 ·exact .inl (x.congr e)
 ·exact .inr ⟨hy,x.congr e⟩
theorem si.e{y:Bool}{P:Program}{s:Sem Next}{ρ:aR}{h:H}{w:World}{v:AV}{h':H}(x:Dm P s ρ h w v h'):si y P s ρ h w v h':=.inl (.inl x)
def dW:Nat:=1099511627776
abbrev ab:=FuncId->List AV->H->Option (AV×H)
def bF(y:Bool)(P:Program)(call:ab):Prop:=
 ∀f args h v h',call f args h=some (v,h')->∀ρ w ARGS,bE ρ args ARGS->HR ρ h.t.get w->cC ρ h.next->
  (Nat.ble dW f=false/\EZ P (callFunc f ARGS.toArray) ρ h w v h')\/
  (y=true/\Nat.ble dW f=true/\∀l,ρ (Nat.sub f dW)=some l->E0 P (Instr.yield l.b9 ARGS.toArray) ρ h w v h')
def iF(call:ab):ab:=fun f args h=>match Nat.ble dW f with
 |true=>none
 |false=>call f args h
theorem sj{y:Bool}{P:Program}{call:ab}(aO:bF y P call):bF false P (iF call):=by
 intro f args h v h' he ρ w ARGS ha hr hf;unfold iF at he;cases hb:Nat.ble dW f with
 |true=>rw[hb]at he;simp at he
 |false=>
  rw[hb]at he;rcases aO f args h v h' he ρ w ARGS ha hr hf with⟨_,k⟩|⟨_,k,_⟩
  ·exact .inl ⟨rfl,k⟩
  ·rw[hb]at k;simp at k
inductive HL where
 |p (x:PI)
 |r (x:ROp)
 |l (x:LOp)
 |n (x:NOp)
 |e (x:EOp)
 |m (x:XX)
 |i (x:IOp)
 |s (x:SOp)
 |w (x:WOp)
 |cv (f:cg) (args:List cg)
 |ci (r:cg) (name:String) (args:List cg)
def Ai(o:Oper):Option HL:=match o.op with
 | .call {callee:=.value f,args,argTypes}=>match aP f,ki args.toList with
   |some f,some as=>some (.cv f as)
   |_,_=>none
 | .call {callee:=.invoke r name,args,argTypes}=>match aP r,ki args.toList with
   |some r,some as=>some (.ci r name as)
   |_,_=>none
 |_=>none
def pU(P:Program)(o:Oper):Option HL:=
 match Ai o with
 |some c=>some c
 |none=>match cS P o with
  |some x=>some (.s x)
  |none=>match cP P o with
  |some x=>some (.p x)
  |none=>match cR P o with
   |some x=>some (.r x)
   |none=>match cE P o with
    |some x=>some (.e x)
    |none=>match cN P o with
     |some x=>some (.n x)
     |none=>match cL P o with
      |some x=>some (.l x)
      |none=>match cM P o with
       |some x=>some (.m x)
       |none=>match cI P o with
        |some x=>some (.i x)
        |none=>match cW P o with
         |some x=>some (.w x)
         |none=>none
def xd(P:Program)(call:ab)(h:H)(fn:AV)(as:List AV):Option (AV×H):=match fn with
 | .fn fn first captured=>match Lt P h.t.get fn (first++as) captured with
   |some (f,as)=>cond (Nat.ble dW f) none (call f as h)
   |none=>none
 | .Wq a=>call (Nat.add dW a) as h
 |_=>none
def kx(P:Program)(call:ab)(tm:T AV)(h:H):HL->Option (AV×H)
 | .p x=>match mN P tm x with
   |some v=>some (v,h)
   |none=>none
 | .r x=>match Iq tm h.t.get x with
   |some v=>some (v,h)
   |none=>none
 | .l x=>match tS tm h.t.get x with
   |some v=>some (v,h)
   |none=>none
 | .n x=>match MF tm x with
   |some (o,f)=>some (f h.next,⟨h.next+1,h.t.set h.next o⟩)
   |none=>none
 | .e x=>WG tm h x
 | .m x=>G4 tm h x
 | .i x=>Im tm h x
 | .w x=>evW tm h x
 | .s x=>match HJ tm h.t.get x with
   |some v=>some (v,h)
   |none=>none
 | .cv f as=>match cV tm f,yA tm as with
   |some f,some as=>xd P call h f as
   |_,_=>none
 | .ci r name as=>match cV tm r,yA tm as with
   |some r,some as=>xd P call h (.fn (.method name) [r] []) as
   |_,_=>none
theorem sk{y:Bool}{P:Program}{call:ab}(aO:bF y P call){h h':H}{fn v:AV}{as:List AV}(he:xd P call h fn as=some (v,h')){ρ:aR}{w:World}(hr:HR ρ h.t.get w)(hf:cC ρ h.next)
 {F:Value} {AS:List Value} (hF:VR ρ fn F) (hA:bE ρ as AS):si y P (do let d ←Deferred.ofValue F AS.toArray;invoke d.target d.args) ρ h w v h':=by
 unfold xd at he;split at he
 ·rename_i f first captured
  split at he
  ·rename_i g as' ht;simp only[VR]at hF;obtain⟨FI,CA,h1,h2,rfl⟩:=hF;obtain⟨AS',k1,k2⟩:=xa (P:=P) hr ht (bE.append h1 hA) h2;cases hb:Nat.ble dW g with
   |true=>rw[hb]at he;simp at he
   |false=>
    rw[hb]at he;rcases aO _ _ _ _ _ he ρ w AS' k1 hr hf with⟨_,k⟩|⟨_,k,_⟩
    ·refine .inl (k.congr ?_);rw[←k2];simp[Deferred.ofValue]
    ·rw[hb]at k;simp at k
  ·simp at he
 ·rename_i a;simp only[VR]at hF;obtain⟨l,h1,rfl⟩:=hF;rcases aO _ _ _ _ _ he ρ w AS hA hr hf with⟨k,_⟩|⟨hy,_,k2⟩
  ·have:Nat.ble dW (Nat.add dW a)=true:=Nat.ble_eq_true_of_le (Nat.le_add_right _ _);rw[this]at k;simp at k
  ·have e:Nat.sub (Nat.add dW a) dW=a:=Nat.add_sub_cancel_left dW a;refine .inr ⟨hy,(k2 l (by rw[e];exact h1)).congr ?_⟩;simp[Deferred.ofValue,invoke]
 ·simp at he
theorem xe{y:Bool}{P:Program}{call:ab}(aO:bF y P call){o:Oper}{c:HL}(hc:pU P o=some c){tm:T AV}{h h':H}{v:AV}(he:kx P call tm h c=some (v,h')){ρ:aR}{a:Act}{w:World}(ht:TR ρ tm a.tmps)(hr:HR ρ h.t.get w)(hf:cC ρ h.next):
 si y P (execOp a.eval o) ρ h w v h':=by
 unfold pU at hc;split at hc
 ·rename_i c' vI;simp at hc;subst hc;obtain⟨dst,op,type,pos,after,guard⟩:=o;unfold Ai at vI;simp only[]at vI;split at vI
  ·rename_i f args ats;split at vI
   ·rename_i f' as' hf' has;simp at vI;subst vI;simp only[kx]at he;split at he
    ·rename_i fv av hfv hav;refine si.congr ?_ (sk aO he hr hf (ai ht hf' hfv) (fE ht has hav));have e:args.map a.eval=(args.toList.map a.eval).toArray:=by simp[←Array.toList_map]
     simp[execOp,resolve,e]
    ·simp at he
   ·simp at vI
  ·rename_i r name args ats;split at vI
   ·rename_i r' as' WR has;simp at vI;subst vI;simp only[kx]at he;split at he
    ·rename_i rv av hrv hav;refine si.congr ?_ (sk aO he hr hf (F:=.func (.method name) #[a.eval r] #[]) ⟨[a.eval r],[],⟨a.eval r,[],ai ht WR hrv,rfl,rfl⟩,rfl,rfl⟩ (fE ht has hav));have e:args.map a.eval=(args.toList.map a.eval).toArray:=by simp[←Array.toList_map]
     simp[execOp,resolve,Deferred.ofValue,e]
    ·simp at he
   ·simp at vI
  ·simp at vI
 ·split at hc
  ·rename_i x hx;simp at hc;subst hc;simp only[kx]at he;split at he
   ·rename_i u hu;simp at he;obtain⟨rfl,rfl⟩:=he;obtain⟨V,k1,k2⟩:=Ah hx hu ht hr;exact .e ⟨ρ,w,V,.inl k2,k1,Way.refl hr hf⟩
   ·simp at he
  ·split at hc
   ·rename_i x hx;simp at hc;subst hc;simp only[kx]at he;split at he
    ·rename_i u hu;simp at he;obtain⟨rfl,rfl⟩:=he;obtain⟨V,k1,k2⟩:=y9 hx hu ht;exact .e ⟨ρ,w,V,.inl (k2 w),k1,Way.refl hr hf⟩
    ·simp at he
   ·split at hc
    ·rename_i x hx;simp at hc;subst hc;simp only[kx]at he;split at he
     ·rename_i u hu;simp at he;obtain⟨rfl,rfl⟩:=he;obtain⟨V,k1,k2⟩:=Aa hx hu ht hr;exact .e ⟨ρ,w,V,.inl k2,k1,Way.refl hr hf⟩
     ·simp at he
    ·split at hc
     ·rename_i x hx;simp at hc;subst hc;exact .e (HC hx he ht hr hf)
     ·split at hc
      ·rename_i x hx;simp at hc;subst hc;simp only[kx]at he;split at he
       ·rename_i ao fv hu;simp at he;obtain⟨rfl,rfl⟩:=he;obtain⟨hl,obj,room,k1,k2⟩:=Ac hx hu ht;obtain⟨V,j1,j2⟩:=k1 w;refine .e ⟨lq ρ h.next ⟨w.heap.size,0,room⟩,w.alloc obj,V,.inl j1,j2 _ _ (cK (hf _ (Nat.le_refl _))),rX hf (tq hr (hf _ (Nat.le_refl _)) rfl (fun b=>T.ay _ _ _ _) ?_)⟩;exact k2 _ _ _ (Bs hf (Nat.le_refl _)) (by show(w.heap.push _)[w.heap.size]?=_;simp)
       ·simp at he
      ·split at hc
       ·rename_i x hx;simp at hc;subst hc;simp only[kx]at he;split at he
        ·rename_i u hu;simp at he;obtain⟨rfl,rfl⟩:=he;obtain⟨V,k1,k2⟩:=Ad hx hu ht hr;exact .e ⟨ρ,w,V,.inl k2,k1,Way.refl hr hf⟩
        ·simp at he
       ·split at hc
        ·rename_i x hx;simp at hc;subst hc;exact .e (HD hx he ht hr hf)
        ·split at hc
         ·rename_i x hx;simp at hc;subst hc;exact .e (HG hx he ht hr hf)
         ·split at hc
          ·rename_i x hx;simp at hc;subst hc;exact .e (HK hx he ht hr hf)
          ·simp at hc
theorem si.wp{P:Program}{o:Oper}{a:Act}{ρ:aR}{h h':H}{w:World}{v:AV}{K:Act->World->Prop}{Q:Exit->Act->World->Prop}(hx:si false P (execOp a.eval o) ρ h w v h')
 (hK:∀ρ' w' V,VR ρ' v V->Way ρ h w ρ' h' w'->K (a.put o.dst V) w'):o.wp P a w K Q:=by
 unfold Oper.wp;rcases hx with(⟨ρ',w',V,he|⟨he,rfl⟩,hv,hw⟩|⟨f,args,he,xf⟩)|⟨hy,_⟩
 ·rw[he];exact hK _ _ _ hv hw
 ·rw[he];exact hK _ _ _ hv hw
 ·rw[he];exact Calls.mono xf fun e uK hh=>by
   obtain⟨ρ',V,rfl,hv,hw⟩:=hh;exact hK _ _ _ hv hw
 ·simp at hy
def Ds(r:Option Nat):Fence:={Fence.wide with round:=r}
theorem uj{r:Option Nat}{n:Nat}{P:Program}{f:FuncId}{args:Array Value}{w:World}{R:Ending->World->Prop}(h:Calls P f args w R):CallsIn (Ds r) n P f args w R:=callsIn_wide (n:=n).2 h
theorem si.wpIn{y:Bool}{r:Option Nat}{P:Program}{o:Oper}{a:Act}{ρ:aR}{h h':H}{w:World}{v:AV}{K:Act->World->Prop}{Q:Exit->Act->World->Prop}(hx:si y P (execOp a.eval o) ρ h w v h')(hd:∀c,o.op≠.defer c)
 (hK:∀ρ' w' V,VR ρ' v V->Way ρ h w ρ' h' w'->K (a.put o.dst V) w'):o.wpIn (Ds r) 0 P a w K Q:=by
 refine⟨fun _ _=>trivial,?_⟩;rw[Oper.semAt_eq _ _ _ hd];rcases hx with(⟨ρ',w',V,he|⟨he,rfl⟩,hv,hw⟩|⟨f,args,he,xf⟩)|⟨_,l,fn,tmps,assign,body,he,WU⟩
 ·rw[he];exact hK _ _ _ hv hw
 ·rw[he];exact hK _ _ _ hv hw
 ·rw[he];refine⟨fun hh=>by simp[Ds,Fence.wide]at hh,uj (Calls.mono xf fun e uK hh=>?_)⟩;obtain⟨ρ',V,rfl,hv,hw⟩:=hh;exact hK _ _ _ hv hw
 ·rw[he];refine⟨fun hh=>by simp[Ds,Fence.wide]at hh,RoundIn.mono (F:=Ds r) WU fun e uK hh=>?_⟩;obtain⟨ρ',V,rfl,hv,hw⟩:=hh;exact hK _ _ _ hv hw
theorem HM{P:Program}{o:Oper}{c:HL}(h:pU P o=some c):∀d,o.op≠.defer d:=by
 intro d hd;obtain⟨dst,op,type,pos,after,guard⟩:=o;simp only at hd;subst hd;simp[pU,Ai,cS,cP,cPo,cR,cE,cN,cL,cM,cI,cW]at h
def uk:List Oper->Nat->Option Nat
 | [],_=>none
 |o::_,0=>o.dst
 |_::l,n+1=>uk l n
def nh(ops:List Oper)(tm:T AV)(o:Oper):Option Bool:=match o.guard with
 |none=>some true
 |some (j,want)=>match uk ops j with
  |some t=>match tm.get t with
   |some (.bool b)=>some (match b,want with|true,true=>true|false,false=>true|_,_=>false)
   |some (.aE _)=>some false
   |_=>none
  |none=>none
def tD(N:Nat)(tm:T AV)(dst:Option Nat)(v:AV):Option (T AV):=match dst with
 |none=>some tm
 |some d=>cond (Nat.ble (d+1) N) (some (tm.set d v)) none
def mr(P:Program)(call:ab)(ops:List Oper)(N:Nat)(tm:T AV)(h:H)(o:Oper):Option (T AV×H):=
 match nh ops tm o with
 |some true=>match pU P o with
  |some c=>match kx P call tm h c with
   |some (v,h')=>match tD N tm o.dst v with
    |some aC=>some (aC,h')
    |none=>none
   |none=>none
  |none=>none
 |some false=>match tD N tm o.dst (.aE [])with
  |some aC=>some (aC,h)
  |none=>none
 |none=>none
def ni(P:Program)(call:ab)(ops:List Oper)(N:Nat):List Oper->T AV->H->Option (T AV×H)
 | [],tm,h=>some (tm,h)
 |o::l,tm,h=>match mr P call ops N tm h o with
  |some (aC,h')=>ni P call ops N l aC h'
  |none=>none
theorem Dt:∀(l:List Oper) (j:Nat),uk l j=(l[j]?).bind (·.dst)
 | [],j=>by simp[uk]
 |o::l,0=>by simp[uk]
 |o::l,j+1=>by simp[uk,Dt l j]
theorem eP{ops:Array Oper}{tm:T AV}{o:Oper}{b:Bool}(h:nh ops.toList tm o=some b){ρ:aR}{tmps:Array Value}(ht:TR ρ tm tmps):Region.wanted o (yielded ops tmps)=b:=by
 unfold nh at h;unfold Region.wanted;split at h
 ·rename_i hg;rw[hg];simpa using h
 ·rename_i j want hg;rw[hg];simp only[];split at h
  ·rename_i t hs;rw[Dt]at hs;have Ck:(ops[j]?).bind (·.dst)=some t:=by simpa using hs
   have hy:∀V,t<tmps.size->tmps.getD t undef=V->tmps[t]?=some V:=fun V h1 h2=>by
        rw[←h2];simp[h1]
   split at h
   ·rename_i c hc;obtain⟨k1,k2⟩:=ht _ _ hc;simp only[VR]at k2;simp only[yielded,Ck,Option.bind_some,hy _ k1 k2];simp at h;subst h;cases c<;>cases want<;>rfl
   ·rename_i l hc;obtain⟨k1,k2⟩:=ht _ _ hc;simp only[VR]at k2;obtain⟨L,_,k3⟩:=k2;simp only[yielded,Ck,Option.bind_some,hy _ k1 k3];simp at h;subst h;rfl
   ·simp at h
  ·simp at h
theorem pV{N:Nat}{tm aC:T AV}{dst:Option Nat}{v:AV}{V:Value}(h:tD N tm dst v=some aC){ρ:aR}{a:Act}(hN:a.tmps.size=N)(ht:TR ρ tm a.tmps)(hv:VR ρ v V):
 TR ρ aC (a.put dst V).tmps/\(a.put dst V).tmps.size=N/\(a.put dst V).defers=a.defers:=by
 unfold tD at h;split at h
 ·simp at h;subst h;exact⟨ht,hN,rfl⟩
 ·rename_i d;cases hb:Nat.ble (d+1) N
  ·rw[hb]at h;simp at h
  ·rw[hb]at h;simp at h;subst h;have:=Nat.le_of_ble_eq_true hb;exact⟨TR.set ht (by omega) hv,by simp[Act.put,hN],rfl⟩
def Clean(B:Nat)(w:World):List Deferred->Prop
 | []=>True
 |d::ds=>(∃D,d={target:=.collected D,args:= #[]}/\B<=D/\w.heap[D]?=some (.deferred (some []))/\∀e∈ds,e≠d)/\Clean B w ds
theorem HR.not_def{ρ:aR}{g:Nat->Option AO}{w:World}(hr:HR ρ g w){D:Nat}{x:Option (List Deferred)}(hD:w.heap[D]?=some (.deferred x)):∀a o l,g a=some o->o.live=true->ρ a=some l->l.b9≠D:=by
 intro a o l h1 h2 h3 e;obtain⟨_,k⟩:=hr.obj a o l h1 h2 h3;rw[←e]at hD;cases o with
 |row cells len t=>obtain⟨_,c,k1,_⟩:=k;rw[hD]at k1;simp at k1
 |map es clock=>obtain⟨ES,_,k1⟩:=k;rw[hD]at k1;simp at k1
 |iter m since seen last=>obtain⟨_,M,k1,_⟩:=k;rw[hD]at k1;simp at k1
 |loop st fZ tm N ps assign body=>obtain⟨tmps,fn,D',_,_,k1⟩:=k;rw[hD]at k1;simp at k1
 |Aw cells=>obtain⟨c,t,f,k1,_⟩:=k;rw[hD]at k1;simp at k1
 |dead=>simp[AO.live]at h2
theorem Clean.nx{B:Nat}{ρ ρ':aR}{g g':Nat->Option AO}{w w':World}(hr:HR ρ g w)(hn:Nx ρ g w ρ' g' w'):∀{ds:List Deferred},Clean B w ds->Clean B w' ds
 | [],_=>trivial
 |d::ds,h=>by
  obtain⟨⟨D,h1,h2,h3,h4⟩,h5⟩:=h;refine⟨⟨D,h1,h2,?_,h4⟩,Clean.nx hr hn h5⟩;rw[hn.frame D (Array.getElem?_eq_some_iff.1 h3).1 fun a o l k1 k2 k3=>hr.not_def h3 a o l k1 (AO.gz k2) k3];exact h3
structure St(B N:Nat)(ρ:aR)(tm:T AV)(h:H)(a:Act)(w:World):Prop where
 tr:TR ρ tm a.tmps
 hr:HR ρ h.t.get w
 fresh:cC ρ h.next
 size:a.tmps.size=N
 defers:Clean B w a.defers
 base:B<=w.heap.size
def wpOpIn(F:Fence)(n:Nat)(P:Program)(ops:Array Oper)(Q:Exit->Act->World->Prop)(i:Nat)(K:Act->World->Prop)(a:Act)(w:World):Prop:=
 match ops[i]? with
 |none=>K a w
 |some o=>if Region.wanted o (yielded ops a.tmps)then o.wpIn F n P a w K Q else(∀f,o.about P w a.eval=some f->F.fn f)/\K (a.put o.dst undef) w
theorem wpOpsIn_cons{F:Fence}{n:Nat}{P:Program}{ops:Array Oper}{Q:Exit->Act->World->Prop}(i:Nat)(rest:List Nat)(a:Act)(w:World):
 wpOpsIn F n P ops Q (i::rest) a w=wpOpIn F n P ops Q i (wpOpsIn F n P ops Q rest) a w:=by
 simp only[wpOpsIn,wpOpIn];cases ops[i]?<;>rfl
theorem um{r:Option Nat}{P:Program}{call:ab}(aO:bF true P call){ops:Array Oper}{B N:Nat}{tm aC:T AV}{h h':H}{o:Oper}(he:mr P call ops.toList N tm h o=some (aC,h')){ρ:aR}{a:Act}{w:World}(hs:St B N ρ tm h a w)
 {i:Nat} (hi:ops[i]?=some o) {Q:Exit->Act->World->Prop} {K:Act->World->Prop} (hK:∀ρ' a' w',St B N ρ' aC h' a' w'->Way ρ h w ρ' h' w'->K a' w'):wpOpIn (Ds r) 0 P ops Q i K a w:=by
 unfold wpOpIn;simp only[hi];unfold mr at he;split at he
 ·rename_i hw;rw[eP hw hs.tr,if_pos rfl];split at he
  ·rename_i c hc;split at he
   ·rename_i v h2 hv;split at he
    ·rename_i dC hp;simp at he;obtain⟨rfl,rfl⟩:=he;refine(xe aO hc hv hs.tr hs.hr hs.fresh).wpIn (HM hc) fun ρ' w' V k1 k2=>?_
     obtain⟨j1,j2,j3⟩:=pV hp hs.size (hs.tr.mono k2.nx.le) k1;exact hK ρ' _ w' ⟨j1,k2.nx.rel,k2.fresh,j2,by rw[j3];exact hs.defers.nx hs.hr k2.nx,Nat.le_trans hs.base k2.nx.size⟩ k2
    ·simp at he
   ·simp at he
  ·simp at he
 ·rename_i hw;rw[eP hw hs.tr,if_neg (by simp)];split at he
  ·rename_i dC hp;simp at he;obtain⟨rfl,rfl⟩:=he;obtain⟨j1,j2,j3⟩:=pV (V:=undef) hp hs.size hs.tr (by simp only[VR];exact⟨[],rfl,rfl⟩);exact⟨fun _ _=>trivial,hK ρ _ w ⟨j1,hs.hr,hs.fresh,j2,by rw[j3];exact hs.defers,hs.base⟩ (Way.refl hs.hr hs.fresh)⟩
  ·simp at he
 ·simp at he
theorem iO{r:Option Nat}{P:Program}{call:ab}(aO:bF true P call){ops:Array Oper}{B N:Nat}{Q:Exit->Act->World->Prop}:∀{l:List Oper} {i:Nat} {tm aC:T AV} {h h':H},ops.toList.drop i=l->ni P call ops.toList N l tm h=some (aC,h')->
 ∀{ρ:aR} {a:Act} {w:World},St B N ρ tm h a w->(∀ρ' a' w',St B N ρ' aC h' a' w'->Way ρ h w ρ' h' w'->Q .normal a' w')->wpOpsIn (Ds r) 0 P ops Q (List.range' i l.length) a w
 | [],i,tm,aC,h,h',hl,he,ρ,a,w,hs,hQ=>by
   simp[ni]at he;obtain⟨rfl,rfl⟩:=he;exact hQ ρ a w hs (Way.refl hs.hr hs.fresh)
 |o::l,i,tm,aC,h,h',hl,he,ρ,a,w,hs,hQ=>by
  unfold ni at he;split at he
  ·rename_i dC h2 h1;have hi:ops[i]?=some o:=by
        have:(ops.toList.drop i)[0]?=some o:=by rw[hl];rfl
        simpa using this
   have CR:ops.toList.drop (i+1)=l:=by
        rw[←List.drop_drop,hl];rfl
   simp only[List.length_cons,List.range'_succ,wpOpsIn_cons];refine um aO h1 hs hi fun ρ' a' w' k1 k2=>?_
   exact iO aO CR he k1 fun ρ'' PQ uK j1 j2=>hQ _ _ _ j1 (k2.trans j2)
  ·simp at he
inductive Ex where
 |normal
 |exit (id:Nat)
 |goto (l:Nat)
 |ret
def Ex.out:Ex->Exit
 | .normal=>.normal
 | .exit id=>.exit id
 | .goto l=>.goto l
 | .ret=>.ret
abbrev eQ:=ab->List Oper->Nat->T AV->H->Option (T AV×H)
def aG(P:Program)(c:Code)(N:Nat)(tm:T AV)(h:H)(ex:Ex)(aC:T AV)(h':H):Prop:=
 ∀B ρ a w,St B N ρ tm h a w->c.wp P (fun e a' w'=>e=ex.out/\∃ρ',St B N ρ' aC h' a' w'/\Way ρ h w ρ' h' w') a w
def xg(P:Program)(c:Code)(N:Nat)(tm:T AV)(h:H)(ex:Ex)(aC:T AV)(h':H):Prop:=
 ∀r B ρ a w,St B N ρ tm h a w->c.wpIn (Ds r) 0 P (fun e a' w'=>e=ex.out/\∃ρ',St B N ρ' aC h' a' w'/\Way ρ h w ρ' h' w') a w
theorem xg.adp{P:Program}{c:Code}{N:Nat}{tm aC:T AV}{h h':H}{ex:Ex}(hd:xg P c N tm h ex aC h'):aG P c N tm h ex aC h':=
 fun B ρ a w hs=>(wpIn_wide (n:=0)).1 (hd none B ρ a w hs)
def nj(P:Program)(draw:eQ):Prop:=
 ∀call,bF true P call->∀(id:Nat) (ops:Array Oper) N tm h aC h',draw call ops.toList N tm h=some (aC,h')->xg P (.region id ops true) N tm h .normal aC h'
abbrev kS:=T AV->H->Option (Ex×T AV×H)
def mJ(P:Program)(f:FuncId):Bool:=match P.funcs[f]? with
 |some fn=>(fn.name== "runtime.NumGoroutine")==false&&fn.body.isSome
 |none=>false
theorem mc{P:Program}{f:FuncId}(h:mJ P f=true):∃fn c,P.funcs[f]?=some fn/\(fn.name== "runtime.NumGoroutine")=false/\fn.body=some c:=by
 unfold mJ at h;split at h
 ·rename_i fn hf;rw[Bool.and_eq_true]at h;obtain⟨c,hc⟩:=Option.isSome_iff_exists.1 h.2;exact⟨fn,c,hf,by simpa using h.1,hc⟩
 ·simp at h
theorem bm{P:Program}{f:FuncId}{fn:Func}{c:Code}(hf:P.funcs[f]?=some fn)(sm:(fn.name== "runtime.NumGoroutine")=false)(hb:fn.body=some c)(args:Array Value)(w:World):
 (callFunc f args).run P w=.ok (.enter f args) w:=by
 have h1:fn.name≠ "runtime.NumGoroutine":=by simpa using sm
 simp[callFunc,hf,h1,hb]
def fX(P:Program)(draw:eQ)(call:ab)(N:Nat)(c:Code):kS:=
 Code.rec (motive:=fun _=>kS)
    (fun tm h=>some (.normal,tm,h))
    (fun id ops d tm h=>match d with
      |false=>match ni P call ops.toList N ops.toList tm h with
       |some (aC,h')=>some (.normal,aC,h')
       |none=>none
      |true=>match draw call ops.toList N tm h with
       |some (aC,h')=>some (.normal,aC,h')
       |none=>none)
    (fun a b Du HN tm h=>match Du tm h with
      |some (.normal,aC,h')=>HN aC h'
      |r=>r)
    (fun c x y uN xh tm h=>match aP c with
      |some c=>match cV tm c with
       |some (.bool true)=>uN tm h
       |some (.bool false)=>xh tm h
       |_=>none
      |none=>none)
    (fun id body ih tm h=>match ih tm h with
      |some (.exit j,aC,h')=>cond (Nat.beq j id) (some (.normal,aC,h')) (some (.exit j,aC,h'))
      |r=>r)
    (fun body ih tm h=>none)
    (fun f ps x y uN xh tm h=>none)
    (fun id tm h=>some (.exit id,tm,h))
    (fun body ih tm h=>none)
    (fun l tm h=>some (.normal,tm,h))
    (fun l tm h=>none)
    (fun tm h=>some (.ret,tm,h))
    (fun why tm h=>none)
    c
theorem gj{P:Program}{c:Code}{N:Nat}{tm aC:T AV}{h h':H}{ex:Ex}(hd:xg P c N tm h ex aC h'){r:Option Nat}{B:Nat}{ρ:aR}{a:Act}{w:World}(hs:St B N ρ tm h a w){Q:Exit->Act->World->Prop}
 (hQ:∀ρ' a' w',St B N ρ' aC h' a' w'->Way ρ h w ρ' h' w'->Q ex.out a' w'):c.wpIn (Ds r) 0 P Q a w:=
 wpIn_mono (hd r B ρ a w hs) fun e a' w' hh=>by
  obtain⟨rfl,ρ',k1,k2⟩:=hh;exact hQ _ _ _ k1 k2
theorem uo{P:Program}{draw:eQ}(iv:nj P draw){call:ab}(aO:bF true P call)(N:Nat):∀(c:Code) tm h ex aC h',fX P draw call N c tm h=some (ex,aC,h')->xg P c N tm h ex aC h':=by
 intro c
 induction c with
 |skip=>
  intro tm h ex aC h' he r B ρ a w hs;simp only[fX,Option.some.injEq,Prod.mk.injEq]at he;obtain⟨rfl,rfl,rfl⟩:=he;exact wpIn_skip ⟨rfl,ρ,hs,Way.refl hs.hr hs.fresh⟩
 |region id ops d=>
  intro tm h ex aC h' he;simp only[fX]at he;split at he
  ·split at he
   ·rename_i dC h2 h1;simp only[Option.some.injEq,Prod.mk.injEq]at he;obtain⟨rfl,rfl,rfl⟩:=he;intro r B ρ a w hs;refine wpIn_region ?_
    rw[List.range_eq_range'];have:=iO (r:=r) (Q:=fun e a' w'=>e=Ex.normal.out/\∃ρ',St B N ρ' dC h2 a' w'/\Way ρ h w ρ' h2 w') aO (i:=0) (by simp) h1 hs (fun ρ' a' w' k1 k2=>⟨rfl,ρ',k1,k2⟩);simpa using this
   ·simp at he
  ·split at he
   ·rename_i dC h2 h1;simp only[Option.some.injEq,Prod.mk.injEq]at he;obtain⟨rfl,rfl,rfl⟩:=he;exact iv call aO id ops N tm h dC h2 h1
   ·simp at he
 |seq x y uN xh=>
  intro tm h ex aC h' he r B ρ a w hs
  change(match fX P draw call N x tm h with
   |some (.normal,aC,h')=>fX P draw call N y aC h'
   |r=>r)=_ at he
  split at he
  ·rename_i dC h2 h1;refine wpIn_seq (gj (uN _ _ _ _ _ h1) hs fun ρ' a' w' k1 k2=>?_);refine gj (xh _ _ _ _ _ he) k1 fun ρ'' PQ uK j1 j2=>⟨rfl,ρ'',j1,k2.trans j2⟩
  ·rename_i r' hr;have hex:ex≠.normal:=by
      rintro rfl;exact hr _ _ (by rw[he])
   refine wpIn_seq (gj (uN _ _ _ _ _ he) hs fun ρ' a' w' k1 k2=>?_);cases ex with
   |normal=>exact absurd rfl hex
   |exit id=>exact⟨rfl,ρ',k1,k2⟩
   |goto l=>exact⟨rfl,ρ',k1,k2⟩
   |ret=>exact⟨rfl,ρ',k1,k2⟩
 |cond c x y uN xh=>
  intro tm h ex aC h' he r B ρ a w hs
  change(match aP c with
   |some c=>match cV tm c with
    |some (.bool true)=>fX P draw call N x tm h
    |some (.bool false)=>fX P draw call N y tm h
    |_=>none
   |none=>none)=_ at he
  split at he
  ·rename_i c' hc;split at he
   ·rename_i hv;have:=ai hs.tr hc hv;simp only[VR]at this;exact wpIn_cond_true this (uN _ _ _ _ _ he r B ρ a w hs)
   ·rename_i hv;have:=ai hs.tr hc hv;simp only[VR]at this;exact wpIn_cond_false this (xh _ _ _ _ _ he r B ρ a w hs)
   ·simp at he
  ·simp at he
 |block id body ih=>
  intro tm h ex aC h' he r B ρ a w hs
  change(match fX P draw call N body tm h with
   |some (Ex.exit j,aC,h')=>cond (Nat.beq j id) (some (Ex.normal,aC,h')) (some (Ex.exit j,aC,h'))
   |r=>r)=(_:Option (Ex×T AV×H))at he
  split at he
  ·rename_i j dC h2 h1;refine wpIn_block (gj (ih _ _ _ _ _ h1) hs fun ρ' a' w' k1 k2=>?_);cases hb:Nat.beq j id
   ·rw[hb]at he;simp only[cond_false,Option.some.injEq,Prod.mk.injEq]at he;obtain⟨rfl,rfl,rfl⟩:=he;have dB:j≠id:=fun e=>by subst e;simp at hb
    simp only[Ex.out,Exit.inBlock,dB,if_false];exact⟨trivial,ρ',k1,k2⟩
   ·rw[hb]at he;simp only[cond_true,Option.some.injEq,Prod.mk.injEq]at he;obtain⟨rfl,rfl,rfl⟩:=he;have:=Nat.eq_of_beq_eq_true hb;subst this;simp only[Ex.out,Exit.inBlock,if_true];exact⟨trivial,ρ',k1,k2⟩
  ·rename_i r' hr;refine wpIn_block (gj (ih _ _ _ _ _ he) hs fun ρ' a' w' k1 k2=>?_);cases ex with
   |normal=>exact⟨rfl,ρ',k1,k2⟩
   |exit j=>exact absurd (by rw[he]) (hr j _ _)
   |goto l=>exact⟨rfl,ρ',k1,k2⟩
   |ret=>exact⟨rfl,ρ',k1,k2⟩
 |exit id=>
  intro tm h ex aC h' he r B ρ a w hs;simp only[fX,Option.some.injEq,Prod.mk.injEq]at he;obtain⟨rfl,rfl,rfl⟩:=he;exact wpIn_exit ⟨rfl,ρ,hs,Way.refl hs.hr hs.fresh⟩
 |label l=>
  intro tm h ex aC h' he r B ρ a w hs;simp only[fX,Option.some.injEq,Prod.mk.injEq]at he;obtain⟨rfl,rfl,rfl⟩:=he;exact wpIn_label ⟨rfl,ρ,hs,Way.refl hs.hr hs.fresh⟩
 |ret=>
  intro tm h ex aC h' he r B ρ a w hs;simp only[fX,Option.some.injEq,Prod.mk.injEq]at he;obtain⟨rfl,rfl,rfl⟩:=he;exact wpIn_ret ⟨rfl,ρ,hs,Way.refl hs.hr hs.fresh⟩
 |loop body ih=>intro tm h ex aC h' he;simp[fX]at he
 |rangeFunc f ps x y uN xh=>intro tm h ex aC h' he;simp[fX]at he
 |scope body ih=>intro tm h ex aC h' he;simp[fX]at he
 |goto l=>intro tm h ex aC h' he;simp[fX]at he
 |refuse why=>intro tm h ex aC h' he;simp[fX]at he
def iP(fZ:Option Code)(tm:T AV)(h:H):Option (Ex×T AV×H):=match fZ with
 |none=>some (.normal,tm,h)
 |some .ret=>some (.ret,tm,h)
 |some (.exit id)=>some (.exit id,tm,h)
 |some _=>none
def xi(P:Program)(call:ab)(N:Nat)(ps:List Nat)(x y:Code)(fv:AV)(tm:T AV)(h:H):Option (Ex×T AV×H):=match fv with
 | .fn fn first captured=>match Lt P (h.t.set h.next (.loop .ready none tm N ps x y)).get fn (first++[.Wq h.next]) captured with
   |some (g,as)=>match Nat.ble dW g with
    |true=>none
    |false=>match mJ P g with
     |false=>none
     |true=>match call g as ⟨h.next+1,h.t.set h.next (.loop .ready none tm N ps x y)⟩with
      |some (_,h2)=>match h2.t.get h.next with
       |some (.loop .ready fZ _ _ _ _ _)=>iP fZ tm ⟨h2.next,h2.t.set h.next .dead⟩
       |some (.loop .done fZ _ _ _ _ _)=>iP fZ tm ⟨h2.next,h2.t.set h.next .dead⟩
       |_=>none
      |none=>none
   |none=>none
 |_=>none
def Dv(body:kS)(n:Nat):kS:=
 Nat.rec (motive:=fun _=>kS) (fun _ _=>none) (fun _ ih tm h=>match body tm h with
    |some (.normal,aC,h')=>ih aC h'
    |r=>r) n
def iw(P:Program)(draw:eQ)(call:ab)(N fuel:Nat)(HO:Code->kS)(c:Code):kS:=
 Code.rec (motive:=fun _=>kS)
    (fun tm h=>some (.normal,tm,h))
    (fun id ops d tm h=>match d with
      |false=>match ni P call ops.toList N ops.toList tm h with
       |some (aC,h')=>some (.normal,aC,h')
       |none=>none
      |true=>match draw call ops.toList N tm h with
       |some (aC,h')=>some (.normal,aC,h')
       |none=>none)
    (fun a b Du HN tm h=>match Du tm h with
      |some (.normal,aC,h')=>HN aC h'
      |r=>r)
    (fun c x y uN xh tm h=>match aP c with
      |some c=>match cV tm c with
       |some (.bool true)=>uN tm h
       |some (.bool false)=>xh tm h
       |_=>none
      |none=>none)
    (fun id body ih tm h=>match ih tm h with
      |some (.exit j,aC,h')=>cond (Nat.beq j id) (some (.normal,aC,h')) (some (.exit j,aC,h'))
      |r=>r)
    (fun body ih tm h=>Dv ih fuel tm h)
    (fun f ps x y uN xh tm h=>match aP f with
      |some f=>match cV tm f with
       |some fv=>xi P call N ps.toList x y fv tm h
       |none=>none
      |none=>none)
    (fun id tm h=>some (.exit id,tm,h))
    (fun body ih tm h=>match ih tm h with
      |some (.goto l,aC,h')=>match findLabel body l with
       |some rest=>match HO rest aC h' with
        |some (.goto _,_,_)=>none
        |r=>r
       |none=>none
      |r=>r)
    (fun l tm h=>some (.normal,tm,h))
    (fun l tm h=>some (.goto l,tm,h))
    (fun tm h=>some (.ret,tm,h))
    (fun why tm h=>none)
    c
def xj(P:Program)(tm:T AV)(g:Nat->Option AO):List ResultVar->Option (List AV)
 | []=>some []
 |r::l=>match(match r with
   | .tmp t=>tm.get t
   | .cell a t=>match tm.get a,kF P t with
     |some (.ptr p o),some agg=>uT g agg p o
     |_,_=>none)with
  |some v=>match xj P tm g l with
   |some vs=>some (v::vs)
   |none=>none
  |none=>none
def fk:List AV->AV
 | [v]=>v
 |l=>.aE l
theorem cd{P:Program}{c:Code}{N:Nat}{tm aC:T AV}{h h':H}{ex:Ex}(hd:aG P c N tm h ex aC h'){B:Nat}{ρ:aR}{a:Act}{w:World}(hs:St B N ρ tm h a w){Q:Exit->Act->World->Prop}
 (hQ:∀ρ' a' w',St B N ρ' aC h' a' w'->Way ρ h w ρ' h' w'->Q ex.out a' w'):c.wp P Q a w:=
 wp_mono (hd B ρ a w hs) fun e a' w' hh=>by
  obtain⟨rfl,ρ',k1,k2⟩:=hh;exact hQ _ _ _ k1 k2
theorem Clean.lt{B:Nat}{w:World}:∀{ds:List Deferred},Clean B w ds->∀e∈ds,∃D,e={target:=.collected D,args:= #[]}/\B<=D/\D<w.heap.size
 | [],_,e,he=>by simp at he
 |d::ds,h,e,he=>by
  obtain⟨⟨D,h1,h2,h3,_⟩,h5⟩:=h;rcases List.mem_cons.1 he with rfl|he
  ·exact⟨D,h1,h2,(Array.getElem?_eq_some_iff.1 h3).1⟩
  ·exact Clean.lt h5 e he
theorem PS{ρ:aR}{g:Nat->Option AO}{w:World}(h:HR ρ g w)(obj:Obj):Nx ρ g w ρ g (w.alloc obj):=by
 have hold:∀r,r<w.heap.size->(w.alloc obj).heap[r]?=w.heap[r]?:=fun r hr=>by
  simp only[World.alloc,Array.getElem?_push];rw[if_neg (by omega)]
 exact⟨⟨fun a o l h1 h2 h3=>by
  obtain⟨k1,k2⟩:=h.obj a o l h1 h2 h3;exact⟨by simp;omega,uJ.congr (hold _ k1) k2⟩,h.inj⟩,Le.refl _,⟨rfl,rfl,rfl⟩,by simp,fun r hr _=>hold r hr,fun a o l h1 h2 h3 _=>⟨a,o,l,h1,h2,h3,rfl⟩⟩
theorem BG{P:Program}{call:ab}(aO:bF true P call){N:Nat}{f:Operand}{ps:Array Tmp}{x y:Code}{f':cg}(hf:aP f=some f'){tm aC:T AV}{h h':H}{fv:AV}(hv:cV tm f'=some fv){ex:Ex}(he:xi P call N ps.toList x y fv tm h=some (ex,aC,h'))
 {B:Nat} {ρ:aR} {a:Act} {w:World} (hs:St B N ρ tm h a w):(Code.rangeFunc f ps x y).wp P (fun e a' w'=>e=ex.out/\∃ρ',St B N ρ' aC h' a' w'/\Way ρ h w ρ' h' w') a w:=by
 have hfv:=ai hs.tr hf hv;unfold xi at he;split at he
 ·rename_i fn first captured
  split at he
  ·rename_i g as aob;split at he
   ·simp at he
   ·rename_i tE;split at he
    ·simp at he
    ·rename_i E1;split at he
     ·rename_i aoc h2 hc;obtain⟨fnd,asv,Ii,xZ,hg3⟩:=mc E1;simp only[VR]at hfv;obtain⟨FI,CA,hFI,hCA,aod⟩:=hfv;refine(wpIn_wide (n:=0)).1 (wpIn_rangeFunc fun adr _=>?_);obtain⟨rec,wT⟩:∃rec:Loop,rec={state:=.ready,pending:=none,fn:=adr,tmps:=a.tmps,params:=ps,assign:=x,body:=y,defers:=w.heap.size}:=⟨_,rfl⟩;obtain⟨w0,CG⟩:∃w0,w0=w.alloc (.deferred (some [])):=⟨_,rfl⟩;obtain⟨w1,AI⟩:∃w1,w1=w0.alloc (.loop rec):=⟨_,rfl⟩;have ads:w0.heap.size=w.heap.size+1:=by rw[CG];simp
      have hρ:ρ h.next=none:=hs.fresh _ (Nat.le_refl _);have yJ:Nx ρ h.t.get w ρ h.t.get w0:=by rw[CG];exact PS hs.hr _
      have eW:Nx ρ h.t.get w0 (lq ρ h.next ⟨w0.heap.size,0,0⟩) (h.t.set h.next (.loop .ready none tm N ps.toList x y)).get w1:=by
       rw[AI];refine tq yJ.rel hρ rfl (fun b=>T.ay _ _ _ _) ⟨a.tmps,adr,w.heap.size,fun i v hi=>?_,hs.size,?_⟩
       ·obtain⟨k1,k2⟩:=hs.tr i v hi;exact⟨k1,VR.mono (lI hρ) _ _ k2⟩
       ·show(w0.heap.push _)[w0.heap.size]?=_
        rw[wT];simp
      have pH:Way ρ h w (lq ρ h.next ⟨w0.heap.size,0,0⟩) ⟨h.next+1,h.t.set h.next (.loop .ready none tm N ps.toList x y)⟩ w1:=
       Way.trans (h':=h) ⟨yJ,hs.fresh,Kp.refl _ _⟩ (rX hs.fresh eW)
      obtain⟨ρ1,hρ1⟩:∃ρ1,ρ1=lq ρ h.next ⟨w0.heap.size,0,0⟩:=⟨_,rfl⟩;have EB:ρ1 h.next=some ⟨w0.heap.size,0,0⟩:=by rw[hρ1];exact cK hρ
      rw[←hρ1]at pH;have Wu:Le ρ ρ1:=pH.nx.le;obtain⟨AS,hAS,hinv⟩:=xa (P:=P) pH.nx.rel aob (bE.append (bE.mono Wu _ _ hFI) (show bE ρ1 [.Wq h.next] [.func (.yield w0.heap.size) #[] #[]]from⟨_,[],⟨_,EB,rfl⟩,rfl,rfl⟩)) (bE.mono Wu _ _ hCA);have adt:=aO g as _ _ _ hc ρ1 w1 AS hAS pH.nx.rel pH.fresh;have BH:=bm Ii xZ hg3 AS.toArray w1;have xf:Calls P g AS.toArray w1 fun e w'=>∃ρ' V,e=.returned V/\VR ρ' aoc V/\Way ρ1 ⟨h.next+1,h.t.set h.next (.loop .ready none tm N ps.toList x y)⟩ w1 ρ' h2 w':=by
       rcases adt with⟨_,(⟨ρ',w',V,hh|⟨hh,_⟩,_⟩|⟨g',as',hh,vI⟩)⟩|⟨_,hk,_⟩
       ·rw[BH]at hh;simp at hh
       ·rw[BH]at hh;simp at hh
       ·rw[BH]at hh;simp at hh;obtain⟨rfl,rfl⟩:=hh;exact vI
       ·rw[tE]at hk;simp at hk
      refine⟨w0.heap.size,[{target:=.collected w.heap.size,args:= #[]}],w1,{target:=.fn fn CA.toArray,args:=(FI++[Value.func (Fn.yield w0.heap.size) #[] #[]]).toArray},w1,g,AS.toArray,w1,?_,?_,fun _ _=>trivial,?_,fun hh=>by simp[Fence.wide]at hh,?_⟩
      ·rw[AI,wT,ads,CG];exact run_enterLoop_outer _ _ _ _ _
      ·simp only[resolve,rangeCall,aod,Deferred.ofValue];simp[Act.eval]
      ·rw[hinv,BH]
      ·refine callsIn_wide.2 (Calls.mono xf fun e w3 hh=>?_);obtain⟨ρ2,V,rfl,_,uO⟩:=hh;have GR:ρ2 h.next=some ⟨w0.heap.size,0,0⟩:=uO.nx.le _ _ EB;have key:∀st fZ Rp NL LF xL yL,h2.t.get h.next=some (.loop st fZ Rp NL LF xL yL)->st≠.busy->iP fZ tm ⟨h2.next,h2.t.set h.next .dead⟩=some (ex,aC,h')->
        rangePost Fence.wide 0 P w0.heap.size (fun e a' w'=>e=ex.out/\∃ρ',St B N ρ' aC h' a' w'/\Way ρ h w ρ' h' w') {a with defers:=[{target:=.collected w.heap.size,args:= #[]}]++a.defers} (.returned V) w3:=by
              intro st fZ Rp NL LF xL yL mD ri E2;obtain⟨hb,LG,fn3,D3,aof,hN3,WV⟩:=uO.nx.rel.obj _ _ _ mD rfl GR;obtain⟨w4,hw4⟩:∃w4,w4=w3.putObj w0.heap.size (.loop {state:=.exhausted,pending:=fZ,fn:=fn3,tmps:=LG,params:=LF.toArray,assign:=xL,body:=yL,defers:=D3}):=⟨_,rfl⟩;have gf:(Instr.endLoop w0.heap.size).run P w3=.ok fZ w4:=by
               rw[hw4];exact run_endLoop (r:={state:=st,pending:=fZ,fn:=fn3,tmps:=LG,params:=LF.toArray,assign:=xL,body:=yL,defers:=D3}) WV ri
              have nxa:Nx ρ2 h2.t.get w3 ρ2 (h2.t.set h.next (.loop .exhausted fZ Rp NL LF xL yL)).get w4:=by
               rw[hw4];refine lH uO.nx.rel mD rfl GR (fun b=>T.ay _ _ _ _) ⟨rfl,rfl,rfl⟩ (by simp) (fun r hr=>World.putObj_heap_other hr) rfl ⟨LG,fn3,D3,aof,hN3,?_⟩;exact World.putObj_heap_same hb
              have nxb:Nx ρ2 (h2.t.set h.next (.loop .exhausted fZ Rp NL LF xL yL)).get w4 ρ2 (h2.t.set h.next .dead).get w4:=
               Nx.kill nxa.rel (a:=h.next) fun b=>by
                 rw[T.ay,T.ay]
                 by_cases e:b=h.next<;>simp[e]
              have PU:Way ρ2 h2 w3 ρ2 ⟨h2.next,h2.t.set h.next .dead⟩ w4:=eY uO.fresh GR (nxa.trans nxb);have nm:=pH.trans (uO.trans PU);have hD1:w1.heap[w.heap.size]?=some (.deferred (some [])):=by
               rw[AI];have e0:(w0.alloc (.loop rec)).heap[w.heap.size]?=w0.heap[w.heap.size]?:=by
                 simp only[World.alloc,Array.getElem?_push];rw[if_neg (by rw[ads];omega)]
               rw[e0];rw[CG];exact World.alloc_heap_new w _
              have PV:Clean B w1 ({target:=.collected w.heap.size,args:= #[]}::a.defers):=by
               refine⟨⟨w.heap.size,rfl,hs.base,hD1,fun e ME ee=>?_⟩,hs.defers.nx hs.hr pH.nx⟩;obtain⟨D,hD,_,df⟩:=hs.defers.lt e ME;rw[ee]at hD;simp at hD;omega
              have ri:St B N ρ2 tm ⟨h2.next,h2.t.set h.next .dead⟩ {a with defers:=[{target:=.collected w.heap.size,args:= #[]}]++a.defers} w4:=
               ⟨hs.tr.mono nm.nx.le,PU.nx.rel,PU.fresh,hs.size,PV.nx pH.nx.rel (uO.nx.trans PU.nx),Nat.le_trans hs.base nm.nx.size⟩
              refine⟨fZ,w4,gf,?_⟩;cases fZ with
              |none=>
               simp[iP]at E2;obtain⟨rfl,rfl,rfl⟩:=E2;exact⟨rfl,ρ2,ri,nm⟩
              |some c=>
               cases c with
               |ret=>
                simp[iP]at E2;obtain⟨rfl,rfl,rfl⟩:=E2;exact wpIn_ret ⟨rfl,ρ2,ri,nm⟩
               |exit id=>
                simp[iP]at E2;obtain⟨rfl,rfl,rfl⟩:=E2;exact wpIn_exit ⟨rfl,ρ2,ri,nm⟩
               |_=>simp[iP]at E2
       split at he
       ·rename_i mD;exact key _ _ _ _ _ _ _ mD (by simp) he
       ·rename_i mD;exact key _ _ _ _ _ _ _ mD (by simp) he
       ·simp at he
     ·simp at he
  ·simp at he
 ·simp at he
theorem uq{P:Program}{c:Code}{N:Nat}{body:kS}(hb:∀tm h ex aC h',body tm h=some (ex,aC,h')->aG P c N tm h ex aC h'):
 ∀n tm h ex aC h',Dv body n tm h=some (ex,aC,h')->ex≠.normal/\∀B ρ a w,St B N ρ tm h a w->Code.rounds P c (fun e a' w'=>e=ex.out/\∃ρ',St B N ρ' aC h' a' w'/\Way ρ h w ρ' h' w') n a w
 |0,tm,h,ex,aC,h',he=>by simp[Dv]at he
 |n+1,tm,h,ex,aC,h',he=>by
  change(match body tm h with
   |some (.normal,aC,h')=>Dv body n aC h'
   |r=>r)=_ at he
  split at he
  ·rename_i dC h2 h1;obtain⟨k1,k2⟩:=uq hb n dC h2 ex aC h' he;refine⟨k1,fun B ρ a w hs=>?_⟩;rw[Code.rounds];refine cd (hb _ _ _ _ _ h1) hs fun ρ' a' w' j1 j2=>?_
   have key:∀m a w Q Q',(∀e a w,Q e a w->Q' e a w)->Code.rounds P c Q m a w->Code.rounds P c Q' m a w:=by
    intro m
    induction m with
    |zero=>intro a w Q Q' hq hh;exact hh
    |succ m ih=>
     intro a w Q Q' hq hh;refine wp_mono hh fun e a w he=>?_
     cases e<;>first
      |exact ih _ _ _ _ hq he
      |exact hq _ _ _ he
   exact key n a' w' _ _ (fun e a w hh=>by
    obtain⟨e1,ρ'',m1,m2⟩:=hh;exact⟨e1,ρ'',m1,j2.trans m2⟩) (k2 B ρ' a' w' j1)
  ·rename_i r hr;have hex:ex≠.normal:=by
    rintro rfl;exact hr _ _ (by rw[he])
   refine⟨hex,fun B ρ a w hs=>?_⟩;rw[Code.rounds];refine cd (hb _ _ _ _ _ he) hs fun ρ' a' w' j1 j2=>?_
   cases ex with
   |normal=>exact absurd rfl hex
   |exit id=>exact⟨rfl,ρ',j1,j2⟩
   |goto l=>exact⟨rfl,ρ',j1,j2⟩
   |ret=>exact⟨rfl,ρ',j1,j2⟩
theorem ur{P:Program}{draw:eQ}(iv:nj P draw){call:ab}(aO:bF true P call)(N fuel:Nat){HO:Code->kS}(hgo:∀(c:Code) tm h ex aC h',HO c tm h=some (ex,aC,h')->aG P c N tm h ex aC h'):∀(c:Code) tm h ex aC h',iw P draw call N fuel HO c tm h=some (ex,aC,h')->aG P c N tm h ex aC h':=by
 intro c
 induction c with
 |skip=>
  intro tm h ex aC h' he B ρ a w hs;simp only[iw,Option.some.injEq,Prod.mk.injEq]at he;obtain⟨rfl,rfl,rfl⟩:=he;exact wp_skip ⟨rfl,ρ,hs,Way.refl hs.hr hs.fresh⟩
 |region id ops d=>
  intro tm h ex aC h' he;simp only[iw]at he;split at he
  ·split at he
   ·rename_i dC h2 h1;simp only[Option.some.injEq,Prod.mk.injEq]at he;obtain⟨rfl,rfl,rfl⟩:=he;intro B ρ a w hs;refine(wpIn_wide (n:=0)).1 (wpIn_region (F:=Ds none) ?_);rw[List.range_eq_range'];have:=iO (r:=none) (Q:=fun e a' w'=>e=Ex.normal.out/\∃ρ',St B N ρ' dC h2 a' w'/\Way ρ h w ρ' h2 w') aO (i:=0) (by simp) h1 hs (fun ρ' a' w' k1 k2=>⟨rfl,ρ',k1,k2⟩);simpa using this
   ·simp at he
  ·split at he
   ·rename_i dC h2 h1;simp only[Option.some.injEq,Prod.mk.injEq]at he;obtain⟨rfl,rfl,rfl⟩:=he;exact(iv call aO id ops N tm h dC h2 h1).adp
   ·simp at he
 |seq x y uN xh=>
  intro tm h ex aC h' he B ρ a w hs
  change(match iw P draw call N fuel HO x tm h with
   |some (.normal,aC,h')=>iw P draw call N fuel HO y aC h'
   |r=>r)=_ at he
  split at he
  ·rename_i dC h2 h1;refine wp_seq (cd (uN _ _ _ _ _ h1) hs fun ρ' a' w' k1 k2=>?_);refine cd (xh _ _ _ _ _ he) k1 fun ρ'' PQ uK j1 j2=>⟨rfl,ρ'',j1,k2.trans j2⟩
  ·rename_i r hr;have hex:ex≠.normal:=by
      rintro rfl;exact hr _ _ (by rw[he])
   refine wp_seq (cd (uN _ _ _ _ _ he) hs fun ρ' a' w' k1 k2=>?_);cases ex with
   |normal=>exact absurd rfl hex
   |exit id=>exact⟨rfl,ρ',k1,k2⟩
   |goto l=>exact⟨rfl,ρ',k1,k2⟩
   |ret=>exact⟨rfl,ρ',k1,k2⟩
 |cond c x y uN xh=>
  intro tm h ex aC h' he B ρ a w hs
  change(match aP c with
   |some c=>match cV tm c with
    |some (.bool true)=>iw P draw call N fuel HO x tm h
    |some (.bool false)=>iw P draw call N fuel HO y tm h
    |_=>none
   |none=>none)=_ at he
  split at he
  ·rename_i c' hc;split at he
   ·rename_i hv;have:=ai hs.tr hc hv;simp only[VR]at this;exact wp_cond_true this (uN _ _ _ _ _ he B ρ a w hs)
   ·rename_i hv;have:=ai hs.tr hc hv;simp only[VR]at this;exact wp_cond_false this (xh _ _ _ _ _ he B ρ a w hs)
   ·simp at he
  ·simp at he
 |block id body ih=>
  intro tm h ex aC h' he B ρ a w hs
  change(match iw P draw call N fuel HO body tm h with
   |some (Ex.exit j,aC,h')=>cond (Nat.beq j id) (some (Ex.normal,aC,h')) (some (Ex.exit j,aC,h'))
   |r=>r)=(_:Option (Ex×T AV×H))at he
  split at he
  ·rename_i j dC h2 h1;refine wp_block (cd (ih _ _ _ _ _ h1) hs fun ρ' a' w' k1 k2=>?_);cases hb:Nat.beq j id
   ·rw[hb]at he;simp only[cond_false,Option.some.injEq,Prod.mk.injEq]at he;obtain⟨rfl,rfl,rfl⟩:=he;have dB:j≠id:=fun e=>by subst e;simp at hb
    simp only[Ex.out,Exit.inBlock,dB,if_false];exact⟨trivial,ρ',k1,k2⟩
   ·rw[hb]at he;simp only[cond_true,Option.some.injEq,Prod.mk.injEq]at he;obtain⟨rfl,rfl,rfl⟩:=he;have:=Nat.eq_of_beq_eq_true hb;subst this;simp only[Ex.out,Exit.inBlock,if_true];exact⟨trivial,ρ',k1,k2⟩
  ·rename_i r hr;refine wp_block (cd (ih _ _ _ _ _ he) hs fun ρ' a' w' k1 k2=>?_);cases ex with
   |normal=>exact⟨rfl,ρ',k1,k2⟩
   |exit j=>exact absurd (by rw[he]) (hr j _ _)
   |goto l=>exact⟨rfl,ρ',k1,k2⟩
   |ret=>exact⟨rfl,ρ',k1,k2⟩
 |loop body ih=>
  intro tm h ex aC h' he B ρ a w hs;exact wp_loop_rounds fuel ((uq ih fuel tm h ex aC h' he).2 B ρ a w hs)
 |rangeFunc f ps x y uN xh=>
  intro tm h ex aC h' he B ρ a w hs
  change(match aP f with
   |some f=>match cV tm f with
    |some fv=>xi P call N ps.toList x y fv tm h
    |none=>none
   |none=>none)=_ at he
  split at he
  ·rename_i f' hf;split at he
   ·rename_i fv hv;exact BG aO hf hv he hs
   ·simp at he
  ·simp at he
 |exit id=>
  intro tm h ex aC h' he B ρ a w hs;simp only[iw,Option.some.injEq,Prod.mk.injEq]at he;obtain⟨rfl,rfl,rfl⟩:=he;exact wp_exit ⟨rfl,ρ,hs,Way.refl hs.hr hs.fresh⟩
 |scope body ih=>
  intro tm h ex aC h' he B ρ a w hs
  change(match iw P draw call N fuel HO body tm h with
   |some (Ex.goto l,aC,h')=>match findLabel body l with
    |some rest=>match HO rest aC h' with
     |some (Ex.goto _,_,_)=>none
     |r=>r
    |none=>none
   |r=>r)=(_:Option (Ex×T AV×H))at he
  split at he
  ·rename_i l dC h2 h1;split at he
   ·rename_i rest Cz;split at he
    ·simp at he
    ·rename_i r hr;refine wp_scope_jumps l (fun a' w'=>∃ρ',St B N ρ' dC h2 a' w'/\Way ρ h w ρ' h2 w') (fun _ _=>0) Cz ?_ ?_
     ·exact cd (ih _ _ _ _ _ h1) hs fun ρ' a' w' k1 k2=>⟨rfl,ρ',k1,k2⟩
     ·rintro a' w' ⟨ρ',k1,k2⟩;refine cd (hgo _ _ _ _ _ _ he) k1 fun ρ'' PQ uK j1 j2=>?_
      cases ex with
      |normal=>exact⟨rfl,ρ'',j1,k2.trans j2⟩
      |exit id=>exact⟨rfl,ρ'',j1,k2.trans j2⟩
      |goto l'=>exact absurd he (hr _ _ _)
      |ret=>exact⟨rfl,ρ'',j1,k2.trans j2⟩
   ·simp at he
  ·rename_i r hr;refine wp_scope_straight (cd (ih _ _ _ _ _ he) hs fun ρ' a' w' k1 k2=>?_);cases ex with
   |normal=>exact⟨rfl,ρ',k1,k2⟩
   |exit id=>exact⟨rfl,ρ',k1,k2⟩
   |goto l=>exact absurd he (hr _ _ _)
   |ret=>exact⟨rfl,ρ',k1,k2⟩
 |label l=>
  intro tm h ex aC h' he B ρ a w hs;simp only[iw,Option.some.injEq,Prod.mk.injEq]at he;obtain⟨rfl,rfl,rfl⟩:=he;exact wp_label ⟨rfl,ρ,hs,Way.refl hs.hr hs.fresh⟩
 |goto l=>
  intro tm h ex aC h' he B ρ a w hs;simp only[iw,Option.some.injEq,Prod.mk.injEq]at he;obtain⟨rfl,rfl,rfl⟩:=he;exact wp_goto ⟨rfl,ρ,hs,Way.refl hs.hr hs.fresh⟩
 |ret=>
  intro tm h ex aC h' he B ρ a w hs;simp only[iw,Option.some.injEq,Prod.mk.injEq]at he;obtain⟨rfl,rfl,rfl⟩:=he;exact wp_ret ⟨rfl,ρ,hs,Way.refl hs.hr hs.fresh⟩
 |refuse why=>intro tm h ex aC h' he;simp[iw]at he
def Dw(a:Act):ResultVar->Sem Value
 | .tmp t=>pure (a.tmps.getD t undef)
 | .cell x t=>do loadVar t (←asAddr (a.tmps.getD x undef))
theorem xm{P:Program}{ρ:aR}{tm:T AV}{h:H}{a:Act}{w:World}(ht:TR ρ tm a.tmps)(hr:HR ρ h.t.get w):∀{l:List ResultVar} {vs:List AV},xj P tm h.t.get l=some vs->
 ∃VS,bE ρ vs VS/\(l.mapM (Dw a)).run P w=Result.ok VS w
 | [],vs,h=>by simp[xj]at h;subst h;exact⟨[],rfl,by simp⟩
 |r::l,vs,hv=>by
  unfold xj at hv;split at hv
  ·rename_i v h1;split at hv
   ·rename_i vs' h2;simp at hv;subst hv;obtain⟨VS,k1,k2⟩:=xm ht hr h2;cases r with
    |tmp t=>
     simp only[]at h1;exact⟨_,⟨_,VS,(ht _ _ h1).2,k1,rfl⟩,by simp[List.mapM_cons,Dw,k2]⟩
    |cell x t=>
     simp only[]at h1;split at h1
     ·rename_i p o agg hp Wz;have hp':=(ht _ _ hp).2;simp only[VR]at hp';obtain⟨lc,Km,hp'⟩:=hp';obtain⟨V,j1,j2⟩:=tA (P:=P) hr Wz h1 Km;have aog:a.tmps[x]?.getD undef=.pointer (some ⟨lc.b9,lc.off+o,none⟩):=by simpa using hp'
      exact⟨_,⟨V,VS,j1,k1,rfl⟩,by simp[List.mapM_cons,Dw,k2,aog,asAddr,j2]⟩
     ·simp at h1
   ·simp at hv
  ·simp at hv
def bit(b j:Nat):Bool:=Nat.beq (Nat.land (Nat.shiftRight b j) 1) 1
theorem BI(b j:Nat):bit b j=b.testBit j:=by
 unfold bit;rw[Px,show Nat.shiftRight b j=b>>>j from rfl,Nat.testBit_eq_decide_div_mod_eq,Nat.shiftRight_eq_div_pow]
def xo(acc:T Nat)(l:List Edge)(s:Nat):Nat:=
 List.rec (motive:=fun _=>Nat->Nat) (fun s=>s) (fun e _ ih s=>Bool.rec (ih s) (ih (Nat.lor (Nat.lor s (Nat.pow 2 e.on)) (Option.rec 0 (fun b=>b) (acc.get e.on)))) (Region.binds .any e)) l s
theorem E3(acc:T Nat)(e:Edge)(l:List Edge)(s:Nat):xo acc (e::l) s=match Region.binds .any e with
 |true=>xo acc l (Nat.lor (Nat.lor s (Nat.pow 2 e.on)) ((acc.get e.on).getD 0))
 |false=>xo acc l s:=by
 show(Bool.rec (xo acc l s) (xo acc l (Nat.lor (Nat.lor s (Nat.pow 2 e.on)) (Option.rec 0 (fun b=>b) (acc.get e.on)))) (Region.binds .any e):Nat)=_
 cases Region.binds .any e with
 |false=>rfl
 |true=>cases acc.get e.on<;>rfl
def tF:List Oper->Nat->T Nat->T Nat
 | [],_,acc=>acc
 |o::l,i,acc=>tF l (i+1) (acc.set i (xo acc o.after.toList 0))
def cG(ops:List Oper):T Nat:=tF ops 0 .e
def ss(m:T Nat)(i j:Nat):Bool:=match m.get i with
 |some b=>bit b j
 |none=>false
def xq(i:Nat)(l:List Edge):Bool:=List.rec true (fun e _ ih=>Bool.rec ih (Bool.rec false ih (Nat.ble (Nat.succ e.on) i)) (Region.binds .any e)) l
theorem Aj(i:Nat):∀l:List Edge,xq i l=l.all (fun e=>!Region.binds .any e||Nat.blt e.on i)
 | []=>rfl
 |e::l=>by
  show(Bool.rec (xq i l) (Bool.rec false (xq i l) (Nat.ble (Nat.succ e.on) i)) (Region.binds .any e):Bool)=_
  rw[Aj i l,List.all_cons];cases Region.binds .any e with
  |false=>simp
  |true=>
   show(Bool.rec false _ (Nat.blt e.on i):Bool)=_
   cases Nat.blt e.on i<;>simp
def da(l:List Oper)(i:Nat):Bool:=
 List.rec (motive:=fun _=>Nat->Bool) (fun _=>true) (fun o _ ih i=>Bool.rec false (ih (Nat.succ i)) (xq i o.after.toList)) l i
theorem sy(o:Oper)(l:List Oper)(i:Nat):da (o::l) i=(o.after.toList.all (fun e=>!Region.binds .any e||Nat.blt e.on i)&&da l (i+1)):=by
 show(Bool.rec false (da l (i+1)) (xq i o.after.toList):Bool)=_
 rw[Aj];cases o.after.toList.all (fun e=>!Region.binds .any e||Nat.blt e.on i)<;>rfl
def Down(ops:List Oper)(S:Nat->Prop):Prop:=∀i o,ops[i]?=some o->S i->∀e∈o.after.toList,Region.binds .any e=true->S e.on
theorem np{ops:List Oper}{i:Nat}{o:Oper}(ho:ops[i]?=some o){acc:T Nat}(E4:∀k b,acc.get k=some b->∀j,bit b j=true->j<k/\∀S,Down ops S->S k->S j):∀(es:List Edge) (s:Nat),
 (∀e∈es,e∈o.after.toList/\(Region.binds .any e=true->e.on<i))->(∀j,bit s j=true->j<i/\∀S,Down ops S->S i->S j)->∀j,bit (xo acc es s) j=true->j<i/\∀S,Down ops S->S i->S j
 | [],s,_,hs,j,hj=>hs j hj
 |e::es,s,he,hs,j,hj=>by
  rw[E3]at hj;have ME:=fun x hx=>he x (List.mem_cons_of_mem _ hx)
  split at hj
  ·rename_i hb;refine np ho E4 es _ ME ?_ j hj;intro j hj;obtain⟨h1,h2⟩:=he e (List.mem_cons_self ..);have df:=h2 hb;rw[BI]at hj;rw[show Nat.lor (Nat.lor s (Nat.pow 2 e.on)) ((acc.get e.on).getD 0)=(s|||2^e.on)|||((acc.get e.on).getD 0)from rfl,Nat.testBit_or,Nat.testBit_or,Nat.testBit_two_pow]at hj
   simp only[Bool.or_eq_true,decide_eq_true_eq]at hj;rcases hj with(hj|rfl)|hj
   ·exact hs j (by rw[BI];exact hj)
   ·exact⟨df,fun S hS hi=>hS i o ho hi e h1 hb⟩
   ·cases hg:acc.get e.on with
    |none=>rw[hg]at hj;simp at hj
    |some b=>
     rw[hg]at hj;obtain⟨k1,k2⟩:=E4 _ _ hg j (by rw[BI];exact hj);exact⟨by omega,fun S hS hi=>k2 S hS (hS i o ho hi e h1 hb)⟩
  ·exact np ho E4 es _ ME hs j hj
theorem mu{ops:List Oper}:∀(l:List Oper) (i:Nat) (acc:T Nat),ops.drop i=l->da l i=true->(∀k b,acc.get k=some b->∀j,bit b j=true->j<k/\∀S,Down ops S->S k->S j)->
 ∀k b,(tF l i acc).get k=some b->∀j,bit b j=true->j<k/\∀S,Down ops S->S k->S j
 | [],i,acc,_,_,h=>h
 |o::l,i,acc,hl,he,h=>by
  rw[sy]at he;simp only[Bool.and_eq_true,List.all_eq_true]at he;have ho:ops[i]?=some o:=by
   have:(ops.drop i)[0]?=some o:=by rw[hl];rfl
   simpa using this
  have CR:ops.drop (i+1)=l:=by rw[←List.drop_drop,hl];rfl
  refine mu l (i+1) _ CR he.2 ?_
  intro k b hk;rw[T.ay]at hk
  by_cases e:k=i
  ·subst e;simp at hk;subst hk;refine np ho h _ 0 (fun e Lq=>⟨Lq,fun hb=>?_⟩) (fun j hj=>by rw[BI]at hj;simp at hj);have:=he.1 e Lq;rw[hb]at this;simpa using this
  ·rw[if_neg e]at hk;exact h k b hk
theorem gk{ops:List Oper}(he:da ops 0=true){i j:Nat}(h:ss (cG ops) i j=true):j<i/\∀S,Down ops S->S i->S j:=by
 unfold ss at h;split at h
 ·rename_i b hb;exact mu ops 0 .e (by simp) he (fun k b hk=>by simp[T.di]at hk) i b hb j h
 ·simp at h
def br(t:Nat)(l:List Oper)(i:Nat):List Nat:=
 List.rec (motive:=fun _=>Nat->List Nat) (fun _=>[]) (fun o _ ih i=>Option.rec (ih (Nat.succ i)) (fun d=>Bool.rec (ih (Nat.succ i)) (i::ih (Nat.succ i)) (Nat.beq d t)) o.dst) l i
theorem mw(t i:Nat):br t [] i=[]:=rfl
theorem kT(t:Nat)(o:Oper)(l:List Oper)(i:Nat):br t (o::l) i=match o.dst with
 |some d=>match Nat.beq d t with
  |true=>i::br t l (i+1)
  |false=>br t l (i+1)
 |none=>br t l (i+1):=by
 show(Option.rec (br t l (i+1)) (fun d=>Bool.rec (br t l (i+1)) (i::br t l (i+1)) (Nat.beq d t)) o.dst:List Nat)=_
 cases o.dst with
 |none=>rfl
 |some d=>simp only[];cases Nat.beq d t<;>rfl
def pW(m:T Nat)(i:Nat):List Nat->Option Nat->Option (Option Nat)
 | [],acc=>some acc
 |w::ws,acc=>match Nat.beq w i with
  |true=>pW m i ws acc
  |false=>match ss m i w with
   |true=>pW m i ws (some w)
   |false=>match ss m w i with
    |true=>pW m i ws acc
    |false=>none
def tG(ops:List Oper)(m:T Nat)(i t:Nat):Option (Option Nat):=pW m i (br t ops 0) none
theorem dM{t:Nat}:∀{l:List Oper} {i w:Nat},w∈br t l i↔i<=w/\∃o,l[w-i]?=some o/\o.dst=some t
 | [],i,w=>by simp[mw]
 |o::l,i,w=>by
  have ih:=dM (t:=t) (l:=l) (i:=i+1) (w:=w);have key:(w∈br t l (i+1)↔i<w/\∃o',(o::l)[w-i]?=some o'/\o'.dst=some t):=by
   rw[ih];constructor
   ·rintro ⟨h1,o',h2,h3⟩;exact⟨h1,o',by rw[show w-i=(w-(i+1))+1 by omega];simpa using h2,h3⟩
   ·rintro ⟨h1,o',h2,h3⟩;rw[show w-i=(w-(i+1))+1 by omega]at h2;exact⟨h1,o',by simpa using h2,h3⟩
  have aoh:o.dst=some t->(w∈i::br t l (i+1)↔i<=w/\∃o',(o::l)[w-i]?=some o'/\o'.dst=some t):=by
   intro hd;rw[List.mem_cons,key];constructor
   ·rintro (rfl|⟨h1,h2⟩)
    ·exact⟨Nat.le_refl _,o,by simp,hd⟩
    ·exact⟨by omega,h2⟩
   ·rintro ⟨h1,h2⟩
    by_cases e:w=i
    ·exact .inl e
    ·exact .inr ⟨by omega,h2⟩
  have adw:¬o.dst=some t->(w∈br t l (i+1)↔i<=w/\∃o',(o::l)[w-i]?=some o'/\o'.dst=some t):=by
   intro hd;rw[key];constructor
   ·rintro ⟨h1,h2⟩;exact⟨by omega,h2⟩
   ·rintro ⟨h1,o',h2,h3⟩
    by_cases e:w=i
    ·subst e;simp at h2;subst h2;exact absurd h3 hd
    ·exact⟨by omega,o',h2,h3⟩
  rw[kT];split
  ·rename_i d hd;split
   ·rename_i hb;have:=Nat.eq_of_beq_eq_true hb;subst this;exact aoh hd
   ·rename_i hb;exact adw (by rw[hd];intro e;simp at e;subst e;simp at hb)
  ·rename_i hd;exact adw (by rw[hd];simp)
theorem fF{t:Nat}:∀{l:List Oper} {i:Nat},(br t l i).Pairwise (·<·)
 | [],i=>by simp[mw]
 |o::l,i=>by
  have ih:=fF (t:=t) (l:=l) (i:=i+1);rw[kT];split
  ·split
   ·refine List.Pairwise.cons (fun w hw=>?_) ih;have:=(dM.1 hw).1;omega
   ·exact ih
  ·exact ih
theorem fS{m:T Nat}{i:Nat}:∀{ws:List Nat} {acc r:Option Nat},pW m i ws acc=some r->ws.Pairwise (·<·)->(∀j,acc=some j->∀w∈ws,j<w)->
 (∀w∈ws,w=i\/ss m i w=true\/ss m w i=true)/\
 (match r with
  |some j=>(acc=some j\/(j∈ws/\j≠i/\ss m i j=true))/\(∀w∈ws,w≠i->ss m i w=true->w<=j)/\(∀k,acc=some k->k<=j)
  |none=>acc=none/\∀w∈ws,w≠i->ss m i w=false)
 | [],acc,r,h,_,_=>by
   simp[pW]at h;subst h;cases acc<;>simp
 |w::ws,acc,r,h,hp,E4=>by
  obtain⟨hp1,hp2⟩:=List.pairwise_cons.1 hp;unfold pW at h;split at h
  ·rename_i hw;have hw:=Nat.eq_of_beq_eq_true hw;obtain⟨k1,k2⟩:=fS h hp2 (fun j hj w' iY=>E4 j hj w' (List.mem_cons_of_mem _ iY));refine⟨fun w' iY=>?_,?_⟩
   ·rcases List.mem_cons.1 iY with rfl|iY
    ·exact .inl hw
    ·exact k1 _ iY
   ·cases r with
    |some j=>
     obtain⟨a1,a2,a3⟩:=k2;refine⟨a1.imp id fun⟨b1,b2,b3⟩=>⟨List.mem_cons_of_mem _ b1,b2,b3⟩,fun w' iY hn hb=>?_,a3⟩;rcases List.mem_cons.1 iY with rfl|iY
     ·exact absurd hw hn
     ·exact a2 _ iY hn hb
    |none=>
     obtain⟨a1,a2⟩:=k2;refine⟨a1,fun w' iY hn=>?_⟩;rcases List.mem_cons.1 iY with rfl|iY
     ·exact absurd hw hn
     ·exact a2 _ iY hn
  ·rename_i hw;have dB:w≠i:=fun e=>by subst e;simp at hw
   split at h
   ·rename_i hb;obtain⟨k1,k2⟩:=fS h hp2 (fun j hj w' iY=>by simp at hj;subst hj;exact hp1 _ iY);refine⟨fun w' iY=>?_,?_⟩
    ·rcases List.mem_cons.1 iY with rfl|iY
     ·exact .inr (.inl hb)
     ·exact k1 _ iY
    ·cases r with
     |some j=>
      obtain⟨a1,a2,a3⟩:=k2;have hwj:=a3 w rfl;refine⟨.inr ?_,fun w' iY hn Cp=>?_,fun k hk=>?_⟩
      ·rcases a1 with a1|⟨b1,b2,b3⟩
       ·simp at a1;subst a1;exact⟨List.mem_cons_self ..,dB,hb⟩
       ·exact⟨List.mem_cons_of_mem _ b1,b2,b3⟩
      ·rcases List.mem_cons.1 iY with rfl|iY
       ·exact hwj
       ·exact a2 _ iY hn Cp
      ·have:=E4 k hk w (List.mem_cons_self ..);omega
     |none=>simp at k2
   ·rename_i hb;split at h
    ·rename_i oU;obtain⟨k1,k2⟩:=fS h hp2 (fun j hj w' iY=>E4 j hj w' (List.mem_cons_of_mem _ iY));refine⟨fun w' iY=>?_,?_⟩
     ·rcases List.mem_cons.1 iY with rfl|iY
      ·exact .inr (.inr oU)
      ·exact k1 _ iY
     ·cases r with
      |some j=>
       obtain⟨a1,a2,a3⟩:=k2;refine⟨a1.imp id fun⟨b1,b2,b3⟩=>⟨List.mem_cons_of_mem _ b1,b2,b3⟩,fun w' iY hn Cp=>?_,a3⟩;rcases List.mem_cons.1 iY with rfl|iY
       ·rw[hb]at Cp;simp at Cp
       ·exact a2 _ iY hn Cp
      |none=>
       obtain⟨a1,a2⟩:=k2;refine⟨a1,fun w' iY hn=>?_⟩;rcases List.mem_cons.1 iY with rfl|iY
       ·exact hb
       ·exact a2 _ iY hn
    ·simp at h
inductive Rec where
 |quiet (v:AV)
 |read (v:AV)
 |alloc (v:AV) (a:Nat) (o:AO) (ph:Nat)
 |BJ (v:AV)
def Rec.val:Rec->AV
 | .quiet v=>v
 | .read v=>v
 | .alloc v _ _ _=>v
 | .BJ v=>v
def tmpsOf:List Operand->List Nat
 | []=>[]
 | .tmp t::l=>t::tmpsOf l
 |_::l=>tmpsOf l
def slotsOf(ops:List Oper)(o:Oper):List Nat:=match o.guard with
 |none=>tmpsOf o.op.operands.toList
 |some (j,_)=>match uk ops j with
  |some t=>t::tmpsOf o.op.operands.toList
  |none=>tmpsOf o.op.operands.toList
def nZ(ops:List Oper)(m:T Nat)(i:Nat):List Nat->Option (List (Nat×Option Nat))
 | []=>some []
 |t::l=>match tG ops m i t with
  |some r=>match nZ ops m i l with
   |some rs=>some ((t,r)::rs)
   |none=>none
  |none=>none
def kU(aQ:T AV)(F:T Rec)(l:List (Nat×Option Nat)):Option (T AV):=
 List.rec (some .e) (fun p _ ih=>Option.rec none (fun tm=>Option.rec (Option.rec (some tm) (fun v=>some (tm.set p.1 v)) (aQ.get p.1)) (fun j=>Option.rec none (fun r=>some (tm.set p.1 r.val)) (F.get j)) p.2) ih) l
theorem Dx(aQ:T AV)(F:T Rec):kU aQ F []=some .e:=rfl
theorem tH(aQ:T AV)(F:T Rec)(t:Nat)(l:List (Nat×Option Nat)):kU aQ F ((t,none)::l)=match kU aQ F l with
 |some tm=>match aQ.get t with
  |some v=>some (tm.set t v)
  |none=>some tm
 |none=>none:=by
 show(Option.rec none (fun tm=>Option.rec (some tm) (fun v=>some (tm.set t v)) (aQ.get t)) (kU aQ F l):Option (T AV))=_
 cases kU aQ F l with
 |none=>rfl
 |some tm=>cases h:aQ.get t<;>simp[h]
theorem tI(aQ:T AV)(F:T Rec)(t j:Nat)(l:List (Nat×Option Nat)):kU aQ F ((t,some j)::l)=match kU aQ F l with
 |some tm=>match F.get j with
  |some r=>some (tm.set t r.val)
  |none=>none
 |none=>none:=by
 show(Option.rec none (fun tm=>Option.rec none (fun r=>some (tm.set t r.val)) (F.get j)) (kU aQ F l):Option (T AV))=_
 cases kU aQ F l with
 |none=>rfl
 |some tm=>cases h:F.get j<;>simp[h]
def Dy(ops:List Oper)(m:T Nat)(N i:Nat)(dst:Option Nat):Bool:=match dst with
 |none=>true
 |some d=>match tG ops m i d with
  |some _=>Nat.ble (d+1) N
  |none=>false
def dt(ops:List Oper)(m:T Nat)(N:Nat)(aQ:T AV)(F:T Rec)(i:Nat)(o:Oper):Option (T AV):=
 match Dy ops m N i o.dst with
 |true=>match nZ ops m i (slotsOf ops o)with
  |some lk=>kU aQ F lk
  |none=>none
 |false=>none
def BK(P:Program)(ops:List Oper)(m:T Nat)(N:Nat)(aQ:T AV)(ph:Nat)(F:T Rec)(h:H)(i:Nat)(o:Oper):Option (Rec×H):=
 match dt ops m N aQ F i o with
 |some tm=>match nh ops tm o with
  |some false=>some (.quiet (.aE []),h)
  |some true=>match pU P o with
   |some (.p x)=>match mN P tm x with
    |some v=>some (.quiet v,h)
    |none=>none
   |some (.r x)=>match Iq tm h.t.get x with
    |some v=>some (.read v,h)
    |none=>none
   |some (.l x)=>match tS tm h.t.get x with
    |some v=>some (.read v,h)
    |none=>none
   |some (.s x)=>match HJ tm h.t.get x with
    |some v=>some (.read v,h)
    |none=>none
   |some (.n x)=>match MF tm x with
    |some (ao,f)=>some (.alloc (f h.next) h.next ao ph,⟨h.next+1,h.t.set h.next ao⟩)
    |none=>none
   |_=>none
  |none=>none
 |none=>none
def HP(P:Program)(ops:List Oper)(m:T Nat)(N:Nat)(aQ:T AV)(ph:Nat):List Nat->T Rec->H->Option (T Rec×H)
 | [],F,h=>some (F,h)
 |i::l,F,h=>match ops[i]?,F.get i with
  |some o,none=>match BK P ops m N aQ ph F h i o with
   |some (r,h')=>HP P ops m N aQ ph l (F.set i r) h'
   |none=>none
  |_,_=>none
def MH(P:Program)(call:ab)(ops:List Oper)(m:T Nat)(N:Nat)(aQ:T AV)(F:T Rec)(h:H)(i:Nat)(o:Oper):Option (AV×H):=
 match dt ops m N aQ F i o with
 |some tm=>match nh ops tm o with
  |some false=>some (.aE [],h)
  |some true=>match pU P o with
   |some c=>kx P call tm h c
   |none=>none
  |none=>none
 |none=>none
def yB(P:Program)(call:ab)(ops:List Oper)(m:T Nat)(N:Nat)(aQ:T AV):Nat->List (List Nat×Option Nat)->T Rec->H->Option (T Rec×List H)
 |_,[],F,h=>none
 |ph,(ids,none)::_,F,h=>match HP P ops m N aQ ph ids F h with
  |some (F',h')=>some (F',[h'])
  |none=>none
 |ph,(ids,some e)::rest,F,h=>match HP P ops m N aQ ph ids F h with
  |some (F1,h1)=>match ops[e]?,F1.get e with
   |some o,none=>match MH P call ops m N aQ F1 h1 e o with
    |some (v,h2)=>match Nat.ble h1.next h2.next with
     |true=>match yB P call ops m N aQ (ph+1) rest (F1.set e (.BJ v)) h2 with
      |some (F',hs)=>some (F',h1::hs)
      |none=>none
     |false=>none
    |none=>none
   |_,_=>none
  |none=>none
def adx(P:Program)(o:Oper):Bool:=match pU P o with
 |some (.p _)=>false
 |some (.r _)=>false
 |some (.l _)=>false
 |some (.s _)=>false
 |some (.n _)=>false
 |_=>true
def bq(P:Program):List Oper->Nat->List Nat
 | [],_=>[]
 |o::l,i=>match adx P o with
  |true=>i::bq P l (i+1)
  |false=>bq P l (i+1)
def kn(m:T Nat):List Nat->Bool
 | []=>true
 |e::es=>es.all (fun f=>ss m f e)&&kn m es
def BN(m:T Nat)(i:Nat):List Nat->Nat->Nat->Nat
 | [],_,acc=>acc
 |e::es,k,acc=>match ss m i e with
  |true=>BN m i es (k+1) (k+1)
  |false=>BN m i es (k+1) acc
def Gx(m:T Nat)(es:List Nat)(k:Nat)(n:Nat):List Nat:=(List.range n).filter fun i=>!(es.contains i)&&Nat.beq (BN m i es 0 0) k
def fT(m:T Nat)(es:List Nat)(n:Nat):Nat->List Nat->List (List Nat×Option Nat)
 |k,[]=>[(Gx m es k n,none)]
 |k,e::rest=>(Gx m es k n,some e)::fT m es n (k+1) rest
end
end Go.Proofs.YtgkjlklfjbljeaaGreat.Eo
