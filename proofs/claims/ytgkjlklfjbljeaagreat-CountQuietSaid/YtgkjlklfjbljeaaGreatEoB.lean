/-
  An evaluator of Go code is sound. No condition.
-/
import Derived.Test.YtgkjlklfjbljeaaGreatEoA
import Derived.MapKept
set_option linter.all false
namespace Go.Proofs.YtgkjlklfjbljeaaGreat.Eo
noncomputable section
theorem tz{P:Program}{ρ:aR}(isMax:Bool):∀{bs:List AV} {a v:AV} {A:Value} {BS:List Value},SU isMax a bs=some v->VR ρ a A->bE ρ bs BS->
 ∃V,VR ρ v V/\∀w,(BS.foldlM (if isMax then Builtin.max2 else Builtin.min2) A).run P w=.ok V w
 | [],a,v,A,BS,h,ha,hb=>by
   simp[SU]at h;subst h;simp only[bE]at hb;subst hb;exact⟨A,ha,fun w=>by simp⟩
 |b::bs,a,v,A,BS,h,ha,hb=>by
  unfold SU at h;simp only[bE]at hb;obtain⟨B,M,h1,h2,rfl⟩:=hb;split at h
  ·rename_i k x k' y;simp only[VR]at ha h1;subst ha h1;obtain⟨V,j1,j2⟩:=tz isMax h (ρ:=ρ) (A:=.int k (if isMax then(if y>x then y else x)else(if y<x then y else x))) (by
        simp only[VR,iN];cases isMax
        ·by_cases hh:y<x<;>simp[hh]
        ·by_cases hh:x<y<;>simp[hh]) h2
   refine⟨V,j1,fun w=>?_⟩;rw[List.foldlM_cons,Sem.run_bind];cases isMax
   ·have:=j2 w;simp only[Bool.false_eq_true,if_false]at this⊢;simp only[Builtin.min2,Sem.run_pure,Result.andThen_ok];exact this
   ·have:=j2 w;simp only[if_true]at this⊢;simp only[Builtin.max2,Sem.run_pure,Result.andThen_ok];exact this
  ·simp at h
theorem pS{len m:Nat}{j:AV}(h:wX len j=some m){ρ:aR}{J:Value}(hj:VR ρ j J):m<len/\∃k,J=.int k (m:Int):=by
 unfold wX at h;split at h
 ·rename_i k m';rw[lJ]at h
  by_cases hl:m'<len
  ·simp[hl]at h;subst h;simp only[VR]at hj;exact⟨hl,k,hj⟩
  ·simp[hl]at h
 ·simp at h
theorem bU{P:Program}{ρ:Operand->Value}{b:Builtin}{args:Array Operand}{ats:Array TypeId}{dst:Option Tmp}{type:TypeId}{pos:String}{after:Array Edge}{guard:Option (Nat×Bool)}:
 ∃cs:Array Bool,∀w,(execOp ρ {dst:=dst,op:=.call {callee:=.builtin b,args:=args,argTypes:=ats},type:=type,pos:=pos,after:=after,guard:=guard}).run P w=(builtin b ats type cs (args.map ρ)).run P w:=by
 refine⟨args.map Hz,fun w=>?_⟩;simp only[execOp,resolve,Sem.run_bind,Sem.run_pure,Result.andThen_ok,invoke];have e:∀f:Operand->Bool,(∀x,f x=Hz x)->args.map f=args.map Hz:=fun f hf=>by rw[show f=Hz from funext hf]
 rw[e];intro x;cases x<;>rfl
theorem y9{P:Program}{o:Oper}{c:PI}{tm:T AV}{v:AV}{ρ:aR}{a:Act}(hc:cP P o=some c)(h:mN P tm c=some v)(ht:TR ρ tm a.tmps):
 ∃V,VR ρ v V/\∀w,(execOp a.eval o).run P w=.ok (.value V) w:=by
 obtain⟨dst,op,type,pos,after,guard⟩:=o;rw[Ww]at hc;unfold cP0 at hc;simp only[]at hc;split at hc
 ·rename_i x;simp only[Option.map_eq_some_iff]at hc;obtain⟨y,hy,rfl⟩:=hc;exact⟨_,ai ht hy h,fun w=>by simp[execOp]⟩
 ·rename_i x;simp only[Option.map_eq_some_iff]at hc;obtain⟨y,hy,rfl⟩:=hc;exact⟨_,ai ht hy h,fun w=>by simp[execOp]⟩
 ·rename_i c' a' b';split at hc
  ·rename_i c1 a1 b1 h1 h2 h3;simp at hc;subst hc;simp only[mN,bt,aU,bV,cU,bw,bg,bG,bH,ca,bx,bW,aV,aW,bz,bA,bp,bI,bJ,cZ,bB]at h;split at h
   ·rename_i t Wy;have k:=ai ht h1 Wy;simp only[VR]at k;cases t
    ·exact⟨_,ai ht h3 h,fun w=>by simp[execOp,k,asBool]⟩
    ·exact⟨_,ai ht h2 h,fun w=>by simp[execOp,k,asBool]⟩
   ·simp at h
  ·simp at hc
 ·rename_i t ps;split at hc
  ·rename_i z l hb hz hl;simp at hc;subst hc;simp only[mN,bt,aU,bV,cU,bw,bg,bG,bH,ca,bx,bW,aV,aW,bz,bA,bp,bI,bJ,cZ,bB,Option.map_eq_some_iff]at h;obtain⟨r,hr,rfl⟩:=h;unfold dz at hz;split at hz
   ·rename_i i hi;split at hz
    ·rename_i Z hZ;obtain⟨k1,_⟩:=nY (ρ:=ρ) hz;obtain⟨R,e1,e2⟩:=pR (pl:=XU P t) ht hl hr k1;refine⟨.agg R,⟨R.toList,e2,by simp⟩,fun w=>?_⟩;have hbl:P.built t ((ps.map fun(i,x)=>(i,a.eval x)).toList)=some R:=by
      rw[Li hi hZ hb,←e1];congr 1;simp
     simp[execOp,run_build w t _ _ hbl]
    ·simp at hz
   ·simp at hz
  ·simp at hc
 ·rename_i x;simp only[Option.map_eq_some_iff]at hc;obtain⟨y,hy,rfl⟩:=hc;simp only[mN,bt,aU,bV,cU,bw,bg,bG,bH,ca,bx,bW,aV,aW,bz,bA,bp,bI,bJ,cZ,bB]at h;cases hv:cV tm y with
  |none=>rw[hv]at h;simp at h
  |some u=>
   rw[hv]at h;have k:=ai ht hy hv;cases u with
   |aJ=>simp at h
   |pC=>simp at h
   |dQ=>simp at h
   |fn f fs cs=>
    cases f<;>simp at h
    subst h;have k':=k;simp only[VR]at k';obtain⟨F,C,_,_,hk⟩:=k';exact⟨_,k,fun w=>by simp[execOp,hk]⟩
   |sl p o len es cap=>
    simp at h;subst h;refine⟨_,k,fun w=>?_⟩;cases cap with
    |some c=>simp only[VR]at k;obtain⟨l,_,_,hk⟩:=k;simp[execOp,hk]
    |none=>simp only[VR]at k;obtain⟨l,_,_,_,hk|⟨_,x,hk⟩⟩:=k<;>simp[execOp,hk]
   |ptr p o=>simp at h;subst h;refine⟨_,k,fun w=>?_⟩;simp only[VR]at k;obtain⟨l,_,hk⟩:=k;simp[execOp,hk]
   |map p=>simp at h;subst h;refine⟨_,k,fun w=>?_⟩;simp only[VR]at k;obtain⟨l,_,hk⟩:=k;simp[execOp,hk]
   |Wq p=>simp at h;subst h;refine⟨_,k,fun w=>?_⟩;simp only[VR]at k;obtain⟨l,_,hk⟩:=k;simp[execOp,hk]
   |dR t u=>simp at h;subst h;refine⟨_,k,fun w=>?_⟩;simp only[VR]at k;obtain⟨U,_,hk⟩:=k;simp[execOp,hk]
   |agg l=>simp at h;subst h;refine⟨_,k,fun w=>?_⟩;simp only[VR]at k;obtain⟨U,_,hk⟩:=k;simp[execOp,hk]
   |aE l=>simp at h;subst h;refine⟨_,k,fun w=>?_⟩;simp only[VR]at k;obtain⟨U,_,hk⟩:=k;simp[execOp,hk]
   |_=>simp at h;subst h;refine⟨_,k,fun w=>?_⟩;simp only[VR]at k;simp[execOp,k]
 ·rename_i op t x y _;split at hc
  ·rename_i a1 b1 h1 h2;simp at hc;subst hc;simp only[mN,bt,aU,bV,cU,bw,bg,bG,bH,ca,bx,bW,aV,aW,bz,bA,bp,bI,bJ,cZ,bB]at h;split at h
   ·rename_i u1 u2 T5 hu2;obtain⟨V,k1,k2⟩:=Dk h (ai ht h1 T5) (ai ht h2 hu2);refine⟨V,k1,fun w=>?_⟩;have:=k2 w;simp only[execOp];rw[Sem.run_bind,this];rfl
   ·simp at h
  ·simp at hc
 ·rename_i op t x;simp only[Option.map_eq_some_iff]at hc;obtain⟨y,hy,rfl⟩:=hc;simp only[mN,bt,aU,bV,cU,bw,bg,bG,bH,ca,bx,bW,aV,aW,bz,bA,bp,bI,bJ,cZ,bB]at h;split at h
  ·rename_i k n hv;simp at h;subst h;have kk:=ai ht hy hv;simp only[VR]at kk;exact⟨_,rfl,fun w=>by rw[show Int.sub 0 n=-n from by show(0:Int) -n=-n;omega];simp[execOp,kk,Op.unary,Op.intArith,tW]⟩
  ·rename_i k n hv;have kk:=ai ht hy hv;simp only[VR]at kk;simp only[cw,Option.some.injEq]at h;subst h;exact⟨_,rfl,fun w=>by simp[execOp,kk,Op.unary,Op.intBits,tW]⟩
  ·rename_i b hv;simp at h;subst h;have kk:=ai ht hy hv;simp only[VR]at kk;exact⟨_,rfl,fun w=>by simp[execOp,kk,Op.unary]⟩
  ·simp at h
 ·rename_i s d x;split at hc
  ·rename_i u1 k y hs hd hy;simp at hc;subst hc;simp only[mN,bt,aU,bV,cU,bw,bg,bG,bH,ca,bx,bW,aV,aW,bz,bA,bp,bI,bJ,cZ,bB]at h;split at h
   ·rename_i k' n hv;simp at h;subst h;have kk:=ai ht hy hv;simp only[VR]at kk;refine⟨_,rfl,fun w=>?_⟩;simp[execOp,kk,convert,Go.Proofs.YtgkjlklfjbljeaaGreat.Eo.run_underlying hs,Go.Proofs.YtgkjlklfjbljeaaGreat.Eo.run_underlying hd,Conv.intToInt,tW]
   ·simp at h
  ·rename_i u1 y hs hd hy;simp at hc;subst hc;simp only[mN,bt,aU,bV,cU,bw,bg,bG,bH,ca,bx,bW,aV,aW,bz,bA,bp,bI,bJ,cZ,bB]at h;split at h
   ·rename_i b hv;simp at h;subst h;have kk:=ai ht hy hv;simp only[VR]at kk;refine⟨_,rfl,fun w=>?_⟩;simp[execOp,kk,convert,Go.Proofs.YtgkjlklfjbljeaaGreat.Eo.run_underlying hs,Go.Proofs.YtgkjlklfjbljeaaGreat.Eo.run_underlying hd]
   ·rename_i k n hv;simp at h;subst h;have kk:=ai ht hy hv;simp only[VR]at kk;refine⟨_,rfl,fun w=>?_⟩;simp[execOp,kk,convert,Go.Proofs.YtgkjlklfjbljeaaGreat.Eo.run_underlying hs,Go.Proofs.YtgkjlklfjbljeaaGreat.Eo.run_underlying hd,Conv.intToString]
   ·simp at h
  ·simp at hc
 ·rename_i t x;split at hc
  ·simp at hc
  ·rename_i d y dB hu hy;simp at hc;subst hc;simp only[mN,bt,aU,bV,cU,bw,bg,bG,bH,ca,bx,bW,aV,aW,bz,bA,bp,bI,bJ,cZ,bB]at h;split at h
   ·rename_i u hv;simp at h;subst h;have kk:=ai ht hy hv;refine⟨_,⟨_,kk,rfl⟩,fun w=>?_⟩;simp only[execOp,Instr.makeInterface,Sem.run_bind,Go.Proofs.YtgkjlklfjbljeaaGreat.Eo.run_underlying hu,Result.andThen_ok];cases d<;>first|(exact absurd hu (dB _))|rfl
   ·simp at h
  ·simp at hc
 ·rename_i f fs cs;split at hc
  ·rename_i a1 b1 h1 h2;simp at hc;subst hc;simp only[mN,bt,aU,bV,cU,bw,bg,bG,bH,ca,bx,bW,aV,aW,bz,bA,bp,bI,bJ,cZ,bB]at h;split at h
   ·rename_i u1 u2 T5 hu2;simp at h;subst h;have k1:=fE ht h1 T5;have k2:=fE ht h2 hu2;exact⟨_,⟨_,_,k1,k2,rfl⟩,fun w=>by simp[execOp,Instr.makeFunc];constructor<;>(apply Array.ext';simp)⟩
   ·simp at h
  ·simp at hc
 ·rename_i t x lo hi mx;split at hc
  ·rename_i e hu;split at hc
   ·rename_i es y l hh m hs hx Eh hhi hmx;simp at hc;subst hc;simp only[mN,bt,aU,bV,cU,bw,bg,bG,bH,ca,bx,bW,aV,aW,bz,bA,bp,bI,bJ,cZ,bB]at h;split at h
    ·rename_i u l' h' m' T5 EB PJ hm1;obtain⟨V,k1,k2⟩:=Di hu hs (ai ht hx T5) (pP ht Eh EB) (pP ht hhi PJ) (pP ht hmx hm1) h;exact⟨V,k1,fun w=>by simp[execOp,k2]⟩
    ·simp at h
   ·simp at hc
  ·simp at hc
 ·rename_i t x f;split at hc
  ·rename_i fs hu;split at hc
   ·rename_i fd hf;split at hc
    ·rename_i n y hs hx;simp at hc;subst hc;simp only[mN,bt,aU,bV,cU,bw,bg,bG,bH,ca,bx,bW,aV,aW,bz,bA,bp,bI,bJ,cZ,bB]at h;split at h
     ·rename_i p o hv;simp at h;subst h;have kk:=ai ht hx hv;simp only[VR]at kk;obtain⟨l,hl,kk⟩:=kk;refine⟨.pointer (some ⟨l.b9,l.off+(o+fd.offset),none⟩),⟨l,hl,rfl⟩,fun w=>?_⟩;simp only[execOp,kk,Instr.fieldAt,Sem.run_bind,Go.Proofs.YtgkjlklfjbljeaaGreat.Eo.run_underlying hu,Result.andThen_ok,hf,Instr.sureAddr,Sem.run_pure,fieldPlace,run_sizeOf hs];rw[if_neg (by omega)];simp[fo,Nat.add_assoc]
     ·simp at h
    ·simp at hc
   ·simp at hc
  ·simp at hc
 ·rename_i t x f;split at hc
  ·rename_i fs hu;split at hc
   ·rename_i fd y hf hx;simp at hc;subst hc;simp only[mN,bt,aU,bV,cU,bw,bg,bG,bH,ca,bx,bW,aV,aW,bz,bA,bp,bI,bJ,cZ,bB]at h;split at h
    ·rename_i l hv;have kk:=ai ht hx hv;simp only[VR]at kk;obtain⟨L,hL,kk⟩:=kk;obtain⟨V,k1,k2⟩:=eI h hL;refine⟨V,k1,fun w=>?_⟩;simp[execOp,kk,Instr.field,Go.Proofs.YtgkjlklfjbljeaaGreat.Eo.run_underlying hu,hf,asAgg,k2]
    ·simp at h
   ·simp at hc
  ·simp at hc
 ·rename_i t x i;split at hc
  ·rename_i e hu;split at hc
   ·rename_i es y j hs hx hi;simp at hc;subst hc;simp only[mN,bt,aU,bV,cU,bw,bg,bG,bH,ca,bx,bW,aV,aW,bz,bA,bp,bI,bJ,cZ,bB]at h;split at h
    ·rename_i p o len nI cap jv hv hj;cases he:Nat.beq es nI
     ·rw[he]at h;simp at h
     ·rw[he,cond_true]at h;have ME:=Nat.eq_of_beq_eq_true he;split at h
      ·rename_i m hm;simp at h;subst h;have kk:=ai ht hx hv;obtain⟨df,k,hJ⟩:=pS hm (ai ht hi hj);have key:∃l c,ρ p=some l/\a.eval x=.slice (some ⟨l.b9,l.off+o,none⟩) len c:=by
         cases cap with
         |some c=>simp only[VR]at kk;obtain⟨l,h1,_,h2⟩:=kk;exact⟨l,_,h1,h2⟩
         |none=>
          simp only[VR]at kk;obtain⟨l,h1,_,_,h2|⟨h0,_⟩⟩:=kk
          ·exact⟨l,_,h1,h2⟩
          ·omega
       obtain⟨l,c,hl,kk⟩:=key;refine⟨.pointer (some ⟨l.b9,l.off+(o+m*es),none⟩),⟨l,hl,rfl⟩,fun w=>?_⟩;have GM:(0:Int)<=(m:Int)/\(m:Int)<((len:Nat):Int):=by omega
       simp only[execOp,kk,hJ,Instr.indexAt,asIntOf,Sem.run_bind,Sem.run_pure,Result.andThen_ok,Go.Proofs.YtgkjlklfjbljeaaGreat.Eo.run_underlying hu,if_pos GM,run_sizeOf hs,Int.toNat_natCast,fo,Nat.add_assoc]
      ·simp at h
    ·simp at h
   ·simp at hc
  ·rename_i n e hu;split at hc
   ·rename_i es y j hs hx hi;simp at hc;subst hc;simp only[mN,bt,aU,bV,cU,bw,bg,bG,bH,ca,bx,bW,aV,aW,bz,bA,bp,bI,bJ,cZ,bB]at h;split at h
    ·rename_i p o jv hv hj;split at h
     ·rename_i m hm;simp at h;subst h;have kk:=ai ht hx hv;simp only[VR]at kk;obtain⟨l,hl,kk⟩:=kk;obtain⟨df,k,hJ⟩:=pS hm (ai ht hi hj);refine⟨.pointer (some ⟨l.b9,l.off+(o+m*es),none⟩),⟨l,hl,rfl⟩,fun w=>?_⟩;have GM:(0:Int)<=(m:Int)/\(m:Int)<((n:Nat):Int):=by omega
      simp only[execOp,kk,hJ,Instr.indexAt,Instr.sureAddr,asIntOf,Sem.run_bind,Sem.run_pure,Result.andThen_ok,Go.Proofs.YtgkjlklfjbljeaaGreat.Eo.run_underlying hu,if_pos GM,run_sizeOf hs,Int.toNat_natCast,fo,Nat.add_assoc]
     ·simp at h
    ·simp at h
   ·simp at hc
  ·simp at hc
 ·rename_i t x i;split at hc
  ·rename_i n e hu;split at hc
   ·rename_i es y j hs hx hi;simp at hc;subst hc;simp only[mN,bt,aU,bV,cU,bw,bg,bG,bH,ca,bx,bW,aV,aW,bz,bA,bp,bI,bJ,cZ,bB]at h;split at h
    ·rename_i l jv hv hj;split at h
     ·rename_i m hm;have kk:=ai ht hx hv;simp only[VR]at kk;obtain⟨L,hL,kk⟩:=kk;obtain⟨df,k,hJ⟩:=pS hm (ai ht hi hj);obtain⟨V,k1,k2⟩:=eI h hL;refine⟨V,k1,fun w=>?_⟩;have GM:(0:Int)<=(m:Int)/\(m:Int)<((n:Nat):Int):=by omega
      simp only[execOp,kk,hJ,Instr.index,asIntOf,Sem.run_bind,Sem.run_pure,Result.andThen_ok,Go.Proofs.YtgkjlklfjbljeaaGreat.Eo.run_underlying hu,if_pos GM,run_sizeOf hs,Int.toNat_natCast,k2]
     ·simp at h
    ·simp at h
   ·simp at hc
  ·simp at hc
 ·rename_i x i;simp only[Option.map_eq_some_iff]at hc;obtain⟨y,hy,rfl⟩:=hc;simp only[mN,bt,aU,bV,cU,bw,bg,bG,bH,ca,bx,bW,aV,aW,bz,bA,bp,bI,bJ,cZ,bB]at h;split at h
  ·rename_i l hv;have kk:=ai ht hy hv;simp only[VR]at kk;obtain⟨L,hL,kk⟩:=kk;obtain⟨V,k1,k2⟩:=hL.get h;exact⟨V,k2,fun w=>by simp[execOp,kk,Instr.extract,k1]⟩
  ·simp at h
 ·rename_i args ats;split at hc
  ·rename_i x t fL CI;have gh:args= #[x]:=by apply Array.ext';simpa using fL
   subst gh;split at hc
   ·rename_i e y hu hy;simp at hc;subst hc;simp only[mN,bt,aU,bV,cU,bw,bg,bG,bH,ca,bx,bW,aV,aW,bz,bA,bp,bI,bJ,cZ,bB]at h;split at h
    ·rename_i p o len es cap hv;simp at h;subst h;have kk:=ai ht hy hv;have key:∃q c,a.eval x=.slice q len c:=by
      cases cap with
      |some c=>simp only[VR]at kk;obtain⟨l,h1,_,h2⟩:=kk;exact⟨_,_,h2⟩
      |none=>
       simp only[VR]at kk;obtain⟨l,h1,_,_,h2|⟨h0,z,h2⟩⟩:=kk
       ·exact⟨_,_,h2⟩
       ·exact⟨_,_,by rw[h2,h0]⟩
     obtain⟨q,c,kk⟩:=key;refine⟨_,rfl,fun w=>?_⟩;obtain⟨cs,hb⟩:=bU (P:=P) (ρ:=a.eval) (dst:=dst) (type:=type) (pos:=pos) (after:=after) (guard:=guard);rw[hb];simp[builtin,Builtin.len_,CI,kk,Go.Proofs.YtgkjlklfjbljeaaGreat.Eo.run_underlying hu,goInt]
    ·rename_i hv;simp at h;subst h;have kk:=ai ht hy hv;simp only[VR]at kk;refine⟨_,rfl,fun w=>?_⟩;obtain⟨cs,hb⟩:=bU (P:=P) (ρ:=a.eval) (dst:=dst) (type:=type) (pos:=pos) (after:=after) (guard:=guard);rw[hb];simp[builtin,Builtin.len_,CI,kk,Go.Proofs.YtgkjlklfjbljeaaGreat.Eo.run_underlying hu,goInt]
    ·simp at h
   ·rename_i y hu hy;simp at hc;subst hc;simp only[mN,bt,aU,bV,cU,bw,bg,bG,bH,ca,bx,bW,aV,aW,bz,bA,bp,bI,bJ,cZ,bB]at h;split at h
    ·rename_i b hv;simp at h;subst h;have kk:=ai ht hy hv;simp only[VR]at kk;refine⟨_,rfl,fun w=>?_⟩;obtain⟨cs,hb⟩:=bU (P:=P) (ρ:=a.eval) (dst:=dst) (type:=type) (pos:=pos) (after:=after) (guard:=guard);rw[hb];simp[builtin,Builtin.len_,CI,kk,Go.Proofs.YtgkjlklfjbljeaaGreat.Eo.run_underlying hu,goInt]
    ·simp at h
   ·rename_i k e y hu hy;simp at hc;subst hc;simp only[mN,bt,aU,bV,cU,bw,bg,bG,bH,ca,bx,bW,aV,aW,bz,bA,bp,bI,bJ,cZ,bB]at h;split at h
    ·rename_i hv;simp at h;subst h;have kk:=ai ht hy hv;simp only[VR]at kk;refine⟨_,rfl,fun w=>?_⟩;obtain⟨cs,hb⟩:=bU (P:=P) (ρ:=a.eval) (dst:=dst) (type:=type) (pos:=pos) (after:=after) (guard:=guard);rw[hb];simp[builtin,Builtin.len_,CI,kk,Go.Proofs.YtgkjlklfjbljeaaGreat.Eo.run_underlying hu,goInt]
    ·simp at h
   ·simp at hc
  ·simp at hc
 ·rename_i args ats;split at hc
  ·rename_i x ys fL;split at hc
   ·rename_i a1 b1 hx hy;simp at hc;subst hc;simp only[mN,bt,aU,bV,cU,bw,bg,bG,bH,ca,bx,bW,aV,aW,bz,bA,bp,bI,bJ,cZ,bB]at h;split at h
    ·rename_i u us hu hus;obtain⟨V,k1,k2⟩:=tz (P:=P) true h (ai ht hx hu) (fE ht hy hus);refine⟨V,k1,fun w=>?_⟩;have hl:(args.map a.eval).toList=a.eval x::ys.map a.eval:=by simp[fL]
     obtain⟨cs,hb⟩:=bU (P:=P) (ρ:=a.eval) (dst:=dst) (type:=type) (pos:=pos) (after:=after) (guard:=guard);rw[hb];have:=k2 w;simp only[if_true]at this;simp[builtin,Builtin.max_,fL,this]
    ·simp at h
   ·simp at hc
  ·simp at hc
 ·rename_i args ats;split at hc
  ·rename_i x ys fL;split at hc
   ·rename_i a1 b1 hx hy;simp at hc;subst hc;simp only[mN,bt,aU,bV,cU,bw,bg,bG,bH,ca,bx,bW,aV,aW,bz,bA,bp,bI,bJ,cZ,bB]at h;split at h
    ·rename_i u us hu hus;obtain⟨V,k1,k2⟩:=tz (P:=P) false h (ai ht hx hu) (fE ht hy hus);refine⟨V,k1,fun w=>?_⟩;have hl:(args.map a.eval).toList=a.eval x::ys.map a.eval:=by simp[fL]
     obtain⟨cs,hb⟩:=bU (P:=P) (ρ:=a.eval) (dst:=dst) (type:=type) (pos:=pos) (after:=after) (guard:=guard);rw[hb];have:=k2 w;simp only[Bool.false_eq_true,if_false]at this;simp[builtin,Builtin.min_,fL,this]
    ·simp at h
   ·simp at hc
  ·simp at hc
 ·rename_i args ats;split at hc
  ·rename_i x t fL CI;have gh:args= #[x]:=by apply Array.ext';simpa using fL
   subst gh;split at hc
   ·rename_i e y hu hy;simp at hc;subst hc;simp only[mN,bB]at h;split at h
    ·rename_i p o len es c hv;simp at h;subst h;have kk:=ai ht hy hv;simp only[VR]at kk;obtain⟨l,h1,_,kk⟩:=kk;refine⟨_,rfl,fun w=>?_⟩;obtain⟨cs,hb⟩:=bU (P:=P) (ρ:=a.eval) (dst:=dst) (type:=type) (pos:=pos) (after:=after) (guard:=guard);rw[hb];simp[builtin,Builtin.cap_,CI,kk,Go.Proofs.YtgkjlklfjbljeaaGreat.Eo.run_underlying hu,goInt]
    ·rename_i hv;simp at h;subst h;have kk:=ai ht hy hv;simp only[VR]at kk;refine⟨_,rfl,fun w=>?_⟩;obtain⟨cs,hb⟩:=bU (P:=P) (ρ:=a.eval) (dst:=dst) (type:=type) (pos:=pos) (after:=after) (guard:=guard);rw[hb];simp[builtin,Builtin.cap_,CI,kk,Go.Proofs.YtgkjlklfjbljeaaGreat.Eo.run_underlying hu,goInt]
    ·simp at h
   ·simp at hc
  ·simp at hc
 ·rename_i x st t;split at hc
  ·simp at hc
  ·rename_i u y Y7 hu hy;simp at hc;subst hc;simp only[mN,Bw]at h;split at h
   ·rename_i t' v' hv;cases hb:Nat.beq t' t with
    |false=>rw[hb]at h;simp at h
    |true=>
     rw[hb]at h;simp at h;subst h;have:=Nat.eq_of_beq_eq_true hb;subst this;have kk:=ai ht hy hv;simp only[VR]at kk;obtain⟨V,h1,h2⟩:=kk;refine⟨V,h1,fun w=>?_⟩;cases u<;>first
      |exact absurd rfl (Y7 _)
      |simp[execOp,h2,Instr.typeAssert,Go.Proofs.YtgkjlklfjbljeaaGreat.Eo.run_underlying hu]
   ·simp at h
  ·simp at hc
 ·simp at hc
inductive ROp where
 |ld (agg:Option Nat) (x:cg)
 |eqp (neg:Bool) (x y:cg)
 |Hy (x:cg)
def uT(g:Nat->Option AO)(agg:Option Nat)(a o:Nat):Option AV:=
 match g a with
 |some (.row cells _ _)=>match agg with
  |none=>cells.get o
  |some n=>match bh cells o n with
   |some l=>some (.agg l)
   |none=>none
 |some (.Aw cells)=>match agg with
  |none=>cells.get o
  |some n=>match bh cells o n with
   |some l=>some (.agg l)
   |none=>none
 |_=>none
def Iq(tm:T AV)(g:Nat->Option AO):ROp->Option AV
 | .ld agg x=>match cV tm x with
   |some (.ptr a o)=>uT g agg a o
   |_=>none
 | .eqp neg x y=>match cV tm x,cV tm y with
   |some (.ptr a o),some (.ptr b o')=>match g a,g b with
    |some (.row _ _ _),some (.row _ _ _)=>some (.bool (xor neg (Nat.beq a b&&Nat.beq o o')))
    |_,_=>none
   |_,_=>none
 | .Hy x=>match cV tm x with
   |some (.map a)=>match g a with
    |some (.map es _)=>some (.int .i64 es.length)
    |_=>none
   |_=>none
def cR(P:Program)(o:Oper):Option ROp:=match o.op with
 | .load t x=>match kF P t,aP x with
   |some g,some y=>some (.ld g y)
   |_,_=>none
 | .binOp op t x y _=>match P.underlying t with
   |some (.pointer e)=>match sz P e,aP x,aP y with
    |some (_+1),some a,some b=>match op with
     | .eql=>some (.eqp false a b)
     | .neq=>some (.eqp true a b)
     |_=>none
    |_,_,_=>none
   |_=>none
 | .call {callee:=.builtin .len,args,argTypes}=>match args.toList,argTypes[0]? with
   | [x],some t=>match P.underlying t,aP x with
     |some (.map _ _),some y=>some (.Hy y)
     |_,_=>none
   |_,_=>none
 |_=>none
theorem tA{P:Program}{ρ:aR}{g:Nat->Option AO}{w:World}(hr:HR ρ g w){t:TypeId}{agg:Option Nat}(ha:kF P t=some agg){a o:Nat}{v:AV}(h:uT g agg a o=some v){l:Loc}(hl:ρ a=some l):
 ∃V,VR ρ v V/\(loadVar t ⟨l.b9,l.off+o,none⟩).run P w=.ok V w:=by
 unfold uT at h;split at h
 ·rename_i cells len e hg;split at h
  ·obtain⟨V,k1,k2,k3⟩:=cell_of hr hg hl h;exact⟨V,k1,by simp only[loadVar,Sem.run_bind,iE ha,Result.andThen_ok,Option.isSome,Bool.false_eq_true,if_false];exact yW k3 _⟩
  ·rename_i n;split at h
   ·rename_i vs Lm;simp at h;subst h;obtain⟨Vs,k1,k2,k3,k4⟩:=rU hr hg hl Lm;refine⟨.agg Vs.toArray,⟨Vs,k1,rfl⟩,?_⟩;have:=kQ (P:=P) (w:=w) (a:=⟨l.b9,l.off+o,none⟩) (n:=n) k2 rfl k4;simp[loadVar,iE ha,run_sizeOf (pM ha),this]
   ·simp at h
 ·rename_i cells hg;split at h
  ·obtain⟨_,c,e,f,h1,h2⟩:=hr.obj a _ _ hg rfl hl;obtain⟨V,k1,k2,k3⟩:=h2 o v h;refine⟨V,k1,?_⟩;have hc:w.cell? ⟨l.b9,l.off+o,none⟩=some V:=by
        unfold World.cell?;rw[h1];simpa using k3
   simp only[loadVar,Sem.run_bind,iE ha,Result.andThen_ok,Option.isSome,Bool.false_eq_true,if_false];exact yW hc _
  ·rename_i n;split at h
   ·rename_i vs Lm;simp at h;subst h;obtain⟨Vs,k1,k2,k3,k4⟩:=cells_of_tab hr hg hl Lm;refine⟨.agg Vs.toArray,⟨Vs,k1,rfl⟩,?_⟩;have:=kQ (P:=P) (w:=w) (a:=⟨l.b9,l.off+o,none⟩) (n:=n) k2 rfl k4;simp[loadVar,iE ha,run_sizeOf (pM ha),this]
   ·simp at h
 ·simp at h
theorem Aa{P:Program}{o:Oper}{c:ROp}{tm:T AV}{v:AV}{ρ:aR}{a:Act}{g:Nat->Option AO}{w:World}(hc:cR P o=some c)(h:Iq tm g c=some v)(ht:TR ρ tm a.tmps)(hr:HR ρ g w):
 ∃V,VR ρ v V/\(execOp a.eval o).run P w=.ok (.value V) w:=by
 obtain⟨dst,op,type,pos,after,guard⟩:=o;unfold cR at hc;simp only[]at hc;split at hc
 ·rename_i t x;split at hc
  ·rename_i agg y Wz hy;simp at hc;subst hc;simp only[Iq]at h;split at h
   ·rename_i p q hv;have kk:=ai ht hy hv;simp only[VR]at kk;obtain⟨l,hl,kk⟩:=kk;obtain⟨V,k1,k2⟩:=tA hr Wz h hl;exact⟨V,k1,by simp[execOp,kk,Instr.loadAt,Instr.sureAddr,k2]⟩
   ·simp at h
  ·simp at hc
 ·rename_i op t x y _;split at hc
  ·rename_i e hu;split at hc
   ·rename_i n a1 b1 hs hx hy;have main:∀{p q p' q':Nat},cV tm a1=some (.ptr p q)->cV tm b1=some (.ptr p' q')->∀{c1 c2:T AV} {l1 l2:Nat} {e1 e2:TypeId},g p=some (.row c1 l1 e1)->g p'=some (.row c2 l2 e2)->
     ∃A B,a.eval x=.pointer (some A)/\a.eval y=.pointer (some B)/\(Op.equal t (.pointer (some A)) (.pointer (some B))).run P w=.ok (Nat.beq p p'&&Nat.beq q q') w:=by
     intro p q p' q' h1 h2 c1 c2 l1 l2 e1 e2 Ii xZ;have k1:=ai ht hx h1;have k2:=ai ht hy h2;simp only[VR]at k1 k2;obtain⟨l,hl,k1⟩:=k1;obtain⟨m,hm,k2⟩:=k2;refine⟨_,_,k1,k2,?_⟩;obtain⟨b1,_,cc1,PJ,_⟩:=hr.row Ii hl;obtain⟨b2,_,cc2,XW,_⟩:=hr.row xZ hm;have ten:Op.maxDepth=9999+1:=rfl;unfold Op.equal;rw[ten,Op.equalIn];simp only[Sem.run_bind,Go.Proofs.YtgkjlklfjbljeaaGreat.Eo.run_underlying hu,Result.andThen_ok,run_sizeOf hs,ne_eq,Nat.add_eq_zero_iff,Nat.succ_ne_zero,and_false,not_false_eq_true,if_true];rw[beq_iff,beq_iff]
     by_cases e:p=p'
     ·subst e;rw[hl]at hm;simp at hm;subst hm;simp only[sameAddr,beq_self_eq_true,if_true,Sem.run_pure,decide_true,Bool.true_and];congr 1;rw[Bool.eq_iff_iff];simp[Addr.mk.injEq]
     ·have dB:l.b9≠m.b9:=fun hh=>e (hr.inj p p' _ _ l m Ii rfl xZ rfl hl hm hh)
      have hb:(l.b9==m.b9)=false:=by simpa using dB
      simp only[sameAddr,hb,Bool.false_eq_true,if_false];simp[World.frozen?,World.shape?,PJ,XW,noView,viewAt,mayBeOne,stringish,e]
    split at hc
    ·simp at hc;subst hc;simp only[Iq]at h;split at h
     ·rename_i p q p' q' h1 h2;split at h
      ·rename_i c1 l1 e1 c2 l2 e2 Ii xZ;simp at h;subst h;obtain⟨A,B,k1,k2,k3⟩:=main h1 h2 Ii xZ;refine⟨_,rfl,?_⟩;simp[execOp,k1,k2,eqGuard,binOp,k3]
      ·simp at h
     ·simp at h
    ·simp at hc;subst hc;simp only[Iq]at h;split at h
     ·rename_i p q p' q' h1 h2;split at h
      ·rename_i c1 l1 e1 c2 l2 e2 Ii xZ;simp at h;subst h;obtain⟨A,B,k1,k2,k3⟩:=main h1 h2 Ii xZ;refine⟨_,rfl,?_⟩;simp[execOp,k1,k2,eqGuard,binOp,k3]
      ·simp at h
     ·simp at h
    ·simp at hc
   ·simp at hc
  ·simp at hc
 ·rename_i args ats;split at hc
  ·rename_i x t fL CI;have gh:args= #[x]:=by apply Array.ext';simpa using fL
   subst gh;split at hc
   ·rename_i k e y hu hy;simp at hc;subst hc;simp only[Iq]at h;split at h
    ·rename_i p hv;split at h
     ·rename_i es clock hg;simp at h;subst h;have kk:=ai ht hy hv;simp only[VR]at kk;obtain⟨l,hl,kk⟩:=kk;obtain⟨h2,ES,h3,h4⟩:=hr.obj p _ l hg rfl hl;have hlen:∀{es:List (AV×AV×Nat)} {ES:List MapEntry},ij ρ es ES->ES.length=es.length:=by
       intro es
       induction es with
       |nil=>intro ES h;simp only[ij]at h;simp[h]
       |cons x xs ih=>intro ES h;obtain⟨E,M,_,_,_,h5,rfl⟩:=h;simp[ih h5]
      obtain⟨cs,hb⟩:=bU (P:=P) (ρ:=a.eval) (b:=.len) (args:= #[x]) (ats:=ats) (dst:=dst) (type:=type) (pos:=pos) (after:=after) (guard:=guard);refine⟨_,rfl,?_⟩;rw[hb];simp[builtin,Builtin.len_,CI,kk,Go.Proofs.YtgkjlklfjbljeaaGreat.Eo.run_underlying hu,goInt,getObj,Sem.run,h4,hlen h3]
     ·simp at h
    ·simp at h
   ·simp at hc
  ·simp at hc
 ·simp at hc
inductive NOp where
 |new (e:TypeId) (z:List AV)
 |box (e:TypeId) (x:cg)
 |fl (e:TypeId) (es len:Nat) (z:List AV) (ps:List (Nat×Nat×cg))
 |yb (e:TypeId) (es bytes:Nat) (z:List AV) (l c:cg)
 |Fk
def rep(z:List AV)(n:Nat):List AV:=(List.range n).map fun i=>(z[i %z.length]?).getD .aJ
def Cs:AV->Option Nat
 | .int _ (.ofNat m)=>some m
 |_=>none
def MF(tm:T AV):NOp->Option (AO×(Nat->AV))
 | .new e z=>some (.row (aa 0 z .e) z.length e,fun a=>.ptr a 0)
 | .box e x=>match cV tm x with
   |some v=>match ik v with
    |some l=>some (.row (aa 0 l .e) l.length e,fun a=>.ptr a 0)
    |none=>none
   |none=>none
 | .fl e es len z ps=>match ky tm ps z with
   |some l=>some (.row (aa 0 l .e) l.length e,fun a=>.sl a 0 len es (some len))
   |none=>none
 | .yb e es bytes z l c=>match cV tm l,cV tm c with
   |some l,some c=>match Cs l,Cs c with
    |some m,some n=>cond (Nat.ble m n&&Nat.ble (bytes*n) 281474976710656&&Nat.ble n 281474976710656)
         (some (.row (aa 0 (rep z (n*es)) .e) (n*es) e,fun a=>.sl a 0 m es (some n))) none
    |_,_=>none
   |_,_=>none
 | .Fk=>some (.map [] 0,fun a=>.map a)
def cN(P:Program)(o:Oper):Option NOp:=match o.op with
 | .alloc e=>(dz P e).map (.new e)
 | .box e x=>(aP x).map (.box e)
 | .buildSlice t len ps=>match P.underlying t with
   |some (.slice e)=>match sz P e,dz P e with
    |some es,some z=>cond (Nat.ble (len*es) 16777216&&Nat.beq z.length es) (match pQ (fun i=>some (i*es,es)) ps.toList with
     |some l=>some (.fl e es len (rep z (len*es)) l)
     |none=>none) none
    |_,_=>none
   |_=>none
 | .makeSlice t l c=>match P.underlying t with
   |some (.slice e)=>match P.info? e,dz P e,aP l,aP c with
    |some i,some z,some l,some c=>cond (Nat.beq z.length i.size) (some (.yb e i.size i.bytes z l c)) none
    |_,_,_,_=>none
   |_=>none
 | .makeMap t none=>some .Fk
 |_=>none
theorem Ab{ρ:aR}{z:List AV}{Z:Array Value}(h:bE ρ z Z.toList)(n:Nat)(hz:n=0\/0<z.length):bE ρ (rep z n) ((Array.range n).map (Z[·%Z.size]!)).toList:=by
 have hl:Z.size=z.length:=by simpa using h.length
 refine bE.La (by simp[rep]) fun i v V hv hV=>?_
 unfold rep at hv;simp only[List.getElem?_map,Option.map_eq_some_iff]at hv;obtain⟨j,hj,rfl⟩:=hv;have FK:i<n/\j=i:=by
  have:=List.getElem?_eq_some_iff.1 hj;obtain⟨h1,h2⟩:=this;simp at h1 h2;exact⟨h1,h2.symm⟩
 obtain⟨fH,rfl⟩:=FK;have eA:0<z.length:=by rcases hz with hz|hz<;>omega
 have hm:j %z.length<z.length:=Nat.mod_lt _ eA;obtain⟨U,k1,k2⟩:=h.get (i:=j %z.length) (v:=z[j %z.length]) (by simp[hm]);simp[fH]at hV;subst hV;rw[hl];have e1:Z[j %z.length]! =U:=by
  have:Z[j %z.length]?=some U:=by simpa using k1
  simp[getElem!_def,this]
 rw[e1];simpa [hm]using k2
structure adf(P:Program)(ρ:aR)(s:Sem Next)(ao:AO)(f:Nat->AV):Prop where
 live:ao.live=true
 run:∃obj room,(∀w:World,∃V,s.run P w=.ok (.value V) (w.alloc obj)/\∀(ρ':aR) (a:Nat),ρ' a=some ⟨w.heap.size,0,room⟩->VR ρ' (f a) V)/\
  ∀(ρ':aR) (w:World) (b:Nat),Le ρ ρ'->w.heap[b]?=some obj->uJ ρ' w ⟨b,0,room⟩ ao
theorem By{ρ ρ':aR}(hle:Le ρ ρ'){vs:List AV}{Vs:List Value}(hv:bE ρ vs Vs)(h1:∀V∈Vs,one V=true){n:Nat}(hn:n=vs.length)(e:TypeId){w:World}{b:Nat}(hb:w.heap[b]?=some (.cells Vs.toArray e)):
 uJ ρ' w ⟨b,0,n⟩ (.row (aa 0 vs .e) n e):=by
 subst hn;refine⟨Nat.le_refl _,Vs.toArray,hb,by simp[hv.length],fun i v hg=>?_⟩;rw[dm]at hg;have hi:i<vs.length:=by
  by_cases hh:0<=i/\i<0+vs.length
  ·omega
  ·rw[if_neg hh,T.di]at hg;simp at hg
 rw[if_pos (by omega)]at hg;have xZ:vs[i]?=some v:=by simpa using hg
 obtain⟨V,k1,k2⟩:=hv.get xZ;exact⟨hi,V,VR.mono hle _ _ k2,h1 V (List.mem_of_getElem? k1),by simpa using k1⟩
theorem wY{tm:T AV}:∀{ps:List (Nat×Nat×cg)} {zs r:List AV},ky tm ps zs=some r->zs.all aY=true->r.all aY=true/\r.length=zs.length
 | [],zs,r,h,hz=>by simp[ky]at h;subst h;exact⟨hz,rfl⟩
 |(off,n,x)::ps,zs,r,h,hz=>by
  unfold ky at h;split at h
  ·rename_i v hv;split at h
   ·rename_i l hl;cases hb:(Nat.beq l.length n&&Nat.ble (off+l.length) zs.length)
    ·rw[hb]at h;simp at h
    ·rw[hb,cond_true]at h;have pD:l.all aY=true:=by
      cases v<;>simp only[ik]at hl
      case agg m=>
        cases hm:m.all aY
        ·rw[hm]at hl;simp at hl
        ·rw[hm]at hl;simp at hl;subst hl;exact hm
      all_goals first
        |(simp at hl;done)
        |(simp only[Option.some.injEq]at hl;subst hl;rfl)
     have key:∀(l:List AV) (k:Nat) (zs:List AV),l.all aY=true->zs.all aY=true->(sd k l zs).all aY=true/\(sd k l zs).length=zs.length:=by
      intro l
      induction l with
      |nil=>intro k zs _ hz;exact⟨hz,rfl⟩
      |cons c l ih=>
       intro k zs hc hz;simp only[List.all_cons,Bool.and_eq_true]at hc;have:=ih (k+1) (zs.set k c) hc.2 (by
           rw[List.all_eq_true]at hz⊢;intro x hx;rcases List.mem_or_eq_of_mem_set hx with hx|rfl
           ·exact hz x hx
           ·exact hc.1)
       exact⟨this.1,by simpa [sd]using this.2⟩
     obtain⟨k1,k2⟩:=key l off zs pD hz;obtain⟨j1,j2⟩:=wY h k1;exact⟨j1,j2.trans k2⟩
   ·simp at h
  ·simp at h
theorem Dl:∀{L:List Value} {l:List AV},PB L=some l->l.all aY=true
 | [],l,h=>by simp[PB]at h;subst h;rfl
 |V::L,l,h=>by
  unfold PB at h;split at h
  ·rename_i v hv;split at h
   ·rename_i m hm;simp at h;subst h;simp only[List.all_cons,Dl hm,Bool.and_true];unfold XJ at hv;split at hv<;>first
     |(simp at hv;subst hv;rfl)
     |simp at hv
   ·simp at h
  ·simp at h
theorem ud{P:Program}{t:TypeId}{l:List AV}(h:dz P t=some l):l.all aY=true:=by
 unfold dz at h;split at h
 ·split at h
  ·exact Dl h
  ·simp at h
 ·simp at h
theorem dZ{z:List AV}(h:z.all aY=true)(n:Nat):(rep z n).all aY=true:=by
 rw[List.all_eq_true]at h⊢;intro x hx;simp only[rep,List.mem_map]at hx;obtain⟨i,_,rfl⟩:=hx;cases hg:z[i %z.length]? with
 |none=>rfl
 |some u=>exact h u (List.mem_of_getElem? hg)
theorem pJ(z:List AV)(n:Nat):(rep z n).length=n:=by simp[rep]
theorem Ac{P:Program}{o:Oper}{c:NOp}{tm:T AV}{ao:AO}{f:Nat->AV}{ρ:aR}{a:Act}(hc:cN P o=some c)(h:MF tm c=some (ao,f))(ht:TR ρ tm a.tmps):adf P ρ (execOp a.eval o) ao f:=by
 obtain⟨dst,op,type,pos,after,guard⟩:=o;unfold cN at hc;simp only[]at hc;split at hc
 ·rename_i e;simp only[Option.map_eq_some_iff]at hc;obtain⟨z,hz,rfl⟩:=hc;simp only[MF,Option.some.injEq,Prod.mk.injEq]at h;obtain⟨rfl,rfl⟩:=h;obtain⟨Z,k1,k2,k3⟩:=fp hz ρ default;have gf:∀w,(zeroValue e).run P w=.ok Z w:=fun w=>by
   obtain⟨Z',j1,_⟩:=fp hz ρ w;unfold dz at hz;split at hz
   ·rename_i i hi;split at hz
    ·rename_i z' Il;simp[zeroValue,run_typeInfo hi,Il]at k1⊢;exact k1
    ·simp at hz
   ·simp at hz
  refine⟨rfl,.cells Z.cells e,z.length,fun w=>⟨.pointer (some ⟨w.heap.size,0,none⟩),?_,fun ρ' b hb=>⟨_,hb,rfl⟩⟩,fun ρ' w b hle hb=>?_⟩
  ·simp[execOp,Instr.alloc,gf,newVar,newRow]
  ·exact By hle k2 k3 rfl e (by simpa using hb)
 ·rename_i e x;simp only[Option.map_eq_some_iff]at hc;obtain⟨y,hy,rfl⟩:=hc;simp only[MF]at h;split at h
  ·rename_i v hv;split at h
   ·rename_i l hl;simp only[Option.some.injEq,Prod.mk.injEq]at h;obtain⟨rfl,rfl⟩:=h;obtain⟨k1,k2⟩:=lQ (ai ht hy hv) hl;refine⟨rfl,.cells (a.eval x).cells e,l.length,fun w=>⟨.pointer (some ⟨w.heap.size,0,none⟩),?_,fun ρ' b hb=>⟨_,hb,rfl⟩⟩,fun ρ' w b hle hb=>?_⟩
    ·simp[execOp,Instr.box,newVar,newRow]
    ·exact By hle k1 k2 rfl e (by simpa using hb)
   ·simp at h
  ·simp at h
 ·rename_i t len ps;split at hc
  ·rename_i e hu;split at hc
   ·rename_i es z hs hz;cases hb:(Nat.ble (len*es) 16777216&&Nat.beq z.length es)
    ·rw[hb]at hc;simp at hc
    ·rw[hb,cond_true]at hc;simp only[Bool.and_eq_true]at hb;have hle:=Nat.le_of_ble_eq_true hb.1;have Co:=Nat.eq_of_beq_eq_true hb.2;split at hc
     ·rename_i l hl;simp at hc;subst hc;simp only[MF]at h;split at h
      ·rename_i r hr;simp only[Option.some.injEq,Prod.mk.injEq]at h;obtain⟨rfl,rfl⟩:=h;obtain⟨Z,k1,k2,k3⟩:=fp hz ρ default;have gf:∀w,(zeroValue e).run P w=.ok Z w:=fun w=>by
        unfold dz at hz;split at hz
        ·rename_i i hi;split at hz
         ·rename_i z' Il;simp[zeroValue,run_typeInfo hi,Il]at k1⊢;exact k1
         ·simp at hz
        ·simp at hz
       have hzero:len*es=0\/0<z.length:=by
        rcases Nat.eq_zero_or_pos z.length with h0|h0
        ·left;rw[←Co,h0];rfl
        ·exact .inr h0
       have PK:=Ab k2 (len*es) hzero;obtain⟨R,e1,e2⟩:=pR ht hl hr PK;obtain⟨ho,hlen⟩:=wY hr (dZ (ud hz) _);rw[pJ]at hlen;refine⟨rfl,.cells R e,r.length,fun w=>⟨.slice (some ⟨w.heap.size,0,none⟩) len len,?_,fun ρ' b hb=>⟨_,hb,Nat.le_refl _,rfl⟩⟩,fun ρ' w b hle hb=>?_⟩
       ·simp only[execOp,Instr.buildSlice,Sem.run_bind,Go.Proofs.YtgkjlklfjbljeaaGreat.Eo.run_underlying hu,Result.andThen_ok,run_sizeOf hs];rw[if_neg (by omega)]
        by_cases h0:len*es=0
        ·have r0:∀f:Nat->Value,(Array.range 0).map f= #[]:=fun f=>by simp
         simp only[h0,r0]at e1;simp[h0,r0,newRow,e1]
        ·simp[h0,gf,newRow,e1]
       ·exact By hle e2 (sf e2 ho) rfl e (by simpa using hb)
      ·simp at h
     ·simp at hc
   ·simp at hc
  ·simp at hc
 ·rename_i t l c;split at hc
  ·rename_i e hu;split at hc
   ·rename_i i z l' c' hi hz hl vI;cases hb:Nat.beq z.length i.size
    ·rw[hb]at hc;simp at hc
    ·rw[hb,cond_true]at hc;have Co:=Nat.eq_of_beq_eq_true hb;simp at hc;subst hc;simp only[MF]at h;split at h
     ·rename_i lv cv dE Wy;split at h
      ·rename_i m n hm hn;cases hk:(Nat.ble m n&&Nat.ble (i.bytes*n) 281474976710656&&Nat.ble n 281474976710656)
       ·rw[hk]at h;simp at h
       ·rw[hk,cond_true]at h;simp only[Bool.and_eq_true]at hk;have k1:=Nat.le_of_ble_eq_true hk.1.1;have k2:=Nat.le_of_ble_eq_true hk.1.2;have k3:=Nat.le_of_ble_eq_true hk.2;simp only[Option.some.injEq,Prod.mk.injEq]at h;obtain⟨rfl,rfl⟩:=h;have hL:∃k,a.eval l=.int k (m:Int):=by
           have:=ai ht hl dE;unfold Cs at hm;split at hm
           ·simp at hm;subst hm;simp only[VR]at this;exact⟨_,this⟩
           ·simp at hm
        have hC:∃k,a.eval c=.int k (n:Int):=by
           have:=ai ht vI Wy;unfold Cs at hn;split at hn
           ·simp at hn;subst hn;simp only[VR]at this;exact⟨_,this⟩
           ·simp at hn
        obtain⟨kl,hL⟩:=hL;obtain⟨kc,hC⟩:=hC;have hs:sz P e=some i.size:=by simp[sz,hi]
        obtain⟨Z,z1,z2,z3⟩:=fp hz ρ default;have gf:∀w,(zeroValue e).run P w=.ok Z w:=fun w=>by
           unfold dz at hz;rw[hi]at hz;simp only[]at hz;split at hz
           ·rename_i z' Il;simp[zeroValue,run_typeInfo hi,Il]at z1⊢;exact z1
           ·simp at hz
        have hzero:n*i.size=0\/0<z.length:=by
           rcases Nat.eq_zero_or_pos z.length with h0|h0
           ·left;rw[←Co,h0];rfl
           ·exact .inr h0
        have PK:=Ab z2 (n*i.size) hzero;have wl:IntKind.i64.wrap (m:Int)=m:=IntWalk.i64_in _ (by omega);have wc:IntKind.i64.wrap (n:Int)=n:=IntWalk.i64_in _ (by omega);have WA:¬((2:Int)^48<(i.bytes:Int)*(n:Int)):=by
           have this:((i.bytes*n:Nat):Int)<=((281474976710656:Nat):Int):=Int.ofNat_le.2 k2;rw[Int.natCast_mul]at this;have e48:(2:Int)^48=((281474976710656:Nat):Int):=by decide+kernel
           rw[e48];exact Int.not_lt.2 this
        refine⟨rfl,.cells ((Array.range (n*i.size)).map (Z.cells[·%Z.cells.size]!)) e,n*i.size,fun w=>⟨.slice (some ⟨w.heap.size,0,none⟩) m n,?_,fun ρ' b hb=>⟨_,hb,k1,rfl⟩⟩,fun ρ' w b hle hb=>?_⟩
        ·simp only[execOp,Instr.makeSlice,Sem.run_bind,Go.Proofs.YtgkjlklfjbljeaaGreat.Eo.run_underlying hu,Result.andThen_ok,hL,hC,asInt,asIntOf,Sem.run_pure,run_typeInfo hi,wl,wc];have ue:((decide ((n:Int)<0)||decide ((i.bytes:Int)*(n:Int)>2^48))||decide ((m:Int)<0)||decide ((m:Int)>(n:Int)))=false:=by
           simp only[Bool.or_eq_false_iff,decide_eq_false_iff_not];refine⟨⟨⟨by omega,WA⟩,by omega⟩,by omega⟩
         rw[if_neg (by rw[ue];exact Bool.false_ne_true)];simp only[Sem.run_bind,Sem.run_pure,run_askRoom,Result.andThen_ok,run_sizeOf hs,Int.toNat_natCast];have r0:∀f:Nat->Value,(Array.range 0).map f= #[]:=fun f=>by simp
         by_cases h0:n*i.size=0
         ·simp only[h0,if_true,Sem.run_pure,Result.andThen_ok,r0];simp[newRow]
         ·simp[h0,newRow,gf]
        ·refine By hle PK (sf PK (dZ (ud hz) _)) (by rw[pJ]) e (by rw[Array.toArray_toList];exact hb)
      ·simp at h
     ·simp at h
   ·simp at hc
  ·simp at hc
 ·rename_i t;simp at hc;subst hc;simp only[MF,Option.some.injEq,Prod.mk.injEq]at h;obtain⟨rfl,rfl⟩:=h;refine⟨rfl,.map #[] 0,0,fun w=>⟨.map (some w.heap.size),?_,fun ρ' b hb=>⟨_,hb,rfl⟩⟩,fun ρ' w b hle hb=>⟨[],rfl,hb⟩⟩;simp[execOp,Instr.makeMap]
 ·simp at hc
def Dm(P:Program)(s:Sem Next)(ρ:aR)(h:H)(w:World)(v:AV)(h':H):Prop:=
 ∃ρ' w' V,(s.run P w=.ok (.value V) w'\/s.run P w=.ok .skip w'/\V=undef)/\VR ρ' v V/\Way ρ h w ρ' h' w'
theorem vJ(HB old:Nat)(h:old<HB):Builtin.nextslicecap HB old<=2*HB+192:=by
 unfold Builtin.nextslicecap;split
 ·omega
 ·split
  ·omega
  ·have key:∀r c,c<=2*HB+192->Builtin.growBy HB r c<=2*HB+192:=by
        intro r
        induction r with
        |zero=>intro c hc;simpa [Builtin.growBy]using hc
        |succ r ih=>
         intro c hc;unfold Builtin.growBy;split
         ·exact hc
         ·exact ih _ (by omega)
   exact key 4 old (by omega)
theorem Ln(n:Nat)(h:0<n):Builtin.nextslicecap (0+n) 0<=n:=by
 unfold Builtin.nextslicecap;rw[if_pos (by omega)];omega
theorem eL(z:Array Value)(n:Nat):(Builtin.zeroCells z n).size=n*z.size:=by simp[Builtin.zeroCells]
theorem pT{P:Program}{ts tx e:TypeId}{ats:Array TypeId}{ex:TypeId}{es:Nat}(h0:ats[0]?=some ts)(h1:ats[1]?=some tx)(hu:P.underlying ts=some (.slice e))(hx:P.underlying tx=some (.slice ex))(hs:sz P e=some es)
 {p:Option Addr} {len cap n c2:Nat} {q:Option Addr} {SRC:List Value} {w w':World} (Bz:len+n<=cap) (iW:(Builtin.firstCells es n (.slice q n c2)).run P w=.ok SRC.toArray w)
 (ri:(match p with|some a=>storeCells (a.add (len*es)) SRC|none=>pure ():Sem Unit).run P w=.ok () w') (type:TypeId):
 (Builtin.append_ ats type #[.slice p len cap,.slice q n c2]).run P w=.ok (.slice p (len+n) cap) w':=by
 unfold Builtin.append_;simp only[h0,h1,List.getElem?_toArray,List.getElem?_cons_zero,List.getElem?_cons_succ,Sem.run_bind,Go.Proofs.YtgkjlklfjbljeaaGreat.Eo.run_underlying hu,Go.Proofs.YtgkjlklfjbljeaaGreat.Eo.run_underlying hx,Result.andThen_ok,run_sizeOf hs,Sem.run_pure,Builtin.lenOf,Bool.false_eq_true,if_false,if_pos Bz,Bool.not_false,if_true,iW];cases p with
 |none=>simp at ri⊢;exact ri
 |some a=>simp only[]at ri;simp[ri]
theorem Dn{P:Program}{ts tx e ex:TypeId}{ats:Array TypeId}{es:Nat}{i:TypeInfo}{Z:Value}(h0:ats[0]?=some ts)(h1:ats[1]?=some tx)(hu:P.underlying ts=some (.slice e))(hx:P.underlying tx=some (.slice ex))(hi:P.info? e=some i)(hs:i.size=es)
 (hz:∀w,(zeroValue e).run P w=.ok Z w) {p q:Option Addr} {len cap n c2:Nat} {OLD SRC:List Value} {w:World} (Bz:cap<len+n) {lim:Nat} (WD:Builtin.nextslicecap (len+n) cap<=lim) (hb:lim*i.bytes<=281474976710656) (hn:len+n<=281474976710656)
 (hold:∀w':World,w'.heap=w.heap->(Builtin.firstCells es len (.slice p len cap)).run P w'=.ok OLD.toArray w') (iW:∀w':World,w'.heap=w.heap->(Builtin.firstCells es n (.slice q n c2)).run P w'=.ok SRC.toArray w') (type:TypeId):
 ∃m w',len+n<=m/\w'.heap=w.heap.push (.cells (OLD.toArray++SRC.toArray++Builtin.zeroCells Z.cells (m-(len+n))) e)/\Env w w'/\
  (Builtin.append_ ats type #[.slice p len cap,.slice q n c2]).run P w=.ok (.slice (some ⟨w.heap.size,0,none⟩) (len+n) m) w':=by
 subst hs;refine⟨(Question.appendCap (len+n) cap e).cut (w.tape w.drawn (.appendCap (len+n) cap e)),{w with drawn:=w.drawn+1,heap:=w.heap.push (.cells (OLD.toArray++SRC.toArray++Builtin.zeroCells Z.cells ((Question.appendCap (len+n) cap e).cut (w.tape w.drawn (.appendCap (len+n) cap e)) -(len+n))) e)},?_,rfl,⟨rfl,rfl,rfl⟩,?_⟩
 ·simp only[Question.cut];omega
 ·have hle:Builtin.nextslicecap (len+n) cap*i.bytes<=lim*i.bytes:=Nat.mul_le_mul_right _ WD;have e48:(2:Nat)^48=281474976710656:=by decide+kernel
  have c1:¬(Builtin.nextslicecap (len+n) cap*i.bytes>2^48):=by rw[e48];omega
  have WE:IntKind.i64.max=9223372036854775807:=by decide+kernel
  have c2:¬(((len+n:Nat):Int)>IntKind.i64.max):=by rw[WE];omega
  unfold Builtin.append_;simp only[h0,h1,List.getElem?_toArray,List.getElem?_cons_zero,List.getElem?_cons_succ,Sem.run_bind,Go.Proofs.YtgkjlklfjbljeaaGreat.Eo.run_underlying hu,Go.Proofs.YtgkjlklfjbljeaaGreat.Eo.run_underlying hx,Result.andThen_ok,sizeOf,run_typeInfo hi,Sem.run_pure,Builtin.lenOf,Bool.false_eq_true,if_false,Bool.not_false,if_true];rw[if_neg (by omega)];simp only[Sem.run_bind,Sem.run_ite,run_typeInfo hi,Result.andThen_ok,c2,false_and,if_false,c1,Sem.run_pure,run_choose,Question.forced,Bool.false_eq_true,run_askRoom];rw[hold {w with drawn:=w.drawn+1} rfl];simp only[Result.andThen_ok];rw[iW {w with drawn:=w.drawn+1} rfl];simp only[Result.andThen_ok,hz];simp[newRow];exact⟨rfl,rfl,rfl⟩
theorem BA{P:Program}{ts tx e:TypeId}{ats:Array TypeId}{k k':IntKind}{es:Nat}{i:TypeInfo}{Z:Value}(h0:ats[0]?=some ts)(h1:ats[1]?=some tx)(hu:P.underlying ts=some (.slice e))(hx:P.underlying tx=some (.int k))(hi:P.info? e=some i)(hs:i.size=es)(eA:0<es)
 (hz:∀w,(zeroValue e).run P w=.ok Z w) {n:Nat} {w:World} (Bz:0<n) (hb:(2*(0+n)+192)*i.bytes<=281474976710656) (hn:0+n<=281474976710656) (type:TypeId):
 ∃m w',n<=m/\w'.heap=w.heap.push (.cells (Builtin.zeroCells Z.cells n++Builtin.zeroCells Z.cells (m-n)) e)/\Env w w'/\
  (Builtin.append_ ats type #[.slice none 0 0,.int k' n]).run P w=.ok (.slice (some ⟨w.heap.size,0,none⟩) n m) w':=by
 subst hs;refine⟨(Question.appendCap n 0 e).cut (w.tape w.drawn (.appendCap n 0 e)),{w with drawn:=w.drawn+1,heap:=w.heap.push (.cells (Builtin.zeroCells Z.cells n++Builtin.zeroCells Z.cells ((Question.appendCap n 0 e).cut (w.tape w.drawn (.appendCap n 0 e)) -n)) e)},?_,rfl,⟨rfl,rfl,rfl⟩,?_⟩
 ·simp only[Question.cut];omega
 ·have I2:=vJ n 0 Bz;have hle:Builtin.nextslicecap n 0*i.bytes<=(2*n+192)*i.bytes:=Nat.mul_le_mul_right _ I2;have e48:(2:Nat)^48=281474976710656:=by decide+kernel
  have anV:(2:Int)^48=281474976710656:=by decide+kernel
  rw[Nat.zero_add]at hb hn;have c1:¬(Builtin.nextslicecap n 0*i.bytes>2^48):=by rw[e48];omega
  have WE:IntKind.i64.max=9223372036854775807:=by decide+kernel
  have c2:¬((n:Int)>IntKind.i64.max):=by rw[WE];omega
  have hw:IntKind.i64.wrap (n:Int)=(n:Int):=by
   have e1:(2:Int)^IntKind.i64.bits=18446744073709551616:=by decide+kernel
   have e2:(2:Int)^(IntKind.i64.bits-1)=9223372036854775808:=by decide+kernel
   have e3:IntKind.i64.signed=true:=rfl;simp only[IntKind.wrap,e1,e2,e3];have e4:(n:Int)%18446744073709551616=n:=Int.emod_eq_of_lt (by omega) (by omega);rw[e4,if_neg];simp;omega
  have c3:¬((n:Int)<0):=by omega
  have Cp:n*i.bytes<=(2*n+192)*i.bytes:=Nat.mul_le_mul_right _ (by omega);have c4:¬((n:Int)*(i.bytes:Int)>2^48):=by
   rw[anV];have:((n*i.bytes:Nat):Int)<=281474976710656:=by omega
   have e:((n*i.bytes:Nat):Int)=(n:Int)*(i.bytes:Int):=by simp
   omega
  have c5:¬(n*i.size=0):=by
   have:=Nat.mul_pos Bz eA;omega
  unfold Builtin.append_;simp only[h0,h1,List.getElem?_toArray,List.getElem?_cons_zero,List.getElem?_cons_succ,Sem.run_bind,Go.Proofs.YtgkjlklfjbljeaaGreat.Eo.run_underlying hu,Go.Proofs.YtgkjlklfjbljeaaGreat.Eo.run_underlying hx,Result.andThen_ok,sizeOf,run_typeInfo hi,Sem.run_pure,if_true,asInt,hw,c3,if_false,Sem.run_ite,c4,Int.toNat_natCast,Nat.zero_add,Bool.not_true,Bool.false_eq_true];have ha:(asIntOf (.int k' (n:Int))).run P w=.ok (k',(n:Int)) w:=rfl;have c6:¬(n<=0):=by omega
  simp only[ha,Result.andThen_ok,hw,c3,if_false,c4,Int.toNat_natCast,c6,c2,false_and,c1,run_choose,Question.forced,Bool.false_eq_true,run_askRoom,c5,hz,Builtin.firstCells,Sem.run_pure];simp[newRow];exact⟨rfl,rfl,rfl⟩
inductive EOp where
 |st (n:Nat) (a x:cg)
 |app (e:TypeId) (es bytes:Nat) (s x:cg)
 |adh (e:TypeId) (es bytes:Nat) (z:List AV) (s x:cg)
theorem m8(Z:Array Value)(n:Nat):(Builtin.zeroCells Z (n+1)).toList=Z.toList++(Builtin.zeroCells Z n).toList:=by
 apply List.ext_getElem
 ·simp[eL,Nat.succ_mul,Nat.add_comm]
 ·intro i h1 h2;have hs:i<(n+1)*Z.size:=by simpa [eL]using h1
  have eA:0<Z.size:=by
   rcases Nat.eq_zero_or_pos Z.size with h|h
   ·rw[h]at hs;simp at hs
   ·exact h
  by_cases hi:i<Z.size
  ·rw[List.getElem_append_left (by simpa using hi)];simp only[Builtin.zeroCells,Array.getElem_toList,Array.getElem_map,Array.getElem_range,Nat.mod_eq_of_lt hi];simp[hi]
  ·rw[List.getElem_append_right (by simpa using hi)];simp only[Builtin.zeroCells,Array.getElem_toList,Array.getElem_map,Array.getElem_range,Array.length_toList];congr 1;rw[Nat.mod_eq_sub_mod (by omega)]
def Cw(g:Nat->Option AO)(es:Nat):AV->Option (Nat×List AV)
 | .ax=>some (0,[])
 | .sl a o len nI _=>match len with
   |0=>some (0,[])
   |_=>cond (Nat.beq es nI) (match g a with
    |some (.row cells _ _)=>match bh cells o (len*es)with
     |some l=>some (len,l)
     |none=>none
    |some (.Aw cells)=>match bh cells o (len*es)with
     |some l=>some (len,l)
     |none=>none
    |_=>none) none
 |_=>none
def fY(y:Nat)(e:TypeId)(es bytes n:Nat)(src:List AV)(len:Nat)(old:List AV)(lim:Nat)(t:T AO):Option (AV×H):=
 cond (Nat.ble (lim*bytes) 281474976710656&&Nat.ble (len+n) 281474976710656)
    (some (.sl y 0 (len+n) es none,⟨y+1,t.set y (.row (aa 0 (old++src) .e) (old++src).length e)⟩)) none
def ry(h:H)(e:TypeId)(es bytes:Nat)(s:AV)(n:Nat)(src:List AV):Option (AV×H):=
 match n with
 |0=>match s with
  | .ax=>some (.ax,h)
  | .sl a o len nI cap=>some (.sl a o len nI cap,h)
  |_=>none
 |_=>match s with
  | .ax=>fY h.next e es bytes n src 0 [] n h.t
  | .sl a o len nI cap=>cond (Nat.beq es nI) (match h.t.get a with
    |some (.row cells oJ e')=>cond (Nat.beq e e') (match cap with
     |some c=>cond (Nat.ble (len+n) c)
      (cond (Nat.ble (o+(len+n)*es) oJ) (some (.sl a o (len+n) es (some c),⟨h.next,h.t.set a (.row (aa (o+len*es) src cells) oJ e')⟩)) none)
      (match bh cells o (len*es)with
       |some old=>fY h.next e es bytes n src len old (2*(len+n)+192) h.t
       |none=>none)
     |none=>cond (Nat.ble (o+(len+n)*es) oJ&&Nat.blt 0 len)
      (some (.sl a o (len+n) es none,⟨h.next,h.t.set a (.row (aa (o+len*es) src cells) oJ e')⟩))
      (match bh cells o (len*es)with
       |some old=>fY h.next e es bytes n src len old (2*(len+n)+192) (h.t.set a .dead)
       |none=>none)) none
    |_=>none) none
  |_=>none
def Dp(z:List AV)(n:Nat):List AV:=Nat.rec [] (fun _ ih=>z++ih) n
theorem wZ{ρ:aR}{z:List AV}{Z:Array Value}(hz:bE ρ z Z.toList):∀n:Nat,bE ρ (Dp z n) (Builtin.zeroCells Z n).toList
 |0=>by
  have:(Builtin.zeroCells Z 0).toList=[]:=by simp[Builtin.zeroCells]
  rw[this];rfl
 |n+1=>by
  rw[m8];exact bE.append hz (wZ hz n)
def WG(tm:T AV)(h:H):EOp->Option (AV×H)
 | .st n a x=>match cV tm a,cV tm x with
   |some (.ptr p o),some v=>match h.t.get p,ik v with
    |some (.row cells len e),some l=>cond (Nat.beq l.length n&&Nat.ble (o+n) len) (some (.aE [],⟨h.next,h.t.set p (.row (aa o l cells) len e)⟩)) none
    |_,_=>none
   |_,_=>none
 | .app e es bytes s x=>match cV tm s,cV tm x with
   |some s,some x=>match Cw h.t.get es x with
    |some (n,src)=>ry h e es bytes s n src
    |none=>none
   |_,_=>none
 | .adh e es bytes z s x=>match cV tm s,cV tm x with
   |some .ax,some (.int _ m)=>match m with
    | .ofNat n=>match n with
      |0=>none
      |_=>fY h.next e es bytes n (Dp z n) 0 [] (2*(0+n)+192) h.t
    |_=>none
   |_,_=>none
def cE(P:Program)(o:Oper):Option EOp:=match o.op with
 | .store t a x=>match sz P t,aP a,aP x with
   |some n,some a,some x=>some (.st n a x)
   |_,_,_=>none
 | .call {callee:=.builtin .append,args,argTypes}=>match args.toList,argTypes[0]?,argTypes[1]? with
   | [s,x],some ts,some tx=>match P.underlying ts,P.underlying tx with
     |some (.slice e),some (.slice _)=>match P.info? e,dz P e,aP s,aP x with
      |some i,some z,some s,some x=>cond (Nat.beq z.length i.size&&Nat.blt 0 i.size) (some (.app e i.size i.bytes s x)) none
      |_,_,_,_=>none
     |some (.slice e),some (.int _)=>match P.info? e,dz P e,aP s,aP x with
      |some i,some z,some s,some x=>cond (Nat.beq z.length i.size&&Nat.blt 0 i.size) (some (.adh e i.size i.bytes z s x)) none
      |_,_,_,_=>none
     |_,_=>none
   |_,_,_=>none
 |_=>none
theorem gE{P:Program}{ρ:aR}{g:Nat->Option AO}{w:World}(hr:HR ρ g w){a:Nat}{l:Loc}(hl:ρ a=some l){cells:T AV}{oJ:Nat}{e:TypeId}(hg:g a=some (.row cells oJ e)){o m:Nat}{vs:List AV}
 (hv:bh cells o m=some vs):∃Vs,bE ρ vs Vs/\Vs.length=m/\(∀V∈Vs,one V=true)/\∀w':World,w'.heap=w.heap->(loadCells ⟨l.b9,l.off+o,none⟩ m).run P w'=.ok Vs.toArray w':=by
 obtain⟨Vs,k1,k2,k3,k4⟩:=rU hr hg hl hv;refine⟨Vs,k1,k2,k3,fun w' hw=>kQ k2 rfl fun i V hV=>?_⟩;have:=k4 i V hV;simpa [World.cell?,hw]using this
theorem uM{P:Program}{ρ:aR}{g:Nat->Option AO}{w:World}(hr:HR ρ g w){a:Nat}{l:Loc}(hl:ρ a=some l){cells:T AV}(hg:g a=some (.Aw cells)){o m:Nat}{vs:List AV}
 (hv:bh cells o m=some vs):∃Vs,bE ρ vs Vs/\Vs.length=m/\(∀V∈Vs,one V=true)/\∀w':World,w'.heap=w.heap->(loadCells ⟨l.b9,l.off+o,none⟩ m).run P w'=.ok Vs.toArray w':=by
 obtain⟨Vs,k1,k2,k3,k4⟩:=cells_of_tab hr hg hl hv;refine⟨Vs,k1,k2,k3,fun w' hw=>kQ k2 rfl fun i V hV=>?_⟩;have:=k4 i V hV;simpa [World.cell?,hw]using this
theorem EP{P:Program}{ρ:aR}{g:Nat->Option AO}{w:World}(hr:HR ρ g w){es n:Nat}{x:AV}{src:List AV}(h:Cw g es x=some (n,src)){X:Value}(hx:VR ρ x X):
 ∃q c SRC,X=.slice q n c/\bE ρ src SRC/\src.length=n*es/\(∀V∈SRC,one V=true)/\∀w':World,w'.heap=w.heap->(Builtin.firstCells es n X).run P w'=.ok SRC.toArray w':=by
 unfold Cw at h;split at h
 ·simp at h;obtain⟨rfl,rfl⟩:=h;simp only[VR]at hx;subst hx;exact⟨none,0,[],rfl,rfl,by simp,by simp,fun w' _=>by simp[Builtin.firstCells]⟩
 ·rename_i a o len nI cap;have key:(∃l c,ρ a=some l/\X=.slice (some ⟨l.b9,l.off+o,none⟩) len c)\/(len=0/\∃p,X=.slice (some p) 0 0):=by
   cases cap with
   |some c=>simp only[VR]at hx;obtain⟨l,h1,_,h2⟩:=hx;exact .inl ⟨l,_,h1,h2⟩
   |none=>
    simp only[VR]at hx;obtain⟨l,h1,_,_,h2|⟨h0,p,h2⟩⟩:=hx
    ·exact .inl ⟨l,_,h1,h2⟩
    ·exact .inr ⟨h0,p,h2⟩
  split at h
  ·simp at h;obtain⟨rfl,rfl⟩:=h;have:∃p c,X=.slice (some p) 0 c:=by
        rcases key with⟨l,c,_,hX⟩|⟨_,p,hX⟩
        ·exact⟨_,_,hX⟩
        ·exact⟨_,_,hX⟩
   obtain⟨p,c,rfl⟩:=this;exact⟨_,_,[],rfl,rfl,by simp,by simp,fun w' _=>by simp[Builtin.firstCells,loadCells,loadCellsFrom]⟩
  ·rename_i dB;cases he:Nat.beq es nI
   ·rw[he]at h;simp at h
   ·rw[he,cond_true]at h;have ME:=Nat.eq_of_beq_eq_true he;split at h
    ·rename_i cells oJ e hg;split at h
     ·rename_i l' Xj;simp at h;obtain⟨rfl,rfl⟩:=h;rcases key with⟨l,c,hl,hX⟩|⟨h0,_⟩
      ·obtain⟨Vs,k1,k2,k3,k4⟩:=gE (P:=P) hr hl hg Xj;refine⟨_,_,Vs,hX,k1,?_,k3,fun w' hw=>?_⟩
       ·have:=k1.length;omega
       ·rw[hX];simpa [Builtin.firstCells]using k4 w' hw
      ·exact absurd h0 dB
     ·simp at h
    ·rename_i cells hg;split at h
     ·rename_i l' Xj;simp at h;obtain⟨rfl,rfl⟩:=h;rcases key with⟨l,c,hl,hX⟩|⟨h0,_⟩
      ·obtain⟨Vs,k1,k2,k3,k4⟩:=uM (P:=P) hr hl hg Xj;refine⟨_,_,Vs,hX,k1,?_,k3,fun w' hw=>?_⟩
       ·have:=k1.length;omega
       ·rw[hX];simpa [Builtin.firstCells]using k4 w' hw
      ·exact absurd h0 dB
     ·simp at h
    ·simp at h
 ·simp at h
theorem Nx.kill{ρ:aR}{g g':Nat->Option AO}{w:World}(h:HR ρ g w){a:Nat}(Ip:∀b,g' b=if b=a then some .dead else g b):Nx ρ g w ρ g' w:=by
 have key:∀b p,g' b=some p->p.live=true->g b=some p:=by
  intro b p hb hp;rw[Ip]at hb
  by_cases e:b=a
  ·rw[if_pos e]at hb;simp at hb;subst hb;simp[AO.live]at hp
  ·rwa [if_neg e]at hb
 exact⟨⟨fun b p m hb hp hm=>h.obj b p m (key _ _ hb hp) hp hm,fun b c p q m n hb hp hc hq hm hn=>h.inj b c p q m n (key _ _ hb hp) hp (key _ _ hc hq) hq hm hn⟩,Le.refl _,Env.refl _,Nat.le_refl _,fun _ _ _=>rfl,
  fun b p m hb hp hm _=>⟨b,p,m,key _ _ hb (AO.gz hp),hp,hm,rfl⟩⟩
theorem PM{ρ:aR}{g g':Nat->Option AO}{w w':World}(h:HR ρ g w){a y:Nat}{l m:Loc}{o o':AO}(hg:g a=some o)(Wr:o.mut=true)(hl:ρ a=some l)(hy:ρ y=none)(hm:m.b9=l.b9)
 (Ip:∀b,g' b=if b=y then some o' else if b=a then some .dead else g b) (Ws:Env w w') (rn:w'.heap.size=w.heap.size) (hot:∀r,r≠l.b9->w'.heap[r]?=w.heap[r]?)
 (fH:uJ (lq ρ y m) w' m o'):Nx ρ g w (lq ρ y m) g' w':=by
 have hle:Le ρ (lq ρ y m):=lI hy;have ho:=AO.gz Wr;have wD:l.b9<w.heap.size:=(h.obj a o l hg ho hl).1;have key:∀b p,b≠y->g' b=some p->p.live=true->b≠a/\g b=some p:=by
  intro b p hby hb hp;rw[Ip,if_neg hby]at hb
  by_cases e:b=a
  ·rw[if_pos e]at hb;simp at hb;subst hb;simp[AO.live]at hp
  ·rw[if_neg e]at hb;exact⟨e,hb⟩
 refine⟨⟨?_,?_⟩,hle,Ws,by omega,?_,?_⟩
 ·intro b p n hb hp hn
  by_cases e:b=y
  ·subst e;rw[cK hy]at hn;simp at hn;subst hn;rw[Ip,if_pos rfl]at hb;simp at hb;subst hb;exact⟨by omega,fH⟩
  ·rw[cj e]at hn;obtain⟨k1,k2⟩:=key b p e hb hp;obtain⟨h2,h3⟩:=h.obj b p n k2 hp hn;exact⟨by omega,uJ.mono hle (uJ.congr (hot _ fun hh=>k1 (h.inj b a p o n l k2 hp hg ho hn hl hh)) h3)⟩
 ·intro b c p q n k hb hp hc hq hn hk hnk
  by_cases e:b=y
  ·by_cases e':c=y
   ·rw[e,e']
   ·obtain⟨k1,k2⟩:=key c q e' hc hq;rw[cj e']at hk;rw[e,cK hy]at hn;simp at hn;subst hn;exact absurd (h.inj c a q o k l k2 hq hg ho hk hl (by omega)) k1
  ·obtain⟨k1,k2⟩:=key b p e hb hp;rw[cj e]at hn
   by_cases e':c=y
   ·rw[e',cK hy]at hk;simp at hk;subst hk;exact absurd (h.inj b a p o n l k2 hp hg ho hn hl (by omega)) k1
   ·obtain⟨j1,j2⟩:=key c q e' hc hq;rw[cj e']at hk;exact h.inj b c p q n k k2 hp j2 hq hn hk hnk
 ·intro r hr hn;exact hot r fun e=>hn a o l hg Wr hl e.symm
 ·intro b p n hb hp hn _
  by_cases e:b=y
  ·subst e;rw[cK hy]at hn;simp at hn;subst hn;exact⟨a,o,l,hg,Wr,hl,hm.symm⟩
  ·obtain⟨k1,k2⟩:=key b p e hb (AO.gz hp);rw[cj e]at hn;exact⟨b,p,n,k2,hp,hn,rfl⟩
theorem BB{ρ:aR}{vs:List AV}{Vs:List Value}(hv:bE ρ vs Vs)(h1:∀V∈Vs,one V=true){e:TypeId}{w:World}{l:Loc}{c:Array Value}(hc:w.heap[l.b9]?=some (.cells c e (0,0)))(hs:l.off+l.room=c.size)(hlen:vs.length<=l.room)
 (B7:∀i V,Vs[i]?=some V->c[l.off+i]?=some V):uJ ρ w l (.row (aa 0 vs .e) vs.length e):=by
 refine⟨hlen,c,hc,hs,fun i v hg=>?_⟩;rw[dm]at hg;have hi:i<vs.length:=by
  by_cases hh:0<=i/\i<0+vs.length
  ·omega
  ·rw[if_neg hh,T.di]at hg;simp at hg
 rw[if_pos (by omega)]at hg;have xZ:vs[i]?=some v:=by simpa using hg
 obtain⟨V,k1,k2⟩:=hv.get xZ;exact⟨hi,V,k2,h1 V (List.mem_of_getElem? k1),B7 i V k1⟩
theorem adi{P:Program}{e:TypeId}{z:List AV}(hz:dz P e=some z)(ρ:aR):∃Z,(∀w,(zeroValue e).run P w=.ok Z w)/\bE ρ z Z.cells.toList/\∀V∈Z.cells.toList,one V=true:=by
 obtain⟨Z,k1,k2,k3⟩:=fp hz ρ default;refine⟨Z,fun w=>?_,k2,k3⟩;unfold dz at hz;split at hz
 ·rename_i i hi;split at hz
  ·rename_i z' Il;simp[zeroValue,run_typeInfo hi,Il]at k1⊢;exact k1
  ·simp at hz
 ·simp at hz
theorem iC{P:Program}{ts tx e ex:TypeId}{ats:Array TypeId}{i:TypeInfo}{z:List AV}(h0:ats[0]?=some ts)(h1:ats[1]?=some tx)(hu:P.underlying ts=some (.slice e))(hx:P.underlying tx=some (.slice ex))(hi:P.info? e=some i)
 (hz:dz P e=some z) (Co:z.length=i.size) (eA:0<i.size) {ρ:aR} {t:T AO} {y:Nat} {w:World} (hr:HR ρ t.get w) (hf:cC ρ y)
 {p q:Option Addr} {len cap n c2:Nat} {old src:List AV} {OLD SRC:List Value} (Bz:cap<len+n) (hVo:bE ρ old OLD) (Lo:bE ρ src SRC) (ho1:∀V∈OLD,one V=true) (PN:∀V∈SRC,one V=true) (Rn:old.length=len*i.size) (mL:src.length=n*i.size)
 (hold:∀w':World,w'.heap=w.heap->(Builtin.firstCells i.size len (.slice p len cap)).run P w'=.ok OLD.toArray w') (iW:∀w':World,w'.heap=w.heap->(Builtin.firstCells i.size n (.slice q n c2)).run P w'=.ok SRC.toArray w')
 {v:AV} {h':H} {lim:Nat} (WD:Builtin.nextslicecap (len+n) cap<=lim) (hA:fY y e i.size i.bytes n src len old lim t=some (v,h')) (type:TypeId):
 ∃ρ' w' V,(Builtin.append_ ats type #[.slice p len cap,.slice q n c2]).run P w=.ok V w'/\VR ρ' v V/\Way ρ ⟨y,t⟩ w ρ' h' w':=by
 unfold fY at hA;cases hb:(Nat.ble (lim*i.bytes) 281474976710656&&Nat.ble (len+n) 281474976710656)
 ·rw[hb]at hA;simp at hA
 ·rw[hb,cond_true]at hA;simp only[Bool.and_eq_true]at hb;have b1:=Nat.le_of_ble_eq_true hb.1;have b2:=Nat.le_of_ble_eq_true hb.2;simp only[Option.some.injEq,Prod.mk.injEq]at hA;obtain⟨rfl,rfl⟩:=hA;obtain⟨Z,z1,z2,z3⟩:=adi hz ρ;have hZ:Z.cells.size=i.size:=by have:=z2.length;simp at this;omega
  obtain⟨m,w',k1,k2,k3,k4⟩:=Dn h0 h1 hu hx hi rfl z1 Bz WD b1 b2 hold iW type;have hL1:=hVo.length;have hL2:=Lo.length;have rn:(OLD.toArray++SRC.toArray++Builtin.zeroCells Z.cells (m-(len+n))).size=m*i.size:=by
   simp only[Array.size_append,eL,hZ,List.size_toArray,hL1,hL2,Rn,mL,←Nat.add_mul];congr 1;omega
  have hV:=bE.append hVo Lo;have ho:∀V∈OLD++SRC,one V=true:=fun V hV=>by
   rcases List.mem_append.1 hV with h|h
   ·exact ho1 V h
   ·exact PN V h
  have hlen:(old++src).length=(len+n)*i.size:=by simp[Rn,mL,Nat.add_mul]
  have Lp:=tq (g':=(t.set y (.row (aa 0 (old++src) .e) (old++src).length e)).get) hr (a:=y) (l:=⟨w.heap.size,0,m*i.size⟩) (obj:=.cells (OLD.toArray++SRC.toArray++Builtin.zeroCells Z.cells (m-(len+n))) e) (hf y (Nat.le_refl _)) rfl (fun b=>T.ay _ _ _ _)
   (BB (bE.mono (Bs hf (Nat.le_refl _)) _ _ hV) ho (c:=OLD.toArray++SRC.toArray++Builtin.zeroCells Z.cells (m-(len+n))) (by show(w.heap.push _)[w.heap.size]?=_;simp) (by simp only[Nat.zero_add];exact rn.symm) (by
     rw[hlen];exact Nat.mul_le_mul_right _ k1) (fun j V hj=>by
      have FK:=List.getElem?_eq_some_iff.1 hj;obtain⟨df,_⟩:=FK;rw[Array.getElem?_append_left (by simp at df⊢;omega)];simp only[Nat.zero_add];rw[List.append_toArray];simpa using hj))
  have hww:Nx (lq ρ y ⟨w.heap.size,0,m*i.size⟩) (t.set y (.row (aa 0 (old++src) .e) (old++src).length e)).get (w.alloc (.cells (OLD.toArray++SRC.toArray++Builtin.zeroCells Z.cells (m-(len+n))) e)) _ _ w':=
   Nx.drew Lp.rel k2 ⟨k3.os,k3.tape,k3.output⟩
  refine⟨_,w',_,k4,?_,rX (h:=⟨y,t⟩) hf (Lp.trans hww)⟩;simp only[VR];refine⟨_,cK (hf _ (Nat.le_refl _)),eA,?_,.inl ?_⟩
  ·simp only[Nat.zero_add];exact Nat.mul_le_mul_right _ k1
  ·simp only[Nat.sub_zero,Nat.mul_div_cancel _ eA]
theorem ER{P:Program}{ts tx e ex:TypeId}{ats:Array TypeId}{i:TypeInfo}{z:List AV}(h0:ats[0]?=some ts)(h1:ats[1]?=some tx)(hu:P.underlying ts=some (.slice e))(hx:P.underlying tx=some (.slice ex))(hi:P.info? e=some i)
 (hz:dz P e=some z) (Co:z.length=i.size) (eA:0<i.size) {ρ:aR} {h:H} {w:World} (hr:HR ρ h.t.get w) (hf:cC ρ h.next)
 {s:AV} {S:Value} (hs:VR ρ s S) {q:Option Addr} {n c2:Nat} {src:List AV} {SRC:List Value} (Lo:bE ρ src SRC) (PN:∀V∈SRC,one V=true) (mL:src.length=n*i.size)
 (iW:∀w':World,w'.heap=w.heap->(Builtin.firstCells i.size n (.slice q n c2)).run P w'=.ok SRC.toArray w')
 {v:AV} {h':H} (hA:ry h e i.size i.bytes s n src=some (v,h')) (type:TypeId):
 ∃ρ' w' V,(Builtin.append_ ats type #[S,.slice q n c2]).run P w=.ok V w'/\VR ρ' v V/\Way ρ h w ρ' h' w':=by
 have rn:sz P e=some i.size:=by simp[sz,hi]
 have CU:∀{room o len:Nat},o+len*i.size<=room->len<=(room-o)/i.size:=fun hh=>(Nat.le_div_iff_mul_le eA).2 (by omega)
 unfold ry at hA;split at hA
 ·
  have hS0:SRC=[]:=by
   have:=Lo.length;simp only[Nat.zero_mul]at mL;rw[mL]at this;exact List.length_eq_zero_iff.1 this
  subst hS0;have key:∀(p:Option Addr) (len cap:Nat),len<=cap->(Builtin.append_ ats type #[.slice p len cap,.slice q 0 c2]).run P w=.ok (.slice p len cap) w:=fun p len cap hc=>by
   have:=pT (P:=P) (p:=p) h0 h1 hu hx rn (n:=0) (len:=len) (cap:=cap) (q:=q) (c2:=c2) (SRC:=[]) (w:=w) (w':=w) (by omega) (iW w rfl) (by cases p<;>simp[storeCells]) type
   simpa using this
  split at hA
  ·simp only[Option.some.injEq,Prod.mk.injEq]at hA;obtain⟨rfl,rfl⟩:=hA;simp only[VR]at hs;subst hs;exact⟨ρ,w,_,key _ _ _ (Nat.le_refl _),rfl,Way.refl hr hf⟩
  ·rename_i a o len nI cap;simp only[Option.some.injEq,Prod.mk.injEq]at hA;obtain⟨rfl,rfl⟩:=hA;have Ck:=hs;cases cap with
   |some c=>
    simp only[VR]at hs;obtain⟨l,e1,e2,rfl⟩:=hs;exact⟨ρ,w,_,key _ _ _ e2,Ck,Way.refl hr hf⟩
   |none=>
    simp only[VR]at hs;obtain⟨l,e1,e2,e3,rfl|⟨rfl,x,rfl⟩⟩:=hs
    ·exact⟨ρ,w,_,key _ _ _ ((Nat.le_div_iff_mul_le e2).2 (by omega)),Ck,Way.refl hr hf⟩
    ·exact⟨ρ,w,_,key _ _ _ (Nat.le_refl _),Ck,Way.refl hr hf⟩
  ·simp at hA
 ·rename_i hn;have xV:0<n:=Nat.pos_of_ne_zero hn;split at hA
  ·
   simp only[VR]at hs;subst hs;exact iC h0 h1 hu hx hi hz Co eA hr hf (p:=none) (len:=0) (cap:=0) (old:=[]) (OLD:=[]) (by omega) rfl Lo (by simp) PN (by simp) mL (fun w' _=>by simp[Builtin.firstCells]) iW (Ln n xV) hA type
  ·rename_i a o len nI cap;cases he:Nat.beq i.size nI
   ·rw[he]at hA;simp at hA
   ·rw[he,cond_true]at hA;have ME:=Nat.eq_of_beq_eq_true he;subst ME;split at hA
    ·rename_i cells oJ e' hg;cases Lq:Nat.beq e e'
     ·rw[Lq]at hA;simp at hA
     ·rw[Lq,cond_true]at hA;have anX:=Nat.eq_of_beq_eq_true Lq;subst anX;have Gq:∀{l:Loc} {c:Nat},ρ a=some l->len+n<=c->o+(len+n)*i.size<=oJ->
         ∃w',(Builtin.append_ ats type #[.slice (some ⟨l.b9,l.off+o,none⟩) len c,.slice q n c2]).run P w=.ok (.slice (some ⟨l.b9,l.off+o,none⟩) (len+n) c) w'/\Way ρ h w ρ ⟨h.next,h.t.set a (.row (aa (o+len*i.size) src cells) oJ e)⟩ w':=by
       intro l c hl hc hb;obtain⟨w',j1,j2⟩:=rW hr hg hl Lo PN (o:=o+len*i.size) (by rw[mL];rw[Nat.add_mul]at hb;omega) P;refine⟨w',pT h0 h1 hu hx rn hc (iW w rfl) ?_ type,eY hf hl j2⟩;simp only[fo];rw[show l.off+o+len*i.size=l.off+(o+len*i.size) by omega];exact j1
      split at hA
      ·rename_i c;have Ck:=hs;simp only[VR]at hs;obtain⟨l,e1,e2,rfl⟩:=hs;cases hc:Nat.ble (len+n) c
       ·rw[hc,cond_false]at hA;have xY:c<len+n:=by
         rcases Nat.lt_or_ge c (len+n)with df|Gr
         ·exact df
         ·rw[Nat.ble_eq_true_of_le Gr]at hc;simp at hc
        split at hA
        ·rename_i old hold;obtain⟨OLD,k1,k2,k3,k4⟩:=gE (P:=P) hr e1 hg hold;exact iC h0 h1 hu hx hi hz Co eA hr hf xY k1 Lo k3 PN (by have:=k1.length;omega) mL (fun w' hw=>by simpa [Builtin.firstCells]using k4 w' hw) iW (vJ _ _ xY) hA type
        ·simp at hA
       ·rw[hc,cond_true]at hA;have xY:=Nat.le_of_ble_eq_true hc;cases hb:Nat.ble (o+(len+n)*i.size) oJ
        ·rw[hb]at hA;simp at hA
        ·rw[hb,cond_true]at hA;simp only[Option.some.injEq,Prod.mk.injEq]at hA;obtain⟨rfl,rfl⟩:=hA;obtain⟨w',j1,j2⟩:=Gq e1 xY (Nat.le_of_ble_eq_true hb);exact⟨ρ,w',_,j1,by simp only[VR];exact⟨l,e1,xY,rfl⟩,j2⟩
      ·simp only[VR]at hs;obtain⟨l,e1,e2,e3,hS⟩:=hs;obtain⟨wD,fH⟩:=hr.row hg e1;cases hb:(Nat.ble (o+(len+n)*i.size) oJ&&Nat.blt 0 len)
       ·rw[hb,cond_false]at hA;split at hA
        ·rename_i old hold;obtain⟨OLD,k1,k2,k3,k4⟩:=gE (P:=P) hr e1 hg hold;have Rn:old.length=len*i.size:=by have:=k1.length;omega
         have Lr:Nx ρ h.t.get w ρ (h.t.set a .dead).get w:=Nx.kill hr (fun b=>T.ay _ _ _ _);have Ro:Way ρ h w ρ ⟨h.next,h.t.set a .dead⟩ w:=eY hf e1 Lr;rcases hS with rfl|⟨rfl,x,rfl⟩
         ·rcases Nat.lt_or_ge ((l.room-o)/i.size) (len+n)with df|Gr
          ·obtain⟨ρ',w',V,m1,m2,m3⟩:=iC h0 h1 hu hx hi hz Co eA (t:=h.t.set a .dead) Lr.rel hf (p:=some ⟨l.b9,l.off+o,none⟩) df k1 Lo k3 PN Rn mL (fun w' hw=>by simpa [Builtin.firstCells]using k4 w' hw) iW (vJ _ _ df) hA type;exact⟨ρ',w',V,m1,m2,Ro.trans m3⟩
          ·
                    have Bz:(len+n)*i.size<=l.room-o:=(Nat.le_div_iff_mul_le eA).1 Gr;unfold fY at hA;cases Cp:(Nat.ble ((2*(len+n)+192)*i.bytes) 281474976710656&&Nat.ble (len+n) 281474976710656)
                    ·rw[Cp]at hA;simp at hA
                    ·rw[Cp,cond_true]at hA;simp only[Option.some.injEq,Prod.mk.injEq]at hA;obtain⟨rfl,rfl⟩:=hA;obtain⟨asq,c,hc,anY,anZ⟩:=fH;have hLs:SRC.length=n*i.size:=by have:=Lo.length;omega
                     have hLo:OLD.length=len*i.size:=k2;have hmul:(len+n)*i.size=len*i.size+n*i.size:=Nat.add_mul _ _ _;have gf:=run_storeCells_at (P:=P) l.b9 (l.off+o+len*i.size) e SRC 0 c w hc (by omega) (fun V hV=>rV (PN V hV));rw[Nat.add_zero]at gf;have hlen:(old++src).length=(len+n)*i.size:=by simp[Rn,mL,Nat.add_mul]
                     have hy:ρ h.next=none:=hf _ (Nat.le_refl _);have hV:=bE.append k1 Lo;have ho:∀V∈OLD++SRC,one V=true:=fun V hV=>by
                      rcases List.mem_append.1 hV with hh|hh
                      ·exact k3 V hh
                      ·exact PN V hh
                     have iT:c.toList.length=c.size:=by simp
                     have WH:∀j V,OLD[j]?=some V->c[l.off+o+j]?=some V:=by
                      obtain⟨Vs',q1,q2,q3,q4⟩:=rU hr hg e1 hold;have WI:=kQ (P:=P) (w:=w) (a:=⟨l.b9,l.off+o,none⟩) q2 rfl (fun j V hj=>by simpa using q4 j V hj);have Ls:=k4 w rfl;rw[WI]at Ls;simp only[Result.ok.injEq]at Ls;have hVV:Vs'=OLD:=by simpa using Ls
                      subst hVV;intro j V hj;have:=q4 j V hj;simpa [World.cell?,hc]using this
                     have hmv:=PM (g':=((h.t.set a .dead).set h.next (.row (aa 0 (old++src) .e) (old++src).length e)).get) (m:=⟨l.b9,l.off+o,l.room-o⟩) (w':=w.setRow l.b9 (c.toList.take (l.off+o+len*i.size)++SRC++c.toList.drop (l.off+o+len*i.size+SRC.length)).toArray) hr hg rfl e1 hy rfl
                      (fun b=>by rw[T.ay,T.ay]) (World.wR _ _ _) (World.setRow_size _ _ _) (fun r dB=>World.setRow_other _ _ _ dB)
                      (BB (bE.mono (lI hy) _ _ hV) ho (World.yX _ _ _ hc) (by
                         simp only[List.size_toArray,List.length_append,List.length_take,List.length_drop,iT];omega) (by show _<=l.room-o;omega) (fun j V hj=>by
                        simp only[List.getElem?_toArray];rcases Nat.lt_or_ge j OLD.length with ET|ET
                        ·rw[List.append_assoc,List.getElem?_append_left (by simp[iT];omega),List.getElem?_take,if_pos (by omega)];rw[List.getElem?_append_left ET]at hj;simpa using WH j V hj
                        ·rw[List.getElem?_append_right ET]at hj;have hj2:j-OLD.length<SRC.length:=(List.getElem?_eq_some_iff.1 hj).1;rw[List.append_assoc,List.getElem?_append_right (by simp;omega),List.getElem?_append_left (by simp[iT];omega)];rw[←hj];congr 1;simp[iT];omega))
                     refine⟨lq ρ h.next ⟨l.b9,l.off+o,l.room-o⟩,_,_,pT (p:=some ⟨l.b9,l.off+o,none⟩) h0 h1 hu hx rn Gr (iW w rfl) (by simp only[fo];exact gf) type,?_,?_⟩
                     ·simp only[VR];exact⟨_,cK (hf _ (Nat.le_refl _)),eA,by simp only[Nat.zero_add];exact Bz,.inl (by simp)⟩
                     ·refine⟨hmv,yY hf,Nat.le_succ _,fun b hb XV=>⟨by rw[cj (by omega)];exact XV,?_⟩⟩
                      show((h.t.set a .dead).set h.next _).get b=_
                      rw[T.ay,if_neg (by omega),T.ay,if_neg];intro II;rw[II,e1]at XV;simp at XV
         ·obtain⟨ρ',w',V,m1,m2,m3⟩:=iC h0 h1 hu hx hi hz Co eA (t:=h.t.set a .dead) Lr.rel hf (p:=some x) (len:=0) (cap:=0) (by omega) k1 Lo k3 PN Rn mL (fun w' hw=>by
                    have:OLD=[]:=by simpa using k2
                    subst this;simp[Builtin.firstCells,loadCells,loadCellsFrom]) iW (vJ _ _ (by omega)) hA type
          exact⟨ρ',w',V,m1,m2,Ro.trans m3⟩
        ·simp at hA
       ·rw[hb,cond_true]at hA;simp only[Bool.and_eq_true]at hb;have iD:=Nat.le_of_ble_eq_true hb.1;have oU:0<len:=by
         have:=hb.2;exact Nat.le_of_ble_eq_true this
        simp only[Option.some.injEq,Prod.mk.injEq]at hA;obtain⟨rfl,rfl⟩:=hA;rcases hS with rfl|⟨rfl,_⟩
        ·have hle:o+(len+n)*i.size<=l.room:=Nat.le_trans iD fH.1;obtain⟨w',j1,j2⟩:=Gq (c:=(l.room-o)/i.size) e1 ((Nat.le_div_iff_mul_le eA).2 (by omega)) iD;exact⟨ρ,w',_,j1,by simp only[VR];exact⟨l,e1,eA,hle,.inl rfl⟩,j2⟩
        ·omega
    ·simp at hA
  ·simp at hA
theorem EU{P:Program}{ts tx e:TypeId}{ats:Array TypeId}{k k':IntKind}{i:TypeInfo}{z:List AV}(h0:ats[0]?=some ts)(h1:ats[1]?=some tx)(hu:P.underlying ts=some (.slice e))(hx:P.underlying tx=some (.int k))(hi:P.info? e=some i)
 (hz:dz P e=some z) (Co:z.length=i.size) (eA:0<i.size) {ρ:aR} {t:T AO} {y:Nat} {w:World} (hr:HR ρ t.get w) (hf:cC ρ y) {n:Nat} (hn:0<n)
 {v:AV} {h':H} (hA:fY y e i.size i.bytes n (Dp z n) 0 [] (2*(0+n)+192) t=some (v,h')) (type:TypeId):
 ∃ρ' w' V,(Builtin.append_ ats type #[.slice none 0 0,.int k' n]).run P w=.ok V w'/\VR ρ' v V/\Way ρ ⟨y,t⟩ w ρ' h' w':=by
 unfold fY at hA;cases hb:(Nat.ble ((2*(0+n)+192)*i.bytes) 281474976710656&&Nat.ble (0+n) 281474976710656)
 ·rw[hb]at hA;simp at hA
 ·rw[hb,cond_true]at hA;simp only[Bool.and_eq_true]at hb;have b1:=Nat.le_of_ble_eq_true hb.1;have b2:=Nat.le_of_ble_eq_true hb.2;simp only[Option.some.injEq,Prod.mk.injEq,Nat.zero_add,List.nil_append]at hA;obtain⟨rfl,rfl⟩:=hA;obtain⟨Z,z1,z2,z3⟩:=adi hz ρ;have hZ:Z.cells.size=i.size:=by have:=z2.length;simp at this;omega
  obtain⟨m,w',k1,k2,k3,k4⟩:=BA (k':=k') h0 h1 hu hx hi rfl eA z1 hn b1 b2 type;have hV:=wZ z2 n;have ho:∀V∈(Builtin.zeroCells Z.cells n).toList,one V=true:=by
   have:∀n,∀V∈(Builtin.zeroCells Z.cells n).toList,one V=true:=by
     intro n
     induction n with
     |zero=>simp[Builtin.zeroCells]
     |succ n ih=>
      intro V hV;rw[m8]at hV;rcases List.mem_append.1 hV with h|h
      ·exact z3 V h
      ·exact ih V h
   exact this n
  have hlen:(Dp z n).length=n*i.size:=by have:=hV.length;simp[eL,hZ]at this;omega
  have rn:(Builtin.zeroCells Z.cells n++Builtin.zeroCells Z.cells (m-n)).size=m*i.size:=by
   simp only[Array.size_append,eL,hZ,←Nat.add_mul];congr 1;omega
  have Lp:=tq (g':=(t.set y (.row (aa 0 (Dp z n) .e) (Dp z n).length e)).get) hr (a:=y) (l:=⟨w.heap.size,0,m*i.size⟩) (obj:=.cells (Builtin.zeroCells Z.cells n++Builtin.zeroCells Z.cells (m-n)) e) (hf y (Nat.le_refl _)) rfl (fun b=>T.ay _ _ _ _)
   (BB (bE.mono (Bs hf (Nat.le_refl _)) _ _ hV) ho (c:=Builtin.zeroCells Z.cells n++Builtin.zeroCells Z.cells (m-n)) (by show(w.heap.push _)[w.heap.size]?=_;simp) (by simp only[Nat.zero_add];exact rn.symm) (by
     rw[hlen];exact Nat.mul_le_mul_right _ k1) (fun j V hj=>by
      have FK:=List.getElem?_eq_some_iff.1 hj;obtain⟨df,_⟩:=FK;rw[Array.getElem?_append_left (by simp at df⊢;omega)];simp only[Nat.zero_add];simpa using hj))
  have hww:Nx (lq ρ y ⟨w.heap.size,0,m*i.size⟩) (t.set y (.row (aa 0 (Dp z n) .e) (Dp z n).length e)).get (w.alloc (.cells (Builtin.zeroCells Z.cells n++Builtin.zeroCells Z.cells (m-n)) e)) _ _ w':=
   Nx.drew Lp.rel k2 ⟨k3.os,k3.tape,k3.output⟩
  refine⟨_,w',_,k4,?_,rX (h:=⟨y,t⟩) hf (Lp.trans hww)⟩;simp only[VR];refine⟨_,cK (hf _ (Nat.le_refl _)),eA,?_,.inl ?_⟩
  ·simp only[Nat.zero_add];exact Nat.mul_le_mul_right _ k1
  ·simp only[Nat.sub_zero,Nat.mul_div_cancel _ eA]
theorem HC{P:Program}{o:Oper}{c:EOp}{tm:T AV}{h h':H}{v:AV}{ρ:aR}{a:Act}{w:World}(hc:cE P o=some c)(he:WG tm h c=some (v,h'))(ht:TR ρ tm a.tmps)(hr:HR ρ h.t.get w)(hf:cC ρ h.next):
 Dm P (execOp a.eval o) ρ h w v h':=by
 obtain⟨dst,op,type,pos,after,guard⟩:=o;unfold cE at hc;simp only[]at hc;split at hc
 ·rename_i t p x;split at hc
  ·rename_i n p' x' hs hp hx;simp at hc;subst hc;simp only[WG]at he;split at he
   ·rename_i b off v' hb hv;split at he
    ·rename_i cells len e l hg hl;cases hk:(Nat.beq l.length n&&Nat.ble (off+n) len)
     ·rw[hk]at he;simp at he
     ·rw[hk,cond_true]at he;simp only[Bool.and_eq_true]at hk;have k1:=Nat.eq_of_beq_eq_true hk.1;have k2:=Nat.le_of_ble_eq_true hk.2;simp only[Option.some.injEq,Prod.mk.injEq]at he;obtain⟨rfl,rfl⟩:=he;have hB:=ai ht hp hb;simp only[VR]at hB;obtain⟨lc,Km,hB⟩:=hB;obtain⟨j1,j2⟩:=lQ (ai ht hx hv) hl;obtain⟨w',m1,m2⟩:=rW hr hg Km j1 j2 (o:=off) (by omega) P;refine⟨ρ,w',undef,.inr ⟨?_,rfl⟩,?_,eY hf Km m2⟩
      ·have rn:(a.eval x).cells.size=n:=by have:=j1.length;simp at this;omega
       simp[execOp,Instr.storeAt,hB,Instr.sureAddr,storeVar,run_sizeOf hs,rn,m1]
      ·simp only[VR];exact⟨[],rfl,rfl⟩
    ·simp at he
   ·simp at he
  ·simp at hc
 ·rename_i args ats;split at hc
  ·rename_i s x ts tx fL h0 h1;split at hc
   ·rename_i e ex hu hx;split at hc
    ·rename_i i z s' x' hi hz hs hxx;cases hb:(Nat.beq z.length i.size&&Nat.blt 0 i.size)
     ·rw[hb]at hc;simp at hc
     ·rw[hb,cond_true]at hc;simp only[Bool.and_eq_true]at hb;simp at hc;subst hc;have Co:=Nat.eq_of_beq_eq_true hb.1;have eA:0<i.size:=Nat.le_of_ble_eq_true hb.2;simp only[WG]at he;split at he
      ·rename_i sv xv hsv WJ;split at he
       ·rename_i n src iW;obtain⟨q,c2,SRC,hX,k1,k2,k3,k4⟩:=EP (P:=P) hr iW (ai ht hxx WJ);have gh:args= #[s,x]:=by rw[←Array.toArray_toList (xs:=args),fL]
        subst gh;obtain⟨ρ',w',V,m1,m2,m3⟩:=ER h0 h1 hu hx hi hz Co eA hr hf (ai ht hs hsv) k1 k3 k2 (fun w' hw=>by rw[←hX];exact k4 w' hw) he type;obtain⟨cs,Cp⟩:=bU (P:=P) (ρ:=a.eval) (b:=.append) (args:= #[s,x]) (ats:=ats) (dst:=dst) (type:=type) (pos:=pos) (after:=after) (guard:=guard);refine⟨ρ',w',V,.inl ?_,m2,m3⟩;rw[Cp];simp[builtin,hX,m1]
       ·simp at he
      ·simp at he
    ·simp at hc
   ·rename_i e kk hu hx;split at hc
    ·rename_i i z s' x' hi hz hs hxx;cases hb:(Nat.beq z.length i.size&&Nat.blt 0 i.size)
     ·rw[hb]at hc;simp at hc
     ·rw[hb,cond_true]at hc;simp only[Bool.and_eq_true]at hb;simp at hc;subst hc;have Co:=Nat.eq_of_beq_eq_true hb.1;have eA:0<i.size:=Nat.le_of_ble_eq_true hb.2;simp only[WG]at he;split at he
      ·rename_i k' m hsv WJ;split at he
       ·rename_i n;split at he
        ·simp at he
        ·rename_i xV;have hn:0<n:=Nat.pos_of_ne_zero xV;have gh:args= #[s,x]:=by rw[←Array.toArray_toList (xs:=args),fL]
         subst gh;have hS:=ai ht hs hsv;have hX:=ai ht hxx WJ;simp only[VR]at hS hX;obtain⟨ρ',w',V,m1,m2,m3⟩:=EU (k':=k') h0 h1 hu hx hi hz Co eA hr hf hn he type;obtain⟨cs,Cp⟩:=bU (P:=P) (ρ:=a.eval) (b:=.append) (args:= #[s,x]) (ats:=ats) (dst:=dst) (type:=type) (pos:=pos) (after:=after) (guard:=guard);refine⟨ρ',w',V,.inl ?_,m2,m3⟩;rw[Cp];have hX':a.eval x=.int k' (n:Int):=hX;simp[builtin,hS,hX',m1]
       ·simp at he
      ·simp at he
    ·simp at hc
   ·simp at hc
  ·simp at hc
 ·simp at hc
def kz:TypeDesc->Option Nat
 | .int _=>some 0
 | .string=>some 1
 | .bool=>some 2
 |_=>none
def tT(kd:Nat)(x y:AV):Option Bool:=match x,y with
 | .int k a,.int k' b=>cond (Nat.beq kd 0&&decide (k=k')) (some (yK a b)) none
 | .str a,.str b=>cond (Nat.beq kd 1) (some (rY a b)) none
 | .bool a,.bool b=>cond (Nat.beq kd 2) (some (a==b)) none
 |_,_=>none
def dL(kd:Nat)(k:AV):List (AV×AV×Nat)->Nat->Option (Option (Nat×AV))
 | [],_=>some none
 |e::es,i=>match tT kd k e.1 with
  |some true=>some (some (i,e.2.1))
  |some false=>dL kd k es (i+1)
  |none=>none
theorem na{ρ:aR}{kd:Nat}{d:TypeDesc}(hd:kz d=some kd){x y:AV}{X Y:Value}{b:Bool}(h:tT kd x y=some b)(hx:VR ρ x X)(hy:VR ρ y Y):
 Instr.sameNow d X Y=some b/\(b=true->Instr.sameBits 10000 Y X=true)/\∀(P:Program) (em:Bool) (t:TypeId),P.underlying t=some d->∀w,(Instr.checkKey em 10000 t X).run P w=.ok () w:=by
 have hc:∀(V:Value),(∀t v,V≠.iface t v)->(∀c,V≠.agg c)->V≠.nilIface->∀(P:Program) (em:Bool) (t:TypeId),P.underlying t=some d->∀w,(Instr.checkKey em 10000 t V).run P w=.ok () w:=by
  intro V h1 h2 h3 P em t ht w;unfold Instr.checkKey;simp only[Sem.run_bind,Go.Proofs.YtgkjlklfjbljeaaGreat.Eo.run_underlying ht,Result.andThen_ok];cases d<;>simp only[kz]at hd<;>first
   |(simp at hd;done)
   |simp
 unfold tT at h;split at h
 ·rename_i k a k' c;cases hb:(Nat.beq kd 0&&decide (k=k'))
  ·rw[hb]at h;simp at h
  ·rw[hb,cond_true]at h;simp only[Bool.and_eq_true,decide_eq_true_eq]at hb;obtain⟨iD,rfl⟩:=hb;have iD:=Nat.eq_of_beq_eq_true iD;subst iD;simp at h;subst h;simp only[VR]at hx hy;subst hx hy;refine⟨?_,?_,hc _ (by simp) (by simp) (by simp)⟩
   ·cases d<;>simp only[kz]at hd<;>first
      |(simp at hd;done)
      |simp[Instr.sameNow,gJ]
   ·rw[gJ];intro he;simp at he;subst he;simp[Instr.sameBits]
 ·rename_i a c;cases hb:Nat.beq kd 1
  ·rw[hb]at h;simp at h
  ·rw[hb,cond_true]at h;have iD:=Nat.eq_of_beq_eq_true hb;subst iD;simp at h;subst h;simp only[wS];simp only[VR]at hx hy;subst hx hy;refine⟨?_,?_,hc _ (by simp) (by simp) (by simp)⟩
   ·cases d<;>simp only[kz]at hd<;>first
      |(simp at hd;done)
      |simp[Instr.sameNow]
   ·intro he;have:a=c:=(Go.MapKept.bytes_beq a c).1 he;subst this;simp only[Instr.sameBits];exact he
 ·rename_i a c;cases hb:Nat.beq kd 2
  ·rw[hb]at h;simp at h
  ·rw[hb,cond_true]at h;have iD:=Nat.eq_of_beq_eq_true hb;subst iD;simp at h;subst h;simp only[VR]at hx hy;subst hx hy;refine⟨?_,?_,hc _ (by simp) (by simp) (by simp)⟩
   ·cases d<;>simp only[kz]at hd<;>first
      |(simp at hd;done)
      |simp[Instr.sameNow]
   ·intro he;have:a=c:=by simpa using he
    subst this;simp[Instr.sameBits]
 ·simp at h
def FR(ρ:aR)(es:List (AV×AV×Nat))(K:Value)(ES:List MapEntry)(i:Nat):Option (Nat×AV)->Option (Nat×Value)->Prop
 |none,R=>R=none
 |some (j,v),R=>∃V E,R=some (j,V)/\VR ρ v V/\i<=j/\ES[j-i]?=some E/\Instr.sameBits 10000 E.key K=true
theorem eM{ρ:aR}{kd:Nat}{d:TypeDesc}(hd:kz d=some kd){k:AV}{K:Value}(hk:VR ρ k K):∀{es:List (AV×AV×Nat)} {ES:List MapEntry} {i:Nat} {r:Option (Nat×AV)},dL kd k es i=some r->ij ρ es ES->
 ∃R,Instr.findNow d K ES i=some R/\FR ρ es K ES i r R
 | [],ES,i,r,h,he=>by
   simp[dL]at h;subst h;simp only[ij]at he;subst he;exact⟨none,rfl,rfl⟩
 |e::es,ES,i,r,h,he=>by
  obtain⟨E,M,h1,h2,h3,h4,rfl⟩:=he;unfold dL at h;split at h
  ·rename_i hq;simp at h;subst h;obtain⟨q1,q2,_⟩:=na hd hq hk h1;exact⟨some (i,E.val),by simp[Instr.findNow,q1],E.val,E,rfl,h2,Nat.le_refl _,by simp,q2 rfl⟩
  ·rename_i hq;obtain⟨q1,_,_⟩:=na hd hq hk h1;obtain⟨R,j1,j2⟩:=eM hd hk h h4;refine⟨R,by simp[Instr.findNow,q1,j1],?_⟩;cases r with
   |none=>exact j2
   |some jv=>
    obtain⟨j,v⟩:=jv;obtain⟨V,E',m1,m2,m3,m4,m5⟩:=j2;exact⟨V,E',m1,m2,by omega,by rw[show j-i=(j-(i+1))+1 by omega];simpa using m4,m5⟩
  ·simp at h
def iA(kd:Nat):AV->Bool
 | .int _ _=>Nat.beq kd 0
 | .str _=>Nat.beq kd 1
 | .bool _=>Nat.beq kd 2
 |_=>false
theorem lU{ρ:aR}{kd:Nat}{d:TypeDesc}(hd:kz d=some kd){k:AV}{K:Value}(h:iA kd k=true)(hk:VR ρ k K)(P:Program)(em:Bool)(t:TypeId)(ht:P.underlying t=some d)(w:World):(Instr.checkKey em 10000 t K).run P w=.ok () w:=by
 have hq:∃b,tT kd k k=some b:=by
  unfold iA at h;unfold tT;split at h
  ·simp only[h,decide_true,Bool.and_self,cond_true];exact⟨_,rfl⟩
  ·simp only[h,cond_true];exact⟨_,rfl⟩
  ·simp only[h,cond_true];exact⟨_,rfl⟩
  ·simp at h
 obtain⟨b,hb⟩:=hq;exact(na hd hb hk hk).2.2 P em t ht w
theorem run_findKey{P:Program}{t:TypeId}{d:TypeDesc}(ht:P.underlying t=some d){K:Value}{ES:List MapEntry}{R:Option (Nat×Value)}(h:Instr.findNow d K ES 0=some R)(w:World):(Instr.findKey t K ES).run P w=.ok R w:=by
 simp[Instr.findKey,Go.Proofs.YtgkjlklfjbljeaaGreat.Eo.run_underlying ht,h]
inductive XX where
 |lq (kd:Nat) (m k v:cg)
 |del (kd:Nat) (m k:cg)
structure LOp where
 kd:Nat
 m:cg
 k:cg
 z:AV
 ok:Bool
def G4(tm:T AV)(h:H):XX->Option (AV×H)
 | .lq kd m k v=>match cV tm m,cV tm k,cV tm v with
   |some (.map a),some k,some v=>match h.t.get a with
    |some (.map es clock)=>cond (iA kd k) (match dL kd k es 0 with
     |some none=>some (.aE [],⟨h.next,h.t.set a (.map (es++[(k,v,clock)]) (clock+1))⟩)
     |some (some (i,_))=>some (.aE [],⟨h.next,h.t.set a (.map (es.modify i fun e=>(k,v,e.2.2)) clock)⟩)
     |none=>none) none
    |_=>none
   |_,_,_=>none
 | .del kd m k=>match cV tm m,cV tm k with
   |some (.map a),some k=>match h.t.get a with
    |some (.map es clock)=>cond (iA kd k) (match dL kd k es 0 with
     |some none=>some (.aE [],⟨h.next,h.t.set a (.map es clock)⟩)
     |some (some (i,_))=>some (.aE [],⟨h.next,h.t.set a (.map (es.eraseIdx i) clock)⟩)
     |none=>none) none
    |_=>none
   |_,_=>none
def tS(tm:T AV)(g:Nat->Option AO)(o:LOp):Option AV:=
 let res (v:AV) (ok:Bool):Option AV:=some (cond o.ok (.aE [v,.bool ok]) v)
 match cV tm o.m,cV tm o.k with
 |some .kH,some k=>cond (iA o.kd k) (res o.z false) none
 |some (.map a),some k=>match g a with
  |some (.map es _)=>cond (iA o.kd k) (match dL o.kd k es 0 with
   |some none=>res o.z false
   |some (some (_,v))=>res v true
   |none=>none) none
  |_=>none
 |_,_=>none
def WL(P:Program)(t:TypeId):Option AV:=
 match P.info? t with
 |some i=>match i.zero with
  |some z=>cv z
  |none=>none
 |none=>none
def cL(P:Program)(o:Oper):Option LOp:=match o.op with
 | .lookup t x ix ok=>match P.underlying t with
   |some (.map kt e)=>match P.underlying kt,WL P e,aP x,aP ix with
    |some d,some z,some m,some k=>match kz d with
     |some kd=>some ⟨kd,m,k,z,ok⟩
     |none=>none
    |_,_,_,_=>none
   |_=>none
 |_=>none
def PO(P:Program)(t:TypeId)(m k x:Operand):Option XX:=match P.underlying t with
    |some (.map kt _)=>match P.underlying kt,aP m,aP k,aP x with
     |some d,some m,some k,some x=>match kz d with
      |some kd=>some (.lq kd m k x)
      |none=>none
     |_,_,_,_=>none
    |_=>none
def cM(P:Program)(o:Oper):Option XX:=match o.op with
 | .mapUpdate t m k x=>PO P t m k x
 | .insert t m k x=>PO P t m k x
 | .call {callee:=.builtin .delete,args,argTypes}=>match args.toList,argTypes[0]? with
   | [m,k],some t=>match P.underlying t with
     |some (.map kt _)=>match P.underlying kt,aP m,aP k with
      |some d,some m,some k=>match kz d with
       |some kd=>some (.del kd m k)
       |none=>none
      |_,_,_=>none
     |_=>none
   |_,_=>none
 |_=>none
theorem EV{P:Program}{t:TypeId}{v:AV}(h:WL P t=some v)(ρ:aR):∃V,VR ρ v V/\∀w,(zeroValue t).run P w=.ok V w:=by
 unfold WL at h;split at h
 ·rename_i i hi;split at h
  ·rename_i z hz;exact⟨z,Dg h,fun w=>by simp[zeroValue,run_typeInfo hi,hz]⟩
  ·simp at h
 ·simp at h
theorem Ad{P:Program}{o:Oper}{c:LOp}{tm:T AV}{v:AV}{ρ:aR}{a:Act}{g:Nat->Option AO}{w:World}(hc:cL P o=some c)(h:tS tm g c=some v)(ht:TR ρ tm a.tmps)(hr:HR ρ g w):
 ∃V,VR ρ v V/\(execOp a.eval o).run P w=.ok (.value V) w:=by
 obtain⟨dst,op,type,pos,after,guard⟩:=o;unfold cL at hc;simp only[]at hc;split at hc
 ·rename_i t x ix ok;split at hc
  ·rename_i kt e hu;split at hc
   ·rename_i d z m k hd hz hm hk;split at hc
    ·rename_i kd Ir;simp at hc;subst hc;obtain⟨Z,z1,z2⟩:=EV hz ρ;have WO:∀{u v:AV} {U:Value} {b:Bool},some (cond ok (AV.aE [u,.bool b]) u)=some v->VR ρ u U->VR ρ v (if ok then .tuple #[U,.bool b]else U):=by
      intro u v U b hv hU;simp at hv;subst hv;cases ok
      ·simpa using hU
      ·simp only[cond_true,if_true,VR];exact⟨[U,.bool b],⟨U,[.bool b],hU,⟨.bool b,[],by simp[VR],rfl,rfl⟩,rfl⟩,rfl⟩
     unfold tS at h;simp only[]at h;split at h
     ·rename_i k' FM nc;cases EX:iA kd k'
      ·rw[EX]at h;simp at h
      ·rw[EX,cond_true]at h;have hM:=ai ht hm FM;simp only[VR]at hM;have hK:=ai ht hk nc;have D8:=lU Ir EX hK P true kt hd w;refine⟨_,WO h z1,?_⟩;simp[execOp,Instr.lookup,Go.Proofs.YtgkjlklfjbljeaaGreat.Eo.run_underlying hu,hM,D8,run_findKey hd (K:=a.eval ix) (ES:=[]) (R:=none) rfl,z2]
     ·rename_i p k' FM nc;split at h
      ·rename_i es clock hg;cases EX:iA kd k'
       ·rw[EX]at h;simp at h
       ·rw[EX,cond_true]at h;have hM:=ai ht hm FM;simp only[VR]at hM;obtain⟨l,hl,hM⟩:=hM;have hK:=ai ht hk nc;obtain⟨_,ES,he,hh⟩:=hr.obj p _ l hg rfl hl;have D8:=fun em=>lU Ir EX hK P em kt hd w
        split at h
        ·rename_i hf;obtain⟨R,f1,f2⟩:=eM Ir hK hf he;simp only[FR]at f2;subst f2;refine⟨_,WO h z1,?_⟩;simp[execOp,Instr.lookup,Go.Proofs.YtgkjlklfjbljeaaGreat.Eo.run_underlying hu,hM,D8,run_findKey hd f1,z2,getObj,Sem.run,hh]
        ·rename_i j u hf;obtain⟨R,f1,f2⟩:=eM Ir hK hf he;simp only[FR]at f2;obtain⟨V,E,rfl,m2,_⟩:=f2;refine⟨_,WO h m2,?_⟩;simp[execOp,Instr.lookup,Go.Proofs.YtgkjlklfjbljeaaGreat.Eo.run_underlying hu,hM,D8,run_findKey hd f1,getObj,Sem.run,hh]
        ·simp at h
      ·simp at h
     ·simp at h
    ·simp at hc
   ·simp at hc
  ·simp at hc
 ·simp at hc
theorem ij.app{ρ:aR}:∀{l m:List (AV×AV×Nat)} {L M:List MapEntry},ij ρ l L->ij ρ m M->ij ρ (l++m) (L++M)
 | [],m,L,M,h,h'=>by simp only[ij]at h;subst h;simpa using h'
 |e::l,m,L,M,h,h'=>by
  obtain⟨E,N,h1,h2,h3,h4,rfl⟩:=h;exact⟨E,N++M,h1,h2,h3,ij.app h4 h',rfl⟩
theorem ij.mod{ρ:aR}{k v:AV}{K V:Value}(hk:VR ρ k K)(hv:VR ρ v V):∀{l:List (AV×AV×Nat)} {L:List MapEntry} (i:Nat),ij ρ l L->ij ρ (l.modify i fun e=>(k,v,e.2.2)) (L.modify i fun e=>{e with key:=K,val:=V})
 | [],L,i,h=>by simp only[ij]at h;subst h;simp[ij]
 |e::l,L,0,h=>by
  obtain⟨E,N,h1,h2,h3,h4,rfl⟩:=h;exact⟨{E with key:=K,val:=V},N,hk,hv,h3,h4,rfl⟩
 |e::l,L,i+1,h=>by
  obtain⟨E,N,h1,h2,h3,h4,rfl⟩:=h;exact⟨E,_,h1,h2,h3,ij.mod hk hv i h4,rfl⟩
theorem ij.erase{ρ:aR}:∀{l:List (AV×AV×Nat)} {L:List MapEntry} (i:Nat),ij ρ l L->ij ρ (l.eraseIdx i) (L.eraseIdx i)
 | [],L,i,h=>by simp only[ij]at h;subst h;simp[ij]
 |e::l,L,0,h=>by
  obtain⟨E,N,h1,h2,h3,h4,rfl⟩:=h;exact h4
 |e::l,L,i+1,h=>by
  obtain⟨E,N,h1,h2,h3,h4,rfl⟩:=h;exact⟨E,_,h1,h2,h3,ij.erase i h4,rfl⟩
theorem vK{P:Program}{ρ:aR}{h:H}{w:World}(hr:HR ρ h.t.get w)(hf:cC ρ h.next){a:Nat}{l:Loc}{es nI:List (AV×AV×Nat)}{clock clock':Nat}{ES':List MapEntry}(hg:h.t.get a=some (.map es clock))(hl:ρ a=some l)(he:ij ρ nI ES'):
 ∃w',(setObj l.b9 (.map ES'.toArray clock')).run P w=.ok () w'/\Way ρ h w ρ ⟨h.next,h.t.set a (.map nI clock')⟩ w':=by
 obtain⟨hb,ES,h1,h2⟩:=hr.obj a _ l hg rfl hl;refine⟨{w with heap:=w.heap.setIfInBounds l.b9 (.map ES'.toArray clock')},by simp[setObj,Sem.run,h2],eY hf hl (lH hr hg rfl hl (fun b=>T.ay _ _ _ _) ⟨rfl,rfl,rfl⟩ (by simp) (fun r dB=>?_) rfl ⟨ES',he,?_⟩)⟩
 ·simp only[Array.getElem?_setIfInBounds_ne (Ne.symm dB)]
 ·simp[hb]
theorem Ae{P:Program}{t:TypeId}{m k x:Operand}{c:XX}{tm:T AV}{h h':H}{v:AV}{ρ:aR}{a:Act}{w:World}(hc:PO P t m k x=some c)(he:G4 tm h c=some (v,h'))(ht:TR ρ tm a.tmps)(hr:HR ρ h.t.get w)(hf:cC ρ h.next):
 v=.aE []/\∃w',(Instr.mapUpdate t (a.eval m) (a.eval k) (a.eval x)).run P w=.ok () w'/\Way ρ h w ρ h' w':=by
 unfold PO at hc;split at hc
 ·rename_i kt et hu;split at hc
  ·rename_i d m' k' x' hd hm hk hx;split at hc
   ·rename_i kd Ir;simp at hc;subst hc;simp only[G4]at he;split at he
    ·rename_i p kv xv FM nc vg;split at he
     ·rename_i es clock hg;cases EX:iA kd kv
      ·rw[EX]at he;simp at he
      ·rw[EX,cond_true]at he;have hM:=ai ht hm FM;simp only[VR]at hM;obtain⟨l,hl,hM⟩:=hM;have hK:=ai ht hk nc;have hX:=ai ht hx vg;obtain⟨_,ES,sQ,hh⟩:=hr.obj p _ l hg rfl hl;have D8:=fun em=>lU Ir EX hK P em kt hd w
       split at he
       ·rename_i WQ;obtain⟨R,f1,f2⟩:=eM Ir hK WQ sQ;simp only[FR]at f2;subst f2;simp only[Option.some.injEq,Prod.mk.injEq]at he;obtain⟨rfl,rfl⟩:=he;obtain⟨w',j1,j2⟩:=vK (P:=P) (clock':=clock+1) hr hf hg hl (ij.app sQ (m:=[(kv,xv,clock)]) (M:=[{key:=a.eval k,val:=a.eval x,born:=clock}]) ⟨_,[],hK,hX,rfl,rfl,rfl⟩);refine⟨rfl,w',?_,j2⟩;have e:({toList:=ES}:Array MapEntry).push ({key:=a.eval k,val:=a.eval x,born:=clock}:MapEntry)=(ES++[({key:=a.eval k,val:=a.eval x,born:=clock}:MapEntry)]).toArray:=by simp
        simp only[Instr.mapUpdate,Sem.run_bind,Go.Proofs.YtgkjlklfjbljeaaGreat.Eo.run_underlying hu,Result.andThen_ok,hM,getObj,Sem.run,hh,D8,run_findKey hd f1,e,j1]
       ·rename_i j u WQ;obtain⟨R,f1,f2⟩:=eM Ir hK WQ sQ;simp only[FR]at f2;obtain⟨V,E,rfl,m2,_,m4,m5⟩:=f2;simp only[Option.some.injEq,Prod.mk.injEq]at he;obtain⟨rfl,rfl⟩:=he;obtain⟨w',j1,j2⟩:=vK (P:=P) (clock':=clock) hr hf hg hl (ij.mod hK hX j sQ);refine⟨rfl,w',?_,j2⟩;have m4':ES[j]?=some E:=by simpa using m4
        have e:(({toList:=ES}:Array MapEntry).modify j fun e=>{e with key:=a.eval k,val:=a.eval x})=(ES.modify j fun e=>{e with key:=a.eval k,val:=a.eval x}).toArray:=by simp
        simp only[Instr.mapUpdate,Sem.run_bind,Go.Proofs.YtgkjlklfjbljeaaGreat.Eo.run_underlying hu,Result.andThen_ok,hM,getObj,Sem.run,hh,D8,run_findKey hd f1,Instr.keyThatStays,List.getElem?_toArray,m4',Option.map_some,Option.getD_some,m5,if_true,Sem.run_pure,e,j1]
       ·simp at he
     ·simp at he
    ·simp at he
   ·simp at hc
  ·simp at hc
 ·simp at hc
theorem HD{P:Program}{o:Oper}{c:XX}{tm:T AV}{h h':H}{v:AV}{ρ:aR}{a:Act}{w:World}(hc:cM P o=some c)(he:G4 tm h c=some (v,h'))(ht:TR ρ tm a.tmps)(hr:HR ρ h.t.get w)(hf:cC ρ h.next):
 Dm P (execOp a.eval o) ρ h w v h':=by
 obtain⟨dst,op,type,pos,after,guard⟩:=o;unfold cM at hc;simp only[]at hc;split at hc
 ·obtain⟨rfl,w',k1,k2⟩:=Ae hc he ht hr hf;exact⟨ρ,w',undef,.inr ⟨by simp[execOp,k1],rfl⟩,by simp only[VR];exact⟨[],rfl,rfl⟩,k2⟩
 ·obtain⟨rfl,w',k1,k2⟩:=Ae hc he ht hr hf;exact⟨ρ,w',undef,.inr ⟨by simp[execOp,k1],rfl⟩,by simp only[VR];exact⟨[],rfl,rfl⟩,k2⟩
 ·rename_i args ats;split at hc
  ·rename_i m k t fL h0;have gh:args= #[m,k]:=by rw[←Array.toArray_toList (xs:=args),fL]
   subst gh;split at hc
   ·rename_i kt et hu;split at hc
    ·rename_i d m' k' hd hm hk;split at hc
     ·rename_i kd Ir;simp at hc;subst hc;simp only[G4]at he;split at he
      ·rename_i p kv FM nc;split at he
       ·rename_i es clock hg;cases EX:iA kd kv
        ·rw[EX]at he;simp at he
        ·rw[EX,cond_true]at he;have hM:=ai ht hm FM;simp only[VR]at hM;obtain⟨l,hl,hM⟩:=hM;have hK:=ai ht hk nc;obtain⟨_,ES,sQ,hh⟩:=hr.obj p _ l hg rfl hl;have D8:=fun em=>lU Ir EX hK P em kt hd w
         obtain⟨cs,Cp⟩:=bU (P:=P) (ρ:=a.eval) (b:=.delete) (args:= #[m,k]) (ats:=ats) (dst:=dst) (type:=type) (pos:=pos) (after:=after) (guard:=guard);split at he
         ·rename_i WQ;obtain⟨R,f1,f2⟩:=eM Ir hK WQ sQ;simp only[FR]at f2;subst f2;simp only[Option.some.injEq,Prod.mk.injEq]at he;obtain⟨rfl,rfl⟩:=he;obtain⟨w',j1,j2⟩:=vK (P:=P) (clock':=clock) hr hf hg hl sQ;refine⟨ρ,w',undef,.inl ?_,by simp only[VR];exact⟨[],rfl,rfl⟩,j2⟩;rw[Cp];simp[builtin,Builtin.delete_,h0,Go.Proofs.YtgkjlklfjbljeaaGreat.Eo.run_underlying hu,hM,getObj,Sem.run,hh,D8,run_findKey hd f1,j1,undef]
         ·rename_i j u WQ;obtain⟨R,f1,f2⟩:=eM Ir hK WQ sQ;simp only[FR]at f2;obtain⟨V,E,rfl,m2,_,m4,m5⟩:=f2;simp only[Option.some.injEq,Prod.mk.injEq]at he;obtain⟨rfl,rfl⟩:=he;obtain⟨w',j1,j2⟩:=vK (P:=P) (clock':=clock) hr hf hg hl (ij.erase j sQ);refine⟨ρ,w',undef,.inl ?_,by simp only[VR];exact⟨[],rfl,rfl⟩,j2⟩;rw[Cp];have e:({toList:=ES}:Array MapEntry).eraseIdxIfInBounds j=(ES.eraseIdx j).toArray:=by simp
          simp[builtin,Builtin.delete_,h0,Go.Proofs.YtgkjlklfjbljeaaGreat.Eo.run_underlying hu,hM,getObj,Sem.run,hh,D8,run_findKey hd f1,e,j1,undef]
         ·simp at he
       ·simp at he
      ·simp at he
     ·simp at hc
    ·simp at hc
   ·simp at hc
  ·simp at hc
 ·simp at hc
end
end Go.Proofs.YtgkjlklfjbljeaaGreat.Eo
