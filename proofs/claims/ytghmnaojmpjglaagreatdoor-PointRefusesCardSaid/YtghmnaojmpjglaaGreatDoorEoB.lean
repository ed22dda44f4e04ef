/-
  An evaluator of Go code over relative heaps, with open values too: what it says is so in every world. No condition.
-/
import Derived.Test.YtghmnaojmpjglaaGreatDoorEoA
import Derived.MapKept
set_option linter.all false
namespace Go.Proofs.YtghmnaojmpjglaaGreatDoor.Eo
noncomputable section
theorem mmA_sound{P:Program}{ρ:Rho}(isMax:Bool):∀{bs:List AV} {a v:AV} {A:Value} {BS:List Value},mmA isMax a bs=some v->VR ρ a A->VRs ρ bs BS->
 ∃V,VR ρ v V∧∀w,(BS.foldlM (if isMax then Builtin.max2 else Builtin.min2) A).run P w=.ok V w
 | [],a,v,A,BS,h,ha,hb=>by
   simp[mmA]at h;subst h
   simp only[VRs]at hb;subst hb
   exact⟨A,ha,fun w=>by simp⟩
 |b::bs,a,v,A,BS,h,ha,hb=>by
  unfold mmA at h
  simp only[VRs]at hb
  obtain⟨B,M,h1,h2,rfl⟩:=hb
  split at h
  ·rename_i k x k' y
   simp only[VR]at ha h1;subst ha h1
   obtain⟨V,j1,j2⟩:=mmA_sound isMax h (ρ:=ρ) (A:=.int k (if isMax then(if y>x then y else x)else(if y<x then y else x))) (by
        simp only[VR,iLt_eq]
        cases isMax
        ·by_cases hh:y<x<;>simp[hh]
        ·by_cases hh:x<y<;>simp[hh]) h2
   refine⟨V,j1,fun w=>?_⟩
   rw[List.foldlM_cons,Sem.run_bind]
   cases isMax
   ·have:=j2 w
    simp only[Bool.false_eq_true,if_false]at this⊢
    simp only[Builtin.min2,Sem.run_pure,Result.andThen_ok]
    exact this
   ·have:=j2 w
    simp only[if_true]at this⊢
    simp only[Builtin.max2,Sem.run_pure,Result.andThen_ok]
    exact this
  ·simp at h
theorem evIdx_spec{len m:Nat}{j:AV}(h:evIdx len j=some m){ρ:Rho}{J:Value}(hj:VR ρ j J):m<len∧∃k,J=.int k (m:Int):=by
 unfold evIdx at h
 split at h
 ·rename_i k m'
  rw[blt_iff]at h
  by_cases hl:m'<len
  ·simp[hl]at h;subst h
   simp only[VR]at hj
   exact⟨hl,k,hj⟩
  ·simp[hl]at h
 ·simp at h
theorem run_builtin{P:Program}{ρ:Operand->Value}{b:Builtin}{args:Array Operand}{ats:Array TypeId}{dst:Option Tmp}{type:TypeId}{pos:String}{after:Array Edge}{guard:Option (Nat×Bool)}:
 ∃cs:Array Bool,∀w,(execOp ρ {dst:=dst,op:=.call {callee:=.builtin b,args:=args,argTypes:=ats},type:=type,pos:=pos,after:=after,guard:=guard}).run P w=(builtin b ats type cs (args.map ρ)).run P w:=by
 refine⟨args.map isC,fun w=>?_⟩
 simp only[execOp,resolve,Sem.run_bind,Sem.run_pure,Result.andThen_ok,invoke]
 have e:∀f:Operand->Bool,(∀x,f x=isC x)->args.map f=args.map isC:=fun f hf=>by rw[show f=isC from funext hf]
 rw[e]
 intro x
 cases x<;>rfl
theorem evP_sound{P:Program}{o:Oper}{c:POp}{tm:T AV}{v:AV}{ρ:Rho}{a:Act}(hc:cP P o=some c)(h:evP P tm c=some v)(ht:TR ρ tm a.tmps):
 ∃V,VR ρ v V∧∀w,(execOp a.eval o).run P w=.ok (.value V) w:=by
 obtain⟨dst,op,type,pos,after,guard⟩:=o
 rw[cP_def]at hc
 unfold cP0 at hc
 simp only[]at hc
 split at hc
 ·rename_i x
  simp only[Option.map_eq_some_iff]at hc
  obtain⟨y,hy,rfl⟩:=hc
  exact⟨_,evo_sound ht hy h,fun w=>by simp[execOp]⟩
 ·rename_i x
  simp only[Option.map_eq_some_iff]at hc
  obtain⟨y,hy,rfl⟩:=hc
  exact⟨_,evo_sound ht hy h,fun w=>by simp[execOp]⟩
 ·rename_i c' a' b'
  split at hc
  ·rename_i c1 a1 b1 h1 h2 h3
   simp at hc;subst hc
   simp only[evP,evP_pick,evP_nilck,evP_bin,evP_un,evP_conv,evP_convs,evP_mkif,evP_mkfn,evP_slc,evP_fadr,evP_fld,evP_iadrS,evP_iadrA,evP_idxA,evP_extr,evP_lenv,evP_lens,evP_lenm,evP_mm,evP_capv]at h
   split at h
   ·rename_i t hcv
    have k:=evo_sound ht h1 hcv
    simp only[VR]at k
    cases t
    ·exact⟨_,evo_sound ht h3 h,fun w=>by simp[execOp,k,asBool]⟩
    ·exact⟨_,evo_sound ht h2 h,fun w=>by simp[execOp,k,asBool]⟩
   ·simp at h
  ·simp at hc
 ·rename_i t ps
  split at hc
  ·rename_i z l hb hz hl
   simp at hc;subst hc
   simp only[evP,evP_pick,evP_nilck,evP_bin,evP_un,evP_conv,evP_convs,evP_mkif,evP_mkfn,evP_slc,evP_fadr,evP_fld,evP_iadrS,evP_iadrA,evP_idxA,evP_extr,evP_lenv,evP_lens,evP_lenm,evP_mm,evP_capv,Option.map_eq_some_iff]at h
   obtain⟨r,hr,rfl⟩:=h
   unfold zcells at hz
   split at hz
   ·rename_i i hi
    split at hz
    ·rename_i Z hZ
     obtain⟨k1,_⟩:=cvs_sound (ρ:=ρ) hz
     obtain⟨R,e1,e2⟩:=fill_sound (pl:=plc P t) ht hl hr k1
     refine⟨.agg R,⟨R.toList,e2,by simp⟩,fun w=>?_⟩
     have hbl:P.built t ((ps.map fun(i,x)=>(i,a.eval x)).toList)=some R:=by
      rw[built_eq hi hZ hb,←e1]
      congr 1
      simp
     simp[execOp,run_build w t _ _ hbl]
    ·simp at hz
   ·simp at hz
  ·simp at hc
 ·rename_i x
  simp only[Option.map_eq_some_iff]at hc
  obtain⟨y,hy,rfl⟩:=hc
  simp only[evP,evP_pick,evP_nilck,evP_bin,evP_un,evP_conv,evP_convs,evP_mkif,evP_mkfn,evP_slc,evP_fadr,evP_fld,evP_iadrS,evP_iadrA,evP_idxA,evP_extr,evP_lenv,evP_lens,evP_lenm,evP_mm,evP_capv]at h
  cases hv:evo tm y with
  |none=>rw[hv]at h;simp at h
  |some u=>
   rw[hv]at h
   have k:=evo_sound ht hy hv
   cases u with
   |nilp=>simp at h
   |nili=>simp at h
   |nilf=>simp at h
   |fn f fs cs=>
    cases f<;>simp at h
    subst h
    have k':=k
    simp only[VR]at k'
    obtain⟨F,C,_,_,hk⟩:=k'
    exact⟨_,k,fun w=>by simp[execOp,hk]⟩
   |sl p o len es cap=>
    simp at h;subst h
    refine⟨_,k,fun w=>?_⟩
    cases cap with
    |some c=>simp only[VR]at k;obtain⟨l,_,_,hk⟩:=k;simp[execOp,hk]
    |none=>simp only[VR]at k;obtain⟨l,_,_,_,hk|⟨_,x,hk⟩⟩:=k<;>simp[execOp,hk]
   |ptr p o=>simp at h;subst h;refine⟨_,k,fun w=>?_⟩;simp only[VR]at k;obtain⟨l,_,hk⟩:=k;simp[execOp,hk]
   |map p=>simp at h;subst h;refine⟨_,k,fun w=>?_⟩;simp only[VR]at k;obtain⟨l,_,hk⟩:=k;simp[execOp,hk]
   |yld p=>simp at h;subst h;refine⟨_,k,fun w=>?_⟩;simp only[VR]at k;obtain⟨l,_,hk⟩:=k;simp[execOp,hk]
   |ifc t u=>simp at h;subst h;refine⟨_,k,fun w=>?_⟩;simp only[VR]at k;obtain⟨U,_,hk⟩:=k;simp[execOp,hk]
   |agg l=>simp at h;subst h;refine⟨_,k,fun w=>?_⟩;simp only[VR]at k;obtain⟨U,_,hk⟩:=k;simp[execOp,hk]
   |tup l=>simp at h;subst h;refine⟨_,k,fun w=>?_⟩;simp only[VR]at k;obtain⟨U,_,hk⟩:=k;simp[execOp,hk]
   |_=>simp at h;subst h;refine⟨_,k,fun w=>?_⟩;simp only[VR]at k;simp[execOp,k]
 ·rename_i op t x y _
  split at hc
  ·rename_i a1 b1 h1 h2
   simp at hc;subst hc
   simp only[evP,evP_pick,evP_nilck,evP_bin,evP_un,evP_conv,evP_convs,evP_mkif,evP_mkfn,evP_slc,evP_fadr,evP_fld,evP_iadrS,evP_iadrA,evP_idxA,evP_extr,evP_lenv,evP_lens,evP_lenm,evP_mm,evP_capv]at h
   split at h
   ·rename_i u1 u2 hu1 hu2
    obtain⟨V,k1,k2⟩:=evBin_sound h (evo_sound ht h1 hu1) (evo_sound ht h2 hu2)
    refine⟨V,k1,fun w=>?_⟩
    have:=k2 w
    simp only[execOp]
    rw[Sem.run_bind,this]
    rfl
   ·simp at h
  ·simp at hc
 ·rename_i op t x
  simp only[Option.map_eq_some_iff]at hc
  obtain⟨y,hy,rfl⟩:=hc
  simp only[evP,evP_pick,evP_nilck,evP_bin,evP_un,evP_conv,evP_convs,evP_mkif,evP_mkfn,evP_slc,evP_fadr,evP_fld,evP_iadrS,evP_iadrA,evP_idxA,evP_extr,evP_lenv,evP_lens,evP_lenm,evP_mm,evP_capv]at h
  split at h
  ·rename_i k n hv
   simp at h;subst h
   have kk:=evo_sound ht hy hv
   simp only[VR]at kk
   exact⟨_,rfl,fun w=>by rw[show Int.sub 0 n=-n from by show(0:Int) -n=-n;omega];simp[execOp,kk,Op.unary,Op.intArith,fw_eq]⟩
  ·rename_i k n hv
   have kk:=evo_sound ht hy hv
   simp only[VR]at kk
   simp only[evInt,Option.some.injEq]at h
   subst h
   exact⟨_,rfl,fun w=>by simp[execOp,kk,Op.unary,Op.intBits,fw_eq]⟩
  ·rename_i b hv
   simp at h;subst h
   have kk:=evo_sound ht hy hv
   simp only[VR]at kk
   exact⟨_,rfl,fun w=>by simp[execOp,kk,Op.unary]⟩
  ·simp at h
 ·rename_i s d x
  split at hc
  ·rename_i u1 k y hs hd hy
   simp at hc;subst hc
   simp only[evP,evP_pick,evP_nilck,evP_bin,evP_un,evP_conv,evP_convs,evP_mkif,evP_mkfn,evP_slc,evP_fadr,evP_fld,evP_iadrS,evP_iadrA,evP_idxA,evP_extr,evP_lenv,evP_lens,evP_lenm,evP_mm,evP_capv]at h
   split at h
   ·rename_i k' n hv
    simp at h;subst h
    have kk:=evo_sound ht hy hv
    simp only[VR]at kk
    refine⟨_,rfl,fun w=>?_⟩
    simp[execOp,kk,convert,Go.Proofs.YtghmnaojmpjglaaGreatDoor.Eo.run_underlying hs,Go.Proofs.YtghmnaojmpjglaaGreatDoor.Eo.run_underlying hd,Conv.intToInt,fw_eq]
   ·simp at h
  ·rename_i u1 y hs hd hy
   simp at hc;subst hc
   simp only[evP,evP_pick,evP_nilck,evP_bin,evP_un,evP_conv,evP_convs,evP_mkif,evP_mkfn,evP_slc,evP_fadr,evP_fld,evP_iadrS,evP_iadrA,evP_idxA,evP_extr,evP_lenv,evP_lens,evP_lenm,evP_mm,evP_capv]at h
   split at h
   ·rename_i b hv
    simp at h;subst h
    have kk:=evo_sound ht hy hv
    simp only[VR]at kk
    refine⟨_,rfl,fun w=>?_⟩
    simp[execOp,kk,convert,Go.Proofs.YtghmnaojmpjglaaGreatDoor.Eo.run_underlying hs,Go.Proofs.YtghmnaojmpjglaaGreatDoor.Eo.run_underlying hd]
   ·rename_i k n hv
    simp at h;subst h
    have kk:=evo_sound ht hy hv
    simp only[VR]at kk
    refine⟨_,rfl,fun w=>?_⟩
    simp[execOp,kk,convert,Go.Proofs.YtghmnaojmpjglaaGreatDoor.Eo.run_underlying hs,Go.Proofs.YtghmnaojmpjglaaGreatDoor.Eo.run_underlying hd,Conv.intToString]
   ·simp at h
  ·simp at hc
 ·rename_i t x
  split at hc
  ·simp at hc
  ·rename_i d y hne hu hy
   simp at hc;subst hc
   simp only[evP,evP_pick,evP_nilck,evP_bin,evP_un,evP_conv,evP_convs,evP_mkif,evP_mkfn,evP_slc,evP_fadr,evP_fld,evP_iadrS,evP_iadrA,evP_idxA,evP_extr,evP_lenv,evP_lens,evP_lenm,evP_mm,evP_capv]at h
   split at h
   ·rename_i u hv
    simp at h;subst h
    have kk:=evo_sound ht hy hv
    refine⟨_,⟨_,kk,rfl⟩,fun w=>?_⟩
    simp only[execOp,Instr.makeInterface,Sem.run_bind,Go.Proofs.YtghmnaojmpjglaaGreatDoor.Eo.run_underlying hu,Result.andThen_ok]
    cases d<;>first|(exact absurd hu (hne _))|rfl
   ·simp at h
  ·simp at hc
 ·rename_i f fs cs
  split at hc
  ·rename_i a1 b1 h1 h2
   simp at hc;subst hc
   simp only[evP,evP_pick,evP_nilck,evP_bin,evP_un,evP_conv,evP_convs,evP_mkif,evP_mkfn,evP_slc,evP_fadr,evP_fld,evP_iadrS,evP_iadrA,evP_idxA,evP_extr,evP_lenv,evP_lens,evP_lenm,evP_mm,evP_capv]at h
   split at h
   ·rename_i u1 u2 hu1 hu2
    simp at h;subst h
    have k1:=evos_sound ht h1 hu1
    have k2:=evos_sound ht h2 hu2
    exact⟨_,⟨_,_,k1,k2,rfl⟩,fun w=>by simp[execOp,Instr.makeFunc];constructor<;>(apply Array.ext';simp)⟩
   ·simp at h
  ·simp at hc
 ·rename_i t x lo hi mx
  split at hc
  ·rename_i e hu
   split at hc
   ·rename_i es y l hh m hs hx hlo hhi hmx
    simp at hc;subst hc
    simp only[evP,evP_pick,evP_nilck,evP_bin,evP_un,evP_conv,evP_convs,evP_mkif,evP_mkfn,evP_slc,evP_fadr,evP_fld,evP_iadrS,evP_iadrA,evP_idxA,evP_extr,evP_lenv,evP_lens,evP_lenm,evP_mm,evP_capv]at h
    split at h
    ·rename_i u l' h' m' hu1 hl1 hh1 hm1
     obtain⟨V,k1,k2⟩:=evSlc_sound hu hs (evo_sound ht hx hu1) (evoO_sound ht hlo hl1) (evoO_sound ht hhi hh1) (evoO_sound ht hmx hm1) h
     exact⟨V,k1,fun w=>by simp[execOp,k2]⟩
    ·simp at h
   ·simp at hc
  ·simp at hc
 ·rename_i t x f
  split at hc
  ·rename_i fs hu
   split at hc
   ·rename_i fd hf
    split at hc
    ·rename_i n y hs hx
     simp at hc;subst hc
     simp only[evP,evP_pick,evP_nilck,evP_bin,evP_un,evP_conv,evP_convs,evP_mkif,evP_mkfn,evP_slc,evP_fadr,evP_fld,evP_iadrS,evP_iadrA,evP_idxA,evP_extr,evP_lenv,evP_lens,evP_lenm,evP_mm,evP_capv]at h
     split at h
     ·rename_i p o hv
      simp at h;subst h
      have kk:=evo_sound ht hx hv
      simp only[VR]at kk
      obtain⟨l,hl,kk⟩:=kk
      refine⟨.pointer (some ⟨l.blk,l.off+(o+fd.offset),none⟩),⟨l,hl,rfl⟩,fun w=>?_⟩
      simp only[execOp,kk,Instr.fieldAt,Sem.run_bind,Go.Proofs.YtghmnaojmpjglaaGreatDoor.Eo.run_underlying hu,Result.andThen_ok,hf,Instr.sureAddr,Sem.run_pure,fieldPlace,run_sizeOf hs]
      rw[if_neg (by omega)]
      simp[addr_add,Nat.add_assoc]
     ·simp at h
    ·simp at hc
   ·simp at hc
  ·simp at hc
 ·rename_i t x f
  split at hc
  ·rename_i fs hu
   split at hc
   ·rename_i fd y hf hx
    simp at hc;subst hc
    simp only[evP,evP_pick,evP_nilck,evP_bin,evP_un,evP_conv,evP_convs,evP_mkif,evP_mkfn,evP_slc,evP_fadr,evP_fld,evP_iadrS,evP_iadrA,evP_idxA,evP_extr,evP_lenv,evP_lens,evP_lenm,evP_mm,evP_capv]at h
    split at h
    ·rename_i l hv
     have kk:=evo_sound ht hx hv
     simp only[VR]at kk
     obtain⟨L,hL,kk⟩:=kk
     obtain⟨V,k1,k2⟩:=partA_sound h hL
     refine⟨V,k1,fun w=>?_⟩
     simp[execOp,kk,Instr.field,Go.Proofs.YtghmnaojmpjglaaGreatDoor.Eo.run_underlying hu,hf,asAgg,k2]
    ·simp at h
   ·simp at hc
  ·simp at hc
 ·rename_i t x i
  split at hc
  ·rename_i e hu
   split at hc
   ·rename_i es y j hs hx hi
    simp at hc;subst hc
    simp only[evP,evP_pick,evP_nilck,evP_bin,evP_un,evP_conv,evP_convs,evP_mkif,evP_mkfn,evP_slc,evP_fadr,evP_fld,evP_iadrS,evP_iadrA,evP_idxA,evP_extr,evP_lenv,evP_lens,evP_lenm,evP_mm,evP_capv]at h
    split at h
    ·rename_i p o len es' cap jv hv hj
     cases he:Nat.beq es es'
     ·rw[he]at h;simp at h
     ·rw[he,cond_true]at h
      have he':=Nat.eq_of_beq_eq_true he
      split at h
      ·rename_i m hm
       simp at h;subst h
       have kk:=evo_sound ht hx hv
       obtain⟨hlt,k,hJ⟩:=evIdx_spec hm (evo_sound ht hi hj)
       have key:∃l c,ρ p=some l∧a.eval x=.slice (some ⟨l.blk,l.off+o,none⟩) len c:=by
         cases cap with
         |some c=>simp only[VR]at kk;obtain⟨l,h1,_,h2⟩:=kk;exact⟨l,_,h1,h2⟩
         |none=>
          simp only[VR]at kk
          obtain⟨l,h1,_,_,h2|⟨h0,_⟩⟩:=kk
          ·exact⟨l,_,h1,h2⟩
          ·omega
       obtain⟨l,c,hl,kk⟩:=key
       refine⟨.pointer (some ⟨l.blk,l.off+(o+m*es),none⟩),⟨l,hl,rfl⟩,fun w=>?_⟩
       have hcnd:(0:Int)<=(m:Int)∧(m:Int)<((len:Nat):Int):=by omega
       simp only[execOp,kk,hJ,Instr.indexAt,asIntOf,Sem.run_bind,Sem.run_pure,Result.andThen_ok,Go.Proofs.YtghmnaojmpjglaaGreatDoor.Eo.run_underlying hu,if_pos hcnd,run_sizeOf hs,Int.toNat_natCast,addr_add,Nat.add_assoc]
      ·simp at h
    ·simp at h
   ·simp at hc
  ·rename_i n e hu
   split at hc
   ·rename_i es y j hs hx hi
    simp at hc;subst hc
    simp only[evP,evP_pick,evP_nilck,evP_bin,evP_un,evP_conv,evP_convs,evP_mkif,evP_mkfn,evP_slc,evP_fadr,evP_fld,evP_iadrS,evP_iadrA,evP_idxA,evP_extr,evP_lenv,evP_lens,evP_lenm,evP_mm,evP_capv]at h
    split at h
    ·rename_i p o jv hv hj
     split at h
     ·rename_i m hm
      simp at h;subst h
      have kk:=evo_sound ht hx hv
      simp only[VR]at kk
      obtain⟨l,hl,kk⟩:=kk
      obtain⟨hlt,k,hJ⟩:=evIdx_spec hm (evo_sound ht hi hj)
      refine⟨.pointer (some ⟨l.blk,l.off+(o+m*es),none⟩),⟨l,hl,rfl⟩,fun w=>?_⟩
      have hcnd:(0:Int)<=(m:Int)∧(m:Int)<((n:Nat):Int):=by omega
      simp only[execOp,kk,hJ,Instr.indexAt,Instr.sureAddr,asIntOf,Sem.run_bind,Sem.run_pure,Result.andThen_ok,Go.Proofs.YtghmnaojmpjglaaGreatDoor.Eo.run_underlying hu,if_pos hcnd,run_sizeOf hs,Int.toNat_natCast,addr_add,Nat.add_assoc]
     ·simp at h
    ·simp at h
   ·simp at hc
  ·simp at hc
 ·rename_i t x i
  split at hc
  ·rename_i n e hu
   split at hc
   ·rename_i es y j hs hx hi
    simp at hc;subst hc
    simp only[evP,evP_pick,evP_nilck,evP_bin,evP_un,evP_conv,evP_convs,evP_mkif,evP_mkfn,evP_slc,evP_fadr,evP_fld,evP_iadrS,evP_iadrA,evP_idxA,evP_extr,evP_lenv,evP_lens,evP_lenm,evP_mm,evP_capv]at h
    split at h
    ·rename_i l jv hv hj
     split at h
     ·rename_i m hm
      have kk:=evo_sound ht hx hv
      simp only[VR]at kk
      obtain⟨L,hL,kk⟩:=kk
      obtain⟨hlt,k,hJ⟩:=evIdx_spec hm (evo_sound ht hi hj)
      obtain⟨V,k1,k2⟩:=partA_sound h hL
      refine⟨V,k1,fun w=>?_⟩
      have hcnd:(0:Int)<=(m:Int)∧(m:Int)<((n:Nat):Int):=by omega
      simp only[execOp,kk,hJ,Instr.index,asIntOf,Sem.run_bind,Sem.run_pure,Result.andThen_ok,Go.Proofs.YtghmnaojmpjglaaGreatDoor.Eo.run_underlying hu,if_pos hcnd,run_sizeOf hs,Int.toNat_natCast,k2]
     ·simp at h
    ·simp at h
   ·simp at hc
  ·simp at hc
 ·rename_i x i
  simp only[Option.map_eq_some_iff]at hc
  obtain⟨y,hy,rfl⟩:=hc
  simp only[evP,evP_pick,evP_nilck,evP_bin,evP_un,evP_conv,evP_convs,evP_mkif,evP_mkfn,evP_slc,evP_fadr,evP_fld,evP_iadrS,evP_iadrA,evP_idxA,evP_extr,evP_lenv,evP_lens,evP_lenm,evP_mm,evP_capv]at h
  split at h
  ·rename_i l hv
   have kk:=evo_sound ht hy hv
   simp only[VR]at kk
   obtain⟨L,hL,kk⟩:=kk
   obtain⟨V,k1,k2⟩:=hL.get h
   exact⟨V,k2,fun w=>by simp[execOp,kk,Instr.extract,k1]⟩
  ·simp at h
 ·rename_i args ats
  split at hc
  ·rename_i x t hargs hty
   have hargs':args= #[x]:=by apply Array.ext';simpa using hargs
   subst hargs'
   split at hc
   ·rename_i e y hu hy
    simp at hc;subst hc
    simp only[evP,evP_pick,evP_nilck,evP_bin,evP_un,evP_conv,evP_convs,evP_mkif,evP_mkfn,evP_slc,evP_fadr,evP_fld,evP_iadrS,evP_iadrA,evP_idxA,evP_extr,evP_lenv,evP_lens,evP_lenm,evP_mm,evP_capv]at h
    split at h
    ·rename_i p o len es cap hv
     simp at h;subst h
     have kk:=evo_sound ht hy hv
     have key:∃q c,a.eval x=.slice q len c:=by
      cases cap with
      |some c=>simp only[VR]at kk;obtain⟨l,h1,_,h2⟩:=kk;exact⟨_,_,h2⟩
      |none=>
       simp only[VR]at kk
       obtain⟨l,h1,_,_,h2|⟨h0,z,h2⟩⟩:=kk
       ·exact⟨_,_,h2⟩
       ·exact⟨_,_,by rw[h2,h0]⟩
     obtain⟨q,c,kk⟩:=key
     refine⟨_,rfl,fun w=>?_⟩
     obtain⟨cs,hb⟩:=run_builtin (P:=P) (ρ:=a.eval) (dst:=dst) (type:=type) (pos:=pos) (after:=after) (guard:=guard)
     rw[hb]
     simp[builtin,Builtin.len_,hty,kk,Go.Proofs.YtghmnaojmpjglaaGreatDoor.Eo.run_underlying hu,goInt]
    ·rename_i hv
     simp at h;subst h
     have kk:=evo_sound ht hy hv
     simp only[VR]at kk
     refine⟨_,rfl,fun w=>?_⟩
     obtain⟨cs,hb⟩:=run_builtin (P:=P) (ρ:=a.eval) (dst:=dst) (type:=type) (pos:=pos) (after:=after) (guard:=guard)
     rw[hb]
     simp[builtin,Builtin.len_,hty,kk,Go.Proofs.YtghmnaojmpjglaaGreatDoor.Eo.run_underlying hu,goInt]
    ·simp at h
   ·rename_i y hu hy
    simp at hc;subst hc
    simp only[evP,evP_pick,evP_nilck,evP_bin,evP_un,evP_conv,evP_convs,evP_mkif,evP_mkfn,evP_slc,evP_fadr,evP_fld,evP_iadrS,evP_iadrA,evP_idxA,evP_extr,evP_lenv,evP_lens,evP_lenm,evP_mm,evP_capv]at h
    split at h
    ·rename_i b hv
     simp at h;subst h
     have kk:=evo_sound ht hy hv
     simp only[VR]at kk
     refine⟨_,rfl,fun w=>?_⟩
     obtain⟨cs,hb⟩:=run_builtin (P:=P) (ρ:=a.eval) (dst:=dst) (type:=type) (pos:=pos) (after:=after) (guard:=guard)
     rw[hb]
     simp[builtin,Builtin.len_,hty,kk,Go.Proofs.YtghmnaojmpjglaaGreatDoor.Eo.run_underlying hu,goInt]
    ·simp at h
   ·rename_i k e y hu hy
    simp at hc;subst hc
    simp only[evP,evP_pick,evP_nilck,evP_bin,evP_un,evP_conv,evP_convs,evP_mkif,evP_mkfn,evP_slc,evP_fadr,evP_fld,evP_iadrS,evP_iadrA,evP_idxA,evP_extr,evP_lenv,evP_lens,evP_lenm,evP_mm,evP_capv]at h
    split at h
    ·rename_i hv
     simp at h;subst h
     have kk:=evo_sound ht hy hv
     simp only[VR]at kk
     refine⟨_,rfl,fun w=>?_⟩
     obtain⟨cs,hb⟩:=run_builtin (P:=P) (ρ:=a.eval) (dst:=dst) (type:=type) (pos:=pos) (after:=after) (guard:=guard)
     rw[hb]
     simp[builtin,Builtin.len_,hty,kk,Go.Proofs.YtghmnaojmpjglaaGreatDoor.Eo.run_underlying hu,goInt]
    ·simp at h
   ·simp at hc
  ·simp at hc
 ·rename_i args ats
  split at hc
  ·rename_i x ys hargs
   split at hc
   ·rename_i a1 b1 hx hy
    simp at hc;subst hc
    simp only[evP,evP_pick,evP_nilck,evP_bin,evP_un,evP_conv,evP_convs,evP_mkif,evP_mkfn,evP_slc,evP_fadr,evP_fld,evP_iadrS,evP_iadrA,evP_idxA,evP_extr,evP_lenv,evP_lens,evP_lenm,evP_mm,evP_capv]at h
    split at h
    ·rename_i u us hu hus
     obtain⟨V,k1,k2⟩:=mmA_sound (P:=P) true h (evo_sound ht hx hu) (evos_sound ht hy hus)
     refine⟨V,k1,fun w=>?_⟩
     have hl:(args.map a.eval).toList=a.eval x::ys.map a.eval:=by simp[hargs]
     obtain⟨cs,hb⟩:=run_builtin (P:=P) (ρ:=a.eval) (dst:=dst) (type:=type) (pos:=pos) (after:=after) (guard:=guard)
     rw[hb]
     have:=k2 w
     simp only[if_true]at this
     simp[builtin,Builtin.max_,hargs,this]
    ·simp at h
   ·simp at hc
  ·simp at hc
 ·rename_i args ats
  split at hc
  ·rename_i x ys hargs
   split at hc
   ·rename_i a1 b1 hx hy
    simp at hc;subst hc
    simp only[evP,evP_pick,evP_nilck,evP_bin,evP_un,evP_conv,evP_convs,evP_mkif,evP_mkfn,evP_slc,evP_fadr,evP_fld,evP_iadrS,evP_iadrA,evP_idxA,evP_extr,evP_lenv,evP_lens,evP_lenm,evP_mm,evP_capv]at h
    split at h
    ·rename_i u us hu hus
     obtain⟨V,k1,k2⟩:=mmA_sound (P:=P) false h (evo_sound ht hx hu) (evos_sound ht hy hus)
     refine⟨V,k1,fun w=>?_⟩
     have hl:(args.map a.eval).toList=a.eval x::ys.map a.eval:=by simp[hargs]
     obtain⟨cs,hb⟩:=run_builtin (P:=P) (ρ:=a.eval) (dst:=dst) (type:=type) (pos:=pos) (after:=after) (guard:=guard)
     rw[hb]
     have:=k2 w
     simp only[Bool.false_eq_true,if_false]at this
     simp[builtin,Builtin.min_,hargs,this]
    ·simp at h
   ·simp at hc
  ·simp at hc
 ·rename_i args ats
  split at hc
  ·rename_i x t hargs hty
   have hargs':args= #[x]:=by apply Array.ext';simpa using hargs
   subst hargs'
   split at hc
   ·rename_i e y hu hy
    simp at hc;subst hc
    simp only[evP,evP_capv]at h
    split at h
    ·rename_i p o len es c hv
     simp at h;subst h
     have kk:=evo_sound ht hy hv
     simp only[VR]at kk
     obtain⟨l,h1,_,kk⟩:=kk
     refine⟨_,rfl,fun w=>?_⟩
     obtain⟨cs,hb⟩:=run_builtin (P:=P) (ρ:=a.eval) (dst:=dst) (type:=type) (pos:=pos) (after:=after) (guard:=guard)
     rw[hb]
     simp[builtin,Builtin.cap_,hty,kk,Go.Proofs.YtghmnaojmpjglaaGreatDoor.Eo.run_underlying hu,goInt]
    ·rename_i hv
     simp at h;subst h
     have kk:=evo_sound ht hy hv
     simp only[VR]at kk
     refine⟨_,rfl,fun w=>?_⟩
     obtain⟨cs,hb⟩:=run_builtin (P:=P) (ρ:=a.eval) (dst:=dst) (type:=type) (pos:=pos) (after:=after) (guard:=guard)
     rw[hb]
     simp[builtin,Builtin.cap_,hty,kk,Go.Proofs.YtghmnaojmpjglaaGreatDoor.Eo.run_underlying hu,goInt]
    ·simp at h
   ·simp at hc
  ·simp at hc
 ·rename_i x st t
  split at hc
  ·simp at hc
  ·rename_i u y hni hu hy
   simp at hc;subst hc
   simp only[evP,evP_tas]at h
   split at h
   ·rename_i t' v' hv
    cases hb:Nat.beq t' t with
    |false=>rw[hb]at h;simp at h
    |true=>
     rw[hb]at h
     simp at h;subst h
     have:=Nat.eq_of_beq_eq_true hb
     subst this
     have kk:=evo_sound ht hy hv
     simp only[VR]at kk
     obtain⟨V,h1,h2⟩:=kk
     refine⟨V,h1,fun w=>?_⟩
     cases u<;>first
      |exact absurd rfl (hni _)
      |simp[execOp,h2,Instr.typeAssert,Go.Proofs.YtghmnaojmpjglaaGreatDoor.Eo.run_underlying hu]
   ·simp at h
  ·simp at hc
 ·simp at hc
inductive ROp where
 |ld (agg:Option Nat) (x:Opd)
 |eqp (neg:Bool) (x y:Opd)
 |lenm (x:Opd)
def ldA(g:Nat->Option AO)(agg:Option Nat)(a o:Nat):Option AV:=
 match g a with
 |some (.row cells _ _)=>match agg with
  |none=>cells.get o
  |some n=>match getList cells o n with
   |some l=>some (.agg l)
   |none=>none
 |some (.tab cells)=>match agg with
  |none=>cells.get o
  |some n=>match getList cells o n with
   |some l=>some (.agg l)
   |none=>none
 |_=>none
def evR(tm:T AV)(g:Nat->Option AO):ROp->Option AV
 | .ld agg x=>match evo tm x with
   |some (.ptr a o)=>ldA g agg a o
   |_=>none
 | .eqp neg x y=>match evo tm x,evo tm y with
   |some (.ptr a o),some (.ptr b o')=>match g a,g b with
    |some (.row _ _ _),some (.row _ _ _)=>some (.bool (xor neg (Nat.beq a b&&Nat.beq o o')))
    |_,_=>none
   |_,_=>none
 | .lenm x=>match evo tm x with
   |some (.map a)=>match g a with
    |some (.map es _)=>some (.int .i64 es.length)
    |_=>none
   |_=>none
def cR(P:Program)(o:Oper):Option ROp:=match o.op with
 | .load t x=>match aggOf P t,cOpd x with
   |some g,some y=>some (.ld g y)
   |_,_=>none
 | .binOp op t x y _=>match P.underlying t with
   |some (.pointer e)=>match sz P e,cOpd x,cOpd y with
    |some (_+1),some a,some b=>match op with
     | .eql=>some (.eqp false a b)
     | .neq=>some (.eqp true a b)
     |_=>none
    |_,_,_=>none
   |_=>none
 | .call {callee:=.builtin .len,args,argTypes}=>match args.toList,argTypes[0]? with
   | [x],some t=>match P.underlying t,cOpd x with
     |some (.map _ _),some y=>some (.lenm y)
     |_,_=>none
   |_,_=>none
 |_=>none
theorem ldA_sound{P:Program}{ρ:Rho}{g:Nat->Option AO}{w:World}(hr:HR ρ g w){t:TypeId}{agg:Option Nat}(ha:aggOf P t=some agg){a o:Nat}{v:AV}(h:ldA g agg a o=some v){l:Loc}(hl:ρ a=some l):
 ∃V,VR ρ v V∧(loadVar t ⟨l.blk,l.off+o,none⟩).run P w=.ok V w:=by
 unfold ldA at h
 split at h
 ·rename_i cells len e hg
  split at h
  ·obtain⟨V,k1,k2,k3⟩:=cell_of hr hg hl h
   exact⟨V,k1,by simp only[loadVar,Sem.run_bind,run_isAgg ha,Result.andThen_ok,Option.isSome,Bool.false_eq_true,if_false];exact load_cell k3 _⟩
  ·rename_i n
   split at h
   ·rename_i vs hvs
    simp at h;subst h
    obtain⟨Vs,k1,k2,k3,k4⟩:=cells_of hr hg hl hvs
    refine⟨.agg Vs.toArray,⟨Vs,k1,rfl⟩,?_⟩
    have:=load_list (P:=P) (w:=w) (a:=⟨l.blk,l.off+o,none⟩) (n:=n) k2 rfl k4
    simp[loadVar,run_isAgg ha,run_sizeOf (aggOf_size ha),this]
   ·simp at h
 ·rename_i cells hg
  split at h
  ·obtain⟨_,c,e,f,h1,h2⟩:=hr.obj a _ _ hg rfl hl
   obtain⟨V,k1,k2,k3⟩:=h2 o v h
   refine⟨V,k1,?_⟩
   have hc:w.cell? ⟨l.blk,l.off+o,none⟩=some V:=by
        unfold World.cell?
        rw[h1]
        simpa using k3
   simp only[loadVar,Sem.run_bind,run_isAgg ha,Result.andThen_ok,Option.isSome,Bool.false_eq_true,if_false]
   exact load_cell hc _
  ·rename_i n
   split at h
   ·rename_i vs hvs
    simp at h;subst h
    obtain⟨Vs,k1,k2,k3,k4⟩:=cells_of_tab hr hg hl hvs
    refine⟨.agg Vs.toArray,⟨Vs,k1,rfl⟩,?_⟩
    have:=load_list (P:=P) (w:=w) (a:=⟨l.blk,l.off+o,none⟩) (n:=n) k2 rfl k4
    simp[loadVar,run_isAgg ha,run_sizeOf (aggOf_size ha),this]
   ·simp at h
 ·simp at h
theorem evR_sound{P:Program}{o:Oper}{c:ROp}{tm:T AV}{v:AV}{ρ:Rho}{a:Act}{g:Nat->Option AO}{w:World}(hc:cR P o=some c)(h:evR tm g c=some v)(ht:TR ρ tm a.tmps)(hr:HR ρ g w):
 ∃V,VR ρ v V∧(execOp a.eval o).run P w=.ok (.value V) w:=by
 obtain⟨dst,op,type,pos,after,guard⟩:=o
 unfold cR at hc
 simp only[]at hc
 split at hc
 ·rename_i t x
  split at hc
  ·rename_i agg y hagg hy
   simp at hc;subst hc
   simp only[evR]at h
   split at h
   ·rename_i p q hv
    have kk:=evo_sound ht hy hv
    simp only[VR]at kk
    obtain⟨l,hl,kk⟩:=kk
    obtain⟨V,k1,k2⟩:=ldA_sound hr hagg h hl
    exact⟨V,k1,by simp[execOp,kk,Instr.loadAt,Instr.sureAddr,k2]⟩
   ·simp at h
  ·simp at hc
 ·rename_i op t x y _
  split at hc
  ·rename_i e hu
   split at hc
   ·rename_i n a1 b1 hs hx hy
    have main:∀{p q p' q':Nat},evo tm a1=some (.ptr p q)->evo tm b1=some (.ptr p' q')->∀{c1 c2:T AV} {l1 l2:Nat} {e1 e2:TypeId},g p=some (.row c1 l1 e1)->g p'=some (.row c2 l2 e2)->
     ∃A B,a.eval x=.pointer (some A)∧a.eval y=.pointer (some B)∧(Op.equal t (.pointer (some A)) (.pointer (some B))).run P w=.ok (Nat.beq p p'&&Nat.beq q q') w:=by
     intro p q p' q' h1 h2 c1 c2 l1 l2 e1 e2 hg1 hg2
     have k1:=evo_sound ht hx h1
     have k2:=evo_sound ht hy h2
     simp only[VR]at k1 k2
     obtain⟨l,hl,k1⟩:=k1
     obtain⟨m,hm,k2⟩:=k2
     refine⟨_,_,k1,k2,?_⟩
     obtain⟨b1,_,cc1,hh1,_⟩:=hr.row hg1 hl
     obtain⟨b2,_,cc2,hh2,_⟩:=hr.row hg2 hm
     have ten:Op.maxDepth=9999+1:=rfl
     unfold Op.equal
     rw[ten,Op.equalIn]
     simp only[Sem.run_bind,Go.Proofs.YtghmnaojmpjglaaGreatDoor.Eo.run_underlying hu,Result.andThen_ok,run_sizeOf hs,ne_eq,Nat.add_eq_zero_iff,Nat.succ_ne_zero,and_false,not_false_eq_true,if_true]
     rw[beq_iff,beq_iff]
     by_cases e:p=p'
     ·subst e
      rw[hl]at hm;simp at hm;subst hm
      simp only[sameAddr,beq_self_eq_true,if_true,Sem.run_pure,decide_true,Bool.true_and]
      congr 1
      rw[Bool.eq_iff_iff]
      simp[Addr.mk.injEq]
     ·have hne:l.blk≠m.blk:=fun hh=>e (hr.inj p p' _ _ l m hg1 rfl hg2 rfl hl hm hh)
      have hb:(l.blk==m.blk)=false:=by simpa using hne
      simp only[sameAddr,hb,Bool.false_eq_true,if_false]
      simp[World.frozen?,World.shape?,hh1,hh2,noView,viewAt,mayBeOne,stringish,e]
    split at hc
    ·simp at hc;subst hc
     simp only[evR]at h
     split at h
     ·rename_i p q p' q' h1 h2
      split at h
      ·rename_i c1 l1 e1 c2 l2 e2 hg1 hg2
       simp at h;subst h
       obtain⟨A,B,k1,k2,k3⟩:=main h1 h2 hg1 hg2
       refine⟨_,rfl,?_⟩
       simp[execOp,k1,k2,eqGuard,binOp,k3]
      ·simp at h
     ·simp at h
    ·simp at hc;subst hc
     simp only[evR]at h
     split at h
     ·rename_i p q p' q' h1 h2
      split at h
      ·rename_i c1 l1 e1 c2 l2 e2 hg1 hg2
       simp at h;subst h
       obtain⟨A,B,k1,k2,k3⟩:=main h1 h2 hg1 hg2
       refine⟨_,rfl,?_⟩
       simp[execOp,k1,k2,eqGuard,binOp,k3]
      ·simp at h
     ·simp at h
    ·simp at hc
   ·simp at hc
  ·simp at hc
 ·rename_i args ats
  split at hc
  ·rename_i x t hargs hty
   have hargs':args= #[x]:=by apply Array.ext';simpa using hargs
   subst hargs'
   split at hc
   ·rename_i k e y hu hy
    simp at hc;subst hc
    simp only[evR]at h
    split at h
    ·rename_i p hv
     split at h
     ·rename_i es clock hg
      simp at h;subst h
      have kk:=evo_sound ht hy hv
      simp only[VR]at kk
      obtain⟨l,hl,kk⟩:=kk
      obtain⟨h2,ES,h3,h4⟩:=hr.obj p _ l hg rfl hl
      have hlen:∀{es:List (AV×AV×Nat)} {ES:List MapEntry},ERs ρ es ES->ES.length=es.length:=by
       intro es
       induction es with
       |nil=>intro ES h;simp only[ERs]at h;simp[h]
       |cons x xs ih=>intro ES h;obtain⟨E,M,_,_,_,h5,rfl⟩:=h;simp[ih h5]
      obtain⟨cs,hb⟩:=run_builtin (P:=P) (ρ:=a.eval) (b:=.len) (args:= #[x]) (ats:=ats) (dst:=dst) (type:=type) (pos:=pos) (after:=after) (guard:=guard)
      refine⟨_,rfl,?_⟩
      rw[hb]
      simp[builtin,Builtin.len_,hty,kk,Go.Proofs.YtghmnaojmpjglaaGreatDoor.Eo.run_underlying hu,goInt,getObj,Sem.run,h4,hlen h3]
     ·simp at h
    ·simp at h
   ·simp at hc
  ·simp at hc
 ·simp at hc
inductive NOp where
 |new (e:TypeId) (z:List AV)
 |box (e:TypeId) (x:Opd)
 |buildS (e:TypeId) (es len:Nat) (z:List AV) (ps:List (Nat×Nat×Opd))
 |mksl (e:TypeId) (es bytes:Nat) (z:List AV) (l c:Opd)
 |mkmap
def rep(z:List AV)(n:Nat):List AV:=(List.range n).map fun i=>(z[i %z.length]?).getD .nilp
def evLen:AV->Option Nat
 | .int _ (.ofNat m)=>some m
 |_=>none
def evN(tm:T AV):NOp->Option (AO×(Nat->AV))
 | .new e z=>some (.row (putList 0 z .e) z.length e,fun a=>.ptr a 0)
 | .box e x=>match evo tm x with
   |some v=>match cellsA v with
    |some l=>some (.row (putList 0 l .e) l.length e,fun a=>.ptr a 0)
    |none=>none
   |none=>none
 | .buildS e es len z ps=>match layAll tm ps z with
   |some l=>some (.row (putList 0 l .e) l.length e,fun a=>.sl a 0 len es (some len))
   |none=>none
 | .mksl e es bytes z l c=>match evo tm l,evo tm c with
   |some l,some c=>match evLen l,evLen c with
    |some m,some n=>cond (Nat.ble m n&&Nat.ble (bytes*n) 281474976710656&&Nat.ble n 281474976710656)
         (some (.row (putList 0 (rep z (n*es)) .e) (n*es) e,fun a=>.sl a 0 m es (some n))) none
    |_,_=>none
   |_,_=>none
 | .mkmap=>some (.map [] 0,fun a=>.map a)
def cN(P:Program)(o:Oper):Option NOp:=match o.op with
 | .alloc e=>(zcells P e).map (.new e)
 | .box e x=>(cOpd x).map (.box e)
 | .buildSlice t len ps=>match P.underlying t with
   |some (.slice e)=>match sz P e,zcells P e with
    |some es,some z=>cond (Nat.ble (len*es) 16777216&&Nat.beq z.length es) (match cParts (fun i=>some (i*es,es)) ps.toList with
     |some l=>some (.buildS e es len (rep z (len*es)) l)
     |none=>none) none
    |_,_=>none
   |_=>none
 | .makeSlice t l c=>match P.underlying t with
   |some (.slice e)=>match P.info? e,zcells P e,cOpd l,cOpd c with
    |some i,some z,some l,some c=>cond (Nat.beq z.length i.size) (some (.mksl e i.size i.bytes z l c)) none
    |_,_,_,_=>none
   |_=>none
 | .makeMap t none=>some .mkmap
 |_=>none
theorem rep_sound{ρ:Rho}{z:List AV}{Z:Array Value}(h:VRs ρ z Z.toList)(n:Nat)(hz:n=0∨0<z.length):VRs ρ (rep z n) ((Array.range n).map (Z[·%Z.size]!)).toList:=by
 have hl:Z.size=z.length:=by simpa using h.length
 refine VRs.of_get (by simp[rep]) fun i v V hv hV=>?_
 unfold rep at hv
 simp only[List.getElem?_map,Option.map_eq_some_iff]at hv
 obtain⟨j,hj,rfl⟩:=hv
 have hj':i<n∧j=i:=by
  have:=List.getElem?_eq_some_iff.1 hj
  obtain⟨h1,h2⟩:=this
  simp at h1 h2
  exact⟨h1,h2.symm⟩
 obtain⟨hin,rfl⟩:=hj'
 have hpos:0<z.length:=by rcases hz with hz|hz<;>omega
 have hm:j %z.length<z.length:=Nat.mod_lt _ hpos
 obtain⟨U,k1,k2⟩:=h.get (i:=j %z.length) (v:=z[j %z.length]) (by simp[hm])
 simp[hin]at hV
 subst hV
 rw[hl]
 have e1:Z[j %z.length]! =U:=by
  have:Z[j %z.length]?=some U:=by simpa using k1
  simp[getElem!_def,this]
 rw[e1]
 simpa [hm]using k2
structure Makes(P:Program)(ρ:Rho)(s:Sem Next)(ao:AO)(f:Nat->AV):Prop where
 live:ao.live=true
 run:∃obj room,(∀w:World,∃V,s.run P w=.ok (.value V) (w.alloc obj)∧∀(ρ':Rho) (a:Nat),ρ' a=some ⟨w.heap.size,0,room⟩->VR ρ' (f a) V)∧
  ∀(ρ':Rho) (w:World) (b:Nat),Le ρ ρ'->w.heap[b]?=some obj->OIn ρ' w ⟨b,0,room⟩ ao
theorem row_in{ρ ρ':Rho}(hle:Le ρ ρ'){vs:List AV}{Vs:List Value}(hv:VRs ρ vs Vs)(h1:∀V∈Vs,one V=true){n:Nat}(hn:n=vs.length)(e:TypeId){w:World}{b:Nat}(hb:w.heap[b]?=some (.cells Vs.toArray e)):
 OIn ρ' w ⟨b,0,n⟩ (.row (putList 0 vs .e) n e):=by
 subst hn
 refine⟨Nat.le_refl _,Vs.toArray,hb,by simp[hv.length],fun i v hg=>?_⟩
 rw[putList_get]at hg
 have hi:i<vs.length:=by
  by_cases hh:0<=i∧i<0+vs.length
  ·omega
  ·rw[if_neg hh,T.get_e]at hg;simp at hg
 rw[if_pos (by omega)]at hg
 have hg2:vs[i]?=some v:=by simpa using hg
 obtain⟨V,k1,k2⟩:=hv.get hg2
 exact⟨hi,V,VR.mono hle _ _ k2,h1 V (List.mem_of_getElem? k1),by simpa using k1⟩
theorem layAll_one{tm:T AV}:∀{ps:List (Nat×Nat×Opd)} {zs r:List AV},layAll tm ps zs=some r->zs.all oneA=true->r.all oneA=true∧r.length=zs.length
 | [],zs,r,h,hz=>by simp[layAll]at h;subst h;exact⟨hz,rfl⟩
 |(off,n,x)::ps,zs,r,h,hz=>by
  unfold layAll at h
  split at h
  ·rename_i v hv
   split at h
   ·rename_i l hl
    cases hb:(Nat.beq l.length n&&Nat.ble (off+l.length) zs.length)
    ·rw[hb]at h;simp at h
    ·rw[hb,cond_true]at h
     have hla:l.all oneA=true:=by
      cases v<;>simp only[cellsA]at hl
      case agg m=>
        cases hm:m.all oneA
        ·rw[hm]at hl;simp at hl
        ·rw[hm]at hl;simp at hl;subst hl;exact hm
      all_goals first
        |(simp at hl;done)
        |(simp only[Option.some.injEq]at hl;subst hl;rfl)
     have key:∀(l:List AV) (k:Nat) (zs:List AV),l.all oneA=true->zs.all oneA=true->(layAt k l zs).all oneA=true∧(layAt k l zs).length=zs.length:=by
      intro l
      induction l with
      |nil=>intro k zs _ hz;exact⟨hz,rfl⟩
      |cons c l ih=>
       intro k zs hc hz
       simp only[List.all_cons,Bool.and_eq_true]at hc
       have:=ih (k+1) (zs.set k c) hc.2 (by
           rw[List.all_eq_true]at hz⊢
           intro x hx
           rcases List.mem_or_eq_of_mem_set hx with hx|rfl
           ·exact hz x hx
           ·exact hc.1)
       exact⟨this.1,by simpa [layAt]using this.2⟩
     obtain⟨k1,k2⟩:=key l off zs hla hz
     obtain⟨j1,j2⟩:=layAll_one h k1
     exact⟨j1,j2.trans k2⟩
   ·simp at h
  ·simp at h
theorem cvs_oneA:∀{L:List Value} {l:List AV},cvs L=some l->l.all oneA=true
 | [],l,h=>by simp[cvs]at h;subst h;rfl
 |V::L,l,h=>by
  unfold cvs at h
  split at h
  ·rename_i v hv
   split at h
   ·rename_i m hm
    simp at h;subst h
    simp only[List.all_cons,cvs_oneA hm,Bool.and_true]
    unfold cv1 at hv
    split at hv<;>first
     |(simp at hv;subst hv;rfl)
     |simp at hv
   ·simp at h
  ·simp at h
theorem zcells_oneA{P:Program}{t:TypeId}{l:List AV}(h:zcells P t=some l):l.all oneA=true:=by
 unfold zcells at h
 split at h
 ·split at h
  ·exact cvs_oneA h
  ·simp at h
 ·simp at h
theorem rep_one{z:List AV}(h:z.all oneA=true)(n:Nat):(rep z n).all oneA=true:=by
 rw[List.all_eq_true]at h⊢
 intro x hx
 simp only[rep,List.mem_map]at hx
 obtain⟨i,_,rfl⟩:=hx
 cases hg:z[i %z.length]? with
 |none=>rfl
 |some u=>exact h u (List.mem_of_getElem? hg)
theorem rep_length(z:List AV)(n:Nat):(rep z n).length=n:=by simp[rep]
theorem evN_sound{P:Program}{o:Oper}{c:NOp}{tm:T AV}{ao:AO}{f:Nat->AV}{ρ:Rho}{a:Act}(hc:cN P o=some c)(h:evN tm c=some (ao,f))(ht:TR ρ tm a.tmps):Makes P ρ (execOp a.eval o) ao f:=by
 obtain⟨dst,op,type,pos,after,guard⟩:=o
 unfold cN at hc
 simp only[]at hc
 split at hc
 ·rename_i e
  simp only[Option.map_eq_some_iff]at hc
  obtain⟨z,hz,rfl⟩:=hc
  simp only[evN,Option.some.injEq,Prod.mk.injEq]at h
  obtain⟨rfl,rfl⟩:=h
  obtain⟨Z,k1,k2,k3⟩:=run_zeroValue hz ρ default
  have hrun:∀w,(zeroValue e).run P w=.ok Z w:=fun w=>by
   obtain⟨Z',j1,_⟩:=run_zeroValue hz ρ w
   unfold zcells at hz
   split at hz
   ·rename_i i hi
    split at hz
    ·rename_i z' hz'
     simp[zeroValue,run_typeInfo hi,hz']at k1⊢
     exact k1
    ·simp at hz
   ·simp at hz
  refine⟨rfl,.cells Z.cells e,z.length,fun w=>⟨.pointer (some ⟨w.heap.size,0,none⟩),?_,fun ρ' b hb=>⟨_,hb,rfl⟩⟩,fun ρ' w b hle hb=>?_⟩
  ·simp[execOp,Instr.alloc,hrun,newVar,newRow]
  ·exact row_in hle k2 k3 rfl e (by simpa using hb)
 ·rename_i e x
  simp only[Option.map_eq_some_iff]at hc
  obtain⟨y,hy,rfl⟩:=hc
  simp only[evN]at h
  split at h
  ·rename_i v hv
   split at h
   ·rename_i l hl
    simp only[Option.some.injEq,Prod.mk.injEq]at h
    obtain⟨rfl,rfl⟩:=h
    obtain⟨k1,k2⟩:=cellsA_sound (evo_sound ht hy hv) hl
    refine⟨rfl,.cells (a.eval x).cells e,l.length,fun w=>⟨.pointer (some ⟨w.heap.size,0,none⟩),?_,fun ρ' b hb=>⟨_,hb,rfl⟩⟩,fun ρ' w b hle hb=>?_⟩
    ·simp[execOp,Instr.box,newVar,newRow]
    ·exact row_in hle k1 k2 rfl e (by simpa using hb)
   ·simp at h
  ·simp at h
 ·rename_i t len ps
  split at hc
  ·rename_i e hu
   split at hc
   ·rename_i es z hs hz
    cases hb:(Nat.ble (len*es) 16777216&&Nat.beq z.length es)
    ·rw[hb]at hc;simp at hc
    ·rw[hb,cond_true]at hc
     simp only[Bool.and_eq_true]at hb
     have hle:=Nat.le_of_ble_eq_true hb.1
     have hzl:=Nat.eq_of_beq_eq_true hb.2
     split at hc
     ·rename_i l hl
      simp at hc;subst hc
      simp only[evN]at h
      split at h
      ·rename_i r hr
       simp only[Option.some.injEq,Prod.mk.injEq]at h
       obtain⟨rfl,rfl⟩:=h
       obtain⟨Z,k1,k2,k3⟩:=run_zeroValue hz ρ default
       have hrun:∀w,(zeroValue e).run P w=.ok Z w:=fun w=>by
        unfold zcells at hz
        split at hz
        ·rename_i i hi
         split at hz
         ·rename_i z' hz'
          simp[zeroValue,run_typeInfo hi,hz']at k1⊢
          exact k1
         ·simp at hz
        ·simp at hz
       have hzero:len*es=0∨0<z.length:=by
        rcases Nat.eq_zero_or_pos z.length with h0|h0
        ·left;rw[←hzl,h0];rfl
        ·exact .inr h0
       have hrep:=rep_sound k2 (len*es) hzero
       obtain⟨R,e1,e2⟩:=fill_sound ht hl hr hrep
       obtain⟨ho,hlen⟩:=layAll_one hr (rep_one (zcells_oneA hz) _)
       rw[rep_length]at hlen
       refine⟨rfl,.cells R e,r.length,fun w=>⟨.slice (some ⟨w.heap.size,0,none⟩) len len,?_,fun ρ' b hb=>⟨_,hb,Nat.le_refl _,rfl⟩⟩,fun ρ' w b hle hb=>?_⟩
       ·simp only[execOp,Instr.buildSlice,Sem.run_bind,Go.Proofs.YtghmnaojmpjglaaGreatDoor.Eo.run_underlying hu,Result.andThen_ok,run_sizeOf hs]
        rw[if_neg (by omega)]
        by_cases h0:len*es=0
        ·have r0:∀f:Nat->Value,(Array.range 0).map f= #[]:=fun f=>by simp
         simp only[h0,r0]at e1
         simp[h0,r0,newRow,e1]
        ·simp[h0,hrun,newRow,e1]
       ·exact row_in hle e2 (all_one e2 ho) rfl e (by simpa using hb)
      ·simp at h
     ·simp at hc
   ·simp at hc
  ·simp at hc
 ·rename_i t l c
  split at hc
  ·rename_i e hu
   split at hc
   ·rename_i i z l' c' hi hz hl hcc
    cases hb:Nat.beq z.length i.size
    ·rw[hb]at hc;simp at hc
    ·rw[hb,cond_true]at hc
     have hzl:=Nat.eq_of_beq_eq_true hb
     simp at hc;subst hc
     simp only[evN]at h
     split at h
     ·rename_i lv cv hlv hcv
      split at h
      ·rename_i m n hm hn
       cases hk:(Nat.ble m n&&Nat.ble (i.bytes*n) 281474976710656&&Nat.ble n 281474976710656)
       ·rw[hk]at h;simp at h
       ·rw[hk,cond_true]at h
        simp only[Bool.and_eq_true]at hk
        have k1:=Nat.le_of_ble_eq_true hk.1.1
        have k2:=Nat.le_of_ble_eq_true hk.1.2
        have k3:=Nat.le_of_ble_eq_true hk.2
        simp only[Option.some.injEq,Prod.mk.injEq]at h
        obtain⟨rfl,rfl⟩:=h
        have hL:∃k,a.eval l=.int k (m:Int):=by
           have:=evo_sound ht hl hlv
           unfold evLen at hm
           split at hm
           ·simp at hm;subst hm;simp only[VR]at this;exact⟨_,this⟩
           ·simp at hm
        have hC:∃k,a.eval c=.int k (n:Int):=by
           have:=evo_sound ht hcc hcv
           unfold evLen at hn
           split at hn
           ·simp at hn;subst hn;simp only[VR]at this;exact⟨_,this⟩
           ·simp at hn
        obtain⟨kl,hL⟩:=hL
        obtain⟨kc,hC⟩:=hC
        have hs:sz P e=some i.size:=by simp[sz,hi]
        obtain⟨Z,z1,z2,z3⟩:=run_zeroValue hz ρ default
        have hrun:∀w,(zeroValue e).run P w=.ok Z w:=fun w=>by
           unfold zcells at hz
           rw[hi]at hz
           simp only[]at hz
           split at hz
           ·rename_i z' hz'
            simp[zeroValue,run_typeInfo hi,hz']at z1⊢
            exact z1
           ·simp at hz
        have hzero:n*i.size=0∨0<z.length:=by
           rcases Nat.eq_zero_or_pos z.length with h0|h0
           ·left;rw[←hzl,h0];rfl
           ·exact .inr h0
        have hrep:=rep_sound z2 (n*i.size) hzero
        have wl:IntKind.i64.wrap (m:Int)=m:=IntWalk.i64_in _ (by omega)
        have wc:IntKind.i64.wrap (n:Int)=n:=IntWalk.i64_in _ (by omega)
        have hbytes:¬((2:Int)^48<(i.bytes:Int)*(n:Int)):=by
           have this:((i.bytes*n:Nat):Int)<=((281474976710656:Nat):Int):=Int.ofNat_le.2 k2
           rw[Int.natCast_mul]at this
           have e48:(2:Int)^48=((281474976710656:Nat):Int):=by decide+kernel
           rw[e48]
           exact Int.not_lt.2 this
        refine⟨rfl,.cells ((Array.range (n*i.size)).map (Z.cells[·%Z.cells.size]!)) e,n*i.size,fun w=>⟨.slice (some ⟨w.heap.size,0,none⟩) m n,?_,fun ρ' b hb=>⟨_,hb,k1,rfl⟩⟩,fun ρ' w b hle hb=>?_⟩
        ·simp only[execOp,Instr.makeSlice,Sem.run_bind,Go.Proofs.YtghmnaojmpjglaaGreatDoor.Eo.run_underlying hu,Result.andThen_ok,hL,hC,asInt,asIntOf,Sem.run_pure,run_typeInfo hi,wl,wc]
         have hcond:((decide ((n:Int)<0)||decide ((i.bytes:Int)*(n:Int)>2^48))||decide ((m:Int)<0)||decide ((m:Int)>(n:Int)))=false:=by
           simp only[Bool.or_eq_false_iff,decide_eq_false_iff_not]
           refine⟨⟨⟨by omega,hbytes⟩,by omega⟩,by omega⟩
         rw[if_neg (by rw[hcond];exact Bool.false_ne_true)]
         simp only[Sem.run_bind,Sem.run_pure,run_askRoom,Result.andThen_ok,run_sizeOf hs,Int.toNat_natCast]
         have r0:∀f:Nat->Value,(Array.range 0).map f= #[]:=fun f=>by simp
         by_cases h0:n*i.size=0
         ·simp only[h0,if_true,Sem.run_pure,Result.andThen_ok,r0];simp[newRow]
         ·simp[h0,newRow,hrun]
        ·refine row_in hle hrep (all_one hrep (rep_one (zcells_oneA hz) _)) (by rw[rep_length]) e (by rw[Array.toArray_toList];exact hb)
      ·simp at h
     ·simp at h
   ·simp at hc
  ·simp at hc
 ·rename_i t
  simp at hc;subst hc
  simp only[evN,Option.some.injEq,Prod.mk.injEq]at h
  obtain⟨rfl,rfl⟩:=h
  refine⟨rfl,.map #[] 0,0,fun w=>⟨.map (some w.heap.size),?_,fun ρ' b hb=>⟨_,hb,rfl⟩⟩,fun ρ' w b hle hb=>⟨[],rfl,hb⟩⟩
  simp[execOp,Instr.makeMap]
 ·simp at hc
def EOut(P:Program)(s:Sem Next)(ρ:Rho)(h:H)(w:World)(v:AV)(h':H):Prop:=
 ∃ρ' w' V,(s.run P w=.ok (.value V) w'∨s.run P w=.ok .skip w'∧V=undef)∧VR ρ' v V∧Way ρ h w ρ' h' w'
theorem next_le(need old:Nat)(h:old<need):Builtin.nextslicecap need old<=2*need+192:=by
 unfold Builtin.nextslicecap
 split
 ·omega
 ·split
  ·omega
  ·have key:∀r c,c<=2*need+192->Builtin.growBy need r c<=2*need+192:=by
        intro r
        induction r with
        |zero=>intro c hc;simpa [Builtin.growBy]using hc
        |succ r ih=>
         intro c hc
         unfold Builtin.growBy
         split
         ·exact hc
         ·exact ih _ (by omega)
   exact key 4 old (by omega)
theorem next_nul(n:Nat)(h:0<n):Builtin.nextslicecap (0+n) 0<=n:=by
 unfold Builtin.nextslicecap
 rw[if_pos (by omega)]
 omega
theorem zeroCells_size(z:Array Value)(n:Nat):(Builtin.zeroCells z n).size=n*z.size:=by simp[Builtin.zeroCells]
theorem run_app_in{P:Program}{ts tx e:TypeId}{ats:Array TypeId}{ex:TypeId}{es:Nat}(h0:ats[0]?=some ts)(h1:ats[1]?=some tx)(hu:P.underlying ts=some (.slice e))(hx:P.underlying tx=some (.slice ex))(hs:sz P e=some es)
 {p:Option Addr} {len cap n c2:Nat} {q:Option Addr} {SRC:List Value} {w w':World} (hfit:len+n<=cap) (hsrc:(Builtin.firstCells es n (.slice q n c2)).run P w=.ok SRC.toArray w)
 (hst:(match p with|some a=>storeCells (a.add (len*es)) SRC|none=>pure ():Sem Unit).run P w=.ok () w') (type:TypeId):
 (Builtin.append_ ats type #[.slice p len cap,.slice q n c2]).run P w=.ok (.slice p (len+n) cap) w':=by
 unfold Builtin.append_
 simp only[h0,h1,List.getElem?_toArray,List.getElem?_cons_zero,List.getElem?_cons_succ,Sem.run_bind,Go.Proofs.YtghmnaojmpjglaaGreatDoor.Eo.run_underlying hu,Go.Proofs.YtghmnaojmpjglaaGreatDoor.Eo.run_underlying hx,Result.andThen_ok,run_sizeOf hs,Sem.run_pure,Builtin.lenOf,Bool.false_eq_true,if_false,if_pos hfit,Bool.not_false,if_true,hsrc]
 cases p with
 |none=>simp at hst⊢;exact hst
 |some a=>simp only[]at hst;simp[hst]
theorem run_app_new{P:Program}{ts tx e ex:TypeId}{ats:Array TypeId}{es:Nat}{i:TypeInfo}{Z:Value}(h0:ats[0]?=some ts)(h1:ats[1]?=some tx)(hu:P.underlying ts=some (.slice e))(hx:P.underlying tx=some (.slice ex))(hi:P.info? e=some i)(hs:i.size=es)
 (hz:∀w,(zeroValue e).run P w=.ok Z w) {p q:Option Addr} {len cap n c2:Nat} {OLD SRC:List Value} {w:World} (hfit:cap<len+n) {lim:Nat} (hlim:Builtin.nextslicecap (len+n) cap<=lim) (hb:lim*i.bytes<=281474976710656) (hn:len+n<=281474976710656)
 (hold:∀w':World,w'.heap=w.heap->(Builtin.firstCells es len (.slice p len cap)).run P w'=.ok OLD.toArray w') (hsrc:∀w':World,w'.heap=w.heap->(Builtin.firstCells es n (.slice q n c2)).run P w'=.ok SRC.toArray w') (type:TypeId):
 ∃m w',len+n<=m∧w'.heap=w.heap.push (.cells (OLD.toArray++SRC.toArray++Builtin.zeroCells Z.cells (m-(len+n))) e)∧Env w w'∧
  (Builtin.append_ ats type #[.slice p len cap,.slice q n c2]).run P w=.ok (.slice (some ⟨w.heap.size,0,none⟩) (len+n) m) w':=by
 subst hs
 refine⟨(Question.appendCap (len+n) cap e).cut (w.tape w.drawn (.appendCap (len+n) cap e)),{w with drawn:=w.drawn+1,heap:=w.heap.push (.cells (OLD.toArray++SRC.toArray++Builtin.zeroCells Z.cells ((Question.appendCap (len+n) cap e).cut (w.tape w.drawn (.appendCap (len+n) cap e)) -(len+n))) e)},?_,rfl,⟨rfl,rfl,rfl⟩,?_⟩
 ·simp only[Question.cut];omega
 ·have hle:Builtin.nextslicecap (len+n) cap*i.bytes<=lim*i.bytes:=Nat.mul_le_mul_right _ hlim
  have e48:(2:Nat)^48=281474976710656:=by decide+kernel
  have c1:¬(Builtin.nextslicecap (len+n) cap*i.bytes>2^48):=by rw[e48];omega
  have hmax:IntKind.i64.max=9223372036854775807:=by decide+kernel
  have c2:¬(((len+n:Nat):Int)>IntKind.i64.max):=by rw[hmax];omega
  unfold Builtin.append_
  simp only[h0,h1,List.getElem?_toArray,List.getElem?_cons_zero,List.getElem?_cons_succ,Sem.run_bind,Go.Proofs.YtghmnaojmpjglaaGreatDoor.Eo.run_underlying hu,Go.Proofs.YtghmnaojmpjglaaGreatDoor.Eo.run_underlying hx,Result.andThen_ok,sizeOf,run_typeInfo hi,Sem.run_pure,Builtin.lenOf,Bool.false_eq_true,if_false,Bool.not_false,if_true]
  rw[if_neg (by omega)]
  simp only[Sem.run_bind,Sem.run_ite,run_typeInfo hi,Result.andThen_ok,c2,false_and,if_false,c1,Sem.run_pure,run_choose,Question.forced,Bool.false_eq_true,run_askRoom]
  rw[hold {w with drawn:=w.drawn+1} rfl]
  simp only[Result.andThen_ok]
  rw[hsrc {w with drawn:=w.drawn+1} rfl]
  simp only[Result.andThen_ok,hz]
  simp[newRow]
  exact⟨rfl,rfl,rfl⟩
theorem run_app_zero{P:Program}{ts tx e:TypeId}{ats:Array TypeId}{k k':IntKind}{es:Nat}{i:TypeInfo}{Z:Value}(h0:ats[0]?=some ts)(h1:ats[1]?=some tx)(hu:P.underlying ts=some (.slice e))(hx:P.underlying tx=some (.int k))(hi:P.info? e=some i)(hs:i.size=es)(hpos:0<es)
 (hz:∀w,(zeroValue e).run P w=.ok Z w) {n:Nat} {w:World} (hfit:0<n) (hb:(2*(0+n)+192)*i.bytes<=281474976710656) (hn:0+n<=281474976710656) (type:TypeId):
 ∃m w',n<=m∧w'.heap=w.heap.push (.cells (Builtin.zeroCells Z.cells n++Builtin.zeroCells Z.cells (m-n)) e)∧Env w w'∧
  (Builtin.append_ ats type #[.slice none 0 0,.int k' n]).run P w=.ok (.slice (some ⟨w.heap.size,0,none⟩) n m) w':=by
 subst hs
 refine⟨(Question.appendCap n 0 e).cut (w.tape w.drawn (.appendCap n 0 e)),{w with drawn:=w.drawn+1,heap:=w.heap.push (.cells (Builtin.zeroCells Z.cells n++Builtin.zeroCells Z.cells ((Question.appendCap n 0 e).cut (w.tape w.drawn (.appendCap n 0 e)) -n)) e)},?_,rfl,⟨rfl,rfl,rfl⟩,?_⟩
 ·simp only[Question.cut];omega
 ·have hnx:=next_le n 0 hfit
  have hle:Builtin.nextslicecap n 0*i.bytes<=(2*n+192)*i.bytes:=Nat.mul_le_mul_right _ hnx
  have e48:(2:Nat)^48=281474976710656:=by decide+kernel
  have e48':(2:Int)^48=281474976710656:=by decide+kernel
  rw[Nat.zero_add]at hb hn
  have c1:¬(Builtin.nextslicecap n 0*i.bytes>2^48):=by rw[e48];omega
  have hmax:IntKind.i64.max=9223372036854775807:=by decide+kernel
  have c2:¬((n:Int)>IntKind.i64.max):=by rw[hmax];omega
  have hw:IntKind.i64.wrap (n:Int)=(n:Int):=by
   have e1:(2:Int)^IntKind.i64.bits=18446744073709551616:=by decide+kernel
   have e2:(2:Int)^(IntKind.i64.bits-1)=9223372036854775808:=by decide+kernel
   have e3:IntKind.i64.signed=true:=rfl
   simp only[IntKind.wrap,e1,e2,e3]
   have e4:(n:Int)%18446744073709551616=n:=Int.emod_eq_of_lt (by omega) (by omega)
   rw[e4,if_neg]
   simp;omega
  have c3:¬((n:Int)<0):=by omega
  have hbb:n*i.bytes<=(2*n+192)*i.bytes:=Nat.mul_le_mul_right _ (by omega)
  have c4:¬((n:Int)*(i.bytes:Int)>2^48):=by
   rw[e48']
   have:((n*i.bytes:Nat):Int)<=281474976710656:=by omega
   have e:((n*i.bytes:Nat):Int)=(n:Int)*(i.bytes:Int):=by simp
   omega
  have c5:¬(n*i.size=0):=by
   have:=Nat.mul_pos hfit hpos
   omega
  unfold Builtin.append_
  simp only[h0,h1,List.getElem?_toArray,List.getElem?_cons_zero,List.getElem?_cons_succ,Sem.run_bind,Go.Proofs.YtghmnaojmpjglaaGreatDoor.Eo.run_underlying hu,Go.Proofs.YtghmnaojmpjglaaGreatDoor.Eo.run_underlying hx,Result.andThen_ok,sizeOf,run_typeInfo hi,Sem.run_pure,if_true,asInt,hw,c3,if_false,Sem.run_ite,c4,Int.toNat_natCast,Nat.zero_add,Bool.not_true,Bool.false_eq_true]
  have ha:(asIntOf (.int k' (n:Int))).run P w=.ok (k',(n:Int)) w:=rfl
  have c6:¬(n<=0):=by omega
  simp only[ha,Result.andThen_ok,hw,c3,if_false,c4,Int.toNat_natCast,c6,c2,false_and,c1,run_choose,Question.forced,Bool.false_eq_true,run_askRoom,c5,hz,Builtin.firstCells,Sem.run_pure]
  simp[newRow]
  exact⟨rfl,rfl,rfl⟩
inductive EOp where
 |st (n:Nat) (a x:Opd)
 |app (e:TypeId) (es bytes:Nat) (s x:Opd)
 |appz (e:TypeId) (es bytes:Nat) (z:List AV) (s x:Opd)
theorem zeroCells_succ(Z:Array Value)(n:Nat):(Builtin.zeroCells Z (n+1)).toList=Z.toList++(Builtin.zeroCells Z n).toList:=by
 apply List.ext_getElem
 ·simp[zeroCells_size,Nat.succ_mul,Nat.add_comm]
 ·intro i h1 h2
  have hs:i<(n+1)*Z.size:=by simpa [zeroCells_size]using h1
  have hpos:0<Z.size:=by
   rcases Nat.eq_zero_or_pos Z.size with h|h
   ·rw[h]at hs;simp at hs
   ·exact h
  by_cases hi:i<Z.size
  ·rw[List.getElem_append_left (by simpa using hi)]
   simp only[Builtin.zeroCells,Array.getElem_toList,Array.getElem_map,Array.getElem_range,Nat.mod_eq_of_lt hi]
   simp[hi]
  ·rw[List.getElem_append_right (by simpa using hi)]
   simp only[Builtin.zeroCells,Array.getElem_toList,Array.getElem_map,Array.getElem_range,Array.length_toList]
   congr 1
   rw[Nat.mod_eq_sub_mod (by omega)]
def srcA(g:Nat->Option AO)(es:Nat):AV->Option (Nat×List AV)
 | .nils=>some (0,[])
 | .sl a o len es' _=>match len with
   |0=>some (0,[])
   |_=>cond (Nat.beq es es') (match g a with
    |some (.row cells _ _)=>match getList cells o (len*es)with
     |some l=>some (len,l)
     |none=>none
    |some (.tab cells)=>match getList cells o (len*es)with
     |some l=>some (len,l)
     |none=>none
    |_=>none) none
 |_=>none
def appNew(y:Nat)(e:TypeId)(es bytes n:Nat)(src:List AV)(len:Nat)(old:List AV)(lim:Nat)(t:T AO):Option (AV×H):=
 cond (Nat.ble (lim*bytes) 281474976710656&&Nat.ble (len+n) 281474976710656)
    (some (.sl y 0 (len+n) es none,⟨y+1,t.set y (.row (putList 0 (old++src) .e) (old++src).length e)⟩)) none
def appA(h:H)(e:TypeId)(es bytes:Nat)(s:AV)(n:Nat)(src:List AV):Option (AV×H):=
 match n with
 |0=>match s with
  | .nils=>some (.nils,h)
  | .sl a o len es' cap=>some (.sl a o len es' cap,h)
  |_=>none
 |_=>match s with
  | .nils=>appNew h.next e es bytes n src 0 [] n h.t
  | .sl a o len es' cap=>cond (Nat.beq es es') (match h.t.get a with
    |some (.row cells blen e')=>cond (Nat.beq e e') (match cap with
     |some c=>cond (Nat.ble (len+n) c)
      (cond (Nat.ble (o+(len+n)*es) blen) (some (.sl a o (len+n) es (some c),⟨h.next,h.t.set a (.row (putList (o+len*es) src cells) blen e')⟩)) none)
      (match getList cells o (len*es)with
       |some old=>appNew h.next e es bytes n src len old (2*(len+n)+192) h.t
       |none=>none)
     |none=>cond (Nat.ble (o+(len+n)*es) blen&&Nat.blt 0 len)
      (some (.sl a o (len+n) es none,⟨h.next,h.t.set a (.row (putList (o+len*es) src cells) blen e')⟩))
      (match getList cells o (len*es)with
       |some old=>appNew h.next e es bytes n src len old (2*(len+n)+192) (h.t.set a .dead)
       |none=>none)) none
    |_=>none) none
  |_=>none
def repl(z:List AV)(n:Nat):List AV:=Nat.rec [] (fun _ ih=>z++ih) n
theorem repl_sound{ρ:Rho}{z:List AV}{Z:Array Value}(hz:VRs ρ z Z.toList):∀n:Nat,VRs ρ (repl z n) (Builtin.zeroCells Z n).toList
 |0=>by
  have:(Builtin.zeroCells Z 0).toList=[]:=by simp[Builtin.zeroCells]
  rw[this];rfl
 |n+1=>by
  rw[zeroCells_succ]
  exact VRs.append hz (repl_sound hz n)
def evE(tm:T AV)(h:H):EOp->Option (AV×H)
 | .st n a x=>match evo tm a,evo tm x with
   |some (.ptr p o),some v=>match h.t.get p,cellsA v with
    |some (.row cells len e),some l=>cond (Nat.beq l.length n&&Nat.ble (o+n) len) (some (.tup [],⟨h.next,h.t.set p (.row (putList o l cells) len e)⟩)) none
    |_,_=>none
   |_,_=>none
 | .app e es bytes s x=>match evo tm s,evo tm x with
   |some s,some x=>match srcA h.t.get es x with
    |some (n,src)=>appA h e es bytes s n src
    |none=>none
   |_,_=>none
 | .appz e es bytes z s x=>match evo tm s,evo tm x with
   |some .nils,some (.int _ m)=>match m with
    | .ofNat n=>match n with
      |0=>none
      |_=>appNew h.next e es bytes n (repl z n) 0 [] (2*(0+n)+192) h.t
    |_=>none
   |_,_=>none
def cE(P:Program)(o:Oper):Option EOp:=match o.op with
 | .store t a x=>match sz P t,cOpd a,cOpd x with
   |some n,some a,some x=>some (.st n a x)
   |_,_,_=>none
 | .call {callee:=.builtin .append,args,argTypes}=>match args.toList,argTypes[0]?,argTypes[1]? with
   | [s,x],some ts,some tx=>match P.underlying ts,P.underlying tx with
     |some (.slice e),some (.slice _)=>match P.info? e,zcells P e,cOpd s,cOpd x with
      |some i,some z,some s,some x=>cond (Nat.beq z.length i.size&&Nat.blt 0 i.size) (some (.app e i.size i.bytes s x)) none
      |_,_,_,_=>none
     |some (.slice e),some (.int _)=>match P.info? e,zcells P e,cOpd s,cOpd x with
      |some i,some z,some s,some x=>cond (Nat.beq z.length i.size&&Nat.blt 0 i.size) (some (.appz e i.size i.bytes z s x)) none
      |_,_,_,_=>none
     |_,_=>none
   |_,_,_=>none
 |_=>none
theorem getList_all{P:Program}{ρ:Rho}{g:Nat->Option AO}{w:World}(hr:HR ρ g w){a:Nat}{l:Loc}(hl:ρ a=some l){cells:T AV}{blen:Nat}{e:TypeId}(hg:g a=some (.row cells blen e)){o m:Nat}{vs:List AV}
 (hv:getList cells o m=some vs):∃Vs,VRs ρ vs Vs∧Vs.length=m∧(∀V∈Vs,one V=true)∧∀w':World,w'.heap=w.heap->(loadCells ⟨l.blk,l.off+o,none⟩ m).run P w'=.ok Vs.toArray w':=by
 obtain⟨Vs,k1,k2,k3,k4⟩:=cells_of hr hg hl hv
 refine⟨Vs,k1,k2,k3,fun w' hw=>load_list k2 rfl fun i V hV=>?_⟩
 have:=k4 i V hV
 simpa [World.cell?,hw]using this
theorem getList_all_tab{P:Program}{ρ:Rho}{g:Nat->Option AO}{w:World}(hr:HR ρ g w){a:Nat}{l:Loc}(hl:ρ a=some l){cells:T AV}(hg:g a=some (.tab cells)){o m:Nat}{vs:List AV}
 (hv:getList cells o m=some vs):∃Vs,VRs ρ vs Vs∧Vs.length=m∧(∀V∈Vs,one V=true)∧∀w':World,w'.heap=w.heap->(loadCells ⟨l.blk,l.off+o,none⟩ m).run P w'=.ok Vs.toArray w':=by
 obtain⟨Vs,k1,k2,k3,k4⟩:=cells_of_tab hr hg hl hv
 refine⟨Vs,k1,k2,k3,fun w' hw=>load_list k2 rfl fun i V hV=>?_⟩
 have:=k4 i V hV
 simpa [World.cell?,hw]using this
theorem srcA_sound{P:Program}{ρ:Rho}{g:Nat->Option AO}{w:World}(hr:HR ρ g w){es n:Nat}{x:AV}{src:List AV}(h:srcA g es x=some (n,src)){X:Value}(hx:VR ρ x X):
 ∃q c SRC,X=.slice q n c∧VRs ρ src SRC∧src.length=n*es∧(∀V∈SRC,one V=true)∧∀w':World,w'.heap=w.heap->(Builtin.firstCells es n X).run P w'=.ok SRC.toArray w':=by
 unfold srcA at h
 split at h
 ·simp at h;obtain⟨rfl,rfl⟩:=h
  simp only[VR]at hx;subst hx
  exact⟨none,0,[],rfl,rfl,by simp,by simp,fun w' _=>by simp[Builtin.firstCells]⟩
 ·rename_i a o len es' cap
  have key:(∃l c,ρ a=some l∧X=.slice (some ⟨l.blk,l.off+o,none⟩) len c)∨(len=0∧∃p,X=.slice (some p) 0 0):=by
   cases cap with
   |some c=>simp only[VR]at hx;obtain⟨l,h1,_,h2⟩:=hx;exact .inl ⟨l,_,h1,h2⟩
   |none=>
    simp only[VR]at hx
    obtain⟨l,h1,_,_,h2|⟨h0,p,h2⟩⟩:=hx
    ·exact .inl ⟨l,_,h1,h2⟩
    ·exact .inr ⟨h0,p,h2⟩
  split at h
  ·simp at h;obtain⟨rfl,rfl⟩:=h
   have:∃p c,X=.slice (some p) 0 c:=by
        rcases key with⟨l,c,_,hX⟩|⟨_,p,hX⟩
        ·exact⟨_,_,hX⟩
        ·exact⟨_,_,hX⟩
   obtain⟨p,c,rfl⟩:=this
   exact⟨_,_,[],rfl,rfl,by simp,by simp,fun w' _=>by simp[Builtin.firstCells,loadCells,loadCellsFrom]⟩
  ·rename_i hne
   cases he:Nat.beq es es'
   ·rw[he]at h;simp at h
   ·rw[he,cond_true]at h
    have he':=Nat.eq_of_beq_eq_true he
    split at h
    ·rename_i cells blen e hg
     split at h
     ·rename_i l' hgl
      simp at h;obtain⟨rfl,rfl⟩:=h
      rcases key with⟨l,c,hl,hX⟩|⟨h0,_⟩
      ·obtain⟨Vs,k1,k2,k3,k4⟩:=getList_all (P:=P) hr hl hg hgl
       refine⟨_,_,Vs,hX,k1,?_,k3,fun w' hw=>?_⟩
       ·have:=k1.length;omega
       ·rw[hX];simpa [Builtin.firstCells]using k4 w' hw
      ·exact absurd h0 hne
     ·simp at h
    ·rename_i cells hg
     split at h
     ·rename_i l' hgl
      simp at h;obtain⟨rfl,rfl⟩:=h
      rcases key with⟨l,c,hl,hX⟩|⟨h0,_⟩
      ·obtain⟨Vs,k1,k2,k3,k4⟩:=getList_all_tab (P:=P) hr hl hg hgl
       refine⟨_,_,Vs,hX,k1,?_,k3,fun w' hw=>?_⟩
       ·have:=k1.length;omega
       ·rw[hX];simpa [Builtin.firstCells]using k4 w' hw
      ·exact absurd h0 hne
     ·simp at h
    ·simp at h
 ·simp at h
theorem Nx.kill{ρ:Rho}{g g':Nat->Option AO}{w:World}(h:HR ρ g w){a:Nat}(hg':∀b,g' b=if b=a then some .dead else g b):Nx ρ g w ρ g' w:=by
 have key:∀b p,g' b=some p->p.live=true->g b=some p:=by
  intro b p hb hp
  rw[hg']at hb
  by_cases e:b=a
  ·rw[if_pos e]at hb;simp at hb;subst hb;simp[AO.live]at hp
  ·rwa [if_neg e]at hb
 exact⟨⟨fun b p m hb hp hm=>h.obj b p m (key _ _ hb hp) hp hm,fun b c p q m n hb hp hc hq hm hn=>h.inj b c p q m n (key _ _ hb hp) hp (key _ _ hc hq) hq hm hn⟩,Le.refl _,Env.refl _,Nat.le_refl _,fun _ _ _=>rfl,
  fun b p m hb hp hm _=>⟨b,p,m,key _ _ hb (AO.live_of_mut hp),hp,hm,rfl⟩⟩
theorem nx_move{ρ:Rho}{g g':Nat->Option AO}{w w':World}(h:HR ρ g w){a y:Nat}{l m:Loc}{o o':AO}(hg:g a=some o)(hmu:o.mut=true)(hl:ρ a=some l)(hy:ρ y=none)(hm:m.blk=l.blk)
 (hg':∀b,g' b=if b=y then some o' else if b=a then some .dead else g b) (henv:Env w w') (hsz:w'.heap.size=w.heap.size) (hot:∀r,r≠l.blk->w'.heap[r]?=w.heap[r]?)
 (hin:OIn (upd ρ y m) w' m o'):Nx ρ g w (upd ρ y m) g' w':=by
 have hle:Le ρ (upd ρ y m):=upd_le' hy
 have ho:=AO.live_of_mut hmu
 have hblk:l.blk<w.heap.size:=(h.obj a o l hg ho hl).1
 have key:∀b p,b≠y->g' b=some p->p.live=true->b≠a∧g b=some p:=by
  intro b p hby hb hp
  rw[hg',if_neg hby]at hb
  by_cases e:b=a
  ·rw[if_pos e]at hb;simp at hb;subst hb;simp[AO.live]at hp
  ·rw[if_neg e]at hb;exact⟨e,hb⟩
 refine⟨⟨?_,?_⟩,hle,henv,by omega,?_,?_⟩
 ·intro b p n hb hp hn
  by_cases e:b=y
  ·subst e
   rw[upd_same hy]at hn;simp at hn;subst hn
   rw[hg',if_pos rfl]at hb;simp at hb;subst hb
   exact⟨by omega,hin⟩
  ·rw[upd_other e]at hn
   obtain⟨k1,k2⟩:=key b p e hb hp
   obtain⟨h2,h3⟩:=h.obj b p n k2 hp hn
   exact⟨by omega,OIn.mono hle (OIn.congr (hot _ fun hh=>k1 (h.inj b a p o n l k2 hp hg ho hn hl hh)) h3)⟩
 ·intro b c p q n k hb hp hc hq hn hk hnk
  by_cases e:b=y
  ·by_cases e':c=y
   ·rw[e,e']
   ·obtain⟨k1,k2⟩:=key c q e' hc hq
    rw[upd_other e']at hk
    rw[e,upd_same hy]at hn;simp at hn;subst hn
    exact absurd (h.inj c a q o k l k2 hq hg ho hk hl (by omega)) k1
  ·obtain⟨k1,k2⟩:=key b p e hb hp
   rw[upd_other e]at hn
   by_cases e':c=y
   ·rw[e',upd_same hy]at hk;simp at hk;subst hk
    exact absurd (h.inj b a p o n l k2 hp hg ho hn hl (by omega)) k1
   ·obtain⟨j1,j2⟩:=key c q e' hc hq
    rw[upd_other e']at hk
    exact h.inj b c p q n k k2 hp j2 hq hn hk hnk
 ·intro r hr hn
  exact hot r fun e=>hn a o l hg hmu hl e.symm
 ·intro b p n hb hp hn _
  by_cases e:b=y
  ·subst e
   rw[upd_same hy]at hn;simp at hn;subst hn
   exact⟨a,o,l,hg,hmu,hl,hm.symm⟩
  ·obtain⟨k1,k2⟩:=key b p e hb (AO.live_of_mut hp)
   rw[upd_other e]at hn
   exact⟨b,p,n,k2,hp,hn,rfl⟩
theorem row_in'{ρ:Rho}{vs:List AV}{Vs:List Value}(hv:VRs ρ vs Vs)(h1:∀V∈Vs,one V=true){e:TypeId}{w:World}{l:Loc}{c:Array Value}(hc:w.heap[l.blk]?=some (.cells c e (0,0)))(hs:l.off+l.room=c.size)(hlen:vs.length<=l.room)
 (hat:∀i V,Vs[i]?=some V->c[l.off+i]?=some V):OIn ρ w l (.row (putList 0 vs .e) vs.length e):=by
 refine⟨hlen,c,hc,hs,fun i v hg=>?_⟩
 rw[putList_get]at hg
 have hi:i<vs.length:=by
  by_cases hh:0<=i∧i<0+vs.length
  ·omega
  ·rw[if_neg hh,T.get_e]at hg;simp at hg
 rw[if_pos (by omega)]at hg
 have hg2:vs[i]?=some v:=by simpa using hg
 obtain⟨V,k1,k2⟩:=hv.get hg2
 exact⟨hi,V,k2,h1 V (List.mem_of_getElem? k1),hat i V k1⟩
theorem zrun{P:Program}{e:TypeId}{z:List AV}(hz:zcells P e=some z)(ρ:Rho):∃Z,(∀w,(zeroValue e).run P w=.ok Z w)∧VRs ρ z Z.cells.toList∧∀V∈Z.cells.toList,one V=true:=by
 obtain⟨Z,k1,k2,k3⟩:=run_zeroValue hz ρ default
 refine⟨Z,fun w=>?_,k2,k3⟩
 unfold zcells at hz
 split at hz
 ·rename_i i hi
  split at hz
  ·rename_i z' hz'
   simp[zeroValue,run_typeInfo hi,hz']at k1⊢
   exact k1
  ·simp at hz
 ·simp at hz
theorem appNew_sound{P:Program}{ts tx e ex:TypeId}{ats:Array TypeId}{i:TypeInfo}{z:List AV}(h0:ats[0]?=some ts)(h1:ats[1]?=some tx)(hu:P.underlying ts=some (.slice e))(hx:P.underlying tx=some (.slice ex))(hi:P.info? e=some i)
 (hz:zcells P e=some z) (hzl:z.length=i.size) (hpos:0<i.size) {ρ:Rho} {t:T AO} {y:Nat} {w:World} (hr:HR ρ t.get w) (hf:Fresh ρ y)
 {p q:Option Addr} {len cap n c2:Nat} {old src:List AV} {OLD SRC:List Value} (hfit:cap<len+n) (hVo:VRs ρ old OLD) (hVs:VRs ρ src SRC) (ho1:∀V∈OLD,one V=true) (hs1:∀V∈SRC,one V=true) (hol:old.length=len*i.size) (hsl:src.length=n*i.size)
 (hold:∀w':World,w'.heap=w.heap->(Builtin.firstCells i.size len (.slice p len cap)).run P w'=.ok OLD.toArray w') (hsrc:∀w':World,w'.heap=w.heap->(Builtin.firstCells i.size n (.slice q n c2)).run P w'=.ok SRC.toArray w')
 {v:AV} {h':H} {lim:Nat} (hlim:Builtin.nextslicecap (len+n) cap<=lim) (hA:appNew y e i.size i.bytes n src len old lim t=some (v,h')) (type:TypeId):
 ∃ρ' w' V,(Builtin.append_ ats type #[.slice p len cap,.slice q n c2]).run P w=.ok V w'∧VR ρ' v V∧Way ρ ⟨y,t⟩ w ρ' h' w':=by
 unfold appNew at hA
 cases hb:(Nat.ble (lim*i.bytes) 281474976710656&&Nat.ble (len+n) 281474976710656)
 ·rw[hb]at hA;simp at hA
 ·rw[hb,cond_true]at hA
  simp only[Bool.and_eq_true]at hb
  have b1:=Nat.le_of_ble_eq_true hb.1
  have b2:=Nat.le_of_ble_eq_true hb.2
  simp only[Option.some.injEq,Prod.mk.injEq]at hA
  obtain⟨rfl,rfl⟩:=hA
  obtain⟨Z,z1,z2,z3⟩:=zrun hz ρ
  have hZ:Z.cells.size=i.size:=by have:=z2.length;simp at this;omega
  obtain⟨m,w',k1,k2,k3,k4⟩:=run_app_new h0 h1 hu hx hi rfl z1 hfit hlim b1 b2 hold hsrc type
  have hL1:=hVo.length
  have hL2:=hVs.length
  have hsz:(OLD.toArray++SRC.toArray++Builtin.zeroCells Z.cells (m-(len+n))).size=m*i.size:=by
   simp only[Array.size_append,zeroCells_size,hZ,List.size_toArray,hL1,hL2,hol,hsl,←Nat.add_mul]
   congr 1;omega
  have hV:=VRs.append hVo hVs
  have ho:∀V∈OLD++SRC,one V=true:=fun V hV=>by
   rcases List.mem_append.1 hV with h|h
   ·exact ho1 V h
   ·exact hs1 V h
  have hlen:(old++src).length=(len+n)*i.size:=by simp[hol,hsl,Nat.add_mul]
  have hnew:=nx_new (g':=(t.set y (.row (putList 0 (old++src) .e) (old++src).length e)).get) hr (a:=y) (l:=⟨w.heap.size,0,m*i.size⟩) (obj:=.cells (OLD.toArray++SRC.toArray++Builtin.zeroCells Z.cells (m-(len+n))) e) (hf y (Nat.le_refl _)) rfl (fun b=>T.get_set _ _ _ _)
   (row_in' (VRs.mono (upd_le hf (Nat.le_refl _)) _ _ hV) ho (c:=OLD.toArray++SRC.toArray++Builtin.zeroCells Z.cells (m-(len+n))) (by show(w.heap.push _)[w.heap.size]?=_;simp) (by simp only[Nat.zero_add];exact hsz.symm) (by
     rw[hlen];exact Nat.mul_le_mul_right _ k1) (fun j V hj=>by
      have hj':=List.getElem?_eq_some_iff.1 hj
      obtain⟨hlt,_⟩:=hj'
      rw[Array.getElem?_append_left (by simp at hlt⊢;omega)]
      simp only[Nat.zero_add]
      rw[List.append_toArray]
      simpa using hj))
  have hww:Nx (upd ρ y ⟨w.heap.size,0,m*i.size⟩) (t.set y (.row (putList 0 (old++src) .e) (old++src).length e)).get (w.alloc (.cells (OLD.toArray++SRC.toArray++Builtin.zeroCells Z.cells (m-(len+n))) e)) _ _ w':=
   Nx.drew hnew.rel k2 ⟨k3.os,k3.tape,k3.output⟩
  refine⟨_,w',_,k4,?_,way_new (h:=⟨y,t⟩) hf (hnew.trans hww)⟩
  simp only[VR]
  refine⟨_,upd_same (hf _ (Nat.le_refl _)),hpos,?_,.inl ?_⟩
  ·simp only[Nat.zero_add];exact Nat.mul_le_mul_right _ k1
  ·simp only[Nat.sub_zero,Nat.mul_div_cancel _ hpos]
theorem appA_sound{P:Program}{ts tx e ex:TypeId}{ats:Array TypeId}{i:TypeInfo}{z:List AV}(h0:ats[0]?=some ts)(h1:ats[1]?=some tx)(hu:P.underlying ts=some (.slice e))(hx:P.underlying tx=some (.slice ex))(hi:P.info? e=some i)
 (hz:zcells P e=some z) (hzl:z.length=i.size) (hpos:0<i.size) {ρ:Rho} {h:H} {w:World} (hr:HR ρ h.t.get w) (hf:Fresh ρ h.next)
 {s:AV} {S:Value} (hs:VR ρ s S) {q:Option Addr} {n c2:Nat} {src:List AV} {SRC:List Value} (hVs:VRs ρ src SRC) (hs1:∀V∈SRC,one V=true) (hsl:src.length=n*i.size)
 (hsrc:∀w':World,w'.heap=w.heap->(Builtin.firstCells i.size n (.slice q n c2)).run P w'=.ok SRC.toArray w')
 {v:AV} {h':H} (hA:appA h e i.size i.bytes s n src=some (v,h')) (type:TypeId):
 ∃ρ' w' V,(Builtin.append_ ats type #[S,.slice q n c2]).run P w=.ok V w'∧VR ρ' v V∧Way ρ h w ρ' h' w':=by
 have hsz:sz P e=some i.size:=by simp[sz,hi]
 have hroom:∀{room o len:Nat},o+len*i.size<=room->len<=(room-o)/i.size:=fun hh=>(Nat.le_div_iff_mul_le hpos).2 (by omega)
 unfold appA at hA
 split at hA
 ·
  have hS0:SRC=[]:=by
   have:=hVs.length
   simp only[Nat.zero_mul]at hsl
   rw[hsl]at this
   exact List.length_eq_zero_iff.1 this
  subst hS0
  have key:∀(p:Option Addr) (len cap:Nat),len<=cap->(Builtin.append_ ats type #[.slice p len cap,.slice q 0 c2]).run P w=.ok (.slice p len cap) w:=fun p len cap hc=>by
   have:=run_app_in (P:=P) (p:=p) h0 h1 hu hx hsz (n:=0) (len:=len) (cap:=cap) (q:=q) (c2:=c2) (SRC:=[]) (w:=w) (w':=w) (by omega) (hsrc w rfl) (by cases p<;>simp[storeCells]) type
   simpa using this
  split at hA
  ·simp only[Option.some.injEq,Prod.mk.injEq]at hA
   obtain⟨rfl,rfl⟩:=hA
   simp only[VR]at hs;subst hs
   exact⟨ρ,w,_,key _ _ _ (Nat.le_refl _),rfl,Way.refl hr hf⟩
  ·rename_i a o len es' cap
   simp only[Option.some.injEq,Prod.mk.injEq]at hA
   obtain⟨rfl,rfl⟩:=hA
   have hs':=hs
   cases cap with
   |some c=>
    simp only[VR]at hs;obtain⟨l,e1,e2,rfl⟩:=hs
    exact⟨ρ,w,_,key _ _ _ e2,hs',Way.refl hr hf⟩
   |none=>
    simp only[VR]at hs;obtain⟨l,e1,e2,e3,rfl|⟨rfl,x,rfl⟩⟩:=hs
    ·exact⟨ρ,w,_,key _ _ _ ((Nat.le_div_iff_mul_le e2).2 (by omega)),hs',Way.refl hr hf⟩
    ·exact⟨ρ,w,_,key _ _ _ (Nat.le_refl _),hs',Way.refl hr hf⟩
  ·simp at hA
 ·rename_i hn
  have hn0:0<n:=Nat.pos_of_ne_zero hn
  split at hA
  ·
   simp only[VR]at hs;subst hs
   exact appNew_sound h0 h1 hu hx hi hz hzl hpos hr hf (p:=none) (len:=0) (cap:=0) (old:=[]) (OLD:=[]) (by omega) rfl hVs (by simp) hs1 (by simp) hsl (fun w' _=>by simp[Builtin.firstCells]) hsrc (next_nul n hn0) hA type
  ·rename_i a o len es' cap
   cases he:Nat.beq i.size es'
   ·rw[he]at hA;simp at hA
   ·rw[he,cond_true]at hA
    have he':=Nat.eq_of_beq_eq_true he
    subst he'
    split at hA
    ·rename_i cells blen e' hg
     cases hee:Nat.beq e e'
     ·rw[hee]at hA;simp at hA
     ·rw[hee,cond_true]at hA
      have hee':=Nat.eq_of_beq_eq_true hee
      subst hee'
      have inplace:∀{l:Loc} {c:Nat},ρ a=some l->len+n<=c->o+(len+n)*i.size<=blen->
         ∃w',(Builtin.append_ ats type #[.slice (some ⟨l.blk,l.off+o,none⟩) len c,.slice q n c2]).run P w=.ok (.slice (some ⟨l.blk,l.off+o,none⟩) (len+n) c) w'∧Way ρ h w ρ ⟨h.next,h.t.set a (.row (putList (o+len*i.size) src cells) blen e)⟩ w':=by
       intro l c hl hc hb
       obtain⟨w',j1,j2⟩:=nx_write hr hg hl hVs hs1 (o:=o+len*i.size) (by rw[hsl];rw[Nat.add_mul]at hb;omega) P
       refine⟨w',run_app_in h0 h1 hu hx hsz hc (hsrc w rfl) ?_ type,way_set hf hl j2⟩
       simp only[addr_add]
       rw[show l.off+o+len*i.size=l.off+(o+len*i.size) by omega]
       exact j1
      split at hA
      ·rename_i c
       have hs':=hs
       simp only[VR]at hs;obtain⟨l,e1,e2,rfl⟩:=hs
       cases hc:Nat.ble (len+n) c
       ·rw[hc,cond_false]at hA
        have hc':c<len+n:=by
         rcases Nat.lt_or_ge c (len+n)with hlt|hge
         ·exact hlt
         ·rw[Nat.ble_eq_true_of_le hge]at hc;simp at hc
        split at hA
        ·rename_i old hold
         obtain⟨OLD,k1,k2,k3,k4⟩:=getList_all (P:=P) hr e1 hg hold
         exact appNew_sound h0 h1 hu hx hi hz hzl hpos hr hf hc' k1 hVs k3 hs1 (by have:=k1.length;omega) hsl (fun w' hw=>by simpa [Builtin.firstCells]using k4 w' hw) hsrc (next_le _ _ hc') hA type
        ·simp at hA
       ·rw[hc,cond_true]at hA
        have hc':=Nat.le_of_ble_eq_true hc
        cases hb:Nat.ble (o+(len+n)*i.size) blen
        ·rw[hb]at hA;simp at hA
        ·rw[hb,cond_true]at hA
         simp only[Option.some.injEq,Prod.mk.injEq]at hA
         obtain⟨rfl,rfl⟩:=hA
         obtain⟨w',j1,j2⟩:=inplace e1 hc' (Nat.le_of_ble_eq_true hb)
         exact⟨ρ,w',_,j1,by simp only[VR];exact⟨l,e1,hc',rfl⟩,j2⟩
      ·simp only[VR]at hs;obtain⟨l,e1,e2,e3,hS⟩:=hs
       obtain⟨hblk,hin⟩:=hr.row hg e1
       cases hb:(Nat.ble (o+(len+n)*i.size) blen&&Nat.blt 0 len)
       ·rw[hb,cond_false]at hA
        split at hA
        ·rename_i old hold
         obtain⟨OLD,k1,k2,k3,k4⟩:=getList_all (P:=P) hr e1 hg hold
         have hol:old.length=len*i.size:=by have:=k1.length;omega
         have hkill:Nx ρ h.t.get w ρ (h.t.set a .dead).get w:=Nx.kill hr (fun b=>T.get_set _ _ _ _)
         have wkill:Way ρ h w ρ ⟨h.next,h.t.set a .dead⟩ w:=way_set hf e1 hkill
         rcases hS with rfl|⟨rfl,x,rfl⟩
         ·rcases Nat.lt_or_ge ((l.room-o)/i.size) (len+n)with hlt|hge
          ·obtain⟨ρ',w',V,m1,m2,m3⟩:=appNew_sound h0 h1 hu hx hi hz hzl hpos (t:=h.t.set a .dead) hkill.rel hf (p:=some ⟨l.blk,l.off+o,none⟩) hlt k1 hVs k3 hs1 hol hsl (fun w' hw=>by simpa [Builtin.firstCells]using k4 w' hw) hsrc (next_le _ _ hlt) hA type
           exact⟨ρ',w',V,m1,m2,wkill.trans m3⟩
          ·
                    have hfit:(len+n)*i.size<=l.room-o:=(Nat.le_div_iff_mul_le hpos).1 hge
                    unfold appNew at hA
                    cases hbb:(Nat.ble ((2*(len+n)+192)*i.bytes) 281474976710656&&Nat.ble (len+n) 281474976710656)
                    ·rw[hbb]at hA;simp at hA
                    ·rw[hbb,cond_true]at hA
                     simp only[Option.some.injEq,Prod.mk.injEq]at hA
                     obtain⟨rfl,rfl⟩:=hA
                     obtain⟨hblen,c,hc,hroomc,hcells⟩:=hin
                     have hLs:SRC.length=n*i.size:=by have:=hVs.length;omega
                     have hLo:OLD.length=len*i.size:=k2
                     have hmul:(len+n)*i.size=len*i.size+n*i.size:=Nat.add_mul _ _ _
                     have hrun:=run_storeCells_at (P:=P) l.blk (l.off+o+len*i.size) e SRC 0 c w hc (by omega) (fun V hV=>one_oneCell' (hs1 V hV))
                     rw[Nat.add_zero]at hrun
                     have hlen:(old++src).length=(len+n)*i.size:=by simp[hol,hsl,Nat.add_mul]
                     have hy:ρ h.next=none:=hf _ (Nat.le_refl _)
                     have hV:=VRs.append k1 hVs
                     have ho:∀V∈OLD++SRC,one V=true:=fun V hV=>by
                      rcases List.mem_append.1 hV with hh|hh
                      ·exact k3 V hh
                      ·exact hs1 V hh
                     have hcl:c.toList.length=c.size:=by simp
                     have hocell:∀j V,OLD[j]?=some V->c[l.off+o+j]?=some V:=by
                      obtain⟨Vs',q1,q2,q3,q4⟩:=cells_of hr hg e1 hold
                      have hloads:=load_list (P:=P) (w:=w) (a:=⟨l.blk,l.off+o,none⟩) q2 rfl (fun j V hj=>by simpa using q4 j V hj)
                      have hsame:=k4 w rfl
                      rw[hloads]at hsame
                      simp only[Result.ok.injEq]at hsame
                      have hVV:Vs'=OLD:=by simpa using hsame
                      subst hVV
                      intro j V hj
                      have:=q4 j V hj
                      simpa [World.cell?,hc]using this
                     have hmv:=nx_move (g':=((h.t.set a .dead).set h.next (.row (putList 0 (old++src) .e) (old++src).length e)).get) (m:=⟨l.blk,l.off+o,l.room-o⟩) (w':=w.setRow l.blk (c.toList.take (l.off+o+len*i.size)++SRC++c.toList.drop (l.off+o+len*i.size+SRC.length)).toArray) hr hg rfl e1 hy rfl
                      (fun b=>by rw[T.get_set,T.get_set]) (World.setRow_env _ _ _) (World.setRow_size _ _ _) (fun r hne=>World.setRow_other _ _ _ hne)
                      (row_in' (VRs.mono (upd_le' hy) _ _ hV) ho (World.setRow_at _ _ _ hc) (by
                         simp only[List.size_toArray,List.length_append,List.length_take,List.length_drop,hcl];omega) (by show _<=l.room-o;omega) (fun j V hj=>by
                        simp only[List.getElem?_toArray]
                        rcases Nat.lt_or_ge j OLD.length with hj1|hj1
                        ·rw[List.append_assoc,List.getElem?_append_left (by simp[hcl];omega),List.getElem?_take,if_pos (by omega)]
                         rw[List.getElem?_append_left hj1]at hj
                         simpa using hocell j V hj
                        ·rw[List.getElem?_append_right hj1]at hj
                         have hj2:j-OLD.length<SRC.length:=(List.getElem?_eq_some_iff.1 hj).1
                         rw[List.append_assoc,List.getElem?_append_right (by simp;omega),List.getElem?_append_left (by simp[hcl];omega)]
                         rw[←hj]
                         congr 1
                         simp[hcl];omega))
                     refine⟨upd ρ h.next ⟨l.blk,l.off+o,l.room-o⟩,_,_,run_app_in (p:=some ⟨l.blk,l.off+o,none⟩) h0 h1 hu hx hsz hge (hsrc w rfl) (by simp only[addr_add];exact hrun) type,?_,?_⟩
                     ·simp only[VR]
                      exact⟨_,upd_same (hf _ (Nat.le_refl _)),hpos,by simp only[Nat.zero_add];exact hfit,.inl (by simp)⟩
                     ·refine⟨hmv,upd_fresh hf,Nat.le_succ _,fun b hb hbn=>⟨by rw[upd_other (by omega)];exact hbn,?_⟩⟩
                      show((h.t.set a .dead).set h.next _).get b=_
                      rw[T.get_set,if_neg (by omega),T.get_set,if_neg]
                      intro hba
                      rw[hba,e1]at hbn;simp at hbn
         ·obtain⟨ρ',w',V,m1,m2,m3⟩:=appNew_sound h0 h1 hu hx hi hz hzl hpos (t:=h.t.set a .dead) hkill.rel hf (p:=some x) (len:=0) (cap:=0) (by omega) k1 hVs k3 hs1 hol hsl (fun w' hw=>by
                    have:OLD=[]:=by simpa using k2
                    subst this
                    simp[Builtin.firstCells,loadCells,loadCellsFrom]) hsrc (next_le _ _ (by omega)) hA type
          exact⟨ρ',w',V,m1,m2,wkill.trans m3⟩
        ·simp at hA
       ·rw[hb,cond_true]at hA
        simp only[Bool.and_eq_true]at hb
        have hb1:=Nat.le_of_ble_eq_true hb.1
        have hb2:0<len:=by
         have:=hb.2
         exact Nat.le_of_ble_eq_true this
        simp only[Option.some.injEq,Prod.mk.injEq]at hA
        obtain⟨rfl,rfl⟩:=hA
        rcases hS with rfl|⟨rfl,_⟩
        ·have hle:o+(len+n)*i.size<=l.room:=Nat.le_trans hb1 hin.1
         obtain⟨w',j1,j2⟩:=inplace (c:=(l.room-o)/i.size) e1 ((Nat.le_div_iff_mul_le hpos).2 (by omega)) hb1
         exact⟨ρ,w',_,j1,by simp only[VR];exact⟨l,e1,hpos,hle,.inl rfl⟩,j2⟩
        ·omega
    ·simp at hA
  ·simp at hA
theorem appz_sound{P:Program}{ts tx e:TypeId}{ats:Array TypeId}{k k':IntKind}{i:TypeInfo}{z:List AV}(h0:ats[0]?=some ts)(h1:ats[1]?=some tx)(hu:P.underlying ts=some (.slice e))(hx:P.underlying tx=some (.int k))(hi:P.info? e=some i)
 (hz:zcells P e=some z) (hzl:z.length=i.size) (hpos:0<i.size) {ρ:Rho} {t:T AO} {y:Nat} {w:World} (hr:HR ρ t.get w) (hf:Fresh ρ y) {n:Nat} (hn:0<n)
 {v:AV} {h':H} (hA:appNew y e i.size i.bytes n (repl z n) 0 [] (2*(0+n)+192) t=some (v,h')) (type:TypeId):
 ∃ρ' w' V,(Builtin.append_ ats type #[.slice none 0 0,.int k' n]).run P w=.ok V w'∧VR ρ' v V∧Way ρ ⟨y,t⟩ w ρ' h' w':=by
 unfold appNew at hA
 cases hb:(Nat.ble ((2*(0+n)+192)*i.bytes) 281474976710656&&Nat.ble (0+n) 281474976710656)
 ·rw[hb]at hA;simp at hA
 ·rw[hb,cond_true]at hA
  simp only[Bool.and_eq_true]at hb
  have b1:=Nat.le_of_ble_eq_true hb.1
  have b2:=Nat.le_of_ble_eq_true hb.2
  simp only[Option.some.injEq,Prod.mk.injEq,Nat.zero_add,List.nil_append]at hA
  obtain⟨rfl,rfl⟩:=hA
  obtain⟨Z,z1,z2,z3⟩:=zrun hz ρ
  have hZ:Z.cells.size=i.size:=by have:=z2.length;simp at this;omega
  obtain⟨m,w',k1,k2,k3,k4⟩:=run_app_zero (k':=k') h0 h1 hu hx hi rfl hpos z1 hn b1 b2 type
  have hV:=repl_sound z2 n
  have ho:∀V∈(Builtin.zeroCells Z.cells n).toList,one V=true:=by
   have:∀n,∀V∈(Builtin.zeroCells Z.cells n).toList,one V=true:=by
     intro n
     induction n with
     |zero=>simp[Builtin.zeroCells]
     |succ n ih=>
      intro V hV
      rw[zeroCells_succ]at hV
      rcases List.mem_append.1 hV with h|h
      ·exact z3 V h
      ·exact ih V h
   exact this n
  have hlen:(repl z n).length=n*i.size:=by have:=hV.length;simp[zeroCells_size,hZ]at this;omega
  have hsz:(Builtin.zeroCells Z.cells n++Builtin.zeroCells Z.cells (m-n)).size=m*i.size:=by
   simp only[Array.size_append,zeroCells_size,hZ,←Nat.add_mul]
   congr 1;omega
  have hnew:=nx_new (g':=(t.set y (.row (putList 0 (repl z n) .e) (repl z n).length e)).get) hr (a:=y) (l:=⟨w.heap.size,0,m*i.size⟩) (obj:=.cells (Builtin.zeroCells Z.cells n++Builtin.zeroCells Z.cells (m-n)) e) (hf y (Nat.le_refl _)) rfl (fun b=>T.get_set _ _ _ _)
   (row_in' (VRs.mono (upd_le hf (Nat.le_refl _)) _ _ hV) ho (c:=Builtin.zeroCells Z.cells n++Builtin.zeroCells Z.cells (m-n)) (by show(w.heap.push _)[w.heap.size]?=_;simp) (by simp only[Nat.zero_add];exact hsz.symm) (by
     rw[hlen];exact Nat.mul_le_mul_right _ k1) (fun j V hj=>by
      have hj':=List.getElem?_eq_some_iff.1 hj
      obtain⟨hlt,_⟩:=hj'
      rw[Array.getElem?_append_left (by simp at hlt⊢;omega)]
      simp only[Nat.zero_add]
      simpa using hj))
  have hww:Nx (upd ρ y ⟨w.heap.size,0,m*i.size⟩) (t.set y (.row (putList 0 (repl z n) .e) (repl z n).length e)).get (w.alloc (.cells (Builtin.zeroCells Z.cells n++Builtin.zeroCells Z.cells (m-n)) e)) _ _ w':=
   Nx.drew hnew.rel k2 ⟨k3.os,k3.tape,k3.output⟩
  refine⟨_,w',_,k4,?_,way_new (h:=⟨y,t⟩) hf (hnew.trans hww)⟩
  simp only[VR]
  refine⟨_,upd_same (hf _ (Nat.le_refl _)),hpos,?_,.inl ?_⟩
  ·simp only[Nat.zero_add];exact Nat.mul_le_mul_right _ k1
  ·simp only[Nat.sub_zero,Nat.mul_div_cancel _ hpos]
theorem evE_sound{P:Program}{o:Oper}{c:EOp}{tm:T AV}{h h':H}{v:AV}{ρ:Rho}{a:Act}{w:World}(hc:cE P o=some c)(he:evE tm h c=some (v,h'))(ht:TR ρ tm a.tmps)(hr:HR ρ h.t.get w)(hf:Fresh ρ h.next):
 EOut P (execOp a.eval o) ρ h w v h':=by
 obtain⟨dst,op,type,pos,after,guard⟩:=o
 unfold cE at hc
 simp only[]at hc
 split at hc
 ·rename_i t p x
  split at hc
  ·rename_i n p' x' hs hp hx
   simp at hc;subst hc
   simp only[evE]at he
   split at he
   ·rename_i b off v' hb hv
    split at he
    ·rename_i cells len e l hg hl
     cases hk:(Nat.beq l.length n&&Nat.ble (off+n) len)
     ·rw[hk]at he;simp at he
     ·rw[hk,cond_true]at he
      simp only[Bool.and_eq_true]at hk
      have k1:=Nat.eq_of_beq_eq_true hk.1
      have k2:=Nat.le_of_ble_eq_true hk.2
      simp only[Option.some.injEq,Prod.mk.injEq]at he
      obtain⟨rfl,rfl⟩:=he
      have hB:=evo_sound ht hp hb
      simp only[VR]at hB
      obtain⟨lc,hlc,hB⟩:=hB
      obtain⟨j1,j2⟩:=cellsA_sound (evo_sound ht hx hv) hl
      obtain⟨w',m1,m2⟩:=nx_write hr hg hlc j1 j2 (o:=off) (by omega) P
      refine⟨ρ,w',undef,.inr ⟨?_,rfl⟩,?_,way_set hf hlc m2⟩
      ·have hsz:(a.eval x).cells.size=n:=by have:=j1.length;simp at this;omega
       simp[execOp,Instr.storeAt,hB,Instr.sureAddr,storeVar,run_sizeOf hs,hsz,m1]
      ·simp only[VR];exact⟨[],rfl,rfl⟩
    ·simp at he
   ·simp at he
  ·simp at hc
 ·rename_i args ats
  split at hc
  ·rename_i s x ts tx hargs h0 h1
   split at hc
   ·rename_i e ex hu hx
    split at hc
    ·rename_i i z s' x' hi hz hs hxx
     cases hb:(Nat.beq z.length i.size&&Nat.blt 0 i.size)
     ·rw[hb]at hc;simp at hc
     ·rw[hb,cond_true]at hc
      simp only[Bool.and_eq_true]at hb
      simp at hc;subst hc
      have hzl:=Nat.eq_of_beq_eq_true hb.1
      have hpos:0<i.size:=Nat.le_of_ble_eq_true hb.2
      simp only[evE]at he
      split at he
      ·rename_i sv xv hsv hxv
       split at he
       ·rename_i n src hsrc
        obtain⟨q,c2,SRC,hX,k1,k2,k3,k4⟩:=srcA_sound (P:=P) hr hsrc (evo_sound ht hxx hxv)
        have hargs':args= #[s,x]:=by rw[←Array.toArray_toList (xs:=args),hargs]
        subst hargs'
        obtain⟨ρ',w',V,m1,m2,m3⟩:=appA_sound h0 h1 hu hx hi hz hzl hpos hr hf (evo_sound ht hs hsv) k1 k3 k2 (fun w' hw=>by rw[←hX];exact k4 w' hw) he type
        obtain⟨cs,hbb⟩:=run_builtin (P:=P) (ρ:=a.eval) (b:=.append) (args:= #[s,x]) (ats:=ats) (dst:=dst) (type:=type) (pos:=pos) (after:=after) (guard:=guard)
        refine⟨ρ',w',V,.inl ?_,m2,m3⟩
        rw[hbb]
        simp[builtin,hX,m1]
       ·simp at he
      ·simp at he
    ·simp at hc
   ·rename_i e kk hu hx
    split at hc
    ·rename_i i z s' x' hi hz hs hxx
     cases hb:(Nat.beq z.length i.size&&Nat.blt 0 i.size)
     ·rw[hb]at hc;simp at hc
     ·rw[hb,cond_true]at hc
      simp only[Bool.and_eq_true]at hb
      simp at hc;subst hc
      have hzl:=Nat.eq_of_beq_eq_true hb.1
      have hpos:0<i.size:=Nat.le_of_ble_eq_true hb.2
      simp only[evE]at he
      split at he
      ·rename_i k' m hsv hxv
       split at he
       ·rename_i n
        split at he
        ·simp at he
        ·rename_i hn0
         have hn:0<n:=Nat.pos_of_ne_zero hn0
         have hargs':args= #[s,x]:=by rw[←Array.toArray_toList (xs:=args),hargs]
         subst hargs'
         have hS:=evo_sound ht hs hsv
         have hX:=evo_sound ht hxx hxv
         simp only[VR]at hS hX
         obtain⟨ρ',w',V,m1,m2,m3⟩:=appz_sound (k':=k') h0 h1 hu hx hi hz hzl hpos hr hf hn he type
         obtain⟨cs,hbb⟩:=run_builtin (P:=P) (ρ:=a.eval) (b:=.append) (args:= #[s,x]) (ats:=ats) (dst:=dst) (type:=type) (pos:=pos) (after:=after) (guard:=guard)
         refine⟨ρ',w',V,.inl ?_,m2,m3⟩
         rw[hbb]
         have hX':a.eval x=.int k' (n:Int):=hX
         simp[builtin,hS,hX',m1]
       ·simp at he
      ·simp at he
    ·simp at hc
   ·simp at hc
  ·simp at hc
 ·simp at hc
def kindOf:TypeDesc->Option Nat
 | .int _=>some 0
 | .string=>some 1
 | .bool=>some 2
 |_=>none
def keyEq(kd:Nat)(x y:AV):Option Bool:=match x,y with
 | .int k a,.int k' b=>cond (Nat.beq kd 0&&decide (k=k')) (some (iEq a b)) none
 | .str a,.str b=>cond (Nat.beq kd 1) (some (strEq a b)) none
 | .bool a,.bool b=>cond (Nat.beq kd 2) (some (a==b)) none
 |_,_=>none
def findA(kd:Nat)(k:AV):List (AV×AV×Nat)->Nat->Option (Option (Nat×AV))
 | [],_=>some none
 |e::es,i=>match keyEq kd k e.1 with
  |some true=>some (some (i,e.2.1))
  |some false=>findA kd k es (i+1)
  |none=>none
theorem keyEq_sound{ρ:Rho}{kd:Nat}{d:TypeDesc}(hd:kindOf d=some kd){x y:AV}{X Y:Value}{b:Bool}(h:keyEq kd x y=some b)(hx:VR ρ x X)(hy:VR ρ y Y):
 Instr.sameNow d X Y=some b∧(b=true->Instr.sameBits 10000 Y X=true)∧∀(P:Program) (em:Bool) (t:TypeId),P.underlying t=some d->∀w,(Instr.checkKey em 10000 t X).run P w=.ok () w:=by
 have hc:∀(V:Value),(∀t v,V≠.iface t v)->(∀c,V≠.agg c)->V≠.nilIface->∀(P:Program) (em:Bool) (t:TypeId),P.underlying t=some d->∀w,(Instr.checkKey em 10000 t V).run P w=.ok () w:=by
  intro V h1 h2 h3 P em t ht w
  unfold Instr.checkKey
  simp only[Sem.run_bind,Go.Proofs.YtghmnaojmpjglaaGreatDoor.Eo.run_underlying ht,Result.andThen_ok]
  cases d<;>simp only[kindOf]at hd<;>first
   |(simp at hd;done)
   |simp
 unfold keyEq at h
 split at h
 ·rename_i k a k' c
  cases hb:(Nat.beq kd 0&&decide (k=k'))
  ·rw[hb]at h;simp at h
  ·rw[hb,cond_true]at h
   simp only[Bool.and_eq_true,decide_eq_true_eq]at hb
   obtain⟨hb1,rfl⟩:=hb
   have hb1:=Nat.eq_of_beq_eq_true hb1
   subst hb1
   simp at h;subst h
   simp only[VR]at hx hy;subst hx hy
   refine⟨?_,?_,hc _ (by simp) (by simp) (by simp)⟩
   ·cases d<;>simp only[kindOf]at hd<;>first
      |(simp at hd;done)
      |simp[Instr.sameNow,iEq_eq]
   ·rw[iEq_eq];intro he;simp at he;subst he;simp[Instr.sameBits]
 ·rename_i a c
  cases hb:Nat.beq kd 1
  ·rw[hb]at h;simp at h
  ·rw[hb,cond_true]at h
   have hb1:=Nat.eq_of_beq_eq_true hb
   subst hb1
   simp at h;subst h
   simp only[strEq_eq]
   simp only[VR]at hx hy;subst hx hy
   refine⟨?_,?_,hc _ (by simp) (by simp) (by simp)⟩
   ·cases d<;>simp only[kindOf]at hd<;>first
      |(simp at hd;done)
      |simp[Instr.sameNow]
   ·intro he;have:a=c:=(Go.MapKept.bytes_beq a c).1 he
    subst this;simp only[Instr.sameBits];exact he
 ·rename_i a c
  cases hb:Nat.beq kd 2
  ·rw[hb]at h;simp at h
  ·rw[hb,cond_true]at h
   have hb1:=Nat.eq_of_beq_eq_true hb
   subst hb1
   simp at h;subst h
   simp only[VR]at hx hy;subst hx hy
   refine⟨?_,?_,hc _ (by simp) (by simp) (by simp)⟩
   ·cases d<;>simp only[kindOf]at hd<;>first
      |(simp at hd;done)
      |simp[Instr.sameNow]
   ·intro he;have:a=c:=by simpa using he
    subst this;simp[Instr.sameBits]
 ·simp at h
def FR(ρ:Rho)(es:List (AV×AV×Nat))(K:Value)(ES:List MapEntry)(i:Nat):Option (Nat×AV)->Option (Nat×Value)->Prop
 |none,R=>R=none
 |some (j,v),R=>∃V E,R=some (j,V)∧VR ρ v V∧i<=j∧ES[j-i]?=some E∧Instr.sameBits 10000 E.key K=true
theorem findA_sound{ρ:Rho}{kd:Nat}{d:TypeDesc}(hd:kindOf d=some kd){k:AV}{K:Value}(hk:VR ρ k K):∀{es:List (AV×AV×Nat)} {ES:List MapEntry} {i:Nat} {r:Option (Nat×AV)},findA kd k es i=some r->ERs ρ es ES->
 ∃R,Instr.findNow d K ES i=some R∧FR ρ es K ES i r R
 | [],ES,i,r,h,he=>by
   simp[findA]at h;subst h
   simp only[ERs]at he;subst he
   exact⟨none,rfl,rfl⟩
 |e::es,ES,i,r,h,he=>by
  obtain⟨E,M,h1,h2,h3,h4,rfl⟩:=he
  unfold findA at h
  split at h
  ·rename_i hq
   simp at h;subst h
   obtain⟨q1,q2,_⟩:=keyEq_sound hd hq hk h1
   exact⟨some (i,E.val),by simp[Instr.findNow,q1],E.val,E,rfl,h2,Nat.le_refl _,by simp,q2 rfl⟩
  ·rename_i hq
   obtain⟨q1,_,_⟩:=keyEq_sound hd hq hk h1
   obtain⟨R,j1,j2⟩:=findA_sound hd hk h h4
   refine⟨R,by simp[Instr.findNow,q1,j1],?_⟩
   cases r with
   |none=>exact j2
   |some jv=>
    obtain⟨j,v⟩:=jv
    obtain⟨V,E',m1,m2,m3,m4,m5⟩:=j2
    exact⟨V,E',m1,m2,by omega,by rw[show j-i=(j-(i+1))+1 by omega];simpa using m4,m5⟩
  ·simp at h
def keyA(kd:Nat):AV->Bool
 | .int _ _=>Nat.beq kd 0
 | .str _=>Nat.beq kd 1
 | .bool _=>Nat.beq kd 2
 |_=>false
theorem keyA_check{ρ:Rho}{kd:Nat}{d:TypeDesc}(hd:kindOf d=some kd){k:AV}{K:Value}(h:keyA kd k=true)(hk:VR ρ k K)(P:Program)(em:Bool)(t:TypeId)(ht:P.underlying t=some d)(w:World):(Instr.checkKey em 10000 t K).run P w=.ok () w:=by
 have hq:∃b,keyEq kd k k=some b:=by
  unfold keyA at h
  unfold keyEq
  split at h
  ·simp only[h,decide_true,Bool.and_self,cond_true];exact⟨_,rfl⟩
  ·simp only[h,cond_true];exact⟨_,rfl⟩
  ·simp only[h,cond_true];exact⟨_,rfl⟩
  ·simp at h
 obtain⟨b,hb⟩:=hq
 exact(keyEq_sound hd hb hk hk).2.2 P em t ht w
theorem run_findKey{P:Program}{t:TypeId}{d:TypeDesc}(ht:P.underlying t=some d){K:Value}{ES:List MapEntry}{R:Option (Nat×Value)}(h:Instr.findNow d K ES 0=some R)(w:World):(Instr.findKey t K ES).run P w=.ok R w:=by
 simp[Instr.findKey,Go.Proofs.YtghmnaojmpjglaaGreatDoor.Eo.run_underlying ht,h]
inductive MOp where
 |upd (kd:Nat) (m k v:Opd)
 |del (kd:Nat) (m k:Opd)
structure LOp where
 kd:Nat
 m:Opd
 k:Opd
 z:AV
 ok:Bool
def evM(tm:T AV)(h:H):MOp->Option (AV×H)
 | .upd kd m k v=>match evo tm m,evo tm k,evo tm v with
   |some (.map a),some k,some v=>match h.t.get a with
    |some (.map es clock)=>cond (keyA kd k) (match findA kd k es 0 with
     |some none=>some (.tup [],⟨h.next,h.t.set a (.map (es++[(k,v,clock)]) (clock+1))⟩)
     |some (some (i,_))=>some (.tup [],⟨h.next,h.t.set a (.map (es.modify i fun e=>(k,v,e.2.2)) clock)⟩)
     |none=>none) none
    |_=>none
   |_,_,_=>none
 | .del kd m k=>match evo tm m,evo tm k with
   |some (.map a),some k=>match h.t.get a with
    |some (.map es clock)=>cond (keyA kd k) (match findA kd k es 0 with
     |some none=>some (.tup [],⟨h.next,h.t.set a (.map es clock)⟩)
     |some (some (i,_))=>some (.tup [],⟨h.next,h.t.set a (.map (es.eraseIdx i) clock)⟩)
     |none=>none) none
    |_=>none
   |_,_=>none
def evL(tm:T AV)(g:Nat->Option AO)(o:LOp):Option AV:=
 let res (v:AV) (ok:Bool):Option AV:=some (cond o.ok (.tup [v,.bool ok]) v)
 match evo tm o.m,evo tm o.k with
 |some .nilm,some k=>cond (keyA o.kd k) (res o.z false) none
 |some (.map a),some k=>match g a with
  |some (.map es _)=>cond (keyA o.kd k) (match findA o.kd k es 0 with
   |some none=>res o.z false
   |some (some (_,v))=>res v true
   |none=>none) none
  |_=>none
 |_,_=>none
def zval(P:Program)(t:TypeId):Option AV:=
 match P.info? t with
 |some i=>match i.zero with
  |some z=>cv z
  |none=>none
 |none=>none
def cL(P:Program)(o:Oper):Option LOp:=match o.op with
 | .lookup t x ix ok=>match P.underlying t with
   |some (.map kt e)=>match P.underlying kt,zval P e,cOpd x,cOpd ix with
    |some d,some z,some m,some k=>match kindOf d with
     |some kd=>some ⟨kd,m,k,z,ok⟩
     |none=>none
    |_,_,_,_=>none
   |_=>none
 |_=>none
def cUpd(P:Program)(t:TypeId)(m k x:Operand):Option MOp:=match P.underlying t with
    |some (.map kt _)=>match P.underlying kt,cOpd m,cOpd k,cOpd x with
     |some d,some m,some k,some x=>match kindOf d with
      |some kd=>some (.upd kd m k x)
      |none=>none
     |_,_,_,_=>none
    |_=>none
def cM(P:Program)(o:Oper):Option MOp:=match o.op with
 | .mapUpdate t m k x=>cUpd P t m k x
 | .insert t m k x=>cUpd P t m k x
 | .call {callee:=.builtin .delete,args,argTypes}=>match args.toList,argTypes[0]? with
   | [m,k],some t=>match P.underlying t with
     |some (.map kt _)=>match P.underlying kt,cOpd m,cOpd k with
      |some d,some m,some k=>match kindOf d with
       |some kd=>some (.del kd m k)
       |none=>none
      |_,_,_=>none
     |_=>none
   |_,_=>none
 |_=>none
theorem zval_sound{P:Program}{t:TypeId}{v:AV}(h:zval P t=some v)(ρ:Rho):∃V,VR ρ v V∧∀w,(zeroValue t).run P w=.ok V w:=by
 unfold zval at h
 split at h
 ·rename_i i hi
  split at h
  ·rename_i z hz
   exact⟨z,cv_sound h,fun w=>by simp[zeroValue,run_typeInfo hi,hz]⟩
  ·simp at h
 ·simp at h
theorem evL_sound{P:Program}{o:Oper}{c:LOp}{tm:T AV}{v:AV}{ρ:Rho}{a:Act}{g:Nat->Option AO}{w:World}(hc:cL P o=some c)(h:evL tm g c=some v)(ht:TR ρ tm a.tmps)(hr:HR ρ g w):
 ∃V,VR ρ v V∧(execOp a.eval o).run P w=.ok (.value V) w:=by
 obtain⟨dst,op,type,pos,after,guard⟩:=o
 unfold cL at hc
 simp only[]at hc
 split at hc
 ·rename_i t x ix ok
  split at hc
  ·rename_i kt e hu
   split at hc
   ·rename_i d z m k hd hz hm hk
    split at hc
    ·rename_i kd hkd
     simp at hc;subst hc
     obtain⟨Z,z1,z2⟩:=zval_sound hz ρ
     have hres:∀{u v:AV} {U:Value} {b:Bool},some (cond ok (AV.tup [u,.bool b]) u)=some v->VR ρ u U->VR ρ v (if ok then .tuple #[U,.bool b]else U):=by
      intro u v U b hv hU
      simp at hv;subst hv
      cases ok
      ·simpa using hU
      ·simp only[cond_true,if_true,VR]
       exact⟨[U,.bool b],⟨U,[.bool b],hU,⟨.bool b,[],by simp[VR],rfl,rfl⟩,rfl⟩,rfl⟩
     unfold evL at h
     simp only[]at h
     split at h
     ·rename_i k' hm' hk'
      cases hka:keyA kd k'
      ·rw[hka]at h;simp at h
      ·rw[hka,cond_true]at h
       have hM:=evo_sound ht hm hm'
       simp only[VR]at hM
       have hK:=evo_sound ht hk hk'
       have hck:=keyA_check hkd hka hK P true kt hd w
       refine⟨_,hres h z1,?_⟩
       simp[execOp,Instr.lookup,Go.Proofs.YtghmnaojmpjglaaGreatDoor.Eo.run_underlying hu,hM,hck,run_findKey hd (K:=a.eval ix) (ES:=[]) (R:=none) rfl,z2]
     ·rename_i p k' hm' hk'
      split at h
      ·rename_i es clock hg
       cases hka:keyA kd k'
       ·rw[hka]at h;simp at h
       ·rw[hka,cond_true]at h
        have hM:=evo_sound ht hm hm'
        simp only[VR]at hM
        obtain⟨l,hl,hM⟩:=hM
        have hK:=evo_sound ht hk hk'
        obtain⟨_,ES,he,hh⟩:=hr.obj p _ l hg rfl hl
        have hck:=fun em=>keyA_check hkd hka hK P em kt hd w
        split at h
        ·rename_i hf
         obtain⟨R,f1,f2⟩:=findA_sound hkd hK hf he
         simp only[FR]at f2;subst f2
         refine⟨_,hres h z1,?_⟩
         simp[execOp,Instr.lookup,Go.Proofs.YtghmnaojmpjglaaGreatDoor.Eo.run_underlying hu,hM,hck,run_findKey hd f1,z2,getObj,Sem.run,hh]
        ·rename_i j u hf
         obtain⟨R,f1,f2⟩:=findA_sound hkd hK hf he
         simp only[FR]at f2
         obtain⟨V,E,rfl,m2,_⟩:=f2
         refine⟨_,hres h m2,?_⟩
         simp[execOp,Instr.lookup,Go.Proofs.YtghmnaojmpjglaaGreatDoor.Eo.run_underlying hu,hM,hck,run_findKey hd f1,getObj,Sem.run,hh]
        ·simp at h
      ·simp at h
     ·simp at h
    ·simp at hc
   ·simp at hc
  ·simp at hc
 ·simp at hc
theorem ERs.app{ρ:Rho}:∀{l m:List (AV×AV×Nat)} {L M:List MapEntry},ERs ρ l L->ERs ρ m M->ERs ρ (l++m) (L++M)
 | [],m,L,M,h,h'=>by simp only[ERs]at h;subst h;simpa using h'
 |e::l,m,L,M,h,h'=>by
  obtain⟨E,N,h1,h2,h3,h4,rfl⟩:=h
  exact⟨E,N++M,h1,h2,h3,ERs.app h4 h',rfl⟩
theorem ERs.mod{ρ:Rho}{k v:AV}{K V:Value}(hk:VR ρ k K)(hv:VR ρ v V):∀{l:List (AV×AV×Nat)} {L:List MapEntry} (i:Nat),ERs ρ l L->ERs ρ (l.modify i fun e=>(k,v,e.2.2)) (L.modify i fun e=>{e with key:=K,val:=V})
 | [],L,i,h=>by simp only[ERs]at h;subst h;simp[ERs]
 |e::l,L,0,h=>by
  obtain⟨E,N,h1,h2,h3,h4,rfl⟩:=h
  exact⟨{E with key:=K,val:=V},N,hk,hv,h3,h4,rfl⟩
 |e::l,L,i+1,h=>by
  obtain⟨E,N,h1,h2,h3,h4,rfl⟩:=h
  exact⟨E,_,h1,h2,h3,ERs.mod hk hv i h4,rfl⟩
theorem ERs.erase{ρ:Rho}:∀{l:List (AV×AV×Nat)} {L:List MapEntry} (i:Nat),ERs ρ l L->ERs ρ (l.eraseIdx i) (L.eraseIdx i)
 | [],L,i,h=>by simp only[ERs]at h;subst h;simp[ERs]
 |e::l,L,0,h=>by
  obtain⟨E,N,h1,h2,h3,h4,rfl⟩:=h
  exact h4
 |e::l,L,i+1,h=>by
  obtain⟨E,N,h1,h2,h3,h4,rfl⟩:=h
  exact⟨E,_,h1,h2,h3,ERs.erase i h4,rfl⟩
theorem way_map{P:Program}{ρ:Rho}{h:H}{w:World}(hr:HR ρ h.t.get w)(hf:Fresh ρ h.next){a:Nat}{l:Loc}{es es':List (AV×AV×Nat)}{clock clock':Nat}{ES':List MapEntry}(hg:h.t.get a=some (.map es clock))(hl:ρ a=some l)(he:ERs ρ es' ES'):
 ∃w',(setObj l.blk (.map ES'.toArray clock')).run P w=.ok () w'∧Way ρ h w ρ ⟨h.next,h.t.set a (.map es' clock')⟩ w':=by
 obtain⟨hb,ES,h1,h2⟩:=hr.obj a _ l hg rfl hl
 refine⟨{w with heap:=w.heap.setIfInBounds l.blk (.map ES'.toArray clock')},by simp[setObj,Sem.run,h2],way_set hf hl (nx_set hr hg rfl hl (fun b=>T.get_set _ _ _ _) ⟨rfl,rfl,rfl⟩ (by simp) (fun r hne=>?_) rfl ⟨ES',he,?_⟩)⟩
 ·simp only[Array.getElem?_setIfInBounds_ne (Ne.symm hne)]
 ·simp[hb]
theorem upd_sound{P:Program}{t:TypeId}{m k x:Operand}{c:MOp}{tm:T AV}{h h':H}{v:AV}{ρ:Rho}{a:Act}{w:World}(hc:cUpd P t m k x=some c)(he:evM tm h c=some (v,h'))(ht:TR ρ tm a.tmps)(hr:HR ρ h.t.get w)(hf:Fresh ρ h.next):
 v=.tup []∧∃w',(Instr.mapUpdate t (a.eval m) (a.eval k) (a.eval x)).run P w=.ok () w'∧Way ρ h w ρ h' w':=by
 unfold cUpd at hc
 split at hc
 ·rename_i kt et hu
  split at hc
  ·rename_i d m' k' x' hd hm hk hx
   split at hc
   ·rename_i kd hkd
    simp at hc;subst hc
    simp only[evM]at he
    split at he
    ·rename_i p kv xv hm' hk' hx'
     split at he
     ·rename_i es clock hg
      cases hka:keyA kd kv
      ·rw[hka]at he;simp at he
      ·rw[hka,cond_true]at he
       have hM:=evo_sound ht hm hm'
       simp only[VR]at hM
       obtain⟨l,hl,hM⟩:=hM
       have hK:=evo_sound ht hk hk'
       have hX:=evo_sound ht hx hx'
       obtain⟨_,ES,hes,hh⟩:=hr.obj p _ l hg rfl hl
       have hck:=fun em=>keyA_check hkd hka hK P em kt hd w
       split at he
       ·rename_i hfd
        obtain⟨R,f1,f2⟩:=findA_sound hkd hK hfd hes
        simp only[FR]at f2;subst f2
        simp only[Option.some.injEq,Prod.mk.injEq]at he
        obtain⟨rfl,rfl⟩:=he
        obtain⟨w',j1,j2⟩:=way_map (P:=P) (clock':=clock+1) hr hf hg hl (ERs.app hes (m:=[(kv,xv,clock)]) (M:=[{key:=a.eval k,val:=a.eval x,born:=clock}]) ⟨_,[],hK,hX,rfl,rfl,rfl⟩)
        refine⟨rfl,w',?_,j2⟩
        have e:({toList:=ES}:Array MapEntry).push ({key:=a.eval k,val:=a.eval x,born:=clock}:MapEntry)=(ES++[({key:=a.eval k,val:=a.eval x,born:=clock}:MapEntry)]).toArray:=by simp
        simp only[Instr.mapUpdate,Sem.run_bind,Go.Proofs.YtghmnaojmpjglaaGreatDoor.Eo.run_underlying hu,Result.andThen_ok,hM,getObj,Sem.run,hh,hck,run_findKey hd f1,e,j1]
       ·rename_i j u hfd
        obtain⟨R,f1,f2⟩:=findA_sound hkd hK hfd hes
        simp only[FR]at f2
        obtain⟨V,E,rfl,m2,_,m4,m5⟩:=f2
        simp only[Option.some.injEq,Prod.mk.injEq]at he
        obtain⟨rfl,rfl⟩:=he
        obtain⟨w',j1,j2⟩:=way_map (P:=P) (clock':=clock) hr hf hg hl (ERs.mod hK hX j hes)
        refine⟨rfl,w',?_,j2⟩
        have m4':ES[j]?=some E:=by simpa using m4
        have e:(({toList:=ES}:Array MapEntry).modify j fun e=>{e with key:=a.eval k,val:=a.eval x})=(ES.modify j fun e=>{e with key:=a.eval k,val:=a.eval x}).toArray:=by simp
        simp only[Instr.mapUpdate,Sem.run_bind,Go.Proofs.YtghmnaojmpjglaaGreatDoor.Eo.run_underlying hu,Result.andThen_ok,hM,getObj,Sem.run,hh,hck,run_findKey hd f1,Instr.keyThatStays,List.getElem?_toArray,m4',Option.map_some,Option.getD_some,m5,if_true,Sem.run_pure,e,j1]
       ·simp at he
     ·simp at he
    ·simp at he
   ·simp at hc
  ·simp at hc
 ·simp at hc
theorem evM_sound{P:Program}{o:Oper}{c:MOp}{tm:T AV}{h h':H}{v:AV}{ρ:Rho}{a:Act}{w:World}(hc:cM P o=some c)(he:evM tm h c=some (v,h'))(ht:TR ρ tm a.tmps)(hr:HR ρ h.t.get w)(hf:Fresh ρ h.next):
 EOut P (execOp a.eval o) ρ h w v h':=by
 obtain⟨dst,op,type,pos,after,guard⟩:=o
 unfold cM at hc
 simp only[]at hc
 split at hc
 ·obtain⟨rfl,w',k1,k2⟩:=upd_sound hc he ht hr hf
  exact⟨ρ,w',undef,.inr ⟨by simp[execOp,k1],rfl⟩,by simp only[VR];exact⟨[],rfl,rfl⟩,k2⟩
 ·obtain⟨rfl,w',k1,k2⟩:=upd_sound hc he ht hr hf
  exact⟨ρ,w',undef,.inr ⟨by simp[execOp,k1],rfl⟩,by simp only[VR];exact⟨[],rfl,rfl⟩,k2⟩
 ·rename_i args ats
  split at hc
  ·rename_i m k t hargs h0
   have hargs':args= #[m,k]:=by rw[←Array.toArray_toList (xs:=args),hargs]
   subst hargs'
   split at hc
   ·rename_i kt et hu
    split at hc
    ·rename_i d m' k' hd hm hk
     split at hc
     ·rename_i kd hkd
      simp at hc;subst hc
      simp only[evM]at he
      split at he
      ·rename_i p kv hm' hk'
       split at he
       ·rename_i es clock hg
        cases hka:keyA kd kv
        ·rw[hka]at he;simp at he
        ·rw[hka,cond_true]at he
         have hM:=evo_sound ht hm hm'
         simp only[VR]at hM
         obtain⟨l,hl,hM⟩:=hM
         have hK:=evo_sound ht hk hk'
         obtain⟨_,ES,hes,hh⟩:=hr.obj p _ l hg rfl hl
         have hck:=fun em=>keyA_check hkd hka hK P em kt hd w
         obtain⟨cs,hbb⟩:=run_builtin (P:=P) (ρ:=a.eval) (b:=.delete) (args:= #[m,k]) (ats:=ats) (dst:=dst) (type:=type) (pos:=pos) (after:=after) (guard:=guard)
         split at he
         ·rename_i hfd
          obtain⟨R,f1,f2⟩:=findA_sound hkd hK hfd hes
          simp only[FR]at f2;subst f2
          simp only[Option.some.injEq,Prod.mk.injEq]at he
          obtain⟨rfl,rfl⟩:=he
          obtain⟨w',j1,j2⟩:=way_map (P:=P) (clock':=clock) hr hf hg hl hes
          refine⟨ρ,w',undef,.inl ?_,by simp only[VR];exact⟨[],rfl,rfl⟩,j2⟩
          rw[hbb]
          simp[builtin,Builtin.delete_,h0,Go.Proofs.YtghmnaojmpjglaaGreatDoor.Eo.run_underlying hu,hM,getObj,Sem.run,hh,hck,run_findKey hd f1,j1,undef]
         ·rename_i j u hfd
          obtain⟨R,f1,f2⟩:=findA_sound hkd hK hfd hes
          simp only[FR]at f2
          obtain⟨V,E,rfl,m2,_,m4,m5⟩:=f2
          simp only[Option.some.injEq,Prod.mk.injEq]at he
          obtain⟨rfl,rfl⟩:=he
          obtain⟨w',j1,j2⟩:=way_map (P:=P) (clock':=clock) hr hf hg hl (ERs.erase j hes)
          refine⟨ρ,w',undef,.inl ?_,by simp only[VR];exact⟨[],rfl,rfl⟩,j2⟩
          rw[hbb]
          have e:({toList:=ES}:Array MapEntry).eraseIdxIfInBounds j=(ES.eraseIdx j).toArray:=by simp
          simp[builtin,Builtin.delete_,h0,Go.Proofs.YtghmnaojmpjglaaGreatDoor.Eo.run_underlying hu,hM,getObj,Sem.run,hh,hck,run_findKey hd f1,e,j1,undef]
         ·simp at he
       ·simp at he
      ·simp at he
     ·simp at hc
    ·simp at hc
   ·simp at hc
  ·simp at hc
 ·simp at hc
end
end Go.Proofs.YtghmnaojmpjglaaGreatDoor.Eo
