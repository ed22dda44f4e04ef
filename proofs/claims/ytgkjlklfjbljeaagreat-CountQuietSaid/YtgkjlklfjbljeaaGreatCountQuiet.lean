/-
  The law CountQuiet: whatever it is given, it returns true. Conditions: none but those of the statement.
-/
import Derived.Test.YtgkjlklfjbljeaaGreatCxA
import Derived.Test.YtgkjlklfjbljeaaGreatCqF
import Derived.WalkKit
import Derived.ProofKit
import Derived.OpenShut
import Derived.ShutString
import Derived.Lib.SmallJoins
import Derived.Deep.QuietTactic
import Derived.BigQuiet
import Derived.SizedLaws
set_option linter.all false
namespace Go.Proofs.YtgkjlklfjbljeaaGreat.countQuiet
open Go.ChangeShapes Go.WideShapes Go.ChangeAt Go.RowKit Go.Joins
open Go.ChangeMaps (open_string shut_string)
theorem own:ownKnob Tryz.prog.godebug=none:=by kernel_rfl
theorem laidOut:laidOutB Tryz.prog=true:=by kernel_rfl
set_option maxRecDepth 100000 in
theorem walk{H:Type}(enc:TypeId×Value→H)(base:Nat)(W:World)(v0:Value)(d0:DataW H)(p0:List MemPlace)(v1:Value)(d1:DataW H)(p1:List MemPlace)(v2:Value)(d2:DataW H)(p2:List MemPlace)
 (o0:Value.okWide Tryz.prog W .any base 27 v0) (h0:DataW.Trod enc Tryz.prog W 0 (fun _=>true) true 27 v0 d0 p0) (o1:Value.okWide Tryz.prog W .any base 28 v1) (h1:DataW.Trod enc Tryz.prog W 0 (fun _=>true) true 28 v1 d1 p1) (o2:Value.okWide Tryz.prog W .any base 29 v2) (h2:DataW.Trod enc Tryz.prog W 0 (fun _=>true) true 29 v2 d2 p2)
 (z0:∀n∈d0.weights Tryz.prog 27,n≤reachBytes) (z1:∀n∈d1.weights Tryz.prog 28,n≤reachBytes) (z2:∀n∈d2.weights Tryz.prog 29,n≤reachBytes):
 Calls Tryz.prog 3 #[v0,v1,v2] W fun e W'=>e=.returned (.bool true)/\Below W.heap.size W W':=by
 obtain⟨c,av,k0,e0,hv,hr,dE,fH,hl⟩:=CQ.MJ o0 h0 z0;obtain⟨ls,lw,a1,b1,c1⟩:=CQ.RC o1 h1;obtain⟨dl,dv,a2,b2,c2,_⟩:=CQ.RD Tryz.underlying29 Tryz.underlying3 CQ.vQ CQ.RE o2 h2 z2;exact CQ.aft k0 e0 hv hr dE fH hl a1 b1 c1 a2 b2 c2
set_option maxRecDepth 100000 in
theorem lifted(os:Os)(started:os.Started)(H:Type)(enc:TypeId×Value→H):
 ReturnsInHanded {} Tryz.checked os 3 .any (Rows.countQuietSpec.pre6 enc Tryz.prog Tryz.f3 Rows.countQuietRow.domain false) (Rows.countQuietSpec.post enc Tryz.prog Tryz.f3 false true false false):=by
 refine returnsInHanded_of_change_sized (C:=Tryz.checked) own started (by kernel_rfl) Tryz.func3
  (ChangeSpec.witness6 (enc:=enc) (C:=Tryz.checked) false ⟨#[],#[.agg #[.int .i64 0,.int .i64 0,.int .u8 0,.int .i64 0,.int .u8 0,.int .i64 0,.slice none 0 0,.int .i64 0,.int .i64 0,.int .i64 0,.int .i64 0,.int .i64 0,.int .i64 0,.int .i64 0,.int .i64 0,.int .i64 0],.slice none 0 0,.slice none 0 0],[]⟩ 12 (by kernel_rfl) (by kernel_rfl) (by kernel_rfl) (by kernel_rfl)) ?_
 intro W base args ds gs before Qe hW GM rn _;have MK:∀(j:Nat) t v,Tryz.f3.params[j]?=some t→args[j]?=some v→Value.okWide Tryz.prog W .any base t v:=Qe;have hW':=hW;obtain⟨p,q,hA0,hV,rfl,hfz,Mg⟩:=hW;have hA:DataW.TrodAll enc Tryz.prog W 0 (fun _=>true) true Tryz.f3.params.toList args.toList ds p:=hA0;rw[Tryz.params3]at hA MK;obtain⟨v0,vs0,d0,ds0,p0,q0,fL,rfl,rfl,h0,r0⟩:=trodAll_cons hA;obtain⟨v1,vs1,d1,ds1,p1,q1,rfl,rfl,rfl,h1,r1⟩:=trodAll_cons r0;obtain⟨v2,vs2,d2,ds2,p2,q2,rfl,rfl,rfl,h2,r2⟩:=trodAll_cons r1;obtain⟨rfl,rfl,rfl⟩:=trodAll_nil r2;obtain rfl:args= #[v0,v1,v2]:=by cases args;simp_all
 obtain⟨rfl,rfl⟩:=trodVars_none hV;have z0:∀n∈d0.weights Tryz.prog 27,n≤reachBytes:=fun n hn=>by
  have:=List.all_eq_true.1 rn n (DataW.weights_mem_each (j:=0) (t:=27) (d:=d0) (by rw[Tryz.params3];rfl) rfl n hn);simpa using this
 have z1:∀n∈d1.weights Tryz.prog 28,n≤reachBytes:=fun n hn=>by
  have:=List.all_eq_true.1 rn n (DataW.weights_mem_each (j:=1) (t:=28) (d:=d1) (by rw[Tryz.params3];rfl) rfl n hn);simpa using this
 have z2:∀n∈d2.weights Tryz.prog 29,n≤reachBytes:=fun n hn=>by
  have:=List.all_eq_true.1 rn n (DataW.weights_mem_each (j:=2) (t:=29) (d:=d2) (by rw[Tryz.params3];rfl) rfl n hn);simpa using this
 have lt0:∀x∈p0,x.block<W.heap.size:=by obtain⟨m,hm⟩:=h0;exact DataW.trod_lt m _ _ _ hm
 have lt1:∀x∈p1,x.block<W.heap.size:=by obtain⟨m,hm⟩:=h1;exact DataW.trod_lt m _ _ _ hm
 have lt2:∀x∈p2,x.block<W.heap.size:=by obtain⟨m,hm⟩:=h2;exact DataW.trod_lt m _ _ _ hm
 have k:=walk enc base W v0 d0 p0 v1 d1 p1 v2 d2 p2 (MK 0 27 v0 rfl rfl) h0 (MK 1 28 v1 rfl rfl) h1 (MK 2 29 v2 rfl rfl) h2 z0 z1 z2;clear hA0 Qe;refine k.mono fun e W' ⟨he,bel⟩=>?_
 subst he;exact⟨_,rfl,_,_,_,[],_,[],hW',trodAll_mk1 (shut_bool Tryz.underlying4 _),(trodAll_cons_mk (Below.trod laidOut (by kernel_rfl) (of_decide_eq_true (by kernel_rfl)) h0 bel lt0) (trodAll_cons_mk (Below.trod laidOut (by kernel_rfl) (of_decide_eq_true (by kernel_rfl)) h1 bel lt1) (trodAll_cons_mk (Below.trod laidOut (by kernel_rfl) (of_decide_eq_true (by kernel_rfl)) h2 bel lt2) trodAll_mk0))),rfl,bel.frame _,fun h=>by cases h⟩
theorem over:Rows.countQuietRow.holds Tryz.pinned (OpenSpec.ofChange Rows.countQuietSpec):=
 OpenClaim.holds_of_wide 3 Tryz.f3 rfl rfl rfl rfl rfl rfl rfl ⟨rfl,rfl,rfl,rfl,rfl⟩ rfl rfl rfl rfl rfl GO Tryz.func3 Ec
  Is It
  (fun os started H enc _=>lifted os started H enc)
theorem proved:Rows.CountQuietSaid:=over
#print axioms proved
end Go.Proofs.YtgkjlklfjbljeaaGreat.countQuiet
