/-
  The law PointRefuses: its row and its card.
-/
import Derived.Test.YtghmnaojmpjglaaGreatDoorPxA
import Derived.Test.YtghmnaojmpjglaaGreatDoorPrFacts
import Derived.Test.YtghmnaojmpjglaaGreatDoorPrC
import Derived.Test.YtghmnaojmpjglaaGreatDoorRows
import Derived.Test.YtghmnaojmpjglaaGreatDoorCards
import Derived.Test.YtghmnaojmpjglaaGreatDoorTie
import Derived.WalkKit
import Derived.ProofKit
import Derived.LaidMore
import Derived.OpenShut
import Derived.ShutString
import Derived.Stop.Joined
import Derived.SevenTiedAt
import Derived.Lib.SmallJoins
import Derived.SizedLaws
import Derived.KernelRfl
set_option linter.all false
namespace Go.Proofs.YtghmnaojmpjglaaGreatDoor.pointRefuses
open Go.ChangeShapes Go.WideShapes Go.ChangeAt Go.RowKit Go.Joins
theorem own:ownKnob Tryz.prog.godebug=none:=by kernel_rfl
noncomputable def laid:List (String×DataW Unit):=[("math/bits.deBruijn64tab",Rows.laid_math_bits_deBruijn64tab)]
theorem gTab:Tryz.prog.globalNamed "math/bits.deBruijn64tab"=some 0:=by kernel_rfl
theorem tTab:(Tryz.prog.globals[0]?).map (·.type)=some 536:=by kernel_rfl
theorem uTab:∃e,Tryz.prog.underlying 536=some (.array 64 e)∧Tryz.prog.underlying e=some (.int .u8)∧Tryz.prog.cellsOf e=1:=
 ⟨5,by kernel_rfl,by kernel_rfl,by kernel_rfl⟩
theorem laid_fst:(Rows.laid_math_bits_deBruijn64tab:DataW Unit)=.agg (PR.tab.map fun n=>.lit (.int .u8 n)):=by kernel_rfl
theorem of_laid{W:World}(h:laidMetH Tryz.prog laid W):Eo.TabW 0 .u8 PR.tab W:=by
 rw[MakeChecks.laidMetH_plain _ _ _ (by kernel_rfl)]at h
 obtain⟨ps,⟨g,t,cs,f,p,q,hg,ht,hv,hd,_⟩,_⟩:=h
 obtain rfl:=Option.some.inj (gTab.symm.trans hg)
 obtain rfl:=Option.some.inj (tTab.symm.trans ht)
 obtain⟨e,u1,u2,u3⟩:=uTab
 obtain⟨xs,m,rfl,hx,hlen,hn,hel⟩:=DataW.trod_array u1 hd
 simp only[World.var?,hg,Option.bind_some]at hv
 split at hv
 ·rename_i c t' f' hh
  simp at hv;subst hv
  refine⟨c,t',f',hh,fun i n hi=>?_⟩
  have hlt:i<64:=by
   have:=(List.getElem?_eq_some_iff.1 hi).1
   simpa [PR.tab]using this
  have hx1:xs.map (·.1)=PR.tab.map fun n=>.lit (.int .u8 n):=by
   have:=congrArg Prod.fst hx
   rw[laid_fst]at this
   simpa using this.symm
  have hxi:(xs.map (·.1))[i]?=some (.lit (.int .u8 n)):=by rw[hx1];simp[hi]
  rw[List.getElem?_map,Option.map_eq_some_iff]at hxi
  obtain⟨x,hxx,hxl⟩:=hxi
  have hd':=hel i hlt
  rw[hxx,u3]at hd'
  obtain⟨k,e1,e2,_⟩:=DataW.trod_int u2 hd'
  rw[e2]at hxl
  simp at hxl
  subst hxl
  have:(c.toList.drop (i*1))[0]?=some (.int .u8 k):=by
   have:=congrArg (fun l=>l[0]?) e1
   simpa [List.getElem?_take]using this
  simpa using this
 ·simp at hv
theorem door_met(os:Os)(args:Array Value):laidMetH Tryz.prog laid ((World.doorLaid Tryz.prog 4000 os).forCall (fun _ _=>0) ⟨#[],args,[]⟩).memory:=
 laidMetH_of_parts3 (fuel:=8) (laidMet_of_run' 8 (by kernel_rfl) (by kernel_rfl)) (by kernel_rfl) (by kernel_rfl)
set_option maxRecDepth 100000 in
theorem lifted(os:Os)(started:os.Started)(H:Type)(enc:TypeId×Value→H):
 ReturnsInHanded {} Tryz.checked os 3 .any (fun w args=>(Rows.pointRefusesSpec.pre enc Tryz.prog Tryz.f3 [] false w args∧laidMetH Tryz.prog laid w)∧sizedMet enc Tryz.prog Tryz.f3 (OpenSpec.ofChange Rows.pointRefusesSpec) false w args)
  (Rows.pointRefusesSpec.post enc Tryz.prog Tryz.f3 false true false false):=by
 refine returnsInHanded_of_change_and (C:=Tryz.checked) (X:=fun w _=>laidMetH Tryz.prog laid w) (fun _ _ _ hh h=>h.of_heap hh) own started (by kernel_rfl) Tryz.func3
  (ChangeSpec.witness_shaped (enc:=enc) (C:=Tryz.checked) (os:=os) (X:=fun w _=>laidMetH Tryz.prog laid w) false (World.doorLaid Tryz.prog 4000 os) #[.agg #[.int .i64 0,.int .i64 0,.int .u8 0,.int .i64 0,.int .u8 0,.int .i64 0,.slice none 0 0,.int .i64 0,.int .i64 0,.int .i64 0,.int .i64 0,.int .i64 0,.int .i64 0,.int .i64 0,.int .i64 0,.int .i64 0],.slice none 0 0,.slice none 0 0,.slice none 0 0] 12 rfl (World.shaped_of_RefB (by kernel_rfl) (by kernel_rfl)) (by kernel_rfl) (by kernel_rfl) (by kernel_rfl) (door_met os _)) ?_
 intro W base args ds gs before hval0 hW hcnd hsz hL _
 have hval:∀(j:Nat) t v,Tryz.f3.params[j]?=some t→args[j]?=some v→Value.okWide Tryz.prog W .any base t v:=hval0
 have hW':=hW
 obtain⟨p,q,hA0,hV,rfl,hfz,hnd⟩:=hW
 have hA:DataW.TrodAll enc Tryz.prog W 0 (fun _=>true) true Tryz.f3.params.toList args.toList ds p:=hA0
 rw[Tryz.params3]at hA hval
 obtain⟨v0,vs0,d0,ds0,p0,q0,hargs,rfl,rfl,h0,r0⟩:=trodAll_cons hA
 obtain⟨v1,vs1,d1,ds1,p1,q1,rfl,rfl,rfl,h1,r1⟩:=trodAll_cons r0
 obtain⟨v2,vs2,d2,ds2,p2,q2,rfl,rfl,rfl,h2,r2⟩:=trodAll_cons r1
 obtain⟨v3,vs3,d3,ds3,p3,q3,rfl,rfl,rfl,h3,r3⟩:=trodAll_cons r2
 obtain⟨rfl,rfl,rfl⟩:=trodAll_nil r3
 obtain rfl:args= #[v0,v1,v2,v3]:=by cases args;simp_all
 obtain⟨rfl,rfl⟩:=trodVars_none hV
 have z0:∀n∈d0.weights Tryz.prog 27,n≤reachBytes:=fun n hn=>by
  have:=List.all_eq_true.1 hsz n (DataW.weights_mem_each (j:=0) (t:=27) (d:=d0) (by rw[Tryz.params3];rfl) rfl n hn)
  simpa using this
 have z1:∀n∈d1.weights Tryz.prog 22,n≤reachBytes:=fun n hn=>by
  have:=List.all_eq_true.1 hsz n (DataW.weights_mem_each (j:=1) (t:=22) (d:=d1) (by rw[Tryz.params3];rfl) rfl n hn)
  simpa using this
 have z2:∀n∈d2.weights Tryz.prog 28,n≤reachBytes:=fun n hn=>by
  have:=List.all_eq_true.1 hsz n (DataW.weights_mem_each (j:=2) (t:=28) (d:=d2) (by rw[Tryz.params3];rfl) rfl n hn)
  simpa using this
 have z3:∀n∈d3.weights Tryz.prog 29,n≤reachBytes:=fun n hn=>by
  have:=List.all_eq_true.1 hsz n (DataW.weights_mem_each (j:=3) (t:=29) (d:=d3) (by rw[Tryz.params3];rfl) rfl n hn)
  simpa using this
 have lt0:∀x∈p0,x.block<W.heap.size:=by obtain⟨m,hm⟩:=h0;exact DataW.trod_lt m _ _ _ hm
 have lt1:∀x∈p1,x.block<W.heap.size:=by obtain⟨m,hm⟩:=h1;exact DataW.trod_lt m _ _ _ hm
 have lt2:∀x∈p2,x.block<W.heap.size:=by obtain⟨m,hm⟩:=h2;exact DataW.trod_lt m _ _ _ hm
 have lt3:∀x∈p3,x.block<W.heap.size:=by obtain⟨m,hm⟩:=h3;exact DataW.trod_lt m _ _ _ hm
 obtain⟨c,av,k0,e0,hv,hr,hlv,hin,hl⟩:=PR.openCfg (hval 0 27 v0 rfl rfl) h0 z0
 obtain⟨owl,ow,a1,b1,c1,l1⟩:=PR.openSl Tryz.underlying22 Tryz.underlying51 PR.cells51 PR.bytes51 (hval 1 22 v1 rfl rfl) h1 z1
 obtain⟨sel,se,a2,b2,c2,l2⟩:=PR.openSl Tryz.underlying28 Tryz.underlying3 PR.cells3 PR.bytes3 (hval 2 28 v2 rfl rfl) h2 z2
 obtain⟨arl,ar,a3,b3,c3,l3⟩:=PR.openAr (hval 3 29 v3 rfl rfl) h3 z3
 have k:=PR.law3 (of_laid hL) k0 e0 hv hr hlv hin hl a1 b1 c1 l1 a2 b2 c2 l2 a3 b3 c3 l3
 clear hA0 hval0
 refine k.mono fun e W' ⟨he,bel⟩=>?_
 subst he
 exact⟨_,rfl,_,_,_,[],_,[],hW',trodAll_mk1 (shut_bool Tryz.underlying4 _),(trodAll_cons_mk (Below.trod hLaid (by kernel_rfl) (of_decide_eq_true (by kernel_rfl)) h0 bel lt0) (trodAll_cons_mk (Below.trod hLaid (by kernel_rfl) (of_decide_eq_true (by kernel_rfl)) h1 bel lt1) (trodAll_cons_mk (Below.trod hLaid (by kernel_rfl) (of_decide_eq_true (by kernel_rfl)) h2 bel lt2) (trodAll_cons_mk (Below.trod hLaid (by kernel_rfl) (of_decide_eq_true (by kernel_rfl)) h3 bel lt3) trodAll_mk0)))),rfl,bel.frame _,fun h=>by cases h⟩
theorem over:Rows.PointRefusesSaid:=
 OpenClaim.holds_of_wide 3 Tryz.f3 rfl rfl rfl rfl rfl rfl rfl ⟨rfl,rfl,rfl,rfl,rfl⟩ rfl rfl rfl rfl rfl factNamed Tryz.func3 factJoined
  factInst factWrap
  (fun os started H enc _=>lifted os started H enc)
theorem wants27:Tryz.pinned.checked.prog.wantsStandIn 27=false:=by kernel_rfl
theorem wants22:Tryz.pinned.checked.prog.wantsStandIn 22=false:=by kernel_rfl
theorem wants28:Tryz.pinned.checked.prog.wantsStandIn 28=false:=by kernel_rfl
theorem wants29:Tryz.pinned.checked.prog.wantsStandIn 29=false:=by kernel_rfl
theorem proved:Rows.PointRefusesCardSaid:=
 Claim7.holds_tied_plain_at .later [] [.data] true (true,"33f3a8c1aed0f0f7ade1f5589833f236b7a0bb4e1332e6b80a3fe86b89bd9045") false
  over (fun _ h=>by cases h) cText (fun _ h=>by cases h) pointRefuses_row_tie rfl ⟨rfl,rfl⟩ cMain rfl
  (fun f fn hf hfn=>by
    obtain rfl:f=3:=Option.some.inj (factNamed.symm.trans hf)|>.symm
    obtain rfl:fn=Tryz.f3:=(Option.some.inj (Tryz.func3.symm.trans hfn)).symm
    exact⟨cLooks,fun j t ht=>by
        rw[Tryz.params3]at ht
        match j,ht with
        |0,ht=>
         obtain rfl:t=27:=(Option.some.inj ht).symm
         exact wants27
        |1,ht=>
         obtain rfl:t=22:=(Option.some.inj ht).symm
         exact wants22
        |2,ht=>
         obtain rfl:t=28:=(Option.some.inj ht).symm
         exact wants28
        |3,ht=>
         obtain rfl:t=29:=(Option.some.inj ht).symm
         exact wants29
        |j+4,ht=>cases ht⟩)
  cGoes
#print axioms proved
end Go.Proofs.YtghmnaojmpjglaaGreatDoor.pointRefuses
