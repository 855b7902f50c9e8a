/- The statement WeeksNeighboursSaid (neighbours narrow only) is proved here, without conditions. -/
import Derived.Test.YtfmckbjeofiegaaGreatN1
set_option maxRecDepth 100000
set_option maxHeartbeats 16000000
set_option linter.all false
open Go Go.RowKit Go.Proofs.Tryz
namespace Go.Proofs.YtfmckbjeofiegaaGreat.weeksNeighbours
open Go
section
open Go.ChangeShapes Go.WideShapes Go.ChangeAt
theorem lifted(os:Os)(started:os.Started)(H:Type)(enc:TypeId×Value→H):
  ReturnsInHanded {} checked os 4 .any (Rows.weeksNeighboursSpec.pre6 enc prog f4 Rows.weeksNeighboursRow.domain false) (Rows.weeksNeighboursSpec.post enc prog f4 false true false false):=by
 refine returnsInHanded_of_change (C:=checked) knob started aF func4
  (ChangeSpec.witness6 (enc:=enc) (C:=checked) false ⟨#[],#[.agg #[.slice none 0 0,.int .i64 0,.int .i64 0,.int .i64 0,.int .i64 0,.int .i64 0,.int .i64 0,.slice none 0 0,.slice none 0 0],.int .i64 0,.int .i64 0],[]⟩ 8 aF aF aF aF) ?_
 intro W base args ds gs before hval0 hW _ _;have hval:∀(j:Nat) t v,f4.params[j]?=some t→args[j]?=some v→Value.okWide prog W .any base t v:=hval0;have hW':=hW;obtain⟨p,q,QF,hV,rfl,_,_⟩:=hW;have hA:DataW.TrodAll enc prog W 0 (λ_=>true) true f4.params.toList args.toList ds p:=QF;rw[params4]at hA hval;have hA1:=hA;clear QF hval0;obtain⟨v0,vs0,d0,ds0,p0,q0,hargs,rfl,rfl,h0,r0⟩:=trodAll_cons hA;obtain⟨v1,vs1,d1,ds1,p1,q1,rfl,rfl,rfl,h1,r1⟩:=trodAll_cons r0;obtain⟨v2,vs2,d2,ds2,p2,q2,rfl,rfl,rfl,h2,r2⟩:=trodAll_cons r1;obtain⟨rfl,rfl,rfl⟩:=trodAll_nil r2
 obtain rfl:args=#[v0,v1,v2]:=by cases args;simp_all
 obtain⟨rfl,rfl⟩:=trodVars_none hV;obtain⟨x0,cx0,rfl,hx0⟩:=anC (hval 0 30 v0 rfl rfl) h0;obtain⟨n1,rfl,_,_,_⟩:=open_int underlying3 (hval 1 3 v1 rfl rfl) h1;obtain⟨n2,rfl,_,_,_⟩:=open_int underlying3 (hval 2 3 v2 rfl rfl) h2;refine(aBT x0 cx0 n1 n2 W hx0).mono λe W' ⟨he,hb⟩=>?_;subst he;exact⟨_,rfl,⟨_,_,_,[],_,[],hW',trodAll_mk1 (shut_bool underlying4 true),ant laidOut hb _ _ _ _ aF hA1 (λx hx=>hW'.lt x (by simpa using hx)),rfl,hb.frame _,λh=>ze⟩⟩
theorem k0:(Rows.weeksNeighboursRow.wf (OpenSpec.ofChange Rows.weeksNeighboursSpec))=true:=aF
theorem k3:(f4.params.all (prog.readableRec ·))=true:=aF
theorem k4:(namedTie prog Rows.weeksNeighboursRow.named Rows.weeksNeighboursSpec.vars)=true:=aF
theorem k5:((Rows.weeksNeighboursRow.stops==[]))=true:=aF
theorem k6:((prog.stops==[]))=true:=aF
theorem k7:((Rows.weeksNeighboursRow.knobs==[]))=true:=aF
theorem k8:((prog.stopKnobs==[]))=true:=aF
theorem k9:((Rows.weeksNeighboursRow.inPlace==prog.inPlace 4))=true:=aF
theorem k10:((Rows.weeksNeighboursRow.unfollowed==prog.unfollowed 4))=true:=aF
theorem k11:((Rows.weeksNeighboursRow.recurses==prog.recurses 4))=true:=aF
theorem k12:((Rows.weeksNeighboursRow.named==prog.varsNamed 4))=true:=aF
theorem k13:((Rows.weeksNeighboursRow.maps==(f4.params.toList++Rows.weeksNeighboursSpec.plain.varTypes prog).any (prog.mapsRec ·)))=true:=aF
theorem k14:((Rows.weeksNeighboursRow.ifaces==(f4.params.toList++Rows.weeksNeighboursSpec.plain.varTypes prog).any (prog.ifacesRec ·)))=true:=aF
theorem k15:((Rows.weeksNeighboursRow.mapsOut==prog.mapsAmong f4.resultTypes.toList))=true:=aF
theorem k16:((Rows.weeksNeighboursRow.loops==(f4.params.toList++Rows.weeksNeighboursSpec.plain.varTypes prog).any (prog.loopsFrom ·)))=true:=aF
theorem k17:((Rows.weeksNeighboursRow.wideKeys==(f4.params.toList++Rows.weeksNeighboursSpec.plain.varTypes prog++f4.resultTypes.toList).any (prog.wideKeysFrom ·)))=true:=aF
theorem k18:(Rows.weeksNeighboursSpec.vars.all (prog.varReadable ·))=true:=aF
theorem k19:(f4.resultTypes.all (λt=>prog.readableRec t&&decide (t<prog.types.size)))=true:=aF
theorem k20:((Rows.weeksNeighboursRow.ifacesOut==f4.resultTypes.toList.any (prog.ifacesRec ·)))=true:=aF
theorem k21:((Rows.weeksNeighboursRow.loopsOut==f4.resultTypes.toList.any (prog.loopsFrom ·)))=true:=aF
theorem k22:((Rows.weeksNeighboursRow.plainKeys==prog.plainKeys))=true:=aF
theorem k23:(Rows.weeksNeighboursRow.shortTexts.isNone)=true:=aF
theorem k26:((Rows.weeksNeighboursRow.lifted==prog.liftsFinal))=true:=aF
theorem k27:((prog.make==some Rows.weeksNeighboursRow.make))=true:=aF
theorem k28:((Rows.weeksNeighboursRow.kinds==(if Rows.weeksNeighboursRow.domain.isEmpty then []else f4.params.toList.map λt=>match prog.underlying t with|some (.int k)=>some k|_=>none)))=true:=aF
theorem k29:((Rows.weeksNeighboursRow.pinned==Rows.weeksNeighboursRow.pinnedBy))=true:=aF
theorem k30:((Rows.weeksNeighboursRow.veiled==(f4.params.toList++Rows.weeksNeighboursSpec.plain.varTypes prog++f4.resultTypes.toList).any (prog.veiledRec ·)))=true:=aF
theorem k31:(Rows.weeksNeighboursRow.veiledFits prog f4.params.toList (f4.params.toList++Rows.weeksNeighboursSpec.plain.varTypes prog++f4.resultTypes.toList))=true:=aF
theorem closed:joinedFacts prog 4 f4 Rows.weeksNeighboursSpec Rows.weeksNeighboursRow=true:=(dP (dP (dP (dP (dP (dP (dP (dP (dP (dP (dP (dP (dP (dP (dP (dP (dP (dP (dP (dP (dP (dP (dP (dP (dP (dP (dP (dP (dP (dP (dP k0 laidOut) ak4) k3) k4) k5) k6) k7) k8) k9) k10) k11) k12) k13) k14) k15) k16) k17) k18) k19) k20) k21) k22) k23) heard) ak6) k26) k27) k28) k29) k30) k31)
theorem named:prog.funcNamed Rows.weeksNeighboursRow.func=some 4:=aF
theorem inst:f4.isInstance prog Rows.weeksNeighboursRow.origin Rows.weeksNeighboursRow.targs:=EN aF
theorem wrap:f4.isWrapper prog Rows.weeksNeighboursRow.wrapper Rows.weeksNeighboursRow.mainSum:=aA0
theorem proved:Rows.WeeksNeighboursSaid:=
 OpenClaim.holds_of_wide 4 f4 rfl rfl rfl rfl rfl rfl rfl ⟨rfl,rfl,rfl,rfl,rfl⟩ rfl rfl rfl rfl rfl named func4 closed inst wrap
  (λos started H enc _=>lifted os started H enc)
end
end Go.Proofs.YtfmckbjeofiegaaGreat.weeksNeighbours
