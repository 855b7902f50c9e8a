/- The statement WeeksMoreSaid (further readings and marks narrow only) is proved here, without conditions. -/
import Derived.Test.YtfmckbjeofiegaaGreatM2
set_option maxRecDepth 100000
set_option maxHeartbeats 16000000
set_option linter.all false
open Go Go.RowKit Go.Proofs.Tryz
namespace Go.Proofs.YtfmckbjeofiegaaGreat.weeksMore
open Go
section
open Go.ChangeShapes Go.WideShapes Go.ChangeAt
theorem lifted(os:Os)(started:os.Started)(H:Type)(enc:TypeId×Value→H):
  ReturnsInHanded {} checked os 5 .any (Rows.weeksMoreSpec.pre6 enc prog f5 Rows.weeksMoreRow.domain false) (Rows.weeksMoreSpec.post enc prog f5 false true false false):=by
 refine returnsInHanded_of_change (C:=checked) knob started aF func5
  (ChangeSpec.witness6 (enc:=enc) (C:=checked) false ⟨#[],#[.agg #[.slice none 0 0,.int .i64 0,.int .i64 0,.int .i64 0,.int .i64 0,.int .i64 0,.int .i64 0,.slice none 0 0,.slice none 0 0],.agg #[.int .i64 0,.int .i64 0,.int .i64 0,.int .i64 0,.int .i64 0],.agg #[.int .i64 0,.int .i64 0,.int .i64 0],.agg #[.int .i64 0,.int .i64 0,.int .i64 0,.int .i64 0,.int .i64 0,.int .i64 0,.int .i64 0]],[]⟩ 8 aF aF aF aF) ?_
 intro W base args ds gs before hval0 hW _ _;have hval:∀(j:Nat) t v,f5.params[j]?=some t→args[j]?=some v→Value.okWide prog W .any base t v:=hval0;have hW':=hW;obtain⟨p,q,QF,hV,rfl,_,_⟩:=hW;have hA:DataW.TrodAll enc prog W 0 (λ_=>true) true f5.params.toList args.toList ds p:=QF;rw[params5]at hA hval;have hA1:=hA;clear QF hval0;obtain⟨v0,vs0,d0,ds0,p0,q0,hargs,rfl,rfl,h0,r0⟩:=trodAll_cons hA;obtain⟨v1,vs1,d1,ds1,p1,q1,rfl,rfl,rfl,h1,r1⟩:=trodAll_cons r0;obtain⟨v2,vs2,d2,ds2,p2,q2,rfl,rfl,rfl,h2,r2⟩:=trodAll_cons r1;obtain⟨v3,vs3,d3,ds3,p3,q3,rfl,rfl,rfl,h3,r3⟩:=trodAll_cons r2;obtain⟨rfl,rfl,rfl⟩:=trodAll_nil r3
 obtain rfl:args=#[v0,v1,v2,v3]:=by cases args;simp_all
 obtain⟨rfl,rfl⟩:=trodVars_none hV;obtain⟨x0,cx0,rfl,hx0⟩:=anC (hval 0 30 v0 rfl rfl) h0;obtain⟨y1,rfl⟩:=ayy (hval 1 43 v1 rfl rfl) h1;obtain⟨y2,rfl⟩:=axd (hval 2 45 v2 rfl rfl) h2;obtain⟨a30,a31,a32,a33,a34,a35,a36,rfl,ra3⟩:=aqH (hval 3 47 v3 rfl rfl) h3;refine(aBS x0 cx0 y1 y2 a30 a31 a32 a33 a34 a35 a36 W hx0 ra3).mono λe W' ⟨he,hb⟩=>?_;subst he;exact⟨_,rfl,⟨_,_,_,[],_,[],hW',trodAll_mk1 (shut_bool underlying4 true),ant laidOut hb _ _ _ _ aF hA1 (λx hx=>hW'.lt x (by simpa using hx)),rfl,hb.frame _,λh=>ze⟩⟩
theorem k0:(Rows.weeksMoreRow.wf (OpenSpec.ofChange Rows.weeksMoreSpec))=true:=aF
theorem k3:(f5.params.all (prog.readableRec ·))=true:=aF
theorem k4:(namedTie prog Rows.weeksMoreRow.named Rows.weeksMoreSpec.vars)=true:=aF
theorem k5:((Rows.weeksMoreRow.stops==[]))=true:=aF
theorem k6:((prog.stops==[]))=true:=aF
theorem k7:((Rows.weeksMoreRow.knobs==[]))=true:=aF
theorem k8:((prog.stopKnobs==[]))=true:=aF
theorem k9:((Rows.weeksMoreRow.inPlace==prog.inPlace 5))=true:=aF
theorem k10:((Rows.weeksMoreRow.unfollowed==prog.unfollowed 5))=true:=aF
theorem k11:((Rows.weeksMoreRow.recurses==prog.recurses 5))=true:=aF
theorem k12:((Rows.weeksMoreRow.named==prog.varsNamed 5))=true:=aF
theorem k13:((Rows.weeksMoreRow.maps==(f5.params.toList++Rows.weeksMoreSpec.plain.varTypes prog).any (prog.mapsRec ·)))=true:=aF
theorem k14:((Rows.weeksMoreRow.ifaces==(f5.params.toList++Rows.weeksMoreSpec.plain.varTypes prog).any (prog.ifacesRec ·)))=true:=aF
theorem k15:((Rows.weeksMoreRow.mapsOut==prog.mapsAmong f5.resultTypes.toList))=true:=aF
theorem k16:((Rows.weeksMoreRow.loops==(f5.params.toList++Rows.weeksMoreSpec.plain.varTypes prog).any (prog.loopsFrom ·)))=true:=aF
theorem k17:((Rows.weeksMoreRow.wideKeys==(f5.params.toList++Rows.weeksMoreSpec.plain.varTypes prog++f5.resultTypes.toList).any (prog.wideKeysFrom ·)))=true:=aF
theorem k18:(Rows.weeksMoreSpec.vars.all (prog.varReadable ·))=true:=aF
theorem k19:(f5.resultTypes.all (λt=>prog.readableRec t&&decide (t<prog.types.size)))=true:=aF
theorem k20:((Rows.weeksMoreRow.ifacesOut==f5.resultTypes.toList.any (prog.ifacesRec ·)))=true:=aF
theorem k21:((Rows.weeksMoreRow.loopsOut==f5.resultTypes.toList.any (prog.loopsFrom ·)))=true:=aF
theorem k22:((Rows.weeksMoreRow.plainKeys==prog.plainKeys))=true:=aF
theorem k23:(Rows.weeksMoreRow.shortTexts.isNone)=true:=aF
theorem k26:((Rows.weeksMoreRow.lifted==prog.liftsFinal))=true:=aF
theorem k27:((prog.make==some Rows.weeksMoreRow.make))=true:=aF
theorem k28:((Rows.weeksMoreRow.kinds==(if Rows.weeksMoreRow.domain.isEmpty then []else f5.params.toList.map λt=>match prog.underlying t with|some (.int k)=>some k|_=>none)))=true:=aF
theorem k29:((Rows.weeksMoreRow.pinned==Rows.weeksMoreRow.pinnedBy))=true:=aF
theorem k30:((Rows.weeksMoreRow.veiled==(f5.params.toList++Rows.weeksMoreSpec.plain.varTypes prog++f5.resultTypes.toList).any (prog.veiledRec ·)))=true:=aF
theorem k31:(Rows.weeksMoreRow.veiledFits prog f5.params.toList (f5.params.toList++Rows.weeksMoreSpec.plain.varTypes prog++f5.resultTypes.toList))=true:=aF
theorem closed:joinedFacts prog 5 f5 Rows.weeksMoreSpec Rows.weeksMoreRow=true:=(dP (dP (dP (dP (dP (dP (dP (dP (dP (dP (dP (dP (dP (dP (dP (dP (dP (dP (dP (dP (dP (dP (dP (dP (dP (dP (dP (dP (dP (dP (dP k0 laidOut) ak4) k3) k4) k5) k6) k7) k8) k9) k10) k11) k12) k13) k14) k15) k16) k17) k18) k19) k20) k21) k22) k23) heard) ak6) k26) k27) k28) k29) k30) k31)
theorem named:prog.funcNamed Rows.weeksMoreRow.func=some 5:=aF
theorem inst:f5.isInstance prog Rows.weeksMoreRow.origin Rows.weeksMoreRow.targs:=EN aF
theorem wrap:f5.isWrapper prog Rows.weeksMoreRow.wrapper Rows.weeksMoreRow.mainSum:=aA0
theorem proved:Rows.WeeksMoreSaid:=
 OpenClaim.holds_of_wide 5 f5 rfl rfl rfl rfl rfl rfl rfl ⟨rfl,rfl,rfl,rfl,rfl⟩ rfl rfl rfl rfl rfl named func5 closed inst wrap
  (λos started H enc _=>lifted os started H enc)
end
end Go.Proofs.YtfmckbjeofiegaaGreat.weeksMore
