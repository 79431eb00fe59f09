/- Proved here: ProgramFits return true at every input that their statements speak of, and leave what was handed in as it read; conditions: none beyond those of the statements. -/
import Derived.Test.YtpbgmkhmdbchpaaGreatDoorWProgramFitsB5
import Derived.Test.YtpbgmkhmdbchpaaGreatDoorTie
import Derived.Test.YtpbgmkhmdbchpaaGreatDoorCards
import Derived.SevenTiedAt
set_option linter.unusedVariables false
set_option linter.unusedSimpArgs false
set_option linter.unusedSectionVars false
set_option maxRecDepth 20000
namespace Go.Proofs.YtpbgmkhmdbchpaaGreatDoor
open Go Go.Sx Go.ChangeShapes Go.WideShapes Go.ChangeAt Go.RowKit
namespace programFits
set_option maxRecDepth 100000 in
theorem lifted (os:Os) (started:os.Started) (H:Type) (enc:TypeId×Value→H):
    ReturnsInHanded {} Tryz.checked os 4 .any (fun w args=>(Rows.programFitsSpec.pre enc Tryz.prog Tryz.f4 [] false w args∧laidMetH Tryz.prog CH w)∧sizedMet enc Tryz.prog Tryz.f4 (OpenSpec.ofChange Rows.programFitsSpec) false w args)
      (Rows.programFitsSpec.post enc Tryz.prog Tryz.f4 false true false false):=by
  refine C3 (C:=Tryz.checked) (X:=fun w _=>laidMetH Tryz.prog CH w) (fun _ _ _ hh h=>h.of_heap hh) own started iA Tryz.func4
    (ChangeSpec.witness_shaped (enc:=enc) (C:=Tryz.checked) (os:=os) (X:=fun w _=>laidMetH Tryz.prog CH w) false (World.doorLaid Tryz.prog 400 os) #[.string ByteArray.empty,.string ByteArray.empty] 8 rfl (World.shaped_of_RefB iA iA) iA iA iA (Nf os _)) ?_
  intro W base args ds gs before RE hW _ hL hsh
  have Ft:∀(j:Nat) t v,Tryz.f4.params[j]?=some t→args[j]?=some v→Value.okWide Tryz.prog W .any base t v:=RE
  have hW':=hW
  obtain ⟨p,q,hA0,hV,rfl,hfz,r8⟩:=hW
  have hA:DataW.TrodAll enc Tryz.prog W 0 (fun _=>true) true Tryz.f4.params.toList args.toList ds p:=hA0
  rw [Tryz.params4] at hA Ft
  obtain ⟨v0,vs0,d0,ds0,p0,q0,af9,rfl,rfl,h0,r0⟩:=trodAll_cons hA
  obtain ⟨v1,vs1,d1,ds1,p1,q1,rfl,rfl,rfl,h1,r1⟩:=trodAll_cons r0
  obtain ⟨rfl,rfl,rfl⟩:=trodAll_nil r1
  obtain rfl:args= #[v0,v1]:=by cases args;simp_all
  obtain ⟨rfl,rfl⟩:=trodVars_none hV
  have hT:=EE hL
  have lw:=PA hsh
  obtain ⟨a0,rfl,rfl,rfl,y0⟩:=Go.ChangeMaps.open_string Tryz.underlying9 (Ft 0 9 v0 rfl rfl) h0
  obtain ⟨a1,rfl,rfl,rfl,y1⟩:=Go.ChangeMaps.open_string Tryz.underlying9 (Ft 1 9 v1 rfl rfl) h1
  clear hA0 RE
  refine (Je a0 a1 W hT lw).mono fun e W' ⟨v,he,hv,hu⟩=>?_
  subst he;subst hv
  have bel:=N9 hu
  exact ⟨_,rfl,_,_,_,[],_,[],hW',trodAll_mk1 (shut_bool Tryz.underlying4 _),trodAll_cons_mk (Go.ChangeMaps.shut_string Tryz.underlying9 y0) (trodAll_cons_mk (Go.ChangeMaps.shut_string Tryz.underlying9 y1) trodAll_mk0),rfl,bel.frame _,fun h=>by cases h⟩
theorem holds:Rows.ProgramFitsSaid:=
  OpenClaim.holds_of_wide 4 Tryz.f4 rfl rfl rfl rfl rfl rfl rfl ⟨rfl,rfl,rfl,rfl,rfl⟩ rfl rfl rfl rfl rfl iA Tryz.func4 iA
    (of_decide_eq_true iA) (by unfold Func.isWrapper;first|(rw [if_pos (by decide+kernel)];kernel_rfl)|(rw [if_neg (by decide+kernel)];exact ⟨rfl,rfl⟩))
    (fun os started H enc _=>lifted os started H enc)
end programFits
theorem programFits_card_holds:Rows.ProgramFitsCardSaid:=
  Claim7.holds_tied_plain_at .later [] [.data] true (true, "1f42cf79b17d3087fb53cef0632e8765a7447dfe06b6cbb8c8ba2dc2905c1601") false
    programFits.holds (fun _ h=>by cases h) iA (fun _ h=>by cases h) programFits_row_tie rfl ⟨rfl,rfl⟩ iA rfl
    (fun f fn hf X2=>by
      obtain rfl:f=4:=Option.some.inj ((show Tryz.prog.funcNamed "tatting/tattinglaw15.ProgramFits" =some 4 by kernel_rfl).symm.trans hf)|>.symm
      obtain rfl:fn=Tryz.f4:=(Option.some.inj (Tryz.func4.symm.trans X2)).symm
      exact ⟨by kernel_rfl,fun j t ht=>by
        rw [Tryz.params4] at ht
        have hm:t∈[9,9]:=by simpa using Array.mem_of_getElem? ht
        have jv:([9,9].all fun u=> !Tryz.prog.wantsStandIn u)=true:=by kernel_rfl
        exact (show Tryz.prog.wantsStandIn t=false by simpa using List.all_eq_true.1 jv t hm)⟩)
    iA
end Go.Proofs.YtpbgmkhmdbchpaaGreatDoor
