/-
  'CompactFullCardSaid': whatever the input, the law CompactFull returns true and the input reads as it did; the table of crc is tied to the program's text. No condition.
-/
import Derived.Test.YtihngncbioofnaaGreatDoorJ14
import Derived.Test.YtihngncbioofnaaGreatDoorRows
import Derived.Test.YtihngncbioofnaaGreatDoorCards
import Derived.Test.YtihngncbioofnaaGreatDoorTie
import Derived.ProofKit
import Derived.LaidMore
import Derived.OpenShut
import Derived.ShutString
import Derived.SevenTiedAt
set_option maxRecDepth 100000
set_option linter.unusedVariables false
set_option maxHeartbeats 128000000
namespace Go.Proofs.YtihngncbioofnaaGreatDoor.fullS
open Go.ChangeShapes Go.WideShapes Go.ChangeAt Go.RowKit
open Go.ChangeMaps (open_string shut_string)
open Go Go.Sl Go.ay Go.Proofs.YtihngncbioofnaaGreatDoor.card
theorem walk {W:World}{v2:Value} (z0:Int) (w0:qo z0) (z1:Int) (w1:qo z1) (l2:List QD) (r2:bG 37 v2 (kF l2) W) (c2:lQ v2) (i2:∀ d∈l2,d.At W) (z3:Int) (w3:qo z3) (h:0<W.heap.size∧Half W) :
  Calls Tryz.prog 5 #[.int .i64 z0,.int .i64 z1,v2,.int .i64 z3] W fun e w'=>e = .returned (.bool true)∧Below W.heap.size W w':=by
 refine (aeV (F:=[Sl.old W]) z0 z1 z3 l2 (Qq r2) (fun d hd=>(i2 d hd).ro) (fun w hw i hi=>(hw.below.cell (p:=⟨0,i,none⟩) h.1).trans (h.2 i hi)) (Sat.start W)).mono ?_;rintro e w' ⟨v,rfl,rfl,hS⟩;exact ⟨rfl,hS.below⟩
theorem lifted (os:Os) (started:os.Started) (H:Type) (enc:TypeId×Value→H) :
  ReturnsInHanded {} Tryz.checked os 5 .any (fun w args=>(Rows.compactFullSpec.pre enc Tryz.prog Tryz.f5 [] false w args∧laidMetH Tryz.prog [("hoard/crc.half",Rows.laid_hoard_crc_half)] w)∧sizedMet enc Tryz.prog Tryz.f5 (OpenSpec.ofChange Rows.compactFullSpec) false w args)
   (Rows.compactFullSpec.post enc Tryz.prog Tryz.f5 false true false false):=by
 refine returnsInHanded_of_change_and (C:=Tryz.checked) (X:=fun w _=>laidMetH Tryz.prog [("hoard/crc.half",Rows.laid_hoard_crc_half)] w) (fun _ _ _ hh h=>h.of_heap hh) own started au Tryz.func5
  (ChangeSpec.witness_shaped (enc:=enc) (C:=Tryz.checked) (os:=os) (X:=fun w _=>laidMetH Tryz.prog [("hoard/crc.half",Rows.laid_hoard_crc_half)] w) false (World.doorLaid Tryz.prog 400 os) #[.int .i64 0,.int .i64 0,.slice none 0 0,.int .i64 0] 8 rfl (World.shaped_of_RefB au au) au au au (door_met os _)) ?_
 intro W base args ds gs before hval0 hW _ _ hL _;have hval:∀ (j:Nat) t v,Tryz.f5.params[j]?=some t→args[j]?=some v→Value.okWide Tryz.prog W .any base t v:=hval0;have hW':=hW;obtain ⟨p,q,hA0,hV,rfl,hfz,hnd⟩:=hW;have hA:DataW.TrodAll enc Tryz.prog W 0 (fun _=>true) true Tryz.f5.params.toList args.toList ds p:=hA0;rw [Tryz.params5]at hA hval;obtain ⟨v0,vs0,d0,ds0,p0,q0,hargs,rfl,rfl,h0,r0⟩:=trodAll_cons hA;obtain ⟨v1,vs1,d1,ds1,p1,q1,rfl,rfl,rfl,h1,r1⟩:=trodAll_cons r0;obtain ⟨v2,vs2,d2,ds2,p2,q2,rfl,rfl,rfl,h2,r2⟩:=trodAll_cons r1;obtain ⟨v3,vs3,d3,ds3,p3,q3,rfl,rfl,rfl,h3,r3⟩:=trodAll_cons r2;obtain ⟨rfl,rfl,rfl⟩:=trodAll_nil r3;obtain rfl:args=#[v0,v1,v2,v3]:=by cases args;simp_all
 obtain ⟨rfl,rfl⟩:=trodVars_none hV;obtain ⟨z0,rfl⟩:=okWide_int Tryz.underlying3 (hval 0 3 v0 rfl rfl);obtain ⟨z1,rfl⟩:=okWide_int Tryz.underlying3 (hval 1 3 v1 rfl rfl);obtain ⟨a2,len2,cap2,rfl⟩:=okWide_slice Tryz.underlying22 (hval 2 22 v2 rfl rfl);obtain ⟨z3,rfl⟩:=okWide_int Tryz.underlying3 (hval 3 3 v3 rfl rfl);have k0:=h0;have k1:=h1;have k2:=h2;have k3:=h3;have lt0:∀ x∈p0,x.block<W.heap.size:=by obtain ⟨m,hm⟩:=k0;exact DataW.trod_lt m _ _ _ hm
 have lt1:∀ x∈p1,x.block<W.heap.size:=by obtain ⟨m,hm⟩:=k1;exact DataW.trod_lt m _ _ _ hm
 have lt2:∀ x∈p2,x.block<W.heap.size:=by obtain ⟨m,hm⟩:=k2;exact DataW.trod_lt m _ _ _ hm
 have lt3:∀ x∈p3,x.block<W.heap.size:=by obtain ⟨m,hm⟩:=k3;exact DataW.trod_lt m _ _ _ hm
 have w0:qo z0:=by
  obtain ⟨fuel,hf⟩:=h0;obtain ⟨n,hn,_,hw⟩:=aok Tryz.underlying3 hf;obtain rfl:z0=n:=by simpa [Value.cells] using hn
  exact bounds_i64 hw
 have w1:qo z1:=by
  obtain ⟨fuel,hf⟩:=h1;obtain ⟨n,hn,_,hw⟩:=aok Tryz.underlying3 hf;obtain rfl:z1=n:=by simpa [Value.cells] using hn
  exact bounds_i64 hw
 obtain ⟨l2,r2,c2,i2⟩:∃ ds:List QD,bG 37 (.slice a2 len2 cap2) (kF ds) W∧lQ (.slice a2 len2 cap2)∧∀ d∈ds,d.At W:=by
  obtain ⟨fuel,hf⟩:=h2;exact ahq hf
 have w3:qo z3:=by
  obtain ⟨fuel,hf⟩:=h3;obtain ⟨n,hn,_,hw⟩:=aok Tryz.underlying3 hf;obtain rfl:z3=n:=by simpa [Value.cells] using hn
  exact bounds_i64 hw
 clear hA0 hval0;refine (walk z0 w0 z1 w1 l2 r2 c2 i2 z3 w3 (of_laid hL)).mono fun e W' ⟨he,bel⟩=>?_;subst he;exact ⟨_,rfl,_,_,_,[],_,[],hW',trodAll_mk1 (shut_bool Tryz.underlying4 _),(trodAll_cons_mk (Below.trod laidOut au (ail au) k0 bel lt0) (trodAll_cons_mk (Below.trod laidOut au (ail au) k1 bel lt1) (trodAll_cons_mk (Below.trod laidOut au (ail au) k2 bel lt2) (trodAll_cons_mk (Below.trod laidOut au (ail au) k3 bel lt3) trodAll_mk0)))),rfl,bel.frame _,fun h=>by cases h⟩
theorem ad1 {a b:Bool} (h:a=true) (k:b=true):(a && b)=true:=by rw [h,k];rfl
theorem jwf:Rows.compactFullRow.wf (OpenSpec.ofChange Rows.compactFullSpec)=true:=by kernel_rfl
theorem jin:(Rows.compactFullRow.inPlace==Tryz.pinned.checked.prog.inPlace 5)=true:=by kernel_rfl
theorem jun:(Rows.compactFullRow.unfollowed==Tryz.pinned.checked.prog.unfollowed 5)=true:=by kernel_rfl
theorem jre:(Rows.compactFullRow.recurses==Tryz.pinned.checked.prog.recurses 5)=true:=by kernel_rfl
theorem jna:(Rows.compactFullRow.named==Tryz.pinned.checked.prog.varsNamed 5)=true:=by kernel_rfl
theorem jpk:(Rows.compactFullRow.plainKeys==Tryz.pinned.checked.prog.plainKeys)=true:=by kernel_rfl
theorem jhe:Tryz.pinned.checked.prog.stopsHeard=true:=by kernel_rfl
theorem jma:Tryz.pinned.checked.prog.mayEnter=true:=by kernel_rfl
theorem jli:(Rows.compactFullRow.lifted==Tryz.pinned.checked.prog.liftsFinal)=true:=by kernel_rfl
theorem Zp:Tryz.pinned.checked.prog.funcNamed Rows.compactFullRow.func=some 5:=by kernel_rfl
theorem goF:false=Rows.compactFullRow.goesBy Tryz.pinned.checked.prog:=by kernel_rfl
theorem lkF:false=Tryz.pinned.checked.prog.looks []:=by kernel_rfl
theorem wrF:Func.isWrapper Tryz.pinned.checked.prog Tryz.f5 Rows.compactFullRow.wrapper Rows.compactFullRow.mainSum:=by unfold Func.isWrapper;first|(rw [acr (by decide +kernel)];kernel_rfl)|(rw [abA (by decide +kernel)];exact ⟨rfl,rfl⟩)
theorem jfa:joinedFacts Tryz.pinned.checked.prog 5 Tryz.f5 Rows.compactFullSpec Rows.compactFullRow=true:=by
 unfold joinedFacts
 repeat' (with_reducible apply ad1)
 all_goals first|with_reducible exact jwf|with_reducible exact jin|with_reducible exact jun|with_reducible exact jre|with_reducible exact jna|with_reducible exact jpk|with_reducible exact jhe|with_reducible exact jma|with_reducible exact jli|kernel_rfl
theorem over:Rows.compactFullRow.holds Tryz.pinned (OpenSpec.ofChange Rows.compactFullSpec):=
 OpenClaim.holds_of_wide 5 Tryz.f5 rfl rfl rfl rfl rfl rfl rfl ⟨rfl,rfl,rfl,rfl,rfl⟩ rfl rfl rfl rfl rfl Zp Tryz.func5 jfa
  (ail au) wrF
  (fun os started H enc _=>lifted os started H enc)
theorem proved:Rows.CompactFullCardSaid:=
 Claim7.holds_tied_plain_at .later [] [.data] true (true, "ecf8284fd57b8bc23068e520d8df830b7ca879469dd0ab3087fe19523b2d7fb4") false
  over (fun _ h=>by cases h) au (fun _ h=>by cases h) compactFull_row_tie rfl ⟨rfl,rfl⟩ au rfl
  (fun f fn hf hfn=>by
   obtain rfl:f=5:=ahM (Zp.symm.trans hf) |>.symm;obtain rfl:fn=Tryz.f5:=(ahM (Tryz.func5.symm.trans hfn)).symm
   exact ⟨lkF,fun j t ht=>by
    rw [Tryz.params5]at ht;have h3:t=3∨t=22:=by
     rcases j with _|_|_|_|j
     ·left;simpa using ht.symm
     ·left;simpa using ht.symm
     ·right;simpa using ht.symm
     ·left;simpa using ht.symm
     ·simp at ht
    rcases h3 with rfl|rfl
    ·exact (show Tryz.prog.wantsStandIn 3=false by kernel_rfl)
    ·exact (show Tryz.prog.wantsStandIn 22=false by kernel_rfl)⟩)
  goF
#print axioms proved
end Go.Proofs.YtihngncbioofnaaGreatDoor.fullS
