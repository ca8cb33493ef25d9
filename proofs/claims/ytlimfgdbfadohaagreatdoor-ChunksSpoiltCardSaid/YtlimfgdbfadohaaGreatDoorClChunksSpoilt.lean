/-
  'ChunksSpoiltCardSaid': whatever the input, the law ChunksSpoilt returns true and the input reads as it did; the tables of crc and sha are tied to the program's text. No condition.
-/
import Derived.Test.YtlimfgdbfadohaaGreatDoorJ12
import Derived.Test.YtlimfgdbfadohaaGreatDoorRows
import Derived.Test.YtlimfgdbfadohaaGreatDoorCards
import Derived.Test.YtlimfgdbfadohaaGreatDoorTie
import Derived.ProofKit
import Derived.LaidMore
import Derived.OpenShut
import Derived.ShutString
import Derived.SevenTiedAt
set_option linter.unusedVariables false
set_option maxHeartbeats 128000000
namespace Go.Proofs.YtlimfgdbfadohaaGreatDoor.spoiltS
open Go.ChangeShapes Go.WideShapes Go.ChangeAt Go.RowKit
open Go.ChangeMaps (open_string shut_string)
open Go Go.Sl Go.Med Go.Proofs.YtlimfgdbfadohaaGreatDoor.card
theorem walk {W:World}{v1:Value} (z0:Int) (w0:inI z0) (l1:List (Value×Frm.Bs)) (r1:rdsl 1 v1 (txV l1) W) (c1:capOk v1) (i1:∀ d∈l1,rdsl 1 d.1 (bys d.2) W∧capOk d.1) (z2:Int) (w2:inI z2) (z3:Int) (w3:inI z3) (z4:Int) (w4:0≤z4∧z4≤255) (h:2<W.heap.size∧0<W.heap.size∧Half W∧ShaK W) :
  Calls Tryz.prog 3 #[.int .i64 z0,v1,.int .i64 z2,.int .i64 z3,.int .u8 z4] W fun e w'=>e = .returned (.bool true)∧Below W.heap.size W w':=by
 obtain ⟨y,rfl⟩:∃ y:UInt8,z4=(y.toNat:Int):=⟨UInt8.ofNat z4.toNat,by rw [UInt8.toNat_ofNat'];omega⟩
 refine (chunks_spoilt_c (F:=[Sl.old W]) z0 z2 z3 y l1 (rd_old r1) c1 (fun d hd=>⟨rd_old (i1 d hd).1,(i1 d hd).2⟩) (fun w hw i hi=>(hw.below.cell (p:=⟨2,i,none⟩) h.1).trans (h.2.2.1 i hi)) (fun w hw i hi=>(hw.below.cell (p:=⟨0,i,none⟩) h.2.1).trans (h.2.2.2 i hi)) (Sat.start W)).mono ?_
 rintro e w' ⟨v,rfl,rfl,hS⟩
 exact ⟨rfl,hS.below⟩
set_option maxRecDepth 100000 in
theorem lifted (os:Os) (started:os.Started) (H:Type) (enc:TypeId×Value→H) :
  ReturnsInHanded {} Tryz.checked os 3 .any (fun w args=>(Rows.chunksSpoiltSpec.pre enc Tryz.prog Tryz.f3 [] false w args∧laidMetH Tryz.prog [("hoard/crc.half",Rows.laid_hoard_crc_half),("hoard/sha.k",Rows.laid_hoard_sha_k)] w)∧sizedMet enc Tryz.prog Tryz.f3 (OpenSpec.ofChange Rows.chunksSpoiltSpec) false w args)
   (Rows.chunksSpoiltSpec.post enc Tryz.prog Tryz.f3 false true false false):=by
 refine returnsInHanded_of_change_and (C:=Tryz.checked) (X:=fun w _=>laidMetH Tryz.prog [("hoard/crc.half",Rows.laid_hoard_crc_half),("hoard/sha.k",Rows.laid_hoard_sha_k)] w) (fun _ _ _ hh h=>h.of_heap hh) own started kRz Tryz.func3
  (ChangeSpec.witness_shaped (enc:=enc) (C:=Tryz.checked) (os:=os) (X:=fun w _=>laidMetH Tryz.prog [("hoard/crc.half",Rows.laid_hoard_crc_half),("hoard/sha.k",Rows.laid_hoard_sha_k)] w) false (World.doorLaid Tryz.prog 400 os) #[.int .i64 0,.slice none 0 0,.int .i64 0,.int .i64 0,.int .u8 0] 8 rfl (World.shaped_of_RefB kRz kRz) kRz kRz kRz (door_met os _)) ?_
 intro W base args ds gs before hval0 hW _ _ hL _
 have hval:∀ (j:Nat) t v,Tryz.f3.params[j]?=some t→args[j]?=some v→Value.okWide Tryz.prog W .any base t v:=hval0
 have hW':=hW
 obtain ⟨p,q,hA0,hV,rfl,hfz,hnd⟩:=hW
 have hA:DataW.TrodAll enc Tryz.prog W 0 (fun _=>true) true Tryz.f3.params.toList args.toList ds p:=hA0
 rw [Tryz.params3]at hA hval
 obtain ⟨v0,vs0,d0,ds0,p0,q0,hargs,rfl,rfl,h0,r0⟩:=trodAll_cons hA
 obtain ⟨v1,vs1,d1,ds1,p1,q1,rfl,rfl,rfl,h1,r1⟩:=trodAll_cons r0
 obtain ⟨v2,vs2,d2,ds2,p2,q2,rfl,rfl,rfl,h2,r2⟩:=trodAll_cons r1
 obtain ⟨v3,vs3,d3,ds3,p3,q3,rfl,rfl,rfl,h3,r3⟩:=trodAll_cons r2
 obtain ⟨v4,vs4,d4,ds4,p4,q4,rfl,rfl,rfl,h4,r4⟩:=trodAll_cons r3
 obtain ⟨rfl,rfl,rfl⟩:=trodAll_nil r4
 obtain rfl:args=#[v0,v1,v2,v3,v4]:=by cases args;simp_all
 obtain ⟨rfl,rfl⟩:=trodVars_none hV
 obtain ⟨z0,rfl⟩:=okWide_int Tryz.underlying3 (hval 0 3 v0 rfl rfl)
 obtain ⟨a1,len1,cap1,rfl⟩:=okWide_slice Tryz.underlying22 (hval 1 22 v1 rfl rfl)
 obtain ⟨z2,rfl⟩:=okWide_int Tryz.underlying3 (hval 2 3 v2 rfl rfl)
 obtain ⟨z3,rfl⟩:=okWide_int Tryz.underlying3 (hval 3 3 v3 rfl rfl)
 obtain ⟨z4,rfl⟩:=okWide_int Tryz.underlying5 (hval 4 5 v4 rfl rfl)
 have k0:=h0
 have k1:=h1
 have k2:=h2
 have k3:=h3
 have k4:=h4
 have lt0:∀ x∈p0,x.block<W.heap.size:=by obtain ⟨m,hm⟩:=k0;exact DataW.trod_lt m _ _ _ hm
 have lt1:∀ x∈p1,x.block<W.heap.size:=by obtain ⟨m,hm⟩:=k1;exact DataW.trod_lt m _ _ _ hm
 have lt2:∀ x∈p2,x.block<W.heap.size:=by obtain ⟨m,hm⟩:=k2;exact DataW.trod_lt m _ _ _ hm
 have lt3:∀ x∈p3,x.block<W.heap.size:=by obtain ⟨m,hm⟩:=k3;exact DataW.trod_lt m _ _ _ hm
 have lt4:∀ x∈p4,x.block<W.heap.size:=by obtain ⟨m,hm⟩:=k4;exact DataW.trod_lt m _ _ _ hm
 have w0:inI z0:=by
  obtain ⟨fuel,hf⟩:=h0
  obtain ⟨n,hn,_,hw⟩:=DataW.trod_int Tryz.underlying3 hf
  obtain rfl:z0=n:=by simpa [Value.cells] using hn
  exact bounds_i64 hw
 obtain ⟨l1,r1,c1,i1⟩:∃ ts:List (Value×Frm.Bs),rdsl 1 (.slice a1 len1 cap1) (txV ts) W∧capOk (.slice a1 len1 cap1)∧∀ d∈ts,rdsl 1 d.1 (bys d.2) W∧capOk d.1:=by
  obtain ⟨fuel,hf⟩:=h1
  exact in_txs hf
 have w2:inI z2:=by
  obtain ⟨fuel,hf⟩:=h2
  obtain ⟨n,hn,_,hw⟩:=DataW.trod_int Tryz.underlying3 hf
  obtain rfl:z2=n:=by simpa [Value.cells] using hn
  exact bounds_i64 hw
 have w3:inI z3:=by
  obtain ⟨fuel,hf⟩:=h3
  obtain ⟨n,hn,_,hw⟩:=DataW.trod_int Tryz.underlying3 hf
  obtain rfl:z3=n:=by simpa [Value.cells] using hn
  exact bounds_i64 hw
 have w4:0≤z4∧z4≤255:=by
  obtain ⟨fuel,hf⟩:=h4
  obtain ⟨n,hn,_,hw⟩:=DataW.trod_int Tryz.underlying5 hf
  obtain rfl:z4=n:=by simpa [Value.cells] using hn
  exact bounds_u8 hw
 clear hA0 hval0
 refine (walk z0 w0 l1 r1 c1 i1 z2 w2 z3 w3 z4 w4 (of_laid hL)).mono fun e W' ⟨he,bel⟩=>?_
 subst he
 exact ⟨_,rfl,_,_,_,[],_,[],hW',trodAll_mk1 (shut_bool Tryz.underlying4 _),(trodAll_cons_mk (Below.trod laidOut kRz (of_decide_eq_true kRz) k0 bel lt0) (trodAll_cons_mk (Below.trod laidOut kRz (of_decide_eq_true kRz) k1 bel lt1) (trodAll_cons_mk (Below.trod laidOut kRz (of_decide_eq_true kRz) k2 bel lt2) (trodAll_cons_mk (Below.trod laidOut kRz (of_decide_eq_true kRz) k3 bel lt3) (trodAll_cons_mk (Below.trod laidOut kRz (of_decide_eq_true kRz) k4 bel lt4) trodAll_mk0))))),rfl,bel.frame _,fun h=>by cases h⟩
theorem and2 {a b:Bool} (h:a=true) (k:b=true):(a && b)=true:=by rw [h,k];rfl
theorem jwf:Rows.chunksSpoiltRow.wf (OpenSpec.ofChange Rows.chunksSpoiltSpec)=true:=by kernel_rfl
theorem jin:(Rows.chunksSpoiltRow.inPlace==Tryz.pinned.checked.prog.inPlace 3)=true:=by kernel_rfl
theorem jun:(Rows.chunksSpoiltRow.unfollowed==Tryz.pinned.checked.prog.unfollowed 3)=true:=by kernel_rfl
theorem jre:(Rows.chunksSpoiltRow.recurses==Tryz.pinned.checked.prog.recurses 3)=true:=by kernel_rfl
theorem jna:(Rows.chunksSpoiltRow.named==Tryz.pinned.checked.prog.varsNamed 3)=true:=by kernel_rfl
theorem jpk:(Rows.chunksSpoiltRow.plainKeys==Tryz.pinned.checked.prog.plainKeys)=true:=by kernel_rfl
theorem jhe:Tryz.pinned.checked.prog.stopsHeard=true:=by kernel_rfl
theorem jma:Tryz.pinned.checked.prog.mayEnter=true:=by kernel_rfl
theorem jli:(Rows.chunksSpoiltRow.lifted==Tryz.pinned.checked.prog.liftsFinal)=true:=by kernel_rfl
theorem nmF:Tryz.pinned.checked.prog.funcNamed Rows.chunksSpoiltRow.func=some 3:=by kernel_rfl
theorem goF:false=Rows.chunksSpoiltRow.goesBy Tryz.pinned.checked.prog:=by kernel_rfl
theorem lkF:false=Tryz.pinned.checked.prog.looks []:=by kernel_rfl
theorem wrF:Func.isWrapper Tryz.pinned.checked.prog Tryz.f3 Rows.chunksSpoiltRow.wrapper Rows.chunksSpoiltRow.mainSum:=by unfold Func.isWrapper;first|(rw [if_pos (by decide +kernel)];kernel_rfl)|(rw [if_neg (by decide +kernel)];exact ⟨rfl,rfl⟩)
theorem jfa:joinedFacts Tryz.pinned.checked.prog 3 Tryz.f3 Rows.chunksSpoiltSpec Rows.chunksSpoiltRow=true:=by
 unfold joinedFacts
 repeat' (with_reducible apply and2)
 all_goals first|with_reducible exact jwf|with_reducible exact jin|with_reducible exact jun|with_reducible exact jre|with_reducible exact jna|with_reducible exact jpk|with_reducible exact jhe|with_reducible exact jma|with_reducible exact jli|kernel_rfl
theorem over:Rows.chunksSpoiltRow.holds Tryz.pinned (OpenSpec.ofChange Rows.chunksSpoiltSpec):=
 OpenClaim.holds_of_wide 3 Tryz.f3 rfl rfl rfl rfl rfl rfl rfl ⟨rfl,rfl,rfl,rfl,rfl⟩ rfl rfl rfl rfl rfl nmF Tryz.func3 jfa
  (of_decide_eq_true kRz) wrF
  (fun os started H enc _=>lifted os started H enc)
theorem proved:Rows.ChunksSpoiltCardSaid:=
 Claim7.holds_tied_plain_at .later [] [.data,.data] true (true, "f0316399baf0820d352837b5138eb629f71a8d9ee881922a2a26df1a2e525fbe") false
  over (fun _ h=>by cases h) kRz (fun _ h=>by cases h) chunksSpoilt_row_tie rfl ⟨rfl,rfl⟩ kRz rfl
  (fun f fn hf hfn=>by
   obtain rfl:f=3:=Option.some.inj (nmF.symm.trans hf) |>.symm
   obtain rfl:fn=Tryz.f3:=(Option.some.inj (Tryz.func3.symm.trans hfn)).symm
   exact ⟨lkF,fun j t ht=>by
    rw [Tryz.params3]at ht
    have h3:t=3∨t=22∨t=5:=by
     rcases j with _|_|_|_|_|j
     ·left;simpa using ht.symm
     ·right;left;simpa using ht.symm
     ·left;simpa using ht.symm
     ·left;simpa using ht.symm
     ·right;right;simpa using ht.symm
     ·simp at ht
    rcases h3 with rfl|rfl|rfl
    ·exact (show Tryz.prog.wantsStandIn 3=false by kernel_rfl)
    ·exact (show Tryz.prog.wantsStandIn 22=false by kernel_rfl)
    ·exact (show Tryz.prog.wantsStandIn 5=false by kernel_rfl)⟩)
  goF
#print axioms proved
end Go.Proofs.YtlimfgdbfadohaaGreatDoor.spoiltS
